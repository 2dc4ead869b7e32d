/- What is proved here: lists of imports. -/
import Derived.Test.YtcmdajkkdognfaaXjA
import Derived.Test.YtcmdajkkdognfaaLsN
namespace Go.Proofs.Ytcmdajkkdognfaa
open Go.RowKit
set_option linter.unusedVariables false
set_option linter.unusedSimpArgs false
def jokE (y : MImp) : Prop := iokE y
def jsmE (y : MImp) : Prop := y.1.size ≤ 400 ∧ y.2.1.size ≤ 400
def jencs (L : List MImp) : List Int := uL L.length ++ L.flatMap encI
def jputl (L : List MImp) : List Int := if firstE irightP L = 0 then jencs L else []
theorem jenclen {y : MImp} (h : jokE y) (hs : jsmE y) : (encI y).length ≤ 2500 := by
  have := encI_len h hs.1 hs.2; omega
theorem jputllen {y : MImp} (h : jokE y) (hs : jsmE y) : (iputL y).length ≤ 2500 := by
  have := iput_len h hs.1 hs.2; omega

theorem jfmle (L : List MImp) (k : Nat) : ((L.take k).flatMap encI).length ≤ (L.flatMap encI).length := by
  have h := congrArg List.length (congrArg (List.flatMap encI) (List.take_append_drop k L))
  rw [List.flatMap_append, List.length_append] at h
  omega

set_option maxHeartbeats 1000000 in
set_option maxRecDepth 100000 in
theorem jgetall_any (bs base p : Nat) (a : Option Addr) (c : Nat) (l : List Int) (w : World) (hks : w.heap[bs]? = some (.cells #[(.slice a l.length c), (.int .i64 ((p : Nat) : Int))] 161 (0, 0))) (hr0 : Row 1 (vInt .u8) 5 base w (.slice a l.length c) l) (hp : p ≤ l.length) (hb6 : ∀ y ∈ l, 0 ≤ y ∧ y < 256) (hlm : l.length ≤ 1000000) (L : List MImp) (hA : At l p (uL L.length ++ L.flatMap encI)) (hL : L.length ≤ 10000) (hok : ∀ y ∈ L, jokE y) (hrt : ∀ y ∈ L, irightP y = 0) (hend : p + (uL L.length ++ L.flatMap encI).length = l.length) : Calls Try.prog 108 #[(.pointer (some ⟨bs, 0, none⟩))] w fun e w' => ∃ v, e = .returned v ∧ Row 9 vMImp 81 w.heap.size w' v L ∧ Wrote w bs #[(.slice a l.length c), (.int .i64 (((p + (uL L.length ++ L.flatMap encI).length) : Nat) : Int))] 161 w' := by
  have hcap := Row.caps hr0; have hR0lt := fun q hq => (Row.lt hr0 q hq).2; have hle := hA.le; have hend2 := hend; simp only [List.length_append] at hle hend2
  refine sx_enter (L := [(0, (.pointer (some ⟨bs, 0, none⟩)))]) Try.func108 rfl rfl rfl rfl (fun fa hf => ?_)
  have hb : KB bs w.heap.size w w := KB.refl _ _ _
  refine wp_seq_k (fun K1 hK1 => ?_)
  refine wp_region_lit ?_
  refine sqv hf (r_assign rfl) rfl rfl rfl ?_; clear hf fa; intro fa hf
  apply wpList_nil
  (try simp only [Exit.then, Exit.inBlock, ↓reduceIte, Nat.reduceEqDiff])
  refine hK1 _ _ ?_
  refine wp_seq_k (fun K2 hK2 => ?_)
  refine wp_region_lit ?_
  refine sqv hf (r_assign rfl) rfl rfl rfl ?_; clear hf fa; intro fa hf
  apply wpList_nil
  (try simp only [Exit.then, Exit.inBlock, ↓reduceIte, Nat.reduceEqDiff])
  refine hK2 _ _ ?_
  refine wp_seq_k (fun K3 hK3 => ?_)
  refine wp_seq_k (fun K4 hK4 => ?_)
  refine wp_region_lit ?_
  refine sqv hf (r_move rfl) rfl rfl rfl ?_; clear hf fa; intro fa hf
  refine sqdt hf (d_callW (v := (.int .i64 ((L.length : Nat) : Int))) (b := bs) (T := 161) (cs := #[(.slice a l.length c), (.int .i64 (((p + (uL L.length).length) : Nat) : Int))]) (vs := [(.pointer (some ⟨bs, 0, none⟩))]) rfl Try.func128 (by kernel_rfl) (by kernel_rfl) (scount_any bs base p a c l _ hks hr0 (by omega) hb6 hlm L.length (At.fst hA) hL)) rfl rfl rfl ?_; clear hf fa; rintro fa _ w1 ⟨rfl, hk1, hg1⟩ hf
  replace hr0 := Row.grown hr0 hg1 (Row.ne_type hr0 hks rfl)
  replace hb := hb.wrote hg1 hb.size
  refine sqv hf (r_move rfl) rfl rfl rfl ?_; clear hf fa; intro fa hf
  apply wpList_nil
  (try simp only [Exit.then, Exit.inBlock, ↓reduceIte, Nat.reduceEqDiff])
  refine hK4 _ _ ?_
  refine wp_block ?_
  refine wp_loop_k (fun mq fa wr => ∃ (k : Nat) (roa : Option Addr) (roc : Nat), mq = L.length - k ∧ Fr 17 fa [(0, (.pointer (some ⟨bs, 0, none⟩))), (5, (.int .i64 ((L.length : Nat) : Int))), (6, (.int .i64 ((k : Nat) : Int))), (3, (.slice roa (((L.take k)).length) roc))] ∧ KB bs w.heap.size w wr ∧ Row 9 vMImp 81 (w.heap.size) wr (.slice roa (((L.take k)).length) roc) (L.take k) ∧ Row 1 (vInt .u8) 5 (base) wr (.slice a (l.length) c) l ∧ wr.heap[bs]? = some (.cells #[(.slice a l.length c), (.int .i64 (((p + (uL L.length).length + ((L.take k).flatMap encI).length) : Nat) : Int))] 161 (0, 0)) ∧ (k ≤ L.length)) ?_ ?_
  · skip
    exact ⟨_, 0, none, 0, rfl, hf.sub ⟨rfl, rfl, (some_int (by first | rfl | omega)), (some_sl (by first | omega | (simp only [List.length_append, List.length_cons, List.length_nil]; omega) | (simp <;> omega)) rfl), trivial⟩, hb, Row.nil, hr0, hk1, by omega⟩
  · skip
    clear hf fa; intro mq1 fa w2 hI KL1 hKL1
    clear hb
    clear hk1
    clear hr0
    obtain ⟨k, roa, roc, hmq1, hf, hb, hro, hR0, hkbs, hk⟩ := hI
    have hcro := Row.caps hro
    have hcR0 := Row.caps hR0
    have hlk : (L.take k).length ≤ k := by rw [List.length_take]; omega
    have hkle := jfmle L k
    refine wp_seq_k (fun K5 hK5 => ?_)
    refine wp_region_lit ?_
    refine sqv hf (r_lt rfl rfl) rfl rfl rfl ?_; clear hf fa; intro fa hf
    apply wpList_nil
    (try simp only [Exit.then, Exit.inBlock, ↓reduceIte, Nat.reduceEqDiff])
    refine hK5 _ _ ?_
    refine wp_seq_k (fun K6 hK6 => ?_)
    refine wp_cond_split (t := (decide (((k : Nat) : Int) < ((L.length : Nat) : Int)))) (hf.ev rfl) (fun hqt7_1 => ?_) (fun hqt7_1 => ?_)
    · have hqt7_1b := hqt7_1
      try simp only [decide_eq_true_eq, Bool.and_eq_true, Bool.or_eq_true, Bool.not_eq_true', decide_eq_false_iff_not, ne_eq, Bool.not_eq_true] at hqt7_1
      refine wp_skip ?_
      (try simp only [Exit.then, Exit.inBlock, ↓reduceIte, Nat.reduceEqDiff])
      refine hK6 _ _ ?_
      refine wp_seq_k (fun K7 hK7 => ?_)
      refine wp_block ?_
      obtain ⟨y, hyk⟩ : ∃ y, L[k]? = some y := ⟨_, List.getElem?_eq_getElem (by omega)⟩
      have hym := List.mem_of_getElem? hyk
      have hoy := hok y hym
      have hry := hrt y hym
      have hAy : At l (p + (uL L.length).length + ((L.take k).flatMap encI).length) (encI y) := ((hA.snd.mv rfl (fm_split hyk)).snd).fst
      have hyl := hAy.le
      refine wp_region_lit ?_
      refine sqv hf (r_move rfl) rfl rfl rfl ?_; clear hf fa; intro fa hf
      refine sqv hf (r_move rfl) rfl rfl rfl ?_; clear hf fa; intro fa hf
      refine sqdt hf (d_callW (v := (.agg #[(.string y.1), (.string y.2.1), (.int .u8 y.2.2.1), (.int .u32 y.2.2.2.1), (.int .u32 y.2.2.2.2.1.1), (.int .u32 y.2.2.2.2.1.2.1), (.bool y.2.2.2.2.1.2.2.1), (.int .u8 y.2.2.2.2.2.1.1), (.bool y.2.2.2.2.2.1.2.1)])) (b := bs) (T := 161) (cs := #[(.slice a l.length c), (.int .i64 (((((p + (uL L.length).length + ((L.take k).flatMap encI).length)) + (encI y).length) : Nat) : Int))]) (vs := [(.pointer (some ⟨bs, 0, none⟩))]) rfl Try.func101 (by kernel_rfl) (by kernel_rfl) (siget_any bs base ((p + (uL L.length).length + ((L.take k).flatMap encI).length)) a c l _ hkbs hR0 (by omega) hb6 hlm y hAy hoy hry)) rfl rfl rfl ?_; clear hf fa; rintro fa _ w3 ⟨rfl, hk2, hg2⟩ hf
      replace hro := Row.grown hro hg2 (Row.ne_type hro hkbs rfl)
      replace hR0 := Row.grown hR0 hg2 (Row.ne_type hR0 hkbs rfl)
      replace hb := hb.wrote hg2 hb.size
      refine sqdt hf (d_bslice (z := (.agg #[(.string ⟨#[]⟩), (.string ⟨#[]⟩), (.int .u8 (0 : Int)), (.int .u32 (0 : Int)), (.int .u32 (0 : Int)), (.int .u32 (0 : Int)), (.bool false), (.int .u8 (0 : Int)), (.bool false)])) (sz := 9) (vs := [(0, (.agg #[(.string y.1), (.string y.2.1), (.int .u8 y.2.2.1), (.int .u32 y.2.2.2.1), (.int .u32 y.2.2.2.2.1.1), (.int .u32 y.2.2.2.2.1.2.1), (.bool y.2.2.2.2.1.2.2.1), (.int .u8 y.2.2.2.2.2.1.1), (.bool y.2.2.2.2.2.1.2.1)]))]) (cs := #[(.string y.1), (.string y.2.1), (.int .u8 y.2.2.1), (.int .u32 y.2.2.2.1), (.int .u32 y.2.2.2.2.1.1), (.int .u32 y.2.2.2.2.1.2.1), (.bool y.2.2.2.2.1.2.2.1), (.int .u8 y.2.2.2.2.2.1.1), (.bool y.2.2.2.2.2.1.2.1)]) rfl Try.underlying79 (by kernel_rfl) rfl (by kernel_rfl)) rfl rfl rfl ?_; clear hf fa; rintro fa _ w4 ⟨b1, rfl, hle1, hk3, he1⟩ hf
      have hBb1 : w.heap.size ≤ b1 := Nat.le_trans hb.size hle1
      have : bs < b1 := Nat.lt_of_lt_of_le (blk_lt hk2) hle1
      have hnr1 : (Value.slice roa ((((L.take k)).length)) roc).ownBlock ≠ some b1 := fun hq => by have := (Row.lt hro _ hq).2; omega
      have hnl1 : ∀ q, (Value.slice roa ((((L.take k)).length)) roc).ownBlock = some q → q < b1 := fun q hq => Nat.lt_of_lt_of_le (Row.lt hro q hq).2 hle1
      replace hk2 := blk_ext hk2 he1
      replace hro := Row.ext hro he1
      replace hR0 := Row.ext hR0 he1
      replace hb := hb.trans (Below.mono he1 hb.size)
      have hs1 := Row.rd (by intros; rfl) (Row.of_new (k := 9) (V := vMImp) (l := [y]) hk3 (Nat.le_refl _) rfl rfl (Nat.le_of_ble_eq_true rfl))
      refine sqdt hf (d_append (V := vMImp) (k := 9) (e := 81) (bytes := 56) (z := (.agg #[(.string ⟨#[]⟩), (.string ⟨#[]⟩), (.int .u8 (0 : Int)), (.int .u32 (0 : Int)), (.int .u32 (0 : Int)), (.int .u32 (0 : Int)), (.bool false), (.int .u8 (0 : Int)), (.bool false)])) (news := [y]) (base := w.heap.size) (by intros; rfl) (by exact oneMImp) rfl rfl Try.underlying79 (by kernel_rfl) rfl rfl rfl hro hs1 rfl (fun h => by cases h) (by first | omega | (simp only [List.length_cons, List.length_nil, List.length_append, nums_len]; omega)) (by have := hb.size; omega)) rfl rfl rfl ?_; clear hf fa; rintro fa v w5 ⟨hr1, hg3⟩ hf; obtain ⟨ra1, rc1, rfl, hcrc1, hmrc1⟩ := Row.slice hr1
      replace hk2 := blk_row' hk2 hg3 (Row.ne_type hro hk2 rfl)
      replace hR0 := Row.grown' hR0 hg3 (Row.ne_row hR0 hro rfl)
      replace hb := hb.trans (row_below hro hg3 hb.size (by have := hb.size; omega))
      refine sqv hf (r_assign rfl) rfl rfl rfl ?_; clear hf fa; intro fa hf
      apply wpList_nil
      (try simp only [Exit.then, Exit.inBlock, ↓reduceIte, Nat.reduceEqDiff])
      refine hK7 _ _ ?_
      refine wp_region_lit ?_
      refine sqv hf (r_add (C := (((k : Nat) : Int) + (1 : Int))) rfl rfl (by rw [IntKind.wrap_i64]; omega)) rfl rfl rfl ?_; clear hf fa; intro fa hf
      refine sqv hf (r_move rfl) rfl rfl rfl ?_; clear hf fa; intro fa hf
      apply wpList_nil
      (try simp only [Exit.then, Exit.inBlock, ↓reduceIte, Nat.reduceEqDiff])
      have htk : L.take k ++ [y] = L.take (k + 1) := (ltake_at hyk).symm
      have hle2 := congrArg List.length htk; simp only [List.length_append, List.length_cons, List.length_nil] at hle2
      have hfl := congrArg List.length (fm_take (f := encI) hyk); rw [List.length_append] at hfl
      replace hk2 := pos_eq hk2 (show ((((p + (uL L.length).length + ((L.take k).flatMap encI).length)) + (encI y).length)) = (p + (uL L.length).length + ((L.take (k + 1)).flatMap encI).length) by omega)
      refine hKL1 _ _ _ (by omega) ⟨(k + 1), ra1, rc1, rfl, hf.sub ⟨rfl, rfl, (some_int (by first | rfl | omega)), (some_sl (by first | omega | (simp only [List.length_append, List.length_cons, List.length_nil]; omega) | (simp <;> omega)) rfl), trivial⟩, hb, (lrowTo hr1 htk), hR0, hk2, by omega⟩
    · have hqt7_1b := hqt7_1
      replace hqt7_1 := Bool.eq_false_iff.1 hqt7_1
      try simp only [ne_eq, decide_eq_true_eq, Bool.and_eq_true, Bool.or_eq_true, Bool.not_eq_true', decide_eq_false_iff_not] at hqt7_1
      refine wp_exit ?_
      (try simp only [Exit.then, Exit.inBlock, ↓reduceIte, Nat.reduceEqDiff])
      refine hK3 _ _ ?_
      refine wp_seq_k (fun K8 hK8 => ?_)
      have hkk0 : L.take k = L := List.take_of_length_le (by omega)
      have hkf : ((L.take k).flatMap encI).length = (L.flatMap encI).length := by rw [hkk0]
      refine wp_region_lit ?_
      refine sqv hf (r_move rfl) rfl rfl rfl ?_; clear hf fa; intro fa hf
      refine sqdt hf (d_callB (vs := [(.pointer (some ⟨bs, 0, none⟩))]) rfl Try.func66 (by kernel_rfl) (by kernel_rfl) (end_any bs base ((p + (uL L.length).length + ((L.take k).flatMap encI).length)) a c l _ hkbs hR0 (by omega) (by omega))) rfl rfl rfl ?_; clear hf fa; rintro fa _ w6 ⟨rfl, he2⟩ hf
      replace hkbs := blk_ext hkbs he2
      replace hro := Row.ext hro he2
      replace hR0 := Row.ext hR0 he2
      replace hb := hb.trans (Below.mono he2 hb.size)
      apply wpList_nil
      (try simp only [Exit.then, Exit.inBlock, ↓reduceIte, Nat.reduceEqDiff])
      refine hK8 _ _ ?_
      refine wp_seq_k (fun K9 hK9 => ?_)
      refine wp_region_lit ?_
      refine sqv hf (r_move rfl) rfl rfl rfl ?_; clear hf fa; intro fa hf
      refine sqv hf (r_assign rfl) rfl rfl rfl ?_; clear hf fa; intro fa hf
      apply wpList_nil
      (try simp only [Exit.then, Exit.inBlock, ↓reduceIte, Nat.reduceEqDiff])
      refine hK9 _ _ ?_
      refine wp_ret ?_
      (try simp only [Exit.then, Exit.inBlock])
      refine ret1 hf rfl rfl ?_
      have hkl : k = L.length := by omega
      have hkk : L.take k = L := List.take_of_length_le (by omega)
      exact ⟨_, rfl, (by have h := hro; rw [hkk] at h ⊢; exact h), (wrote_eq ⟨hkbs, hb.grown⟩ (by rw [hkk, List.length_append]; omega))⟩

set_option maxHeartbeats 1000000 in
set_option maxRecDepth 100000 in
theorem jclo_any (tb : Nat) (bs base p : Nat) (a : Option Addr) (c : Nat) (l : List Int) (w : World) (hks : w.heap[bs]? = some (.cells #[(.slice a l.length c), (.int .i64 ((p : Nat) : Int))] 161 (0, 0))) (hr0 : Row 1 (vInt .u8) 5 base w (.slice a l.length c) l) (hp : p ≤ l.length) (hbt : bs < tb) (htb : w.heap[tb]? = some (.cells #[.pointer (some ⟨bs, 0, none⟩)] 87 (0, 0))) (hb6 : ∀ y ∈ l, 0 ≤ y ∧ y < 256) (hlm : l.length ≤ 1000000) (L : List MImp) (hA : At l p (uL L.length ++ L.flatMap encI)) (hL : L.length ≤ 10000) (hok : ∀ y ∈ L, jokE y) (hrt : ∀ y ∈ L, irightP y = 0) (hend : p + (uL L.length ++ L.flatMap encI).length = l.length) : Calls Try.prog 107 #[(.pointer (some ⟨tb, 0, none⟩))] w fun e w' => ∃ (va : Option Addr) (vc : Nat), e = .returned (.slice va L.length vc) ∧ Row 9 vMImp 81 w.heap.size w' (.slice va L.length vc) L ∧ Wrote w bs #[(.slice a l.length c), (.int .i64 (((p + (uL L.length ++ L.flatMap encI).length) : Nat) : Int))] 161 w' := by
  have hcap := Row.caps hr0; have hR0lt := fun q hq => (Row.lt hr0 q hq).2; have hle := hA.le
  refine sx_enter (L := [(0, (.pointer (some ⟨tb, 0, none⟩)))]) Try.func107 rfl rfl rfl rfl (fun fa hf => ?_)
  have hb : KB bs w.heap.size w w := KB.refl _ _ _
  refine wp_seq_k (fun K1 hK1 => ?_)
  refine wp_region_lit ?_
  refine sqv hf (r_assign rfl) rfl rfl rfl ?_; clear hf fa; intro fa hf
  apply wpList_nil
  (try simp only [Exit.then, Exit.inBlock, ↓reduceIte, Nat.reduceEqDiff])
  refine hK1 _ _ ?_
  refine wp_seq_k (fun K2 hK2 => ?_)
  refine wp_region_lit ?_
  refine sqv hf (r_load (v := (.pointer (some ⟨bs, 0, none⟩))) rfl Try.underlying87 rfl (cell_blk htb rfl)) rfl rfl rfl ?_; clear hf fa; intro fa hf
  refine sqdt hf (d_callX (vs := [(.pointer (some ⟨bs, 0, none⟩))]) rfl Try.func108 (by kernel_rfl) (by kernel_rfl) (jgetall_any bs base p a c l _ hks hr0 (by omega) hb6 hlm L hA hL hok hrt hend)) rfl rfl rfl ?_; clear hf fa; rintro fa v w1 ⟨hr1, hk1, hg1⟩ hf
  obtain ⟨ra1, rc1, rfl, hcrc1, hmrc1⟩ := Row.slice hr1
  replace hr1 := Row.rebase hr1 hb.size
  replace htb := blk_grown htb hg1 (by omega)
  replace hr0 := Row.grown hr0 hg1 (Row.ne_type hr0 hks rfl)
  replace hb := hb.wrote hg1 hb.size
  refine sqv hf (r_assign rfl) rfl rfl rfl ?_; clear hf fa; intro fa hf
  apply wpList_nil
  (try simp only [Exit.then, Exit.inBlock, ↓reduceIte, Nat.reduceEqDiff])
  refine hK2 _ _ ?_
  refine wp_ret ?_
  (try simp only [Exit.then, Exit.inBlock])
  refine ret1 hf rfl rfl ?_
  exact ⟨_, _, rfl, hr1, hk1, hb.grown⟩

set_option maxHeartbeats 1000000 in
set_option maxRecDepth 100000 in
theorem jputall_any (a : Option Addr) (L : List MImp) (c : Nat) (w : World) (hl : RdS 9 vMImp w a L) (hlc : L.length ≤ c) (hlm : L.length ≤ 10000) (hok : ∀ y ∈ L, jokE y) (hsm : ∀ y ∈ L, jsmE y) : Calls Try.prog 105 #[(.slice a L.length c)] w fun e w' => ∃ u, e = .returned u ∧ ∃ a2 c2, u = .tuple #[.slice a2 (jputl L).length c2, .int .i64 (firstE irightP L)] ∧ Row 1 (vInt .u8) 5 w.heap.size w' (.slice a2 (jputl L).length c2) (jputl L) ∧ Below w.heap.size w w' := by
  refine sx_enter (L := [(0, (.slice a L.length c))]) Try.func105 rfl rfl rfl rfl (fun fa hf => ?_)
  have hb : Below w.heap.size w w := Below.refl _ _
  refine wp_seq_k (fun K1 hK1 => ?_)
  refine wp_region_lit ?_
  refine sqv hf (r_assign rfl) rfl rfl rfl ?_; clear hf fa; intro fa hf
  refine sqv hf (r_assign rfl) rfl rfl rfl ?_; clear hf fa; intro fa hf
  apply wpList_nil
  (try simp only [Exit.then, Exit.inBlock, ↓reduceIte, Nat.reduceEqDiff])
  refine hK1 _ _ ?_
  refine wp_seq_k (fun K2 hK2 => ?_)
  refine wp_seq_k (fun K3 hK3 => ?_)
  refine wp_region_lit ?_
  refine sqv hf (r_move rfl) rfl rfl rfl ?_; clear hf fa; intro fa hf
  refine sqv hf (r_lensl rfl Try.underlying79) rfl rfl rfl ?_; clear hf fa; intro fa hf
  refine sqv hf (r_gt rfl rfl) rfl rfl rfl ?_; clear hf fa; intro fa hf
  apply wpList_nil
  (try simp only [Exit.then, Exit.inBlock, ↓reduceIte, Nat.reduceEqDiff])
  refine hK3 _ _ ?_
  refine wp_cond_false ((hf.ev rfl).trans (congrArg Value.bool (show (decide ((10000 : Int) < ((L.length : Nat) : Int))) = false from (decide_eq_false (by omega))))) ?_
  refine wp_skip ?_
  (try simp only [Exit.then, Exit.inBlock, ↓reduceIte, Nat.reduceEqDiff])
  refine hK2 _ _ ?_
  refine wp_seq_k (fun K4 hK4 => ?_)
  refine wp_region_lit ?_
  refine sqv hf (r_move rfl) rfl rfl rfl ?_; clear hf fa; intro fa hf
  refine sqv hf (r_lensl rfl Try.underlying79) rfl rfl rfl ?_; clear hf fa; intro fa hf
  refine sqv hf (r_conv (C := ((L.length : Nat) : Int)) rfl Try.underlying3 Try.underlying55 (by rw [IntKind.wrap_u64]; omega)) rfl rfl rfl ?_; clear hf fa; intro fa hf
  refine sqdt hf (d_callX (vs := [(.int .u64 ((L.length : Nat) : Int))]) rfl Try.func110 (by kernel_rfl) (by kernel_rfl) (uint_row L.length (by omega) _)) rfl rfl rfl ?_; clear hf fa; rintro fa v w1 ⟨hr1, he1⟩ hf; obtain ⟨ra1, rc1, rfl, hcrc1, hmrc1⟩ := Row.slice hr1
  replace hr1 := Row.rebase hr1 hb.size
  replace hb := hb.trans (Below.mono he1 hb.size)
  refine sqv hf (r_assign rfl) rfl rfl rfl ?_; clear hf fa; intro fa hf
  apply wpList_nil
  (try simp only [Exit.then, Exit.inBlock, ↓reduceIte, Nat.reduceEqDiff])
  refine hK4 _ _ ?_
  refine wp_seq_k (fun K5 hK5 => ?_)
  refine wp_seq_k (fun K6 hK6 => ?_)
  refine wp_region_lit ?_
  refine sqv hf (r_move rfl) rfl rfl rfl ?_; clear hf fa; intro fa hf
  refine sqv hf (r_lensl rfl Try.underlying79) rfl rfl rfl ?_; clear hf fa; intro fa hf
  refine sqv hf (r_move rfl) rfl rfl rfl ?_; clear hf fa; intro fa hf
  apply wpList_nil
  (try simp only [Exit.then, Exit.inBlock, ↓reduceIte, Nat.reduceEqDiff])
  refine hK6 _ _ ?_
  refine wp_block ?_
  refine wp_loop_k (fun mq fa wr => ∃ (k : Nat) (roa : Option Addr) (roc : Nat), mq = L.length - k ∧ Fr 35 fa [(16, (.slice a L.length c)), (17, (.int .i64 ((L.length : Nat) : Int))), (18, (.int .i64 ((k : Nat) : Int))), (4, (.slice roa (((uL L.length ++ (L.take k).flatMap encI)).length) roc))] ∧ Below w.heap.size w wr ∧ Row 1 (vInt .u8) 5 (w.heap.size) wr (.slice roa (((uL L.length ++ (L.take k).flatMap encI)).length) roc) (uL L.length ++ (L.take k).flatMap encI) ∧ (k ≤ L.length) ∧ (firstE irightP L = firstE irightP (L.drop k))) ?_ ?_
  · skip
    exact ⟨_, 0, ra1, rc1, rfl, hf.sub ⟨rfl, rfl, (some_int (by first | rfl | omega)), (some_sl (by first | omega | (simp only [List.length_append, List.length_cons, List.length_nil]; omega) | (simp <;> omega)) rfl), trivial⟩, hb, (lrowTo hr1 (by simp)), by omega, rfl⟩
  · skip
    clear hf fa; intro mq1 fa w2 hI KL1 hKL1
    clear hb
    clear hr1
    obtain ⟨k, roa, roc, hmq1, hf, hb, hro, hk, Hs⟩ := hI
    have hcro := Row.caps hro
    have hkB := fm_len (f := encI) (B := 2500) (L.take k) (fun y hy => jenclen (hok y (List.mem_of_mem_take hy)) (hsm y (List.mem_of_mem_take hy)))
    have hlk : (L.take k).length ≤ k := by rw [List.length_take]; omega
    have huL := uL_len L.length (by omega)
    have hENC : ((uL L.length ++ (L.take k).flatMap encI)).length ≤ 10 + 2500 * (L.take k).length := by rw [List.length_append]; omega
    refine wp_seq_k (fun K7 hK7 => ?_)
    refine wp_region_lit ?_
    refine sqv hf (r_lt rfl rfl) rfl rfl rfl ?_; clear hf fa; intro fa hf
    apply wpList_nil
    (try simp only [Exit.then, Exit.inBlock, ↓reduceIte, Nat.reduceEqDiff])
    refine hK7 _ _ ?_
    refine wp_seq_k (fun K8 hK8 => ?_)
    refine wp_cond_split (t := (decide (((k : Nat) : Int) < ((L.length : Nat) : Int)))) (hf.ev rfl) (fun hqt19_1 => ?_) (fun hqt19_1 => ?_)
    · have hqt19_1b := hqt19_1
      try simp only [decide_eq_true_eq, Bool.and_eq_true, Bool.or_eq_true, Bool.not_eq_true', decide_eq_false_iff_not, ne_eq, Bool.not_eq_true] at hqt19_1
      refine wp_skip ?_
      (try simp only [Exit.then, Exit.inBlock, ↓reduceIte, Nat.reduceEqDiff])
      refine hK8 _ _ ?_
      refine wp_seq_k (fun K9 hK9 => ?_)
      refine wp_block ?_
      refine wp_seq_k (fun K10 hK10 => ?_)
      refine wp_region_lit ?_
      obtain ⟨y1, hy1⟩ : ∃ x, (L)[k]? = some x := ⟨_, List.getElem?_eq_getElem (by (try simp only [Sl.list_length]); omega)⟩
      obtain ⟨ab1, aoff1, rfl, hlb1, hel1⟩ := RdS.at hl hy1
      refine sqv hf (r_ixa (sz := 9) (j := k) rfl rfl Try.underlying79 (by kernel_rfl) rfl (by omega) rfl) rfl rfl rfl ?_; clear hf fa; intro fa hf
      refine sqv hf (r_loadA (cs := [(.string y1.1), (.string y1.2.1), (.int .u8 y1.2.2.1), (.int .u32 y1.2.2.2.1), (.int .u32 y1.2.2.2.2.1.1), (.int .u32 y1.2.2.2.2.1.2.1), (.bool y1.2.2.2.2.1.2.2.1), (.int .u8 y1.2.2.2.2.2.1.1), (.bool y1.2.2.2.2.2.1.2.1)]) rfl Try.underlying81 rfl (by kernel_rfl) (cellsAt_below hel1 hb hlb1)) rfl rfl rfl ?_; clear hf fa; intro fa hf
      refine sqdt hf (d_alloc (z := (.agg #[(.string ⟨#[]⟩), (.string ⟨#[]⟩), (.int .u8 (0 : Int)), (.int .u32 (0 : Int)), (.int .u32 (0 : Int)), (.int .u32 (0 : Int)), (.bool false), (.int .u8 (0 : Int)), (.bool false)])) (cs := #[(.string ⟨#[]⟩), (.string ⟨#[]⟩), (.int .u8 (0 : Int)), (.int .u32 (0 : Int)), (.int .u32 (0 : Int)), (.int .u32 (0 : Int)), (.bool false), (.int .u8 (0 : Int)), (.bool false)]) (by kernel_rfl) rfl) rfl rfl rfl ?_; clear hf fa; rintro fa _ w3 ⟨b1, rfl, hle1, hk1, he2⟩ hf
      have hBb1 : w.heap.size ≤ b1 := Nat.le_trans hb.size hle1
      replace hro := Row.ext hro he2
      replace hb := hb.trans (Below.mono he2 hb.size)
      refine sqn hf (d_storeK (T := 81) (v := (.agg #[(.string y1.1), (.string y1.2.1), (.int .u8 y1.2.2.1), (.int .u32 y1.2.2.2.1), (.int .u32 y1.2.2.2.2.1.1), (.int .u32 y1.2.2.2.2.1.2.1), (.bool y1.2.2.2.2.1.2.2.1), (.int .u8 y1.2.2.2.2.2.1.1), (.bool y1.2.2.2.2.2.1.2.1)])) (cs := #[(.string ⟨#[]⟩), (.string ⟨#[]⟩), (.int .u8 (0 : Int)), (.int .u32 (0 : Int)), (.int .u32 (0 : Int)), (.int .u32 (0 : Int)), (.bool false), (.int .u8 (0 : Int)), (.bool false)]) (cs' := #[(.string y1.1), (.string y1.2.1), (.int .u8 y1.2.2.1), (.int .u32 y1.2.2.2.1), (.int .u32 y1.2.2.2.2.1.1), (.int .u32 y1.2.2.2.2.1.2.1), (.bool y1.2.2.2.2.1.2.2.1), (.int .u8 y1.2.2.2.2.2.1.1), (.bool y1.2.2.2.2.2.1.2.1)]) rfl rfl (by kernel_rfl) (by kernel_rfl) hk1 (by kernel_rfl) (by kernel_rfl)) rfl rfl ?_; clear hf fa; rintro fa _ w4 ⟨hk2, hg1⟩ hf
      replace hro := Row.grown hro hg1 (Row.ne_type hro hk1 rfl)
      replace hb := hb.trans (grown_below hg1 hb.size hBb1)
      apply wpList_nil
      (try simp only [Exit.then, Exit.inBlock, ↓reduceIte, Nat.reduceEqDiff])
      refine hK10 _ _ ?_
      refine wp_seq_k (fun K11 hK11 => ?_)
      have hym := List.mem_of_getElem? hy1
      have hoy := hok _ hym
      have hsy := hsm _ hym
      have hply := jputllen hoy hsy
      refine wp_region_lit ?_
      refine sqv hf (r_loadA (cs := [(.string y1.1), (.string y1.2.1), (.int .u8 y1.2.2.1), (.int .u32 y1.2.2.2.1), (.int .u32 y1.2.2.2.2.1.1), (.int .u32 y1.2.2.2.2.1.2.1), (.bool y1.2.2.2.2.1.2.2.1), (.int .u8 y1.2.2.2.2.2.1.1), (.bool y1.2.2.2.2.2.1.2.1)]) rfl Try.underlying81 rfl (by kernel_rfl) (cellsAt_blk hk2)) rfl rfl rfl ?_; clear hf fa; intro fa hf
      refine sqdt hf (d_callX (vs := [(.agg #[(.string y1.1), (.string y1.2.1), (.int .u8 y1.2.2.1), (.int .u32 y1.2.2.2.1), (.int .u32 y1.2.2.2.2.1.1), (.int .u32 y1.2.2.2.2.1.2.1), (.bool y1.2.2.2.2.1.2.2.1), (.int .u8 y1.2.2.2.2.2.1.1), (.bool y1.2.2.2.2.2.1.2.1)])]) rfl Try.func97 (by kernel_rfl) (by kernel_rfl) (iput_any y1 _ hsy.1 hsy.2 hoy)) rfl rfl rfl ?_; clear hf fa; rintro fa _ w5 ⟨pa1, pc1, rfl, hr2, he3⟩ hf
      replace hr2 := Row.rebase hr2 hb.size
      replace hk2 := blk_ext hk2 he3
      replace hro := Row.ext hro he3
      replace hb := hb.trans (Below.mono he3 hb.size)
      have hchr2 := Row.caps hr2
      refine sqv hf (r_move rfl) rfl rfl rfl ?_; clear hf fa; intro fa hf
      refine sqv hf (r_extract rfl (i := 0) rfl) rfl rfl rfl ?_; clear hf fa; intro fa hf
      refine sqv hf (r_extract rfl (i := 1) rfl) rfl rfl rfl ?_; clear hf fa; intro fa hf
      refine sqv hf (r_assign rfl) rfl rfl rfl ?_; clear hf fa; intro fa hf
      refine sqv hf (r_assign rfl) rfl rfl rfl ?_; clear hf fa; intro fa hf
      apply wpList_nil
      (try simp only [Exit.then, Exit.inBlock, ↓reduceIte, Nat.reduceEqDiff])
      refine hK11 _ _ ?_
      refine wp_seq_k (fun K12 hK12 => ?_)
      refine wp_seq_k (fun K13 hK13 => ?_)
      refine wp_region_lit ?_
      refine sqv hf (r_move rfl) rfl rfl rfl ?_; clear hf fa; intro fa hf
      refine sqv hf (r_ne rfl rfl) rfl rfl rfl ?_; clear hf fa; intro fa hf
      apply wpList_nil
      (try simp only [Exit.then, Exit.inBlock, ↓reduceIte, Nat.reduceEqDiff])
      refine hK13 _ _ ?_
      refine wp_cond_split (t := (decide (((irightP y1)) ≠ (0 : Int)))) (hf.ev rfl) (fun hqt28_1 => ?_) (fun hqt28_1 => ?_)
      · have hqt28_1b := hqt28_1
        try simp only [decide_eq_true_eq, Bool.and_eq_true, Bool.or_eq_true, Bool.not_eq_true', decide_eq_false_iff_not, ne_eq, Bool.not_eq_true] at hqt28_1
        refine wp_seq_k (fun K14 hK14 => ?_)
        refine wp_region_lit ?_
        refine sqv hf (r_move rfl) rfl rfl rfl ?_; clear hf fa; intro fa hf
        refine sqv hf (r_assign rfl) rfl rfl rfl ?_; clear hf fa; intro fa hf
        refine sqv hf (r_assign rfl) rfl rfl rfl ?_; clear hf fa; intro fa hf
        apply wpList_nil
        (try simp only [Exit.then, Exit.inBlock, ↓reduceIte, Nat.reduceEqDiff])
        refine hK14 _ _ ?_
        refine wp_ret ?_
        (try simp only [Exit.then, Exit.inBlock])
        refine ret2 hf rfl rfl rfl ?_
        have hne : ¬ irightP y1 = 0 := hqt28_1
        have hfe : firstE irightP L = irightP y1 := by rw [Hs, drop_at hy1, firstE, if_pos hne]
        have hpl : jputl L = [] := by unfold jputl; rw [if_neg (by rw [hfe]; exact hne)]
        exact ⟨_, rfl, _, _, (by rw [hfe, hpl]; rfl), (by rw [hpl]; exact Row.nil), hb⟩
      · have hqt28_1b := hqt28_1
        replace hqt28_1 := Bool.eq_false_iff.1 hqt28_1
        try simp only [ne_eq, decide_eq_true_eq, Bool.and_eq_true, Bool.or_eq_true, Bool.not_eq_true', decide_eq_false_iff_not] at hqt28_1
        refine wp_skip ?_
        (try simp only [Exit.then, Exit.inBlock, ↓reduceIte, Nat.reduceEqDiff])
        refine hK12 _ _ ?_
        refine wp_region_lit ?_
        refine sqv hf (r_move rfl) rfl rfl rfl ?_; clear hf fa; intro fa hf
        refine sqv hf (r_move rfl) rfl rfl rfl ?_; clear hf fa; intro fa hf
        refine sqdt hf (d_append (V := (vInt .u8)) (k := 1) (e := 5) (bytes := 1) (z := (.int .u8 (0 : Int))) (news := (iputL y1)) (base := w.heap.size) (by intros; rfl) (by intro x u hu; simp only [vInt, List.mem_singleton] at hu; subst hu; rfl) rfl rfl Try.underlying47 (by kernel_rfl) rfl rfl rfl hro (Row.rd (by intros; rfl) hr2) rfl (fun h => Row.nocap hr2 h) (by first | omega | (simp only [List.length_cons, List.length_nil, List.length_append, nums_len]; omega)) (by have := hb.size; omega)) rfl rfl rfl ?_; clear hf fa; rintro fa v w6 ⟨hr3, hg2⟩ hf; obtain ⟨ra2, rc2, rfl, hcrc2, hmrc2⟩ := Row.slice hr3
        replace hk2 := blk_row' hk2 hg2 (Row.ne_type hro hk2 rfl)
        replace hb := hb.trans (row_below hro hg2 hb.size (by have := hb.size; omega))
        refine sqv hf (r_assign rfl) rfl rfl rfl ?_; clear hf fa; intro fa hf
        apply wpList_nil
        (try simp only [Exit.then, Exit.inBlock, ↓reduceIte, Nat.reduceEqDiff])
        refine hK9 _ _ ?_
        refine wp_region_lit ?_
        refine sqv hf (r_add (C := (((k : Nat) : Int) + (1 : Int))) rfl rfl (by rw [IntKind.wrap_i64]; omega)) rfl rfl rfl ?_; clear hf fa; intro fa hf
        refine sqv hf (r_move rfl) rfl rfl rfl ?_; clear hf fa; intro fa hf
        apply wpList_nil
        (try simp only [Exit.then, Exit.inBlock, ↓reduceIte, Nat.reduceEqDiff])
        have hz : irightP y1 = 0 := by have h := hqt28_1; omega
        have htl : (uL L.length ++ (L.take (k + 1)).flatMap encI) = ((uL L.length ++ (L.take k).flatMap encI) ++ (iputL y1)) := by rw [fm_take hy1, iput_ok hz, List.append_assoc]
        have htll := congrArg List.length htl
        refine hKL1 _ _ _ (by omega) ⟨(k + 1), ra2, rc2, rfl, hf.sub ⟨rfl, rfl, (some_int (by first | rfl | omega)), (some_sl (by first | omega | (simp only [List.length_append, List.length_cons, List.length_nil]; omega) | (simp <;> omega)) rfl), trivial⟩, hb, (lrowTo hr3 htl.symm), by omega, (by have h := Hs; rw [drop_at hy1, firstE, if_neg (by simpa using hz)] at h; exact h)⟩
    · have hqt19_1b := hqt19_1
      replace hqt19_1 := Bool.eq_false_iff.1 hqt19_1
      try simp only [ne_eq, decide_eq_true_eq, Bool.and_eq_true, Bool.or_eq_true, Bool.not_eq_true', decide_eq_false_iff_not] at hqt19_1
      refine wp_exit ?_
      (try simp only [Exit.then, Exit.inBlock, ↓reduceIte, Nat.reduceEqDiff])
      refine hK5 _ _ ?_
      refine wp_seq_k (fun K15 hK15 => ?_)
      refine wp_region_lit ?_
      refine sqv hf (r_move rfl) rfl rfl rfl ?_; clear hf fa; intro fa hf
      refine sqv hf (r_assign rfl) rfl rfl rfl ?_; clear hf fa; intro fa hf
      refine sqv hf (r_assign rfl) rfl rfl rfl ?_; clear hf fa; intro fa hf
      apply wpList_nil
      (try simp only [Exit.then, Exit.inBlock, ↓reduceIte, Nat.reduceEqDiff])
      refine hK15 _ _ ?_
      refine wp_ret ?_
      (try simp only [Exit.then, Exit.inBlock])
      refine ret2 hf rfl rfl rfl ?_
      have hkk : L.take k = L := List.take_of_length_le (by omega)
      have hfe : firstE irightP L = 0 := by rw [Hs, List.drop_eq_nil_of_le (by omega)]; rfl
      have hpl : jputl L = (uL L.length ++ (L.take k).flatMap encI) := by unfold jputl jencs; rw [if_pos hfe, hkk]
      exact ⟨_, rfl, _, _, (by rw [hfe, hpl]), (by rw [hpl]; exact hro), hb⟩
end Go.Proofs.Ytcmdajkkdognfaa
