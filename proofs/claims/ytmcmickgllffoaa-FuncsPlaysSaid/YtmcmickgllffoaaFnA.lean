/- What is proved here: functions by numbers. -/
import Derived.Test.YtmcmickgllffoaaSxK
namespace Go.Proofs.Ytmcmickgllffoaa
open Go.RowKit
set_option linter.unusedVariables false
set_option linter.unusedSimpArgs false
def vPF : Option Addr → List Value := fun y => [.pointer y]
theorem onePF : ∀ x, ∀ u ∈ vPF x, u.oneCell' = true := by
  intro x u hu
  simp only [vPF, List.mem_singleton] at hu
  subst hu
  rfl
def liveB (ps : List (Option Addr)) (i : Int) : Bool := decide (0 ≤ i ∧ i < ((ps.length : Nat) : Int)) && !(ps.getD i.toNat none).isNone

set_option maxHeartbeats 1000000 in
set_option maxRecDepth 100000 in
theorem live_any (B p : Nat) (a b : Option Addr) (c d : Nat) (ps : List (Option Addr)) (Sl_ : List Int) (w : World) (hp : w.heap[p]? = some (.cells #[(.slice a ps.length c), (.slice b Sl_.length d)] 122 (0, 0))) (hR : Row 1 vPF 123 B w (.slice a ps.length c) ps) (hRS : Row 1 (vInt .i64) 3 B w (.slice b Sl_.length d) Sl_) (hBp : B ≤ p) (hps : ps.length ≤ 1000) (hln : ps.length = Sl_.length) (i : Int) : Calls Try.prog 66 #[(.pointer (some ⟨p, 0, none⟩)), (.int .i64 i)] w fun e w' => e = .returned (.bool (liveB ps i)) ∧ Below w.heap.size w w' := by
  have hcR := Row.caps hR
  have hcS := Row.caps hRS
  have hpl := (Array.getElem?_eq_some_iff.1 hp).1
  refine sx_enter (L := [(0, (.pointer (some ⟨p, 0, none⟩))), (1, (.int .i64 i))]) Try.func66 rfl rfl rfl rfl (fun fa hf => ?_)
  have hb : Below w.heap.size w w := Below.refl _ _
  refine wp_seq_k (fun K1 hK1 => ?_)
  refine wp_region_lit ?_
  refine sqv hf (r_assign rfl) rfl rfl rfl ?_; clear hf fa; intro fa hf
  apply wpList_nil
  (try simp only [Exit.then, Exit.inBlock, ↓reduceIte, Nat.reduceEqDiff])
  refine hK1 _ _ ?_
  refine wp_seq_k (fun K2 hK2 => ?_)
  by_cases hsp1 : (0 ≤ i ∧ i < ((ps.length : Nat) : Int))
  · have hsp1b : decide ((0 ≤ i ∧ i < ((ps.length : Nat) : Int))) = true := decide_eq_true hsp1
    refine wp_region_lit ?_
    refine sqv hf (r_move rfl) rfl rfl rfl ?_; clear hf fa; intro fa hf
    refine sqv hf (Runs.veq (r_ge rfl rfl) (congrArg Value.bool (show _ = true from (by have h := hsp1; simp; omega)))) rfl rfl rfl ?_; clear hf fa; intro fa hf
    refine sqv hf (r_move rfl) rfl rfl rfl ?_; clear hf fa; intro fa hf
    refine sqgd (act := true) (g := 2) (want := true) (ag := true) (c := true) hf (by rfl) (by rfl) rfl (fun _ =>  Runs.does (R := fun vq wq => vq = (.int .i64 i) ∧ w = wq) (r_move rfl) ⟨rfl, rfl⟩) (fun h => by cases h) rfl ?_; clear hf fa; rintro fa _ _ ⟨rfl, rfl⟩ hf
    change Fr _ _ ((8, (.int .i64 i)) :: _) at hf
    refine sqgd (act := true) (g := 2) (want := true) (ag := true) (c := true) hf (by rfl) (by rfl) rfl (fun _ =>  Runs.does (R := fun vq wq => vq = (.pointer (some ⟨p, 0, none⟩)) ∧ w = wq) (r_move rfl) ⟨rfl, rfl⟩) (fun h => by cases h) rfl ?_; clear hf fa; rintro fa _ _ ⟨rfl, rfl⟩ hf
    change Fr _ _ ((9, (.pointer (some ⟨p, 0, none⟩))) :: _) at hf
    refine sqgd (act := true) (g := 2) (want := true) (ag := true) (c := true) hf (by rfl) (by rfl) rfl (fun _ =>  Runs.does (R := fun vq wq => vq = (.pointer (some ⟨p, 0, none⟩)) ∧ w = wq) (r_nilCheck rfl) ⟨rfl, rfl⟩) (fun h => by cases h) rfl ?_; clear hf fa; rintro fa _ _ ⟨rfl, rfl⟩ hf
    change Fr _ _ ((10, (.pointer (some ⟨p, 0, none⟩))) :: _) at hf
    refine sqgd (act := true) (g := 2) (want := true) (ag := true) (c := true) hf (by rfl) (by rfl) rfl (fun _ =>  Runs.does (R := fun vq wq => vq = (.pointer (some ⟨p, 0, none⟩)) ∧ w = wq) (r_fa rfl Try.underlying122 (f := 0) (q := 0) rfl (by kernel_rfl) rfl) ⟨rfl, rfl⟩) (fun h => by cases h) rfl ?_; clear hf fa; rintro fa _ _ ⟨rfl, rfl⟩ hf
    change Fr _ _ ((11, (.pointer (some ⟨p, 0, none⟩))) :: _) at hf
    refine sqgd (act := true) (g := 2) (want := true) (ag := true) (c := true) hf (by rfl) (by rfl) rfl (fun _ =>  Runs.does (R := fun vq wq => vq = (.slice a ps.length c) ∧ w = wq) (r_load (v := (.slice a ps.length c)) rfl Try.underlying120 rfl (cell_blk hp rfl)) ⟨rfl, rfl⟩) (fun h => by cases h) rfl ?_; clear hf fa; rintro fa _ _ ⟨rfl, rfl⟩ hf
    change Fr _ _ ((12, (.slice a ps.length c)) :: _) at hf
    refine sqgd (act := true) (g := 2) (want := true) (ag := true) (c := true) hf (by rfl) (by rfl) rfl (fun _ =>  Runs.does (R := fun vq wq => vq = (.int .i64 ((ps.length : Nat) : Int)) ∧ w = wq) (r_lensl rfl Try.underlying120) ⟨rfl, rfl⟩) (fun h => by cases h) rfl ?_; clear hf fa; rintro fa _ _ ⟨rfl, rfl⟩ hf
    change Fr _ _ ((13, (.int .i64 ((ps.length : Nat) : Int))) :: _) at hf
    refine sqgd (act := true) (g := 2) (want := true) (ag := true) (c := true) hf (by rfl) (by rfl) rfl (fun _ =>  Runs.does (R := fun vq wq => vq = (.bool true) ∧ w = wq) (Runs.veq (r_lt rfl rfl) (congrArg Value.bool (show _ = true from (by have h := hsp1; simp; omega)))) ⟨rfl, rfl⟩) (fun h => by cases h) rfl ?_; clear hf fa; rintro fa _ _ ⟨rfl, rfl⟩ hf
    change Fr _ _ ((14, (.bool true)) :: _) at hf
    refine sqv hf (r_pick (b := true) rfl rfl rfl rfl) rfl rfl rfl ?_; clear hf fa; intro fa hf
    refine sqv hf (r_move rfl) rfl rfl rfl ?_; clear hf fa; intro fa hf
    refine sqgd (act := true) (g := 11) (want := true) (ag := true) (c := true) hf (by rfl) (by rfl) rfl (fun _ =>  Runs.does (R := fun vq wq => vq = (.pointer (some ⟨p, 0, none⟩)) ∧ w = wq) (r_move rfl) ⟨rfl, rfl⟩) (fun h => by cases h) rfl ?_; clear hf fa; rintro fa _ _ ⟨rfl, rfl⟩ hf
    change Fr _ _ ((17, (.pointer (some ⟨p, 0, none⟩))) :: _) at hf
    refine sqgd (act := true) (g := 11) (want := true) (ag := true) (c := true) hf (by rfl) (by rfl) rfl (fun _ =>  Runs.does (R := fun vq wq => vq = (.pointer (some ⟨p, 0, none⟩)) ∧ w = wq) (r_nilCheck rfl) ⟨rfl, rfl⟩) (fun h => by cases h) rfl ?_; clear hf fa; rintro fa _ _ ⟨rfl, rfl⟩ hf
    change Fr _ _ ((18, (.pointer (some ⟨p, 0, none⟩))) :: _) at hf
    refine sqgd (act := true) (g := 11) (want := true) (ag := true) (c := true) hf (by rfl) (by rfl) rfl (fun _ =>  Runs.does (R := fun vq wq => vq = (.pointer (some ⟨p, 0, none⟩)) ∧ w = wq) (r_fa rfl Try.underlying122 (f := 0) (q := 0) rfl (by kernel_rfl) rfl) ⟨rfl, rfl⟩) (fun h => by cases h) rfl ?_; clear hf fa; rintro fa _ _ ⟨rfl, rfl⟩ hf
    change Fr _ _ ((19, (.pointer (some ⟨p, 0, none⟩))) :: _) at hf
    refine sqgd (act := true) (g := 11) (want := true) (ag := true) (c := true) hf (by rfl) (by rfl) rfl (fun _ =>  Runs.does (R := fun vq wq => vq = (.slice a ps.length c) ∧ w = wq) (r_load (v := (.slice a ps.length c)) rfl Try.underlying120 rfl (cell_blk hp rfl)) ⟨rfl, rfl⟩) (fun h => by cases h) rfl ?_; clear hf fa; rintro fa _ _ ⟨rfl, rfl⟩ hf
    change Fr _ _ ((20, (.slice a ps.length c)) :: _) at hf
    refine sqgd (act := true) (g := 11) (want := true) (ag := true) (c := true) hf (by rfl) (by rfl) rfl (fun _ =>  Runs.does (R := fun vq wq => vq = (.int .i64 i) ∧ w = wq) (r_move rfl) ⟨rfl, rfl⟩) (fun h => by cases h) rfl ?_; clear hf fa; rintro fa _ _ ⟨rfl, rfl⟩ hf
    change Fr _ _ ((21, (.int .i64 i)) :: _) at hf
    obtain ⟨rb1, rfl, hbbrb1, hlbrb1⟩ := Row.some hR (by first | omega | (simp only [Sl.list_length, List.length_set, List.length_take, List.length_append, List.length_replicate, List.length_cons, List.length_nil, List.length_map, nums_len]; omega))
    have hy1 := getD_at (l := ps) (j := (i).toNat) none (by first | omega | (simp only [Sl.list_length, List.length_set, List.length_take, List.length_append, List.length_replicate, List.length_cons, List.length_nil, List.length_map, nums_len]; omega))
    have hel1 := RdS.at (Row.rd (by intros; rfl) hR) hy1
    obtain ⟨_, _, hab, hlr1, hel1⟩ := hel1
    cases hab
    refine sqgd (act := true) (g := 11) (want := true) (ag := true) (c := true) hf (by rfl) (by rfl) rfl (fun _ =>  Runs.does (R := fun vq wq => vq = (.pointer (some ⟨rb1, (0 + (i).toNat * 1), none⟩)) ∧ w = wq) (r_ixa (sz := 1) (j := (i).toNat) rfl rfl Try.underlying120 (by kernel_rfl) (by omega) (by omega) rfl) ⟨rfl, rfl⟩) (fun h => by cases h) rfl ?_; clear hf fa; rintro fa _ _ ⟨rfl, rfl⟩ hf
    change Fr _ _ ((22, (.pointer (some ⟨rb1, (0 + (i).toNat * 1), none⟩))) :: _) at hf
    refine sqgd (act := true) (g := 11) (want := true) (ag := true) (c := true) hf (by rfl) (by rfl) rfl (fun _ =>  Runs.does (R := fun vq wq => vq = (.pointer (ps.getD (i).toNat none)) ∧ w = wq) (r_load (v := (.pointer (ps.getD (i).toNat none))) rfl Try.underlying123 rfl (cellsAt_cell hel1 (i := 0) rfl rfl)) ⟨rfl, rfl⟩) (fun h => by cases h) rfl ?_; clear hf fa; rintro fa _ _ ⟨rfl, rfl⟩ hf
    change Fr _ _ ((23, (.pointer (ps.getD (i).toNat none))) :: _) at hf
    refine sqgd (act := true) (g := 11) (want := true) (ag := true) (c := true) hf (by rfl) (by rfl) rfl (fun _ =>  Runs.does (R := fun vq wq => vq = (.bool (!((ps.getD (i).toNat none)).isNone)) ∧ w = wq) (r_pnnil rfl rfl Try.underlying123) ⟨rfl, rfl⟩) (fun h => by cases h) rfl ?_; clear hf fa; rintro fa _ _ ⟨rfl, rfl⟩ hf
    change Fr _ _ ((24, (.bool (!((ps.getD (i).toNat none)).isNone))) :: _) at hf
    refine sqv hf (r_pick (b := true) rfl rfl rfl rfl) rfl rfl rfl ?_; clear hf fa; intro fa hf
    refine sqv hf (r_assign rfl) rfl rfl rfl ?_; clear hf fa; intro fa hf
    apply wpList_nil
    (try simp only [Exit.then, Exit.inBlock, ↓reduceIte, Nat.reduceEqDiff])
    refine hK2 _ _ ?_
    refine wp_ret ?_
    (try simp only [Exit.then, Exit.inBlock])
    refine ret1 hf rfl rfl ?_
    have hD : liveB ps i = (!(ps.getD i.toNat none).isNone) := by unfold liveB; rw [decide_eq_true hsp1]; rfl
    rw [hD]; exact ⟨rfl, hb⟩
  · have hsp1b : decide ((0 ≤ i ∧ i < ((ps.length : Nat) : Int))) = false := decide_eq_false hsp1
    refine wp_region_lit ?_
    refine sqv hf (r_move rfl) rfl rfl rfl ?_; clear hf fa; intro fa hf
    refine sqv hf (r_ge rfl rfl) rfl rfl rfl ?_; clear hf fa; intro fa hf
    refine sqv hf (r_move rfl) rfl rfl rfl ?_; clear hf fa; intro fa hf
    refine sqgT (act := (decide ((0 : Int) ≤ i))) (ag := true) (c := (decide ((0 : Int) ≤ i))) (v := (.int .i64 i)) hf rfl rfl rfl (fun hact => (r_move rfl)) rfl rfl ?_; clear hf fa; intro fa hf
    refine sqgT (act := (decide ((0 : Int) ≤ i))) (ag := true) (c := (decide ((0 : Int) ≤ i))) (v := (.pointer (some ⟨p, 0, none⟩))) hf rfl rfl rfl (fun hact => (r_move rfl)) rfl rfl ?_; clear hf fa; intro fa hf
    refine sqgT (act := (decide ((0 : Int) ≤ i))) (ag := true) (c := (decide ((0 : Int) ≤ i))) (v := (.pointer (some ⟨p, 0, none⟩))) hf rfl rfl rfl (fun hact => (r_nilCheck (gb_ev hact rfl))) rfl rfl ?_; clear hf fa; intro fa hf
    refine sqgT (act := (decide ((0 : Int) ≤ i))) (ag := true) (c := (decide ((0 : Int) ≤ i))) (v := (.pointer (some ⟨p, 0, none⟩))) hf rfl rfl rfl (fun hact => (r_fa (gb_ev hact rfl) Try.underlying122 (f := 0) (q := 0) rfl (by kernel_rfl) rfl)) rfl rfl ?_; clear hf fa; intro fa hf
    refine sqgT (act := (decide ((0 : Int) ≤ i))) (ag := true) (c := (decide ((0 : Int) ≤ i))) (v := (.slice a ps.length c)) hf rfl rfl rfl (fun hact => (r_load (v := (.slice a ps.length c)) (gb_ev hact rfl) Try.underlying120 rfl (cell_blk hp rfl))) rfl rfl ?_; clear hf fa; intro fa hf
    refine sqgT (act := (decide ((0 : Int) ≤ i))) (ag := true) (c := (decide ((0 : Int) ≤ i))) (v := (.int .i64 ((ps.length : Nat) : Int))) hf rfl rfl rfl (fun hact => (r_lensl (gb_ev hact rfl) Try.underlying120)) rfl rfl ?_; clear hf fa; intro fa hf
    refine sqgT (act := (decide ((0 : Int) ≤ i))) (ag := true) (c := (decide ((0 : Int) ≤ i))) (v := (.bool (decide (i < ((ps.length : Nat) : Int))))) hf rfl rfl rfl (fun hact => (r_lt (gb_ev hact rfl) (gb_ev hact rfl))) rfl rfl ?_; clear hf fa; intro fa hf
    refine sqv hf (Runs.veq (r_pickA (b := (decide ((0 : Int) ≤ i))) (e := (decide (i < ((ps.length : Nat) : Int)))) rfl rfl rfl) (congrArg Value.bool (show _ = false from (by have h := hsp1; simp; omega)))) rfl rfl rfl ?_; clear hf fa; intro fa hf
    refine sqv hf (r_move rfl) rfl rfl rfl ?_; clear hf fa; intro fa hf
    refine sqgT (act := false) (ag := true) (c := false) (v := .bool false) hf rfl rfl rfl (fun hact => by cases hact) rfl rfl ?_; clear hf fa; intro fa hf
    refine sqgT (act := false) (ag := true) (c := false) (v := .bool false) hf rfl rfl rfl (fun hact => by cases hact) rfl rfl ?_; clear hf fa; intro fa hf
    refine sqgT (act := false) (ag := true) (c := false) (v := .bool false) hf rfl rfl rfl (fun hact => by cases hact) rfl rfl ?_; clear hf fa; intro fa hf
    refine sqgT (act := false) (ag := true) (c := false) (v := .bool false) hf rfl rfl rfl (fun hact => by cases hact) rfl rfl ?_; clear hf fa; intro fa hf
    refine sqgT (act := false) (ag := true) (c := false) (v := .bool false) hf rfl rfl rfl (fun hact => by cases hact) rfl rfl ?_; clear hf fa; intro fa hf
    refine sqgT (act := false) (ag := true) (c := false) (v := .bool false) hf rfl rfl rfl (fun hact => by cases hact) rfl rfl ?_; clear hf fa; intro fa hf
    refine sqgT (act := false) (ag := true) (c := false) (v := .bool false) hf rfl rfl rfl (fun hact => by cases hact) rfl rfl ?_; clear hf fa; intro fa hf
    refine sqgT (act := false) (ag := true) (c := false) (v := .bool false) hf rfl rfl rfl (fun hact => by cases hact) rfl rfl ?_; clear hf fa; intro fa hf
    refine sqv hf (r_pick (b := false) rfl rfl rfl rfl) rfl rfl rfl ?_; clear hf fa; intro fa hf
    refine sqv hf (r_assign rfl) rfl rfl rfl ?_; clear hf fa; intro fa hf
    apply wpList_nil
    (try simp only [Exit.then, Exit.inBlock, ↓reduceIte, Nat.reduceEqDiff])
    refine hK2 _ _ ?_
    refine wp_ret ?_
    (try simp only [Exit.then, Exit.inBlock])
    refine ret1 hf rfl rfl ?_
    have hD : liveB ps i = false := by unfold liveB; rw [decide_eq_false (by have h := hsp1; exact h)]; rfl
    rw [hD]; exact ⟨rfl, hb⟩

theorem liveB_in {ps : List (Option Addr)} {i : Int} (h : liveB ps i = true) : 0 ≤ i ∧ i < ((ps.length : Nat) : Int) ∧ ∃ q, ps[i.toNat]? = some (some q) := by
  unfold liveB at h
  rw [Bool.and_eq_true, decide_eq_true_eq] at h
  obtain ⟨⟨h0, h1⟩, h2⟩ := h
  refine ⟨h0, h1, ?_⟩
  have hl : i.toNat < ps.length := by omega
  rw [List.getD_eq_getElem?_getD, List.getElem?_eq_getElem hl] at h2
  rw [List.getElem?_eq_getElem hl]
  simp only [Option.getD_some] at h2
  cases hq : ps[i.toNat] with
  | none => rw [hq] at h2; simp at h2
  | some q => exact ⟨q, rfl⟩
abbrev MFn := ByteArray × ByteArray × Int × Option Addr × Nat
def zFn : MFn := (⟨#[]⟩, ⟨#[]⟩, 0, none, 0)
def fnCs (x : MFn) : Array Value := #[.string x.1, .string x.2.1, .int .i64 x.2.2.1, .string ⟨#[]⟩, .slice x.2.2.2.1 x.2.2.2.2 x.2.2.2.2, .slice none 0 0, .slice none 0 0]
def FnAt (w : World) (q : Addr) (x : MFn) : Prop := ∃ bf, q = ⟨bf, 0, none⟩ ∧ w.heap[bf]? = some (.cells (fnCs x) 37 (0, 0))
def FRel (w : World) (ps : List (Option Addr)) (L : List (Option MFn)) : Prop := ps.length = L.length ∧ ∀ (j : Nat) (q : Option Addr), ps[j]? = some q → match q with
  | none => L[j]? = some none
  | some q => ∃ x, L[j]? = some (some x) ∧ FnAt w q x
def liveL (L : List (Option MFn)) (i : Int) : Bool := decide (0 ≤ i ∧ i < ((L.length : Nat) : Int)) && !(L.getD i.toNat none).isNone
theorem FRel.ext {w w' : World} {ps : List (Option Addr)} {L : List (Option MFn)} (h : FRel w ps L) (hb : Below w.heap.size w w') : FRel w' ps L := by
  refine ⟨h.1, fun j q hq => ?_⟩
  have := h.2 j q hq
  cases q with
  | none => exact this
  | some q =>
    obtain ⟨x, hx, bf, e, hc⟩ := this
    exact ⟨x, hx, bf, e, blk_ext hc hb⟩
theorem FRel.live {w : World} {ps : List (Option Addr)} {L : List (Option MFn)} (h : FRel w ps L) (i : Int) : liveB ps i = liveL L i := by
  unfold liveB liveL
  rw [← h.1]
  by_cases hi : 0 ≤ i ∧ i < ((ps.length : Nat) : Int)
  · have hl : i.toNat < ps.length := by omega
    have hh := h.2 i.toNat _ (List.getElem?_eq_getElem hl)
    rw [List.getD_eq_getElem?_getD, List.getElem?_eq_getElem hl, List.getD_eq_getElem?_getD]
    cases hq : ps[i.toNat] with
    | none => rw [hq] at hh; rw [show L[i.toNat]? = some none from hh]; rfl
    | some q => rw [hq] at hh; obtain ⟨x, hx, _⟩ := hh; rw [hx]; rfl
  · rw [decide_eq_false hi, Bool.false_and, Bool.false_and]
theorem FRel.get {w : World} {ps : List (Option Addr)} {L : List (Option MFn)} (h : FRel w ps L) {i : Int} (hl : liveB ps i = true) : ∃ bf, ps[i.toNat]? = some (some ⟨bf, 0, none⟩) ∧ ∃ x, L[i.toNat]? = some (some x) ∧ w.heap[bf]? = some (.cells (fnCs x) 37 (0, 0)) := by
  obtain ⟨_, _, q, hq⟩ := liveB_in hl
  obtain ⟨x, hx, bf, e, hc⟩ := h.2 _ _ hq
  subst e
  exact ⟨bf, hq, x, hx, hc⟩
def stP (ps : List (Option Addr)) (Sl_ : List Int) (i : Int) : Int × Int := if liveB ps i = true then (Sl_.getD i.toNat 0, 0) else (0, 47)
def gotL (L : List (Option MFn)) (i : Int) : MFn := if liveL L i = true then (L.getD i.toNat none).getD zFn else zFn
def fnV (x : MFn) : Value := .agg (fnCs x)

set_option maxHeartbeats 1000000 in
set_option maxRecDepth 100000 in
theorem stands_any (B p : Nat) (a b : Option Addr) (c d : Nat) (ps : List (Option Addr)) (Sl_ : List Int) (w : World) (hp : w.heap[p]? = some (.cells #[(.slice a ps.length c), (.slice b Sl_.length d)] 122 (0, 0))) (hR : Row 1 vPF 123 B w (.slice a ps.length c) ps) (hRS : Row 1 (vInt .i64) 3 B w (.slice b Sl_.length d) Sl_) (hBp : B ≤ p) (hps : ps.length ≤ 1000) (hln : ps.length = Sl_.length) (i : Int) : Calls Try.prog 64 #[(.pointer (some ⟨p, 0, none⟩)), (.int .i64 i)] w fun e w' => e = .returned (.tuple #[.int .i64 (stP ps Sl_ i).1, .int .i64 (stP ps Sl_ i).2]) ∧ Below w.heap.size w w' := by
  have hcR := Row.caps hR
  have hcS := Row.caps hRS
  have hpl := (Array.getElem?_eq_some_iff.1 hp).1
  refine sx_enter (L := [(0, (.pointer (some ⟨p, 0, none⟩))), (1, (.int .i64 i))]) Try.func64 rfl rfl rfl rfl (fun fa hf => ?_)
  have hb : Below w.heap.size w w := Below.refl _ _
  refine wp_seq_k (fun K1 hK1 => ?_)
  refine wp_region_lit ?_
  refine sqv hf (r_assign rfl) rfl rfl rfl ?_; clear hf fa; intro fa hf
  refine sqv hf (r_assign rfl) rfl rfl rfl ?_; clear hf fa; intro fa hf
  apply wpList_nil
  (try simp only [Exit.then, Exit.inBlock, ↓reduceIte, Nat.reduceEqDiff])
  refine hK1 _ _ ?_
  refine wp_seq_k (fun K2 hK2 => ?_)
  refine wp_seq_k (fun K3 hK3 => ?_)
  refine wp_region_lit ?_
  refine sqv hf (r_move rfl) rfl rfl rfl ?_; clear hf fa; intro fa hf
  refine sqv hf (r_move rfl) rfl rfl rfl ?_; clear hf fa; intro fa hf
  refine sqdt hf (d_callB (vs := [(.pointer (some ⟨p, 0, none⟩)), (.int .i64 i)]) rfl Try.func66 (by kernel_rfl) (by kernel_rfl) (live_any B p a b c d ps Sl_ _ hp hR hRS hBp hps hln i)) rfl rfl rfl ?_; clear hf fa; rintro fa _ w1 ⟨rfl, he1⟩ hf
  replace hp := blk_ext hp he1
  replace hR := Row.ext hR he1
  replace hRS := Row.ext hRS he1
  replace hb := hb.trans (Below.mono he1 hb.size)
  refine sqv hf (r_not rfl) rfl rfl rfl ?_; clear hf fa; intro fa hf
  apply wpList_nil
  (try simp only [Exit.then, Exit.inBlock, ↓reduceIte, Nat.reduceEqDiff])
  refine hK3 _ _ ?_
  refine wp_cond_split (t := (!(liveB ps i))) (hf.ev rfl) (fun hqt9_1 => ?_) (fun hqt9_1 => ?_)
  · have hqt9_1b := hqt9_1
    try simp only [decide_eq_true_eq, Bool.and_eq_true, Bool.or_eq_true, Bool.not_eq_true', decide_eq_false_iff_not, ne_eq, Bool.not_eq_true] at hqt9_1
    refine wp_seq_k (fun K4 hK4 => ?_)
    refine wp_region_lit ?_
    refine sqv hf (r_assign rfl) rfl rfl rfl ?_; clear hf fa; intro fa hf
    refine sqv hf (r_assign rfl) rfl rfl rfl ?_; clear hf fa; intro fa hf
    apply wpList_nil
    (try simp only [Exit.then, Exit.inBlock, ↓reduceIte, Nat.reduceEqDiff])
    refine hK4 _ _ ?_
    refine wp_ret ?_
    (try simp only [Exit.then, Exit.inBlock])
    refine ret2 hf rfl rfl rfl ?_
    have hD : stP ps Sl_ i = (0, 47) := by unfold stP; rw [if_neg (by have h := hqt9_1; simpa using h)]
    rw [hD]; exact ⟨rfl, hb⟩
  · have hqt9_1b := hqt9_1
    replace hqt9_1 := Bool.eq_false_iff.1 hqt9_1
    try simp only [ne_eq, decide_eq_true_eq, Bool.and_eq_true, Bool.or_eq_true, Bool.not_eq_true', decide_eq_false_iff_not] at hqt9_1
    refine wp_skip ?_
    (try simp only [Exit.then, Exit.inBlock, ↓reduceIte, Nat.reduceEqDiff])
    refine hK2 _ _ ?_
    refine wp_seq_k (fun K5 hK5 => ?_)
    obtain ⟨hi0, hi1, q, hq⟩ := liveB_in (by have h := hqt9_1; simpa using h)
    refine wp_region_lit ?_
    refine sqv hf (r_move rfl) rfl rfl rfl ?_; clear hf fa; intro fa hf
    refine sqv hf (r_nilCheck rfl) rfl rfl rfl ?_; clear hf fa; intro fa hf
    refine sqv hf (r_fa rfl Try.underlying122 (f := 1) (q := 1) rfl (by kernel_rfl) rfl) rfl rfl rfl ?_; clear hf fa; intro fa hf
    refine sqv hf (r_load (v := (.slice b Sl_.length d)) rfl Try.underlying33 rfl (cell_blk hp rfl)) rfl rfl rfl ?_; clear hf fa; intro fa hf
    refine sqv hf (r_move rfl) rfl rfl rfl ?_; clear hf fa; intro fa hf
    obtain ⟨rb1, rfl, hbbrb1, hlbrb1⟩ := Row.some hRS (by first | omega | (simp only [Sl.list_length, List.length_set, List.length_take, List.length_append, List.length_replicate, List.length_cons, List.length_nil, List.length_map, nums_len]; omega))
    have hy1 := getD_at (l := Sl_) (j := (i).toNat) (0 : Int) (by first | omega | (simp only [Sl.list_length, List.length_set, List.length_take, List.length_append, List.length_replicate, List.length_cons, List.length_nil, List.length_map, nums_len]; omega))
    have hel1 := RdS.at (Row.rd (by intros; rfl) hRS) hy1
    obtain ⟨_, _, hab, hlr1, hel1⟩ := hel1
    cases hab
    refine sqv hf (r_ixa (sz := 1) (j := (i).toNat) rfl rfl Try.underlying33 (by kernel_rfl) (by omega) (by omega) rfl) rfl rfl rfl ?_; clear hf fa; intro fa hf
    refine sqv hf (r_load (v := (.int .i64 ((Sl_.getD (i).toNat (0 : Int))))) rfl Try.underlying3 rfl (cellsAt_cell hel1 (i := 0) rfl rfl)) rfl rfl rfl ?_; clear hf fa; intro fa hf
    refine sqv hf (r_assign rfl) rfl rfl rfl ?_; clear hf fa; intro fa hf
    refine sqv hf (r_assign rfl) rfl rfl rfl ?_; clear hf fa; intro fa hf
    apply wpList_nil
    (try simp only [Exit.then, Exit.inBlock, ↓reduceIte, Nat.reduceEqDiff])
    refine hK5 _ _ ?_
    refine wp_ret ?_
    (try simp only [Exit.then, Exit.inBlock])
    refine ret2 hf rfl rfl rfl ?_
    have hD : stP ps Sl_ i = (Sl_.getD i.toNat 0, 0) := by unfold stP; rw [if_pos (by have h := hqt9_1; simpa using h)]
    rw [hD]; exact ⟨rfl, hb⟩

set_option maxHeartbeats 1000000 in
set_option maxRecDepth 100000 in
theorem get_any (B p : Nat) (a b : Option Addr) (c d : Nat) (ps : List (Option Addr)) (Sl_ : List Int) (w : World) (hp : w.heap[p]? = some (.cells #[(.slice a ps.length c), (.slice b Sl_.length d)] 122 (0, 0))) (hR : Row 1 vPF 123 B w (.slice a ps.length c) ps) (hRS : Row 1 (vInt .i64) 3 B w (.slice b Sl_.length d) Sl_) (hBp : B ≤ p) (hps : ps.length ≤ 1000) (hln : ps.length = Sl_.length) (L : List (Option MFn)) (hF : FRel w ps L) (i : Int) : Calls Try.prog 16 #[(.pointer (some ⟨p, 0, none⟩)), (.int .i64 i)] w fun e w' => e = .returned (.tuple #[fnV (gotL L i), .bool (liveL L i)]) ∧ Below w.heap.size w w' := by
  have hcR := Row.caps hR
  have hcS := Row.caps hRS
  have hpl := (Array.getElem?_eq_some_iff.1 hp).1
  refine sx_enter (L := [(0, (.pointer (some ⟨p, 0, none⟩))), (1, (.int .i64 i))]) Try.func16 rfl rfl rfl rfl (fun fa hf => ?_)
  have hb : Below w.heap.size w w := Below.refl _ _
  refine wp_seq_k (fun K1 hK1 => ?_)
  refine wp_region_lit ?_
  refine sqdt hf (d_alloc (z := (.agg #[(.string ⟨#[]⟩), (.string ⟨#[]⟩), (.int .i64 (0 : Int)), (.string ⟨#[]⟩), (.slice none 0 0), (.slice none 0 0), (.slice none 0 0)])) (cs := #[(.string ⟨#[]⟩), (.string ⟨#[]⟩), (.int .i64 (0 : Int)), (.string ⟨#[]⟩), (.slice none 0 0), (.slice none 0 0), (.slice none 0 0)]) (by kernel_rfl) rfl) rfl rfl rfl ?_; clear hf fa; rintro fa _ w1 ⟨b1, rfl, hle1, hk1, he1⟩ hf
  have hBb1 : w.heap.size ≤ b1 := Nat.le_trans hb.size hle1
  have : p < b1 := Nat.lt_of_lt_of_le (blk_lt hp) hle1
  replace hp := blk_ext hp he1
  replace hR := Row.ext hR he1
  replace hRS := Row.ext hRS he1
  replace hb := hb.trans (Below.mono he1 hb.size)
  refine sqv hf (r_assign rfl) rfl rfl rfl ?_; clear hf fa; intro fa hf
  apply wpList_nil
  (try simp only [Exit.then, Exit.inBlock, ↓reduceIte, Nat.reduceEqDiff])
  refine hK1 _ _ ?_
  refine wp_seq_k (fun K2 hK2 => ?_)
  refine wp_seq_k (fun K3 hK3 => ?_)
  refine wp_region_lit ?_
  refine sqv hf (r_move rfl) rfl rfl rfl ?_; clear hf fa; intro fa hf
  refine sqv hf (r_move rfl) rfl rfl rfl ?_; clear hf fa; intro fa hf
  refine sqdt hf (d_callB (vs := [(.pointer (some ⟨p, 0, none⟩)), (.int .i64 i)]) rfl Try.func66 (by kernel_rfl) (by kernel_rfl) (live_any B p a b c d ps Sl_ _ hp hR hRS hBp hps hln i)) rfl rfl rfl ?_; clear hf fa; rintro fa _ w2 ⟨rfl, he2⟩ hf
  replace hp := blk_ext hp he2
  replace hk1 := blk_ext hk1 he2
  replace hR := Row.ext hR he2
  replace hRS := Row.ext hRS he2
  replace hb := hb.trans (Below.mono he2 hb.size)
  refine sqv hf (r_not rfl) rfl rfl rfl ?_; clear hf fa; intro fa hf
  apply wpList_nil
  (try simp only [Exit.then, Exit.inBlock, ↓reduceIte, Nat.reduceEqDiff])
  refine hK3 _ _ ?_
  refine wp_cond_split (t := (!(liveB ps i))) (hf.ev rfl) (fun hqt9_1 => ?_) (fun hqt9_1 => ?_)
  · have hqt9_1b := hqt9_1
    try simp only [decide_eq_true_eq, Bool.and_eq_true, Bool.or_eq_true, Bool.not_eq_true', decide_eq_false_iff_not, ne_eq, Bool.not_eq_true] at hqt9_1
    refine wp_seq_k (fun K4 hK4 => ?_)
    refine wp_region_lit ?_
    refine sqv hf (r_build (vs := []) (cs := #[(.string ⟨#[]⟩), (.string ⟨#[]⟩), (.int .i64 (0 : Int)), (.string ⟨#[]⟩), (.slice none 0 0), (.slice none 0 0), (.slice none 0 0)]) rfl (fun _ => by kernel_rfl)) rfl rfl rfl ?_; clear hf fa; intro fa hf
    refine sqn hf (d_storeK (T := 37) (v := (.agg #[(.string ⟨#[]⟩), (.string ⟨#[]⟩), (.int .i64 (0 : Int)), (.string ⟨#[]⟩), (.slice none 0 0), (.slice none 0 0), (.slice none 0 0)])) (cs := #[(.string ⟨#[]⟩), (.string ⟨#[]⟩), (.int .i64 (0 : Int)), (.string ⟨#[]⟩), (.slice none 0 0), (.slice none 0 0), (.slice none 0 0)]) (cs' := #[(.string ⟨#[]⟩), (.string ⟨#[]⟩), (.int .i64 (0 : Int)), (.string ⟨#[]⟩), (.slice none 0 0), (.slice none 0 0), (.slice none 0 0)]) rfl rfl (by kernel_rfl) (by kernel_rfl) hk1 (by kernel_rfl) (by kernel_rfl)) rfl rfl ?_; clear hf fa; rintro fa _ w3 ⟨hk2, hg1⟩ hf
    replace hp := blk_grown hp hg1 (by omega)
    replace hR := Row.grown hR hg1 (Row.ne_type hR hk1 rfl)
    replace hRS := Row.grown hRS hg1 (Row.ne_type hRS hk1 rfl)
    replace hb := hb.trans (grown_below hg1 hb.size hBb1)
    refine sqv hf (r_assign rfl) rfl rfl rfl ?_; clear hf fa; intro fa hf
    apply wpList_nil
    (try simp only [Exit.then, Exit.inBlock, ↓reduceIte, Nat.reduceEqDiff])
    refine hK4 _ _ ?_
    refine wp_ret ?_
    (try simp only [Exit.then, Exit.inBlock])
    refine retCT hf rfl rfl hk2 Try.underlying37 rfl (by kernel_rfl) rfl ?_
    have hl : liveB ps i = false := (by have h := hqt9_1; simpa using h)
    have hD : gotL L i = zFn := by unfold gotL; rw [if_neg (by rw [← hF.live, hl]; decide)]
    rw [hD, ← hF.live, hl]; exact ⟨rfl, hb⟩
  · have hqt9_1b := hqt9_1
    replace hqt9_1 := Bool.eq_false_iff.1 hqt9_1
    try simp only [ne_eq, decide_eq_true_eq, Bool.and_eq_true, Bool.or_eq_true, Bool.not_eq_true', decide_eq_false_iff_not] at hqt9_1
    refine wp_skip ?_
    (try simp only [Exit.then, Exit.inBlock, ↓reduceIte, Nat.reduceEqDiff])
    refine hK2 _ _ ?_
    refine wp_seq_k (fun K5 hK5 => ?_)
    obtain ⟨bf, hq, x, hx, hbf⟩ := FRel.get hF (by have h := hqt9_1; simpa using h)
    obtain ⟨hi0, hi1, _⟩ := liveB_in (ps := ps) (i := i) (by have h := hqt9_1; simpa using h)
    have hkf := blk_ext hbf hb
    have hbl := (Array.getElem?_eq_some_iff.1 hbf).1
    skip
    refine wp_region_lit ?_
    refine sqv hf (r_move rfl) rfl rfl rfl ?_; clear hf fa; intro fa hf
    refine sqv hf (r_nilCheck rfl) rfl rfl rfl ?_; clear hf fa; intro fa hf
    refine sqv hf (r_fa rfl Try.underlying122 (f := 0) (q := 0) rfl (by kernel_rfl) rfl) rfl rfl rfl ?_; clear hf fa; intro fa hf
    refine sqv hf (r_load (v := (.slice a ps.length c)) rfl Try.underlying120 rfl (cell_blk hp rfl)) rfl rfl rfl ?_; clear hf fa; intro fa hf
    refine sqv hf (r_move rfl) rfl rfl rfl ?_; clear hf fa; intro fa hf
    obtain ⟨rb1, rfl, hbbrb1, hlbrb1⟩ := Row.some hR (by first | omega | (simp only [Sl.list_length, List.length_set, List.length_take, List.length_append, List.length_replicate, List.length_cons, List.length_nil, List.length_map, nums_len]; omega))
    have hy1 : (ps)[(i).toNat]? = some (some ⟨bf, 0, none⟩) := hq
    have hel1 := RdS.at (Row.rd (by intros; rfl) hR) hy1
    obtain ⟨_, _, hab, hlr1, hel1⟩ := hel1
    cases hab
    refine sqv hf (r_ixa (sz := 1) (j := (i).toNat) rfl rfl Try.underlying120 (by kernel_rfl) (by omega) (by omega) rfl) rfl rfl rfl ?_; clear hf fa; intro fa hf
    refine sqv hf (r_load (v := (.pointer (some ⟨bf, 0, none⟩))) rfl Try.underlying123 rfl (cellsAt_cell hel1 (i := 0) rfl rfl)) rfl rfl rfl ?_; clear hf fa; intro fa hf
    refine sqv hf (r_nilCheck rfl) rfl rfl rfl ?_; clear hf fa; intro fa hf
    refine sqv hf (r_loadA (cs := [(.string x.1), (.string x.2.1), (.int .i64 x.2.2.1), (.string ⟨#[]⟩), (.slice x.2.2.2.1 x.2.2.2.2 x.2.2.2.2), (.slice none 0 0), (.slice none 0 0)]) rfl Try.underlying37 rfl (by kernel_rfl) (cellsAt_blk hkf)) rfl rfl rfl ?_; clear hf fa; intro fa hf
    refine sqn hf (d_storeK (T := 37) (v := (.agg #[(.string x.1), (.string x.2.1), (.int .i64 x.2.2.1), (.string ⟨#[]⟩), (.slice x.2.2.2.1 x.2.2.2.2 x.2.2.2.2), (.slice none 0 0), (.slice none 0 0)])) (cs := #[(.string ⟨#[]⟩), (.string ⟨#[]⟩), (.int .i64 (0 : Int)), (.string ⟨#[]⟩), (.slice none 0 0), (.slice none 0 0), (.slice none 0 0)]) (cs' := #[(.string x.1), (.string x.2.1), (.int .i64 x.2.2.1), (.string ⟨#[]⟩), (.slice x.2.2.2.1 x.2.2.2.2 x.2.2.2.2), (.slice none 0 0), (.slice none 0 0)]) rfl rfl (by kernel_rfl) (by kernel_rfl) hk1 (by kernel_rfl) (by kernel_rfl)) rfl rfl ?_; clear hf fa; rintro fa _ w4 ⟨hk3, hg2⟩ hf
    replace hp := blk_grown hp hg2 (by omega)
    replace hkf := blk_grown hkf hg2 (by omega)
    replace hR := Row.grown hR hg2 (Row.ne_type hR hk1 rfl)
    replace hRS := Row.grown hRS hg2 (Row.ne_type hRS hk1 rfl)
    replace hb := hb.trans (grown_below hg2 hb.size hBb1)
    refine sqv hf (r_assign rfl) rfl rfl rfl ?_; clear hf fa; intro fa hf
    apply wpList_nil
    (try simp only [Exit.then, Exit.inBlock, ↓reduceIte, Nat.reduceEqDiff])
    refine hK5 _ _ ?_
    refine wp_ret ?_
    (try simp only [Exit.then, Exit.inBlock])
    refine retCT hf rfl rfl hk3 Try.underlying37 rfl (by kernel_rfl) rfl ?_
    have hD : gotL L i = x := by unfold gotL; rw [if_pos (by rw [← hF.live]; exact (by have h := hqt9_1; simpa using h)), List.getD_eq_getElem?_getD, hx]; rfl
    rw [hD, ← hF.live, show liveB ps i = true from (by have h := hqt9_1; simpa using h)]; exact ⟨rfl, hb⟩
end Go.Proofs.Ytmcmickgllffoaa
