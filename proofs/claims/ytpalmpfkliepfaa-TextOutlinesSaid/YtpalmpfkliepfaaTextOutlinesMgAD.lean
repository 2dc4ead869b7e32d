/- What is proved here: a module in lines, by the program. -/
import Derived.Test.YtpalmpfkliepfaaTextOutlinesMgAC
namespace Go.Proofs.Ytpalmpfkliepfaa
open Go.RowKit Ut
set_option linter.unusedVariables false
set_option linter.unusedSimpArgs false
def shS (s : ByteArray) : ByteArray := strN (showL (bl s))
theorem showL_len (l : List Nat) : (showL l).length ≤ 3 * l.length + 2 := by
  unfold showL
  have h : (l.flatMap sh).length ≤ 3 * l.length := by
    induction l with
    | nil => exact Nat.le_refl _
    | cons a o ih => have := (sh_len a).1; simp only [List.flatMap_cons, List.length_append, List.length_cons]; omega
  simp only [List.length_append, List.length_cons, List.length_nil]; omega
theorem shS_len (s : ByteArray) : (shS s).size ≤ 3 * s.size + 2 := by
  unfold shS; rw [strN_size]; have := showL_len (bl s); rw [bl_length] at this; exact this
def foldD {α : Type} (f : α → ByteArray) (s : ByteArray) (l : List α) : ByteArray := l.foldl (fun a y => a ++ ((⟨#[32]⟩ : ByteArray) ++ f y)) s
theorem take_at {α : Type} {l : List α} {k : Nat} {y : α} (h : l[k]? = some y) : l.take (k + 1) = l.take k ++ [y] := by rw [List.take_add_one, h]; rfl
theorem foldD_snoc {α : Type} {f : α → ByteArray} {s : ByteArray} {l : List α} {k : Nat} {y : α} (h : l[k]? = some y) : foldD f s (l.take k) ++ ((⟨#[32]⟩ : ByteArray) ++ f y) = foldD f s (l.take (k + 1)) := by
  rw [take_at h]; unfold foldD; rw [List.foldl_append]; rfl
theorem foldD_snoc2 {α : Type} {f : α → ByteArray} {s : ByteArray} {l : List α} {k : Nat} {y : α} (h : l[k]? = some y) : (foldD f s (l.take k) ++ (⟨#[32]⟩ : ByteArray)) ++ f y = foldD f s (l.take (k + 1)) := by
  rw [← foldD_snoc h, ByteArray.append_assoc]
theorem foldD_len {α : Type} {f : α → ByteArray} {B : Nat} (l : List α) : ∀ s : ByteArray, (∀ y ∈ l, (f y).size ≤ B) → (foldD f s l).size ≤ s.size + l.length * (B + 1) := by
  induction l with
  | nil => intro s _; simp [foldD]
  | cons a o ih =>
    intro s h
    have h1 := ih (s ++ ((⟨#[32]⟩ : ByteArray) ++ f a)) (fun y hy => h y (List.mem_cons_of_mem _ hy))
    have h2 := h a (List.mem_cons_self ..)
    have h3 : (s ++ ((⟨#[32]⟩ : ByteArray) ++ f a)).size = s.size + (1 + (f a).size) := by rw [ByteArray.size_append, ByteArray.size_append]; rfl
    unfold foldD at h1 ⊢
    rw [List.foldl_cons, List.length_cons, Nat.add_mul]
    omega
theorem map_snoc {α β : Type} {f : α → β} {p : List β} {l : List α} {k : Nat} {y : α} (h : l[k]? = some y) : (p ++ (l.take k).map f) ++ [f y] = p ++ (l.take (k + 1)).map f := by
  rw [take_at h, List.map_append, List.append_assoc]; rfl
theorem rowToE {α : Type} {k e base n c : Nat} {V : α → List Value} {w : World} {a : Option Addr} {l l' : List α} (h : Row k V e base w (.slice a n c) l) (he : l = l') : Row k V e base w (.slice a l'.length c) l' := he ▸ h.relen
theorem rowToE' {α : Type} {k e base : Nat} {V : α → List Value} {w : World} {v : Value} {l l' : List α} (h : Row k V e base w v l) (he : l = l') : Row k V e base w v l' := he ▸ h
theorem four_at {a1 a2 a3 a4 : Int} {k : Nat} (hk : k < 4) : ∃ y, [a1, a2, a3, a4][k]? = some y ∧ (y = a1 ∨ y = a2 ∨ y = a3 ∨ y = a4) := by
  have : k = 0 ∨ k = 1 ∨ k = 2 ∨ k = 3 := by omega
  rcases this with rfl | rfl | rfl | rfl
  · exact ⟨_, rfl, .inl rfl⟩
  · exact ⟨_, rfl, .inr (.inl rfl)⟩
  · exact ⟨_, rfl, .inr (.inr (.inl rfl))⟩
  · exact ⟨_, rfl, .inr (.inr (.inr rfl))⟩

def dylS (m : MMd) : ByteArray := foldD shS (foldD dS (⟨#[100, 121, 108, 105, 110, 107]⟩ : ByteArray) [m.2.2.2.2.2.2.2.2.2.2.2.1.2.1, m.2.2.2.2.2.2.2.2.2.2.2.1.2.2.1, m.2.2.2.2.2.2.2.2.2.2.2.1.2.2.2.1, m.2.2.2.2.2.2.2.2.2.2.2.1.2.2.2.2.1]) m.2.2.2.2.2.2.2.2.2.2.2.1.2.2.2.2.2.1.list
def hdL (m : MMd) : List ByteArray := if m.2.2.2.2.2.2.2.2.2.2.2.1.1 = true then [dylS m] else []
def tyLn (y : MFt) : ByteArray := (⟨#[116, 121, 112, 101, 32]⟩ : ByteArray) ++ textP y
def imLn (y : MImp) : ByteArray := (((((((⟨#[105, 109, 112, 111, 114, 116, 32]⟩ : ByteArray) ++ shS y.1) ++ (⟨#[32]⟩ : ByteArray)) ++ shS y.2.1) ++ (⟨#[32]⟩ : ByteArray)) ++ kindS y.2.2.1) ++ (⟨#[32]⟩ : ByteArray)) ++ takenP y
def exLn (y : MExp) : ByteArray := (((((⟨#[101, 120, 112, 111, 114, 116, 32]⟩ : ByteArray) ++ shS y.1) ++ (⟨#[32]⟩ : ByteArray)) ++ kindS y.2.1) ++ (⟨#[32]⟩ : ByteArray)) ++ dS y.2.2.1
def cnLn (m : MMd) : ByteArray := (((((((⟨#[99, 111, 117, 110, 116, 115, 32]⟩ : ByteArray) ++ dS ((m.2.2.1.len : Nat) : Int)) ++ (⟨#[32]⟩ : ByteArray)) ++ dS ((m.2.2.2.2.2.1.len : Nat) : Int)) ++ (⟨#[32]⟩ : ByteArray)) ++ dS ((m.2.2.2.2.2.2.2.2.1.len : Nat) : Int)) ++ (⟨#[32]⟩ : ByteArray)) ++ dS ((m.2.2.2.2.2.2.2.2.2.2.1.len : Nat) : Int)
def tyL (m : MMd) : List ByteArray := hdL m ++ m.1.list.map tyLn
def imL (m : MMd) : List ByteArray := tyL m ++ m.2.1.list.map imLn
def exL (m : MMd) : List ByteArray := imL m ++ m.2.2.2.2.2.2.1.list.map exLn
def outL (m : MMd) : List ByteArray := exL m ++ [cnLn m]
theorem hd_yes {m : MMd} {k : Nat} (h : m.2.2.2.2.2.2.2.2.2.2.2.1.1 = true) (hk : ¬ k < m.2.2.2.2.2.2.2.2.2.2.2.1.2.2.2.2.2.1.len) : [foldD shS (foldD dS (⟨#[100, 121, 108, 105, 110, 107]⟩ : ByteArray) [m.2.2.2.2.2.2.2.2.2.2.2.1.2.1, m.2.2.2.2.2.2.2.2.2.2.2.1.2.2.1, m.2.2.2.2.2.2.2.2.2.2.2.1.2.2.2.1, m.2.2.2.2.2.2.2.2.2.2.2.1.2.2.2.2.1]) (m.2.2.2.2.2.2.2.2.2.2.2.1.2.2.2.2.2.1.list.take k)] = hdL m := by
  unfold hdL dylS; rw [if_pos h, List.take_of_length_le (by rw [Sl.list_length]; omega)]
theorem hd_no {m : MMd} (h : m.2.2.2.2.2.2.2.2.2.2.2.1.1 = false) : [] = hdL m := by
  unfold hdL; rw [if_neg (by rw [h]; decide)]
theorem ref_head (m : MMd) : ((((((((⟨#[100, 121, 108, 105, 110, 107, 32]⟩ : ByteArray) ++ dS m.2.2.2.2.2.2.2.2.2.2.2.1.2.1) ++ (⟨#[32]⟩ : ByteArray)) ++ dS m.2.2.2.2.2.2.2.2.2.2.2.1.2.2.1) ++ (⟨#[32]⟩ : ByteArray)) ++ dS m.2.2.2.2.2.2.2.2.2.2.2.1.2.2.2.1) ++ (⟨#[32]⟩ : ByteArray)) ++ dS m.2.2.2.2.2.2.2.2.2.2.2.1.2.2.2.2.1) = foldD shS (foldD dS (⟨#[100, 121, 108, 105, 110, 107]⟩ : ByteArray) [m.2.2.2.2.2.2.2.2.2.2.2.1.2.1, m.2.2.2.2.2.2.2.2.2.2.2.1.2.2.1, m.2.2.2.2.2.2.2.2.2.2.2.1.2.2.2.1, m.2.2.2.2.2.2.2.2.2.2.2.1.2.2.2.2.1]) (m.2.2.2.2.2.2.2.2.2.2.2.1.2.2.2.2.2.1.list.take 0) := by
  show _ = (((((⟨#[100, 121, 108, 105, 110, 107]⟩ : ByteArray) ++ ((⟨#[32]⟩ : ByteArray) ++ dS m.2.2.2.2.2.2.2.2.2.2.2.1.2.1)) ++ ((⟨#[32]⟩ : ByteArray) ++ dS m.2.2.2.2.2.2.2.2.2.2.2.1.2.2.1)) ++ ((⟨#[32]⟩ : ByteArray) ++ dS m.2.2.2.2.2.2.2.2.2.2.2.1.2.2.2.1)) ++ ((⟨#[32]⟩ : ByteArray) ++ dS m.2.2.2.2.2.2.2.2.2.2.2.1.2.2.2.2.1))
  rw [show (⟨#[100, 121, 108, 105, 110, 107, 32]⟩ : ByteArray) = (⟨#[100, 121, 108, 105, 110, 107]⟩ : ByteArray) ++ (⟨#[32]⟩ : ByteArray) from rfl]
  simp only [ByteArray.append_assoc]
theorem outs_len (m : MMd) (h : lensP m) : (hdL m).length ≤ 1 ∧ (tyL m).length ≤ 50 ∧ (imL m).length ≤ 100 ∧ (exL m).length ≤ 150 := by
  have h0 : (hdL m).length ≤ 1 := by unfold hdL; split <;> simp
  unfold lensP at h
  unfold exL imL tyL
  simp only [List.length_append, List.length_map, Sl.list_length]
  omega

theorem showS_any (s : ByteArray) (w : World) (hs : s.size ≤ 1000000) : Calls Try.prog 41 #[.string s] w fun e w' => e = .returned (.string (shS s)) ∧ Below w.heap.size w w' := show_any s w hs
theorem refShowS_any (s : ByteArray) (w : World) (hs : s.size ≤ 1000000) : Calls Try.prog 46 #[.string s] w fun e w' => e = .returned (.string (shS s)) ∧ Below w.heap.size w w' := refShow_any s w hs

theorem rtaken_y (z : MImp) (w : World) (hk : 0 ≤ z.2.2.1 ∧ z.2.2.1 < 256) (ht : 0 ≤ z.2.2.2.1 ∧ z.2.2.2.1 < 4294967296) (h1 : 0 ≤ z.2.2.2.2.1.1 ∧ z.2.2.2.2.1.1 < 4294967296) (h2 : 0 ≤ z.2.2.2.2.1.2.1 ∧ z.2.2.2.2.1.2.1 < 4294967296) (h3 : 0 ≤ z.2.2.2.2.2.1.1 ∧ z.2.2.2.2.2.1.1 < 256) : Calls Try.prog 49 #[(.agg #[(.string z.1), (.string z.2.1), (.int .u8 z.2.2.1), (.int .u32 z.2.2.2.1), (.int .u32 z.2.2.2.2.1.1), (.int .u32 z.2.2.2.2.1.2.1), (.bool z.2.2.2.2.1.2.2.1), (.int .u8 z.2.2.2.2.2.1.1), (.bool z.2.2.2.2.2.1.2.1)])] w fun e w' => e = .returned (.string (takenP z)) ∧ Below w.heap.size w w' := by
  rw [← rtaken_eq]
  exact rtaken_any z w hk ht h1 h2 h3

theorem textP_len (y : MFt) (h : y.1.size ≤ 100 ∧ y.2.1.size ≤ 100) : (textP y).size ≤ 3000 := by
  have h1 := listP_le y.1
  have h2 := listP_le y.2.1
  have e1 : (⟨#[40]⟩ : ByteArray).size = 1 := rfl
  have e2 : (⟨#[41, 45, 62, 40]⟩ : ByteArray).size = 4 := rfl
  have e3 : (⟨#[41]⟩ : ByteArray).size = 1 := rfl
  unfold textP
  simp only [ByteArray.size_append]
  omega

set_option maxHeartbeats 8000000 in
set_option maxRecDepth 100000 in
theorem outline_any (m : MMd) (w : World) (g : fMMd w m) (hS : smallP m = true) : Calls Try.prog 10 #[(.agg #[(.slice m.1.at' m.1.len m.1.cap), (.slice m.2.1.at' m.2.1.len m.2.1.cap), (.slice m.2.2.1.at' m.2.2.1.len m.2.2.1.cap), (.slice m.2.2.2.1.at' m.2.2.2.1.len m.2.2.2.1.cap), (.slice m.2.2.2.2.1.at' m.2.2.2.2.1.len m.2.2.2.2.1.cap), (.slice m.2.2.2.2.2.1.at' m.2.2.2.2.2.1.len m.2.2.2.2.2.1.cap), (.slice m.2.2.2.2.2.2.1.at' m.2.2.2.2.2.2.1.len m.2.2.2.2.2.2.1.cap), (.int .i64 m.2.2.2.2.2.2.2.1), (.slice m.2.2.2.2.2.2.2.2.1.at' m.2.2.2.2.2.2.2.2.1.len m.2.2.2.2.2.2.2.2.1.cap), (.slice m.2.2.2.2.2.2.2.2.2.1.at' m.2.2.2.2.2.2.2.2.2.1.len m.2.2.2.2.2.2.2.2.2.1.cap), (.slice m.2.2.2.2.2.2.2.2.2.2.1.at' m.2.2.2.2.2.2.2.2.2.2.1.len m.2.2.2.2.2.2.2.2.2.2.1.cap), (.bool m.2.2.2.2.2.2.2.2.2.2.2.1.1), (.int .u32 m.2.2.2.2.2.2.2.2.2.2.2.1.2.1), (.int .u32 m.2.2.2.2.2.2.2.2.2.2.2.1.2.2.1), (.int .u32 m.2.2.2.2.2.2.2.2.2.2.2.1.2.2.2.1), (.int .u32 m.2.2.2.2.2.2.2.2.2.2.2.1.2.2.2.2.1), (.slice m.2.2.2.2.2.2.2.2.2.2.2.1.2.2.2.2.2.1.at' m.2.2.2.2.2.2.2.2.2.2.2.1.2.2.2.2.2.1.len m.2.2.2.2.2.2.2.2.2.2.2.1.2.2.2.2.2.1.cap)])] w fun e w' => ∃ v, e = .returned v ∧ Row 1 vStr 9 w.heap.size w' v (outL m) ∧ Below w.heap.size w w' := by
  have hz_m0 := g.1.1; have hl_m0 := g.1.2.1; have hm_m0 := g.1.2.2.1; have hn_m0 := g.1.2.2.2.1; (try unfold maxLen at hm_m0)
  have hz_m1 := g.2.1.1; have hl_m1 := g.2.1.2.1; have hm_m1 := g.2.1.2.2.1; have hn_m1 := g.2.1.2.2.2.1; (try unfold maxLen at hm_m1)
  have hz_m2 := g.2.2.2.2.2.2.1.1; have hl_m2 := g.2.2.2.2.2.2.1.2.1; have hm_m2 := g.2.2.2.2.2.2.1.2.2.1; have hn_m2 := g.2.2.2.2.2.2.1.2.2.2.1; (try unfold maxLen at hm_m2)
  have hz_m3 := g.2.2.2.2.2.2.2.2.2.2.2.1.2.2.2.2.2.1.1; have hl_m3 := g.2.2.2.2.2.2.2.2.2.2.2.1.2.2.2.2.2.1.2.1; have hm_m3 := g.2.2.2.2.2.2.2.2.2.2.2.1.2.2.2.2.2.1.2.2.1; have hn_m3 := g.2.2.2.2.2.2.2.2.2.2.2.1.2.2.2.2.2.1.2.2.2.1; (try unfold maxLen at hm_m3)
  have hz_m4 := g.2.2.1.1; have hl_m4 := g.2.2.1.2.1; have hm_m4 := g.2.2.1.2.2.1; have hn_m4 := g.2.2.1.2.2.2.1; (try unfold maxLen at hm_m4)
  have hz_m5 := g.2.2.2.2.2.1.1; have hl_m5 := g.2.2.2.2.2.1.2.1; have hm_m5 := g.2.2.2.2.2.1.2.2.1; have hn_m5 := g.2.2.2.2.2.1.2.2.2.1; (try unfold maxLen at hm_m5)
  have hz_m6 := g.2.2.2.2.2.2.2.2.1.1; have hl_m6 := g.2.2.2.2.2.2.2.2.1.2.1; have hm_m6 := g.2.2.2.2.2.2.2.2.1.2.2.1; have hn_m6 := g.2.2.2.2.2.2.2.2.1.2.2.2.1; (try unfold maxLen at hm_m6)
  have hz_m7 := g.2.2.2.2.2.2.2.2.2.2.1.1; have hl_m7 := g.2.2.2.2.2.2.2.2.2.2.1.2.1; have hm_m7 := g.2.2.2.2.2.2.2.2.2.2.1.2.2.1; have hn_m7 := g.2.2.2.2.2.2.2.2.2.2.1.2.2.2.1; (try unfold maxLen at hm_m7)
  obtain ⟨hL, hX⟩ := small_out hS
  obtain ⟨hT1, hT2, hT3, hT4⟩ := texts_out hX
  have ho := outs_len m hL
  unfold lensP at hL
  have hr1 := fInt_u32 g.2.2.2.2.2.2.2.2.2.2.2.1.2.1
  have hr2 := fInt_u32 g.2.2.2.2.2.2.2.2.2.2.2.1.2.2.1
  have hr3 := fInt_u32 g.2.2.2.2.2.2.2.2.2.2.2.1.2.2.2.1
  have hr4 := fInt_u32 g.2.2.2.2.2.2.2.2.2.2.2.1.2.2.2.2.1
  have hda0 := dS_len (n := m.2.2.2.2.2.2.2.2.2.2.2.1.2.1) (inI_u32 (by omega))
  have hda1 := dS_len (n := m.2.2.2.2.2.2.2.2.2.2.2.1.2.2.1) (inI_u32 (by omega))
  have hda2 := dS_len (n := m.2.2.2.2.2.2.2.2.2.2.2.1.2.2.2.1) (inI_u32 (by omega))
  have hda3 := dS_len (n := m.2.2.2.2.2.2.2.2.2.2.2.1.2.2.2.2.1) (inI_u32 (by omega))
  have hdb0 := dS_len (n := ((m.2.2.1.len : Nat) : Int)) (inI_u32 (by omega))
  have hdb1 := dS_len (n := ((m.2.2.2.2.2.1.len : Nat) : Int)) (inI_u32 (by omega))
  have hdb2 := dS_len (n := ((m.2.2.2.2.2.2.2.2.1.len : Nat) : Int)) (inI_u32 (by omega))
  have hdb3 := dS_len (n := ((m.2.2.2.2.2.2.2.2.2.2.1.len : Nat) : Int)) (inI_u32 (by omega))
  have hd4 : ∀ y ∈ [m.2.2.2.2.2.2.2.2.2.2.2.1.2.1, m.2.2.2.2.2.2.2.2.2.2.2.1.2.2.1, m.2.2.2.2.2.2.2.2.2.2.2.1.2.2.2.1, m.2.2.2.2.2.2.2.2.2.2.2.1.2.2.2.2.1], (dS y).size ≤ 20 := by
    intro y hy
    simp only [List.mem_cons, List.not_mem_nil, or_false] at hy
    rcases hy with rfl | rfl | rfl | rfl <;> assumption
  have hd5 : (foldD dS (⟨#[100, 121, 108, 105, 110, 107]⟩ : ByteArray) [m.2.2.2.2.2.2.2.2.2.2.2.1.2.1, m.2.2.2.2.2.2.2.2.2.2.2.1.2.2.1, m.2.2.2.2.2.2.2.2.2.2.2.1.2.2.2.1, m.2.2.2.2.2.2.2.2.2.2.2.1.2.2.2.2.1]).size ≤ 90 := by have h := foldD_len (f := dS) [m.2.2.2.2.2.2.2.2.2.2.2.1.2.1, m.2.2.2.2.2.2.2.2.2.2.2.1.2.2.1, m.2.2.2.2.2.2.2.2.2.2.2.1.2.2.2.1, m.2.2.2.2.2.2.2.2.2.2.2.1.2.2.2.2.1] (⟨#[100, 121, 108, 105, 110, 107]⟩ : ByteArray) hd4; exact h
  have hdN : ∀ y ∈ m.2.2.2.2.2.2.2.2.2.2.2.1.2.2.2.2.2.1.list, (shS y).size ≤ 902 := by intro y hy; have := hT4 y hy; have := shS_len y; omega
  refine sx_enter (L := [(0, (.agg #[(.slice m.1.at' m.1.len m.1.cap), (.slice m.2.1.at' m.2.1.len m.2.1.cap), (.slice m.2.2.1.at' m.2.2.1.len m.2.2.1.cap), (.slice m.2.2.2.1.at' m.2.2.2.1.len m.2.2.2.1.cap), (.slice m.2.2.2.2.1.at' m.2.2.2.2.1.len m.2.2.2.2.1.cap), (.slice m.2.2.2.2.2.1.at' m.2.2.2.2.2.1.len m.2.2.2.2.2.1.cap), (.slice m.2.2.2.2.2.2.1.at' m.2.2.2.2.2.2.1.len m.2.2.2.2.2.2.1.cap), (.int .i64 m.2.2.2.2.2.2.2.1), (.slice m.2.2.2.2.2.2.2.2.1.at' m.2.2.2.2.2.2.2.2.1.len m.2.2.2.2.2.2.2.2.1.cap), (.slice m.2.2.2.2.2.2.2.2.2.1.at' m.2.2.2.2.2.2.2.2.2.1.len m.2.2.2.2.2.2.2.2.2.1.cap), (.slice m.2.2.2.2.2.2.2.2.2.2.1.at' m.2.2.2.2.2.2.2.2.2.2.1.len m.2.2.2.2.2.2.2.2.2.2.1.cap), (.bool m.2.2.2.2.2.2.2.2.2.2.2.1.1), (.int .u32 m.2.2.2.2.2.2.2.2.2.2.2.1.2.1), (.int .u32 m.2.2.2.2.2.2.2.2.2.2.2.1.2.2.1), (.int .u32 m.2.2.2.2.2.2.2.2.2.2.2.1.2.2.2.1), (.int .u32 m.2.2.2.2.2.2.2.2.2.2.2.1.2.2.2.2.1), (.slice m.2.2.2.2.2.2.2.2.2.2.2.1.2.2.2.2.2.1.at' m.2.2.2.2.2.2.2.2.2.2.2.1.2.2.2.2.2.1.len m.2.2.2.2.2.2.2.2.2.2.2.1.2.2.2.2.2.1.cap)]))]) Try.func10 rfl rfl rfl rfl (fun fa hf => ?_)
  have hb : Below w.heap.size w w := Below.refl _ _
  refine wp_seq_k (fun K1 hK1 => ?_)
  refine wp_region_lit ?_
  refine sqdt hf (d_box (cs := #[(.slice m.1.at' m.1.len m.1.cap), (.slice m.2.1.at' m.2.1.len m.2.1.cap), (.slice m.2.2.1.at' m.2.2.1.len m.2.2.1.cap), (.slice m.2.2.2.1.at' m.2.2.2.1.len m.2.2.2.1.cap), (.slice m.2.2.2.2.1.at' m.2.2.2.2.1.len m.2.2.2.2.1.cap), (.slice m.2.2.2.2.2.1.at' m.2.2.2.2.2.1.len m.2.2.2.2.2.1.cap), (.slice m.2.2.2.2.2.2.1.at' m.2.2.2.2.2.2.1.len m.2.2.2.2.2.2.1.cap), (.int .i64 m.2.2.2.2.2.2.2.1), (.slice m.2.2.2.2.2.2.2.2.1.at' m.2.2.2.2.2.2.2.2.1.len m.2.2.2.2.2.2.2.2.1.cap), (.slice m.2.2.2.2.2.2.2.2.2.1.at' m.2.2.2.2.2.2.2.2.2.1.len m.2.2.2.2.2.2.2.2.2.1.cap), (.slice m.2.2.2.2.2.2.2.2.2.2.1.at' m.2.2.2.2.2.2.2.2.2.2.1.len m.2.2.2.2.2.2.2.2.2.2.1.cap), (.bool m.2.2.2.2.2.2.2.2.2.2.2.1.1), (.int .u32 m.2.2.2.2.2.2.2.2.2.2.2.1.2.1), (.int .u32 m.2.2.2.2.2.2.2.2.2.2.2.1.2.2.1), (.int .u32 m.2.2.2.2.2.2.2.2.2.2.2.1.2.2.2.1), (.int .u32 m.2.2.2.2.2.2.2.2.2.2.2.1.2.2.2.2.1), (.slice m.2.2.2.2.2.2.2.2.2.2.2.1.2.2.2.2.2.1.at' m.2.2.2.2.2.2.2.2.2.2.2.1.2.2.2.2.2.1.len m.2.2.2.2.2.2.2.2.2.2.2.1.2.2.2.2.2.1.cap)]) rfl rfl) rfl rfl rfl ?_; clear hf fa; rintro fa _ w1 ⟨b1, rfl, hle1, hk1, he1⟩ hf
  have hBb1 : w.heap.size ≤ b1 := Nat.le_trans hb.size hle1
  replace hb := hb.trans (Below.mono he1 hb.size)
  refine sqv hf (r_assign rfl) rfl rfl rfl ?_; clear hf fa; intro fa hf
  apply wpList_nil
  (try simp only [Exit.then, Exit.inBlock, ↓reduceIte, Nat.reduceEqDiff])
  refine hK1 _ _ ?_
  refine wp_seq_k (fun K2 hK2 => ?_)
  refine wp_region_lit ?_
  refine sqv hf (r_assign rfl) rfl rfl rfl ?_; clear hf fa; intro fa hf
  apply wpList_nil
  (try simp only [Exit.then, Exit.inBlock, ↓reduceIte, Nat.reduceEqDiff])
  refine hK2 _ _ ?_
  refine wp_cut_k (fun fa wr => ∃ (roa : Option Addr) (roc : Nat), Fr 154 fa [(1, (.pointer (some ⟨b1, 0, none⟩))), (3, (.slice roa ((hdL m).length) roc))] ∧ Below w.heap.size w wr ∧ Row 1 vStr 9 (w.heap.size) wr (.slice roa (((hdL m)).length) roc) (hdL m) ∧ wr.heap[b1]? = some (.cells #[(.slice m.1.at' m.1.len m.1.cap), (.slice m.2.1.at' m.2.1.len m.2.1.cap), (.slice m.2.2.1.at' m.2.2.1.len m.2.2.1.cap), (.slice m.2.2.2.1.at' m.2.2.2.1.len m.2.2.2.1.cap), (.slice m.2.2.2.2.1.at' m.2.2.2.2.1.len m.2.2.2.2.1.cap), (.slice m.2.2.2.2.2.1.at' m.2.2.2.2.2.1.len m.2.2.2.2.2.1.cap), (.slice m.2.2.2.2.2.2.1.at' m.2.2.2.2.2.2.1.len m.2.2.2.2.2.2.1.cap), (.int .i64 m.2.2.2.2.2.2.2.1), (.slice m.2.2.2.2.2.2.2.2.1.at' m.2.2.2.2.2.2.2.2.1.len m.2.2.2.2.2.2.2.2.1.cap), (.slice m.2.2.2.2.2.2.2.2.2.1.at' m.2.2.2.2.2.2.2.2.2.1.len m.2.2.2.2.2.2.2.2.2.1.cap), (.slice m.2.2.2.2.2.2.2.2.2.2.1.at' m.2.2.2.2.2.2.2.2.2.2.1.len m.2.2.2.2.2.2.2.2.2.2.1.cap), (.bool m.2.2.2.2.2.2.2.2.2.2.2.1.1), (.int .u32 m.2.2.2.2.2.2.2.2.2.2.2.1.2.1), (.int .u32 m.2.2.2.2.2.2.2.2.2.2.2.1.2.2.1), (.int .u32 m.2.2.2.2.2.2.2.2.2.2.2.1.2.2.2.1), (.int .u32 m.2.2.2.2.2.2.2.2.2.2.2.1.2.2.2.2.1), (.slice m.2.2.2.2.2.2.2.2.2.2.2.1.2.2.2.2.2.1.at' m.2.2.2.2.2.2.2.2.2.2.2.1.2.2.2.2.2.1.len m.2.2.2.2.2.2.2.2.2.2.2.1.2.2.2.2.2.1.cap)] 36 (0, 0))) (fun KC1 hKC1 => ?_) ?_
  · skip
    refine wp_seq_k (fun K4 hK4 => ?_)
    refine wp_region_lit ?_
    refine sqv hf (r_fa rfl Try.underlying36 (f := 11) (q := 11) rfl (by kernel_rfl) rfl) rfl rfl rfl ?_; clear hf fa; intro fa hf
    refine sqv hf (r_fa rfl Try.underlying34 (f := 0) (q := 11) rfl (by kernel_rfl) rfl) rfl rfl rfl ?_; clear hf fa; intro fa hf
    refine sqv hf (r_load (v := (.bool m.2.2.2.2.2.2.2.2.2.2.2.1.1)) rfl Try.underlying4 rfl (cell_blk hk1 rfl)) rfl rfl rfl ?_; clear hf fa; intro fa hf
    apply wpList_nil
    (try simp only [Exit.then, Exit.inBlock, ↓reduceIte, Nat.reduceEqDiff])
    refine hK4 _ _ ?_
    refine wp_cond_split (t := m.2.2.2.2.2.2.2.2.2.2.2.1.1) (hf.ev rfl) (fun hqt18_1 => ?_) (fun hqt18_1 => ?_)
    · have hqt18_1b := hqt18_1
      try simp only [decide_eq_true_eq, Bool.and_eq_true, Bool.or_eq_true, Bool.not_eq_true', decide_eq_false_iff_not, ne_eq, Bool.not_eq_true] at hqt18_1
      refine wp_seq_k (fun K5 hK5 => ?_)
      refine wp_region_lit ?_
      refine sqv hf (r_fa rfl Try.underlying36 (f := 11) (q := 11) rfl (by kernel_rfl) rfl) rfl rfl rfl ?_; clear hf fa; intro fa hf
      refine sqv hf (r_loadA (cs := [(.bool m.2.2.2.2.2.2.2.2.2.2.2.1.1), (.int .u32 m.2.2.2.2.2.2.2.2.2.2.2.1.2.1), (.int .u32 m.2.2.2.2.2.2.2.2.2.2.2.1.2.2.1), (.int .u32 m.2.2.2.2.2.2.2.2.2.2.2.1.2.2.2.1), (.int .u32 m.2.2.2.2.2.2.2.2.2.2.2.1.2.2.2.2.1), (.slice m.2.2.2.2.2.2.2.2.2.2.2.1.2.2.2.2.2.1.at' m.2.2.2.2.2.2.2.2.2.2.2.1.2.2.2.2.2.1.len m.2.2.2.2.2.2.2.2.2.2.2.1.2.2.2.2.2.1.cap)]) rfl Try.underlying34 rfl (by kernel_rfl) (cellsAt_part (d := 11) (n := 6) (cellsAt_blk hk1) rfl rfl)) rfl rfl rfl ?_; clear hf fa; intro fa hf
      refine sqdt hf (d_alloc (z := (.agg #[(.bool false), (.int .u32 (0 : Int)), (.int .u32 (0 : Int)), (.int .u32 (0 : Int)), (.int .u32 (0 : Int)), (.slice none 0 0)])) (cs := #[(.bool false), (.int .u32 (0 : Int)), (.int .u32 (0 : Int)), (.int .u32 (0 : Int)), (.int .u32 (0 : Int)), (.slice none 0 0)]) (by kernel_rfl) rfl) rfl rfl rfl ?_; clear hf fa; rintro fa _ w2 ⟨b2, rfl, hle2, hk2, he2⟩ hf
      have hBb2 : w.heap.size ≤ b2 := Nat.le_trans hb.size hle2
      have : b1 < b2 := Nat.lt_of_lt_of_le (blk_lt hk1) hle2
      replace hk1 := blk_ext hk1 he2
      replace hb := hb.trans (Below.mono he2 hb.size)
      refine sqn hf (d_storeK (T := 34) (v := (.agg #[(.bool m.2.2.2.2.2.2.2.2.2.2.2.1.1), (.int .u32 m.2.2.2.2.2.2.2.2.2.2.2.1.2.1), (.int .u32 m.2.2.2.2.2.2.2.2.2.2.2.1.2.2.1), (.int .u32 m.2.2.2.2.2.2.2.2.2.2.2.1.2.2.2.1), (.int .u32 m.2.2.2.2.2.2.2.2.2.2.2.1.2.2.2.2.1), (.slice m.2.2.2.2.2.2.2.2.2.2.2.1.2.2.2.2.2.1.at' m.2.2.2.2.2.2.2.2.2.2.2.1.2.2.2.2.2.1.len m.2.2.2.2.2.2.2.2.2.2.2.1.2.2.2.2.2.1.cap)])) (cs := #[(.bool false), (.int .u32 (0 : Int)), (.int .u32 (0 : Int)), (.int .u32 (0 : Int)), (.int .u32 (0 : Int)), (.slice none 0 0)]) (cs' := #[(.bool m.2.2.2.2.2.2.2.2.2.2.2.1.1), (.int .u32 m.2.2.2.2.2.2.2.2.2.2.2.1.2.1), (.int .u32 m.2.2.2.2.2.2.2.2.2.2.2.1.2.2.1), (.int .u32 m.2.2.2.2.2.2.2.2.2.2.2.1.2.2.2.1), (.int .u32 m.2.2.2.2.2.2.2.2.2.2.2.1.2.2.2.2.1), (.slice m.2.2.2.2.2.2.2.2.2.2.2.1.2.2.2.2.2.1.at' m.2.2.2.2.2.2.2.2.2.2.2.1.2.2.2.2.2.1.len m.2.2.2.2.2.2.2.2.2.2.2.1.2.2.2.2.2.1.cap)]) rfl rfl (by kernel_rfl) (by kernel_rfl) hk2 (by kernel_rfl) (by kernel_rfl)) rfl rfl ?_; clear hf fa; rintro fa _ w3 ⟨hk3, hg1⟩ hf
      replace hk1 := blk_grown hk1 hg1 (by omega)
      replace hb := hb.trans (grown_below hg1 hb.size hBb2)
      apply wpList_nil
      (try simp only [Exit.then, Exit.inBlock, ↓reduceIte, Nat.reduceEqDiff])
      refine hK5 _ _ ?_
      refine wp_seq_k (fun K6 hK6 => ?_)
      refine wp_region_lit ?_
      refine sqv hf (r_assign rfl) rfl rfl rfl ?_; clear hf fa; intro fa hf
      apply wpList_nil
      (try simp only [Exit.then, Exit.inBlock, ↓reduceIte, Nat.reduceEqDiff])
      refine hK6 _ _ ?_
      refine wp_seq_k (fun K7 hK7 => ?_)
      refine wp_seq_k (fun K8 hK8 => ?_)
      refine wp_region_lit ?_
      refine sqv hf (r_fa rfl Try.underlying34 (f := 1) (q := 1) rfl (by kernel_rfl) rfl) rfl rfl rfl ?_; clear hf fa; intro fa hf
      refine sqv hf (r_load (v := (.int .u32 m.2.2.2.2.2.2.2.2.2.2.2.1.2.1)) rfl Try.underlying31 rfl (cell_blk hk3 rfl)) rfl rfl rfl ?_; clear hf fa; intro fa hf
      refine sqv hf (r_fa rfl Try.underlying34 (f := 2) (q := 2) rfl (by kernel_rfl) rfl) rfl rfl rfl ?_; clear hf fa; intro fa hf
      refine sqv hf (r_load (v := (.int .u32 m.2.2.2.2.2.2.2.2.2.2.2.1.2.2.1)) rfl Try.underlying31 rfl (cell_blk hk3 rfl)) rfl rfl rfl ?_; clear hf fa; intro fa hf
      refine sqv hf (r_fa rfl Try.underlying34 (f := 3) (q := 3) rfl (by kernel_rfl) rfl) rfl rfl rfl ?_; clear hf fa; intro fa hf
      refine sqv hf (r_load (v := (.int .u32 m.2.2.2.2.2.2.2.2.2.2.2.1.2.2.2.1)) rfl Try.underlying31 rfl (cell_blk hk3 rfl)) rfl rfl rfl ?_; clear hf fa; intro fa hf
      refine sqv hf (r_fa rfl Try.underlying34 (f := 4) (q := 4) rfl (by kernel_rfl) rfl) rfl rfl rfl ?_; clear hf fa; intro fa hf
      refine sqv hf (r_load (v := (.int .u32 m.2.2.2.2.2.2.2.2.2.2.2.1.2.2.2.2.1)) rfl Try.underlying31 rfl (cell_blk hk3 rfl)) rfl rfl rfl ?_; clear hf fa; intro fa hf
      refine sqdt hf (d_bslice (z := (.int .u32 (0 : Int))) (sz := 1) (vs := [(0, (.int .u32 m.2.2.2.2.2.2.2.2.2.2.2.1.2.1)), (1, (.int .u32 m.2.2.2.2.2.2.2.2.2.2.2.1.2.2.1)), (2, (.int .u32 m.2.2.2.2.2.2.2.2.2.2.2.1.2.2.2.1)), (3, (.int .u32 m.2.2.2.2.2.2.2.2.2.2.2.1.2.2.2.2.1))]) (cs := #[(.int .u32 m.2.2.2.2.2.2.2.2.2.2.2.1.2.1), (.int .u32 m.2.2.2.2.2.2.2.2.2.2.2.1.2.2.1), (.int .u32 m.2.2.2.2.2.2.2.2.2.2.2.1.2.2.2.1), (.int .u32 m.2.2.2.2.2.2.2.2.2.2.2.1.2.2.2.2.1)]) rfl Try.underlying24 (by kernel_rfl) rfl (by kernel_rfl)) rfl rfl rfl ?_; clear hf fa; rintro fa _ w4 ⟨b3, rfl, hle3, hk4, he3⟩ hf
      have hBb3 : w.heap.size ≤ b3 := Nat.le_trans hb.size hle3
      have : b1 < b3 := Nat.lt_of_lt_of_le (blk_lt hk1) hle3
      have : b2 < b3 := Nat.lt_of_lt_of_le (blk_lt hk3) hle3
      replace hk1 := blk_ext hk1 he3
      replace hk3 := blk_ext hk3 he3
      replace hb := hb.trans (Below.mono he3 hb.size)
      have hr1 := Row.of_new (k := 1) (V := (vInt .u32)) (l := [m.2.2.2.2.2.2.2.2.2.2.2.1.2.1, m.2.2.2.2.2.2.2.2.2.2.2.1.2.2.1, m.2.2.2.2.2.2.2.2.2.2.2.1.2.2.2.1, m.2.2.2.2.2.2.2.2.2.2.2.1.2.2.2.2.1]) (base := w.heap.size) hk4 (by omega) rfl rfl (Nat.le_of_ble_eq_true rfl)
      refine sqv hf (r_lensl rfl Try.underlying24) rfl rfl rfl ?_; clear hf fa; intro fa hf
      refine sqv hf (r_move rfl) rfl rfl rfl ?_; clear hf fa; intro fa hf
      apply wpList_nil
      (try simp only [Exit.then, Exit.inBlock, ↓reduceIte, Nat.reduceEqDiff])
      refine hK8 _ _ ?_
      refine wp_block ?_
      refine wp_loop_k (fun mq fa wr => ∃ (k : Nat), mq = 4 - k ∧ Fr 154 fa [(1, (.pointer (some ⟨b1, 0, none⟩))), (3, (.slice none 0 0)), (5, (.string (foldD dS (⟨#[100, 121, 108, 105, 110, 107]⟩ : ByteArray) ([m.2.2.2.2.2.2.2.2.2.2.2.1.2.1, m.2.2.2.2.2.2.2.2.2.2.2.1.2.2.1, m.2.2.2.2.2.2.2.2.2.2.2.1.2.2.2.1, m.2.2.2.2.2.2.2.2.2.2.2.1.2.2.2.2.1].take k)))), (30, (.int .i64 (4 : Int))), (31, (.int .i64 ((k : Nat) : Int))), (29, (.slice (some ⟨b3, 0, none⟩) 4 4)), (4, (.pointer (some ⟨b2, 0, none⟩)))] ∧ Below w.heap.size w wr ∧ Row 1 (vInt .u32) 31 (w.heap.size) wr (.slice (some ⟨b3, 0, none⟩) (4) 4) [m.2.2.2.2.2.2.2.2.2.2.2.1.2.1, m.2.2.2.2.2.2.2.2.2.2.2.1.2.2.1, m.2.2.2.2.2.2.2.2.2.2.2.1.2.2.2.1, m.2.2.2.2.2.2.2.2.2.2.2.1.2.2.2.2.1] ∧ wr.heap[b1]? = some (.cells #[(.slice m.1.at' m.1.len m.1.cap), (.slice m.2.1.at' m.2.1.len m.2.1.cap), (.slice m.2.2.1.at' m.2.2.1.len m.2.2.1.cap), (.slice m.2.2.2.1.at' m.2.2.2.1.len m.2.2.2.1.cap), (.slice m.2.2.2.2.1.at' m.2.2.2.2.1.len m.2.2.2.2.1.cap), (.slice m.2.2.2.2.2.1.at' m.2.2.2.2.2.1.len m.2.2.2.2.2.1.cap), (.slice m.2.2.2.2.2.2.1.at' m.2.2.2.2.2.2.1.len m.2.2.2.2.2.2.1.cap), (.int .i64 m.2.2.2.2.2.2.2.1), (.slice m.2.2.2.2.2.2.2.2.1.at' m.2.2.2.2.2.2.2.2.1.len m.2.2.2.2.2.2.2.2.1.cap), (.slice m.2.2.2.2.2.2.2.2.2.1.at' m.2.2.2.2.2.2.2.2.2.1.len m.2.2.2.2.2.2.2.2.2.1.cap), (.slice m.2.2.2.2.2.2.2.2.2.2.1.at' m.2.2.2.2.2.2.2.2.2.2.1.len m.2.2.2.2.2.2.2.2.2.2.1.cap), (.bool m.2.2.2.2.2.2.2.2.2.2.2.1.1), (.int .u32 m.2.2.2.2.2.2.2.2.2.2.2.1.2.1), (.int .u32 m.2.2.2.2.2.2.2.2.2.2.2.1.2.2.1), (.int .u32 m.2.2.2.2.2.2.2.2.2.2.2.1.2.2.2.1), (.int .u32 m.2.2.2.2.2.2.2.2.2.2.2.1.2.2.2.2.1), (.slice m.2.2.2.2.2.2.2.2.2.2.2.1.2.2.2.2.2.1.at' m.2.2.2.2.2.2.2.2.2.2.2.1.2.2.2.2.2.1.len m.2.2.2.2.2.2.2.2.2.2.2.1.2.2.2.2.2.1.cap)] 36 (0, 0)) ∧ wr.heap[b2]? = some (.cells #[(.bool m.2.2.2.2.2.2.2.2.2.2.2.1.1), (.int .u32 m.2.2.2.2.2.2.2.2.2.2.2.1.2.1), (.int .u32 m.2.2.2.2.2.2.2.2.2.2.2.1.2.2.1), (.int .u32 m.2.2.2.2.2.2.2.2.2.2.2.1.2.2.2.1), (.int .u32 m.2.2.2.2.2.2.2.2.2.2.2.1.2.2.2.2.1), (.slice m.2.2.2.2.2.2.2.2.2.2.2.1.2.2.2.2.2.1.at' m.2.2.2.2.2.2.2.2.2.2.2.1.2.2.2.2.2.1.len m.2.2.2.2.2.2.2.2.2.2.2.1.2.2.2.2.2.1.cap)] 34 (0, 0)) ∧ (k ≤ 4)) ?_ ?_
      · skip
        exact ⟨_, 0, rfl, hf.sub ⟨rfl, rfl, (some_str (by first | rfl | assumption | simp)), rfl, (some_int (by first | rfl | omega)), rfl, rfl, trivial⟩, hb, hr1, hk1, hk3, by omega⟩
      · skip
        clear hf fa; intro mq1 fa w5 hI KL1 hKL1
        clear hb
        clear hk1
        clear hk3
        clear hr1
        obtain ⟨k, hmq1, hf, hb, hrhr1, hkb1, hkb2, hk⟩ := hI
        have hcrhr1 := Row.caps hrhr1
        have hfn := foldD_len (f := dS) (B := 20) ([m.2.2.2.2.2.2.2.2.2.2.2.1.2.1, m.2.2.2.2.2.2.2.2.2.2.2.1.2.2.1, m.2.2.2.2.2.2.2.2.2.2.2.1.2.2.2.1, m.2.2.2.2.2.2.2.2.2.2.2.1.2.2.2.2.1].take k) (⟨#[100, 121, 108, 105, 110, 107]⟩ : ByteArray) (fun y hy => hd4 y (List.mem_of_mem_take hy)); rw [List.length_take] at hfn
        have hfm : min k 4 ≤ 4 := by omega
        have hfl : (⟨#[100, 121, 108, 105, 110, 107]⟩ : ByteArray).size = 6 := rfl
        have hfz : [m.2.2.2.2.2.2.2.2.2.2.2.1.2.1, m.2.2.2.2.2.2.2.2.2.2.2.1.2.2.1, m.2.2.2.2.2.2.2.2.2.2.2.1.2.2.2.1, m.2.2.2.2.2.2.2.2.2.2.2.1.2.2.2.2.1].length = 4 := rfl
        rw [hfz] at hfn
        have hfq : (foldD dS (⟨#[100, 121, 108, 105, 110, 107]⟩ : ByteArray) ([m.2.2.2.2.2.2.2.2.2.2.2.1.2.1, m.2.2.2.2.2.2.2.2.2.2.2.1.2.2.1, m.2.2.2.2.2.2.2.2.2.2.2.1.2.2.2.1, m.2.2.2.2.2.2.2.2.2.2.2.1.2.2.2.2.1].take k)).size ≤ 100 := by omega
        refine wp_seq_k (fun K9 hK9 => ?_)
        refine wp_region_lit ?_
        refine sqv hf (r_lt rfl rfl) rfl rfl rfl ?_; clear hf fa; intro fa hf
        apply wpList_nil
        (try simp only [Exit.then, Exit.inBlock, ↓reduceIte, Nat.reduceEqDiff])
        refine hK9 _ _ ?_
        refine wp_seq_k (fun K10 hK10 => ?_)
        refine wp_cond_split (t := (decide (((k : Nat) : Int) < (4 : Int)))) (hf.ev rfl) (fun hqt32_1 => ?_) (fun hqt32_1 => ?_)
        · have hqt32_1b := hqt32_1
          try simp only [decide_eq_true_eq, Bool.and_eq_true, Bool.or_eq_true, Bool.not_eq_true', decide_eq_false_iff_not, ne_eq, Bool.not_eq_true] at hqt32_1
          refine wp_skip ?_
          (try simp only [Exit.then, Exit.inBlock, ↓reduceIte, Nat.reduceEqDiff])
          refine hK10 _ _ ?_
          refine wp_seq_k (fun K11 hK11 => ?_)
          refine wp_block ?_
          refine wp_seq_k (fun K12 hK12 => ?_)
          obtain ⟨y4, hy4, hy4c⟩ := four_at (a1 := m.2.2.2.2.2.2.2.2.2.2.2.1.2.1) (a2 := m.2.2.2.2.2.2.2.2.2.2.2.1.2.2.1) (a3 := m.2.2.2.2.2.2.2.2.2.2.2.1.2.2.2.1) (a4 := m.2.2.2.2.2.2.2.2.2.2.2.1.2.2.2.2.1) (k := k) (by omega)
          have hy4r : 0 ≤ y4 ∧ y4 < 4294967296 := by rcases hy4c with rfl | rfl | rfl | rfl <;> assumption
          have hy4l := dS_len (n := y4) (inI_u32 (by omega))
          have hst5 := foldD_snoc (f := dS) (s := (⟨#[100, 121, 108, 105, 110, 107]⟩ : ByteArray)) hy4
          refine wp_region_lit ?_
          have hy1 : ([m.2.2.2.2.2.2.2.2.2.2.2.1.2.1, m.2.2.2.2.2.2.2.2.2.2.2.1.2.2.1, m.2.2.2.2.2.2.2.2.2.2.2.1.2.2.2.1, m.2.2.2.2.2.2.2.2.2.2.2.1.2.2.2.2.1])[k]? = some y4 := hy4
          have hel1 := RdS.at (Row.rd (by intros; rfl) hrhr1) hy1
          obtain ⟨_, _, hab, hlr1, hel1⟩ := hel1
          cases hab
          refine sqv hf (r_ixa (sz := 1) (j := k) rfl rfl Try.underlying24 (by kernel_rfl) rfl (by omega) rfl) rfl rfl rfl ?_; clear hf fa; intro fa hf
          refine sqv hf (r_load (v := (.int .u32 y4)) rfl Try.underlying31 rfl (cellsAt_cell hel1 (i := 0) rfl rfl)) rfl rfl rfl ?_; clear hf fa; intro fa hf
          refine sqv hf (r_assign rfl) rfl rfl rfl ?_; clear hf fa; intro fa hf
          apply wpList_nil
          (try simp only [Exit.then, Exit.inBlock, ↓reduceIte, Nat.reduceEqDiff])
          refine hK12 _ _ ?_
          refine wp_region_lit ?_
          refine sqv hf (r_move rfl) rfl rfl rfl ?_; clear hf fa; intro fa hf
          refine sqv hf (r_move rfl) rfl rfl rfl ?_; clear hf fa; intro fa hf
          refine sqv hf (r_conv (C := y4) rfl Try.underlying31 Try.underlying63 (by rw [IntKind.wrap_u64]; omega)) rfl rfl rfl ?_; clear hf fa; intro fa hf
          refine sqdt hf (d_callB (vs := [(.int .u64 y4)]) rfl Try.func40 (by kernel_rfl) (by kernel_rfl) (nat46_any y4 _ (by omega))) rfl rfl rfl ?_; clear hf fa; rintro fa _ w6 ⟨rfl, he4⟩ hf
          replace hkb1 := blk_ext hkb1 he4
          replace hkb2 := blk_ext hkb2 he4
          replace hrhr1 := Row.ext hrhr1 he4
          replace hb := hb.trans (Below.mono he4 hb.size)
          refine sqv hf (r_sadd rfl rfl (by have : ((⟨#[32]⟩) : ByteArray).size = 1 := rfl; omega)) rfl rfl rfl ?_; clear hf fa; intro fa hf
          refine sqv hf (r_sadd rfl rfl (by have : ((⟨#[32]⟩) : ByteArray).size = 1 := rfl; have := sz_app (⟨#[32]⟩ : ByteArray) (dS y4); omega)) rfl rfl rfl ?_; clear hf fa; intro fa hf
          refine sqv hf (r_assign rfl) rfl rfl rfl ?_; clear hf fa; intro fa hf
          apply wpList_nil
          (try simp only [Exit.then, Exit.inBlock, ↓reduceIte, Nat.reduceEqDiff])
          refine hK11 _ _ ?_
          refine wp_region_lit ?_
          refine sqv hf (r_add (C := (((k : Nat) : Int) + (1 : Int))) rfl rfl (by rw [IntKind.wrap_i64]; omega)) rfl rfl rfl ?_; clear hf fa; intro fa hf
          refine sqv hf (r_move rfl) rfl rfl rfl ?_; clear hf fa; intro fa hf
          apply wpList_nil
          (try simp only [Exit.then, Exit.inBlock, ↓reduceIte, Nat.reduceEqDiff])
          refine hKL1 _ _ _ (by omega) ⟨(k + 1), rfl, hf.sub ⟨rfl, rfl, (some_str (by first | rfl | assumption | simp)), rfl, (some_int (by first | rfl | omega)), rfl, rfl, trivial⟩, hb, hrhr1, hkb1, hkb2, by omega⟩
        · have hqt32_1b := hqt32_1
          replace hqt32_1 := Bool.eq_false_iff.1 hqt32_1
          try simp only [ne_eq, decide_eq_true_eq, Bool.and_eq_true, Bool.or_eq_true, Bool.not_eq_true', decide_eq_false_iff_not] at hqt32_1
          refine wp_exit ?_
          (try simp only [Exit.then, Exit.inBlock, ↓reduceIte, Nat.reduceEqDiff])
          refine hK7 _ _ ?_
          refine wp_seq_k (fun K13 hK13 => ?_)
          refine wp_seq_k (fun K14 hK14 => ?_)
          have hst5 : foldD dS (⟨#[100, 121, 108, 105, 110, 107]⟩ : ByteArray) ([m.2.2.2.2.2.2.2.2.2.2.2.1.2.1, m.2.2.2.2.2.2.2.2.2.2.2.1.2.2.1, m.2.2.2.2.2.2.2.2.2.2.2.1.2.2.2.1, m.2.2.2.2.2.2.2.2.2.2.2.1.2.2.2.2.1].take k) = foldD shS (foldD dS (⟨#[100, 121, 108, 105, 110, 107]⟩ : ByteArray) [m.2.2.2.2.2.2.2.2.2.2.2.1.2.1, m.2.2.2.2.2.2.2.2.2.2.2.1.2.2.1, m.2.2.2.2.2.2.2.2.2.2.2.1.2.2.2.1, m.2.2.2.2.2.2.2.2.2.2.2.1.2.2.2.2.1]) (m.2.2.2.2.2.2.2.2.2.2.2.1.2.2.2.2.2.1.list.take 0) := by rw [List.take_of_length_le (show [m.2.2.2.2.2.2.2.2.2.2.2.1.2.1, m.2.2.2.2.2.2.2.2.2.2.2.1.2.2.1, m.2.2.2.2.2.2.2.2.2.2.2.1.2.2.2.1, m.2.2.2.2.2.2.2.2.2.2.2.1.2.2.2.2.1].length ≤ k by show 4 ≤ k; omega)]; rfl
          refine wp_region_lit ?_
          refine sqv hf (r_fa rfl Try.underlying34 (f := 5) (q := 5) rfl (by kernel_rfl) rfl) rfl rfl rfl ?_; clear hf fa; intro fa hf
          refine sqv hf (r_load (v := (.slice m.2.2.2.2.2.2.2.2.2.2.2.1.2.2.2.2.2.1.at' m.2.2.2.2.2.2.2.2.2.2.2.1.2.2.2.2.2.1.len m.2.2.2.2.2.2.2.2.2.2.2.1.2.2.2.2.2.1.cap)) rfl Try.underlying32 rfl (cell_blk hkb2 rfl)) rfl rfl rfl ?_; clear hf fa; intro fa hf
          refine sqv hf (r_lensl rfl Try.underlying32) rfl rfl rfl ?_; clear hf fa; intro fa hf
          refine sqv hf (r_move rfl) rfl rfl rfl ?_; clear hf fa; intro fa hf
          apply wpList_nil
          (try simp only [Exit.then, Exit.inBlock, ↓reduceIte, Nat.reduceEqDiff])
          refine hK14 _ _ ?_
          refine wp_block ?_
          refine wp_loop_k (fun mq fa wr => ∃ (k : Nat), mq = m.2.2.2.2.2.2.2.2.2.2.2.1.2.2.2.2.2.1.len - k ∧ Fr 154 fa [(1, (.pointer (some ⟨b1, 0, none⟩))), (3, (.slice none 0 0)), (5, (.string (foldD shS (foldD dS (⟨#[100, 121, 108, 105, 110, 107]⟩ : ByteArray) [m.2.2.2.2.2.2.2.2.2.2.2.1.2.1, m.2.2.2.2.2.2.2.2.2.2.2.1.2.2.1, m.2.2.2.2.2.2.2.2.2.2.2.1.2.2.2.1, m.2.2.2.2.2.2.2.2.2.2.2.1.2.2.2.2.1]) (m.2.2.2.2.2.2.2.2.2.2.2.1.2.2.2.2.2.1.list.take k)))), (43, (.slice m.2.2.2.2.2.2.2.2.2.2.2.1.2.2.2.2.2.1.at' m.2.2.2.2.2.2.2.2.2.2.2.1.2.2.2.2.2.1.len m.2.2.2.2.2.2.2.2.2.2.2.1.2.2.2.2.2.1.cap)), (44, (.int .i64 ((m.2.2.2.2.2.2.2.2.2.2.2.1.2.2.2.2.2.1.len : Nat) : Int))), (45, (.int .i64 ((k : Nat) : Int)))] ∧ Below w.heap.size w wr ∧ wr.heap[b1]? = some (.cells #[(.slice m.1.at' m.1.len m.1.cap), (.slice m.2.1.at' m.2.1.len m.2.1.cap), (.slice m.2.2.1.at' m.2.2.1.len m.2.2.1.cap), (.slice m.2.2.2.1.at' m.2.2.2.1.len m.2.2.2.1.cap), (.slice m.2.2.2.2.1.at' m.2.2.2.2.1.len m.2.2.2.2.1.cap), (.slice m.2.2.2.2.2.1.at' m.2.2.2.2.2.1.len m.2.2.2.2.2.1.cap), (.slice m.2.2.2.2.2.2.1.at' m.2.2.2.2.2.2.1.len m.2.2.2.2.2.2.1.cap), (.int .i64 m.2.2.2.2.2.2.2.1), (.slice m.2.2.2.2.2.2.2.2.1.at' m.2.2.2.2.2.2.2.2.1.len m.2.2.2.2.2.2.2.2.1.cap), (.slice m.2.2.2.2.2.2.2.2.2.1.at' m.2.2.2.2.2.2.2.2.2.1.len m.2.2.2.2.2.2.2.2.2.1.cap), (.slice m.2.2.2.2.2.2.2.2.2.2.1.at' m.2.2.2.2.2.2.2.2.2.2.1.len m.2.2.2.2.2.2.2.2.2.2.1.cap), (.bool m.2.2.2.2.2.2.2.2.2.2.2.1.1), (.int .u32 m.2.2.2.2.2.2.2.2.2.2.2.1.2.1), (.int .u32 m.2.2.2.2.2.2.2.2.2.2.2.1.2.2.1), (.int .u32 m.2.2.2.2.2.2.2.2.2.2.2.1.2.2.2.1), (.int .u32 m.2.2.2.2.2.2.2.2.2.2.2.1.2.2.2.2.1), (.slice m.2.2.2.2.2.2.2.2.2.2.2.1.2.2.2.2.2.1.at' m.2.2.2.2.2.2.2.2.2.2.2.1.2.2.2.2.2.1.len m.2.2.2.2.2.2.2.2.2.2.2.1.2.2.2.2.2.1.cap)] 36 (0, 0)) ∧ (k ≤ m.2.2.2.2.2.2.2.2.2.2.2.1.2.2.2.2.2.1.len)) ?_ ?_
          · skip
            exact ⟨_, 0, rfl, hf.sub ⟨rfl, rfl, (some_str (by first | rfl | assumption | simp)), rfl, rfl, (some_int (by first | rfl | omega)), trivial⟩, hb, hkb1, by omega⟩
          · skip
            clear hf fa; intro mq2 fa w7 hI KL2 hKL2
            clear hb
            clear hkb1
            clear hkb2
            clear hrhr1
            obtain ⟨k, hmq2, hf, hb, hkb1, hk⟩ := hI
            have hfn := foldD_len (f := shS) (B := 902) (m.2.2.2.2.2.2.2.2.2.2.2.1.2.2.2.2.2.1.list.take k) (foldD dS (⟨#[100, 121, 108, 105, 110, 107]⟩ : ByteArray) [m.2.2.2.2.2.2.2.2.2.2.2.1.2.1, m.2.2.2.2.2.2.2.2.2.2.2.1.2.2.1, m.2.2.2.2.2.2.2.2.2.2.2.1.2.2.2.1, m.2.2.2.2.2.2.2.2.2.2.2.1.2.2.2.2.1]) (fun y hy => hdN y (List.mem_of_mem_take hy)); rw [List.length_take, Sl.list_length] at hfn
            have hfm : min k m.2.2.2.2.2.2.2.2.2.2.2.1.2.2.2.2.2.1.len ≤ 20 := by omega
            have hfq : (foldD shS (foldD dS (⟨#[100, 121, 108, 105, 110, 107]⟩ : ByteArray) [m.2.2.2.2.2.2.2.2.2.2.2.1.2.1, m.2.2.2.2.2.2.2.2.2.2.2.1.2.2.1, m.2.2.2.2.2.2.2.2.2.2.2.1.2.2.2.1, m.2.2.2.2.2.2.2.2.2.2.2.1.2.2.2.2.1]) (m.2.2.2.2.2.2.2.2.2.2.2.1.2.2.2.2.2.1.list.take k)).size ≤ 20000 := by omega
            refine wp_seq_k (fun K15 hK15 => ?_)
            refine wp_region_lit ?_
            refine sqv hf (r_lt rfl rfl) rfl rfl rfl ?_; clear hf fa; intro fa hf
            apply wpList_nil
            (try simp only [Exit.then, Exit.inBlock, ↓reduceIte, Nat.reduceEqDiff])
            refine hK15 _ _ ?_
            refine wp_seq_k (fun K16 hK16 => ?_)
            refine wp_cond_split (t := (decide (((k : Nat) : Int) < ((m.2.2.2.2.2.2.2.2.2.2.2.1.2.2.2.2.2.1.len : Nat) : Int)))) (hf.ev rfl) (fun hqt46_1 => ?_) (fun hqt46_1 => ?_)
            · have hqt46_1b := hqt46_1
              try simp only [decide_eq_true_eq, Bool.and_eq_true, Bool.or_eq_true, Bool.not_eq_true', decide_eq_false_iff_not, ne_eq, Bool.not_eq_true] at hqt46_1
              refine wp_skip ?_
              (try simp only [Exit.then, Exit.inBlock, ↓reduceIte, Nat.reduceEqDiff])
              refine hK16 _ _ ?_
              refine wp_seq_k (fun K17 hK17 => ?_)
              refine wp_block ?_
              refine wp_seq_k (fun K18 hK18 => ?_)
              obtain ⟨y, hy⟩ : ∃ y, m.2.2.2.2.2.2.2.2.2.2.2.1.2.2.2.2.2.1.list[k]? = some y := ⟨_, List.getElem?_eq_getElem (by rw [Sl.list_length]; omega)⟩
              have hym := List.mem_of_getElem? hy
              have hy1 := hT4 y hym
              have hs1 := shS_len y
              have hst5 := foldD_snoc (f := shS) (s := (foldD dS (⟨#[100, 121, 108, 105, 110, 107]⟩ : ByteArray) [m.2.2.2.2.2.2.2.2.2.2.2.1.2.1, m.2.2.2.2.2.2.2.2.2.2.2.1.2.2.1, m.2.2.2.2.2.2.2.2.2.2.2.1.2.2.2.1, m.2.2.2.2.2.2.2.2.2.2.2.1.2.2.2.2.1])) hy
              refine wp_region_lit ?_
              have hy2 : (m.2.2.2.2.2.2.2.2.2.2.2.1.2.2.2.2.2.1.list)[k]? = some y := hy
              obtain ⟨ab1, aoff1, hat1, hlb1, hel2⟩ := RdS.at (RdS.of_arg g.2.2.2.2.2.2.2.2.2.2.2.1.2.2.2.2.2.1.2) hy2
              refine sqv hf (r_ixa (sz := 1) (j := k) (evAt rfl hat1) rfl Try.underlying32 (by kernel_rfl) rfl (by omega) rfl) rfl rfl rfl ?_; clear hf fa; intro fa hf
              refine sqv hf (r_load (v := (.string y)) rfl Try.underlying9 rfl (cellsAt_cell (cellsAt_below hel2 hb hlb1) (i := 0) rfl rfl)) rfl rfl rfl ?_; clear hf fa; intro fa hf
              refine sqv hf (r_assign rfl) rfl rfl rfl ?_; clear hf fa; intro fa hf
              apply wpList_nil
              (try simp only [Exit.then, Exit.inBlock, ↓reduceIte, Nat.reduceEqDiff])
              refine hK18 _ _ ?_
              refine wp_region_lit ?_
              refine sqv hf (r_move rfl) rfl rfl rfl ?_; clear hf fa; intro fa hf
              refine sqv hf (r_move rfl) rfl rfl rfl ?_; clear hf fa; intro fa hf
              refine sqdt hf (d_callB (vs := [(.string y)]) rfl Try.func41 (by kernel_rfl) (by kernel_rfl) (showS_any y _ (by omega))) rfl rfl rfl ?_; clear hf fa; rintro fa _ w8 ⟨rfl, he5⟩ hf
              replace hkb1 := blk_ext hkb1 he5
              replace hb := hb.trans (Below.mono he5 hb.size)
              refine sqv hf (r_sadd rfl rfl (by have : ((⟨#[32]⟩) : ByteArray).size = 1 := rfl; omega)) rfl rfl rfl ?_; clear hf fa; intro fa hf
              refine sqv hf (r_sadd rfl rfl (by have : ((⟨#[32]⟩) : ByteArray).size = 1 := rfl; have := sz_app (⟨#[32]⟩ : ByteArray) (shS y); omega)) rfl rfl rfl ?_; clear hf fa; intro fa hf
              refine sqv hf (r_assign rfl) rfl rfl rfl ?_; clear hf fa; intro fa hf
              apply wpList_nil
              (try simp only [Exit.then, Exit.inBlock, ↓reduceIte, Nat.reduceEqDiff])
              refine hK17 _ _ ?_
              refine wp_region_lit ?_
              refine sqv hf (r_add (C := (((k : Nat) : Int) + (1 : Int))) rfl rfl (by rw [IntKind.wrap_i64]; omega)) rfl rfl rfl ?_; clear hf fa; intro fa hf
              refine sqv hf (r_move rfl) rfl rfl rfl ?_; clear hf fa; intro fa hf
              apply wpList_nil
              (try simp only [Exit.then, Exit.inBlock, ↓reduceIte, Nat.reduceEqDiff])
              refine hKL2 _ _ _ (by omega) ⟨(k + 1), rfl, hf.sub ⟨rfl, rfl, (some_str (by first | rfl | assumption | simp)), rfl, rfl, (some_int (by first | rfl | omega)), trivial⟩, hb, hkb1, by omega⟩
            · have hqt46_1b := hqt46_1
              replace hqt46_1 := Bool.eq_false_iff.1 hqt46_1
              try simp only [ne_eq, decide_eq_true_eq, Bool.and_eq_true, Bool.or_eq_true, Bool.not_eq_true', decide_eq_false_iff_not] at hqt46_1
              refine wp_exit ?_
              (try simp only [Exit.then, Exit.inBlock, ↓reduceIte, Nat.reduceEqDiff])
              refine hK13 _ _ ?_
              refine wp_region_lit ?_
              refine sqv hf (r_move rfl) rfl rfl rfl ?_; clear hf fa; intro fa hf
              refine sqv hf (r_move rfl) rfl rfl rfl ?_; clear hf fa; intro fa hf
              refine sqdt hf (d_bslice (z := (.string ⟨#[]⟩)) (sz := 1) (vs := [(0, (.string (foldD shS (foldD dS (⟨#[100, 121, 108, 105, 110, 107]⟩ : ByteArray) [m.2.2.2.2.2.2.2.2.2.2.2.1.2.1, m.2.2.2.2.2.2.2.2.2.2.2.1.2.2.1, m.2.2.2.2.2.2.2.2.2.2.2.1.2.2.2.1, m.2.2.2.2.2.2.2.2.2.2.2.1.2.2.2.2.1]) (m.2.2.2.2.2.2.2.2.2.2.2.1.2.2.2.2.2.1.list.take k))))]) (cs := #[(.string (foldD shS (foldD dS (⟨#[100, 121, 108, 105, 110, 107]⟩ : ByteArray) [m.2.2.2.2.2.2.2.2.2.2.2.1.2.1, m.2.2.2.2.2.2.2.2.2.2.2.1.2.2.1, m.2.2.2.2.2.2.2.2.2.2.2.1.2.2.2.1, m.2.2.2.2.2.2.2.2.2.2.2.1.2.2.2.2.1]) (m.2.2.2.2.2.2.2.2.2.2.2.1.2.2.2.2.2.1.list.take k)))]) rfl Try.underlying32 (by kernel_rfl) rfl (by kernel_rfl)) rfl rfl rfl ?_; clear hf fa; rintro fa _ w9 ⟨b4, rfl, hle4, hk5, he6⟩ hf
              have hBb4 : w.heap.size ≤ b4 := Nat.le_trans hb.size hle4
              have : b1 < b4 := Nat.lt_of_lt_of_le (blk_lt hkb1) hle4
              replace hkb1 := blk_ext hkb1 he6
              replace hb := hb.trans (Below.mono he6 hb.size)
              have hr2 : Row 1 vStr 9 (w.heap.size) w9 (.slice none 0 0) [] := Row.nil
              have hs1 := Row.rd (by intros; rfl) (Row.of_new (k := 1) (V := vStr) (l := [(foldD shS (foldD dS (⟨#[100, 121, 108, 105, 110, 107]⟩ : ByteArray) [m.2.2.2.2.2.2.2.2.2.2.2.1.2.1, m.2.2.2.2.2.2.2.2.2.2.2.1.2.2.1, m.2.2.2.2.2.2.2.2.2.2.2.1.2.2.2.1, m.2.2.2.2.2.2.2.2.2.2.2.1.2.2.2.2.1]) (m.2.2.2.2.2.2.2.2.2.2.2.1.2.2.2.2.2.1.list.take k))]) hk5 (Nat.le_refl _) rfl rfl (Nat.le_of_ble_eq_true rfl))
              refine sqdt hf (d_append (V := vStr) (k := 1) (e := 9) (bytes := 16) (z := (.string ⟨#[]⟩)) (news := [(foldD shS (foldD dS (⟨#[100, 121, 108, 105, 110, 107]⟩ : ByteArray) [m.2.2.2.2.2.2.2.2.2.2.2.1.2.1, m.2.2.2.2.2.2.2.2.2.2.2.1.2.2.1, m.2.2.2.2.2.2.2.2.2.2.2.1.2.2.2.1, m.2.2.2.2.2.2.2.2.2.2.2.1.2.2.2.2.1]) (m.2.2.2.2.2.2.2.2.2.2.2.1.2.2.2.2.2.1.list.take k))]) (base := w.heap.size) (by intros; rfl) (by intro x u hu; simp only [vStr, List.mem_singleton] at hu; subst hu; rfl) rfl rfl Try.underlying32 (by kernel_rfl) rfl rfl rfl hr2 hs1 rfl (fun h => by cases h) (by first | omega | (simp only [List.length_cons, List.length_nil, List.length_append, nums_len, List.length_map, List.length_take, Sl.list_length]; omega)) (by have := hb.size; omega)) rfl rfl rfl ?_; clear hf fa; rintro fa v w10 ⟨hr3, hg2⟩ hf; obtain ⟨ra1, rc1, rfl, hcrc1, hmrc1⟩ := Row.slice hr3
              replace hkb1 := blk_row' hkb1 hg2 (Row.ne_type hr2 hkb1 rfl)
              replace hb := hb.trans (row_below hr2 hg2 hb.size (by have := hb.size; omega))
              simp only [List.nil_append] at hr3
              refine sqv hf (r_assign rfl) rfl rfl rfl ?_; clear hf fa; intro fa hf
              apply wpList_nil
              (try simp only [Exit.then, Exit.inBlock, ↓reduceIte, Nat.reduceEqDiff])
              have hhd := congrArg List.length (hd_yes hqt18_1 (k := k) (by omega)); rw [List.length_singleton] at hhd
              exact hKC1 _ _ ⟨ra1, rc1, hf.sub ⟨rfl, (some_sl (by first | omega | rfl | (simp only [List.length_append, List.length_cons, List.length_nil]; omega) | (simp <;> omega)) rfl), trivial⟩, hb, (rowToE hr3 (hd_yes hqt18_1 (by omega))), hkb1⟩
    · have hqt18_1b := hqt18_1
      replace hqt18_1 := Bool.eq_false_iff.1 hqt18_1
      try simp only [ne_eq, decide_eq_true_eq, Bool.and_eq_true, Bool.or_eq_true, Bool.not_eq_true', decide_eq_false_iff_not] at hqt18_1
      refine wp_skip ?_
      (try simp only [Exit.then, Exit.inBlock, ↓reduceIte, Nat.reduceEqDiff])
      have hhd : 0 = (hdL m).length := congrArg List.length (hd_no (by simpa using hqt18_1))
      exact hKC1 _ _ ⟨none, 0, hf.sub ⟨rfl, (some_sl (by first | omega | rfl | (simp only [List.length_append, List.length_cons, List.length_nil]; omega) | (simp <;> omega)) rfl), trivial⟩, hb, (rowToE (l := []) Row.nil (hd_no (by simpa using hqt18_1))), hk1⟩
  · clear hf hb fa hk1
    rintro fa w11 ⟨roa, roc, hf, hb, hro, hkb1⟩
    have hcro := Row.caps hro
    refine wp_seq_k (fun K19 hK19 => ?_)
    refine wp_seq_k (fun K20 hK20 => ?_)
    refine wp_region_lit ?_
    refine sqv hf (r_fa rfl Try.underlying36 (f := 0) (q := 0) rfl (by kernel_rfl) rfl) rfl rfl rfl ?_; clear hf fa; intro fa hf
    refine sqv hf (r_load (v := (.slice m.1.at' m.1.len m.1.cap)) rfl Try.underlying22 rfl (cell_blk hkb1 rfl)) rfl rfl rfl ?_; clear hf fa; intro fa hf
    refine sqv hf (r_lensl rfl Try.underlying22) rfl rfl rfl ?_; clear hf fa; intro fa hf
    refine sqv hf (r_move rfl) rfl rfl rfl ?_; clear hf fa; intro fa hf
    apply wpList_nil
    (try simp only [Exit.then, Exit.inBlock, ↓reduceIte, Nat.reduceEqDiff])
    refine hK20 _ _ ?_
    refine wp_block ?_
    refine wp_loop_k (fun mq fa wr => ∃ (k : Nat) (roa : Option Addr) (roc : Nat), mq = m.1.len - k ∧ Fr 154 fa [(1, (.pointer (some ⟨b1, 0, none⟩))), (60, (.slice m.1.at' m.1.len m.1.cap)), (61, (.int .i64 ((m.1.len : Nat) : Int))), (62, (.int .i64 ((k : Nat) : Int))), (3, (.slice roa (((hdL m ++ (m.1.list.take k).map tyLn)).length) roc))] ∧ Below w.heap.size w wr ∧ Row 1 vStr 9 (w.heap.size) wr (.slice roa (((hdL m ++ (m.1.list.take k).map tyLn)).length) roc) (hdL m ++ (m.1.list.take k).map tyLn) ∧ wr.heap[b1]? = some (.cells #[(.slice m.1.at' m.1.len m.1.cap), (.slice m.2.1.at' m.2.1.len m.2.1.cap), (.slice m.2.2.1.at' m.2.2.1.len m.2.2.1.cap), (.slice m.2.2.2.1.at' m.2.2.2.1.len m.2.2.2.1.cap), (.slice m.2.2.2.2.1.at' m.2.2.2.2.1.len m.2.2.2.2.1.cap), (.slice m.2.2.2.2.2.1.at' m.2.2.2.2.2.1.len m.2.2.2.2.2.1.cap), (.slice m.2.2.2.2.2.2.1.at' m.2.2.2.2.2.2.1.len m.2.2.2.2.2.2.1.cap), (.int .i64 m.2.2.2.2.2.2.2.1), (.slice m.2.2.2.2.2.2.2.2.1.at' m.2.2.2.2.2.2.2.2.1.len m.2.2.2.2.2.2.2.2.1.cap), (.slice m.2.2.2.2.2.2.2.2.2.1.at' m.2.2.2.2.2.2.2.2.2.1.len m.2.2.2.2.2.2.2.2.2.1.cap), (.slice m.2.2.2.2.2.2.2.2.2.2.1.at' m.2.2.2.2.2.2.2.2.2.2.1.len m.2.2.2.2.2.2.2.2.2.2.1.cap), (.bool m.2.2.2.2.2.2.2.2.2.2.2.1.1), (.int .u32 m.2.2.2.2.2.2.2.2.2.2.2.1.2.1), (.int .u32 m.2.2.2.2.2.2.2.2.2.2.2.1.2.2.1), (.int .u32 m.2.2.2.2.2.2.2.2.2.2.2.1.2.2.2.1), (.int .u32 m.2.2.2.2.2.2.2.2.2.2.2.1.2.2.2.2.1), (.slice m.2.2.2.2.2.2.2.2.2.2.2.1.2.2.2.2.2.1.at' m.2.2.2.2.2.2.2.2.2.2.2.1.2.2.2.2.2.1.len m.2.2.2.2.2.2.2.2.2.2.2.1.2.2.2.2.2.1.cap)] 36 (0, 0)) ∧ (k ≤ m.1.len)) ?_ ?_
    · skip
      exact ⟨_, 0, roa, roc, rfl, hf.sub ⟨rfl, rfl, rfl, (some_int (by first | rfl | omega)), (some_sl (by first | omega | rfl | (simp only [List.length_append, List.length_cons, List.length_nil]; omega) | (simp <;> omega)) rfl), trivial⟩, hb, (rowToE hro (by simp)), hkb1, by omega⟩
    · skip
      clear hf fa; intro mq3 fa w12 hI KL3 hKL3
      clear hb
      clear hkb1
      clear hro
      obtain ⟨k, roa, roc, hmq3, hf, hb, hro, hkb1, hk⟩ := hI
      have hcro := Row.caps hro
      have hol : (hdL m ++ (m.1.list.take k).map tyLn).length ≤ 200 := by rw [List.length_append, List.length_map, List.length_take, Sl.list_length]; omega
      refine wp_seq_k (fun K21 hK21 => ?_)
      refine wp_region_lit ?_
      refine sqv hf (r_lt rfl rfl) rfl rfl rfl ?_; clear hf fa; intro fa hf
      apply wpList_nil
      (try simp only [Exit.then, Exit.inBlock, ↓reduceIte, Nat.reduceEqDiff])
      refine hK21 _ _ ?_
      refine wp_seq_k (fun K22 hK22 => ?_)
      refine wp_cond_split (t := (decide (((k : Nat) : Int) < ((m.1.len : Nat) : Int)))) (hf.ev rfl) (fun hqt63_1 => ?_) (fun hqt63_1 => ?_)
      · have hqt63_1b := hqt63_1
        try simp only [decide_eq_true_eq, Bool.and_eq_true, Bool.or_eq_true, Bool.not_eq_true', decide_eq_false_iff_not, ne_eq, Bool.not_eq_true] at hqt63_1
        refine wp_skip ?_
        (try simp only [Exit.then, Exit.inBlock, ↓reduceIte, Nat.reduceEqDiff])
        refine hK22 _ _ ?_
        refine wp_seq_k (fun K23 hK23 => ?_)
        refine wp_block ?_
        refine wp_seq_k (fun K24 hK24 => ?_)
        obtain ⟨y, hy⟩ : ∃ y, m.1.list[k]? = some y := ⟨_, List.getElem?_eq_getElem (by rw [Sl.list_length]; omega)⟩
        have hym := List.mem_of_getElem? hy
        have hy1 := hT1 y hym
        have htx := textP_len y hy1
        refine wp_region_lit ?_
        have hy3 : (m.1.list)[k]? = some y := hy
        obtain ⟨ab2, aoff2, hat2, hlb2, hel3⟩ := RdS.at (RdS.of_arg g.1.2) hy3
        refine sqv hf (r_ixa (sz := 2) (j := k) (evAt rfl hat2) rfl Try.underlying22 (by kernel_rfl) rfl (by omega) rfl) rfl rfl rfl ?_; clear hf fa; intro fa hf
        refine sqv hf (r_loadA (cs := [(.string y.1), (.string y.2.1)]) rfl Try.underlying95 rfl (by kernel_rfl) (cellsAt_below hel3 hb hlb2)) rfl rfl rfl ?_; clear hf fa; intro fa hf
        refine sqdt hf (d_alloc (z := (.agg #[(.string ⟨#[]⟩), (.string ⟨#[]⟩)])) (cs := #[(.string ⟨#[]⟩), (.string ⟨#[]⟩)]) (by kernel_rfl) rfl) rfl rfl rfl ?_; clear hf fa; rintro fa _ w13 ⟨b5, rfl, hle5, hk6, he7⟩ hf
        have hBb5 : w.heap.size ≤ b5 := Nat.le_trans hb.size hle5
        have : b1 < b5 := Nat.lt_of_lt_of_le (blk_lt hkb1) hle5
        replace hkb1 := blk_ext hkb1 he7
        replace hro := Row.ext hro he7
        replace hb := hb.trans (Below.mono he7 hb.size)
        refine sqn hf (d_storeK (T := 95) (v := (.agg #[(.string y.1), (.string y.2.1)])) (cs := #[(.string ⟨#[]⟩), (.string ⟨#[]⟩)]) (cs' := #[(.string y.1), (.string y.2.1)]) rfl rfl (by kernel_rfl) (by kernel_rfl) hk6 (by kernel_rfl) (by kernel_rfl)) rfl rfl ?_; clear hf fa; rintro fa _ w14 ⟨hk7, hg3⟩ hf
        replace hkb1 := blk_grown hkb1 hg3 (by omega)
        replace hro := Row.grown hro hg3 (Row.ne_type hro hk6 rfl)
        replace hb := hb.trans (grown_below hg3 hb.size hBb5)
        apply wpList_nil
        (try simp only [Exit.then, Exit.inBlock, ↓reduceIte, Nat.reduceEqDiff])
        refine hK24 _ _ ?_
        refine wp_region_lit ?_
        refine sqv hf (r_move rfl) rfl rfl rfl ?_; clear hf fa; intro fa hf
        refine sqv hf (r_loadA (cs := [(.string y.1), (.string y.2.1)]) rfl Try.underlying95 rfl (by kernel_rfl) (cellsAt_blk hk7)) rfl rfl rfl ?_; clear hf fa; intro fa hf
        refine sqdt hf (d_callB (vs := [(.agg #[(.string y.1), (.string y.2.1)])]) rfl Try.func42 (by kernel_rfl) (by kernel_rfl) (text_any y _ (by omega) (by omega))) rfl rfl rfl ?_; clear hf fa; rintro fa _ w15 ⟨rfl, he8⟩ hf
        replace hkb1 := blk_ext hkb1 he8
        replace hk7 := blk_ext hk7 he8
        replace hro := Row.ext hro he8
        replace hb := hb.trans (Below.mono he8 hb.size)
        refine sqv hf (r_sadd rfl rfl (by have : ((⟨#[116, 121, 112, 101, 32]⟩) : ByteArray).size = 5 := rfl; omega)) rfl rfl rfl ?_; clear hf fa; intro fa hf
        refine sqdt hf (d_bslice (z := (.string ⟨#[]⟩)) (sz := 1) (vs := [(0, (.string ((⟨#[116, 121, 112, 101, 32]⟩ : ByteArray) ++ (textP y))))]) (cs := #[(.string ((⟨#[116, 121, 112, 101, 32]⟩ : ByteArray) ++ (textP y)))]) rfl Try.underlying32 (by kernel_rfl) rfl (by kernel_rfl)) rfl rfl rfl ?_; clear hf fa; rintro fa _ w16 ⟨b6, rfl, hle6, hk8, he9⟩ hf
        have hBb6 : w.heap.size ≤ b6 := Nat.le_trans hb.size hle6
        have : b1 < b6 := Nat.lt_of_lt_of_le (blk_lt hkb1) hle6
        have : b5 < b6 := Nat.lt_of_lt_of_le (blk_lt hk7) hle6
        have hnr1 : (Value.slice roa ((((hdL m ++ (m.1.list.take k).map tyLn)).length)) roc).ownBlock ≠ some b6 := fun hq => by have := (Row.lt hro _ hq).2; omega
        have hnl1 : ∀ q, (Value.slice roa ((((hdL m ++ (m.1.list.take k).map tyLn)).length)) roc).ownBlock = some q → q < b6 := fun q hq => Nat.lt_of_lt_of_le (Row.lt hro q hq).2 hle6
        replace hkb1 := blk_ext hkb1 he9
        replace hk7 := blk_ext hk7 he9
        replace hro := Row.ext hro he9
        replace hb := hb.trans (Below.mono he9 hb.size)
        have hs2 := Row.rd (by intros; rfl) (Row.of_new (k := 1) (V := vStr) (l := [((⟨#[116, 121, 112, 101, 32]⟩ : ByteArray) ++ (textP y))]) hk8 (Nat.le_refl _) rfl rfl (Nat.le_of_ble_eq_true rfl))
        refine sqdt hf (d_append (V := vStr) (k := 1) (e := 9) (bytes := 16) (z := (.string ⟨#[]⟩)) (news := [((⟨#[116, 121, 112, 101, 32]⟩ : ByteArray) ++ (textP y))]) (base := w.heap.size) (by intros; rfl) (by intro x u hu; simp only [vStr, List.mem_singleton] at hu; subst hu; rfl) rfl rfl Try.underlying32 (by kernel_rfl) rfl rfl rfl hro hs2 rfl (fun h => by cases h) (by first | omega | (simp only [List.length_cons, List.length_nil, List.length_append, nums_len, List.length_map, List.length_take, Sl.list_length]; omega)) (by have := hb.size; omega)) rfl rfl rfl ?_; clear hf fa; rintro fa v w17 ⟨hr4, hg4⟩ hf; obtain ⟨ra2, rc2, rfl, hcrc2, hmrc2⟩ := Row.slice hr4
        replace hkb1 := blk_row' hkb1 hg4 (Row.ne_type hro hkb1 rfl)
        replace hk7 := blk_row' hk7 hg4 (Row.ne_type hro hk7 rfl)
        replace hb := hb.trans (row_below hro hg4 hb.size (by have := hb.size; omega))
        refine sqv hf (r_assign rfl) rfl rfl rfl ?_; clear hf fa; intro fa hf
        apply wpList_nil
        (try simp only [Exit.then, Exit.inBlock, ↓reduceIte, Nat.reduceEqDiff])
        refine hK23 _ _ ?_
        refine wp_region_lit ?_
        refine sqv hf (r_add (C := (((k : Nat) : Int) + (1 : Int))) rfl rfl (by rw [IntKind.wrap_i64]; omega)) rfl rfl rfl ?_; clear hf fa; intro fa hf
        refine sqv hf (r_move rfl) rfl rfl rfl ?_; clear hf fa; intro fa hf
        apply wpList_nil
        (try simp only [Exit.then, Exit.inBlock, ↓reduceIte, Nat.reduceEqDiff])
        have hrl : ((m.1.list.take (k + 1)).map tyLn).length = ((m.1.list.take k).map tyLn).length + 1 := by rw [take_at hy, List.map_append, List.length_append]; rfl
        refine hKL3 _ _ _ (by omega) ⟨(k + 1), ra2, rc2, rfl, hf.sub ⟨rfl, rfl, rfl, (some_int (by first | rfl | omega)), (some_sl (by first | omega | rfl | (simp only [List.length_append, List.length_cons, List.length_nil]; omega) | (simp <;> omega)) rfl), trivial⟩, hb, (rowToE hr4 (map_snoc (f := tyLn) (p := hdL m) hy)), hkb1, by omega⟩
      · have hqt63_1b := hqt63_1
        replace hqt63_1 := Bool.eq_false_iff.1 hqt63_1
        try simp only [ne_eq, decide_eq_true_eq, Bool.and_eq_true, Bool.or_eq_true, Bool.not_eq_true', decide_eq_false_iff_not] at hqt63_1
        refine wp_exit ?_
        (try simp only [Exit.then, Exit.inBlock, ↓reduceIte, Nat.reduceEqDiff])
        refine hK19 _ _ ?_
        refine wp_seq_k (fun K25 hK25 => ?_)
        refine wp_seq_k (fun K26 hK26 => ?_)
        have hq1 : hdL m ++ (m.1.list.take k).map tyLn = tyL m ++ (m.2.1.list.take 0).map imLn := by rw [List.take_of_length_le (by rw [Sl.list_length]; omega), List.take_zero, List.map_nil, List.append_nil]; rfl
        have hq1l := congrArg List.length hq1
        refine wp_region_lit ?_
        refine sqv hf (r_fa rfl Try.underlying36 (f := 1) (q := 1) rfl (by kernel_rfl) rfl) rfl rfl rfl ?_; clear hf fa; intro fa hf
        refine sqv hf (r_load (v := (.slice m.2.1.at' m.2.1.len m.2.1.cap)) rfl Try.underlying23 rfl (cell_blk hkb1 rfl)) rfl rfl rfl ?_; clear hf fa; intro fa hf
        refine sqv hf (r_lensl rfl Try.underlying23) rfl rfl rfl ?_; clear hf fa; intro fa hf
        refine sqv hf (r_move rfl) rfl rfl rfl ?_; clear hf fa; intro fa hf
        apply wpList_nil
        (try simp only [Exit.then, Exit.inBlock, ↓reduceIte, Nat.reduceEqDiff])
        refine hK26 _ _ ?_
        refine wp_block ?_
        refine wp_loop_k (fun mq fa wr => ∃ (k : Nat) (roa : Option Addr) (roc : Nat), mq = m.2.1.len - k ∧ Fr 154 fa [(1, (.pointer (some ⟨b1, 0, none⟩))), (74, (.slice m.2.1.at' m.2.1.len m.2.1.cap)), (75, (.int .i64 ((m.2.1.len : Nat) : Int))), (76, (.int .i64 ((k : Nat) : Int))), (3, (.slice roa (((tyL m ++ (m.2.1.list.take k).map imLn)).length) roc))] ∧ Below w.heap.size w wr ∧ Row 1 vStr 9 (w.heap.size) wr (.slice roa (((tyL m ++ (m.2.1.list.take k).map imLn)).length) roc) (tyL m ++ (m.2.1.list.take k).map imLn) ∧ wr.heap[b1]? = some (.cells #[(.slice m.1.at' m.1.len m.1.cap), (.slice m.2.1.at' m.2.1.len m.2.1.cap), (.slice m.2.2.1.at' m.2.2.1.len m.2.2.1.cap), (.slice m.2.2.2.1.at' m.2.2.2.1.len m.2.2.2.1.cap), (.slice m.2.2.2.2.1.at' m.2.2.2.2.1.len m.2.2.2.2.1.cap), (.slice m.2.2.2.2.2.1.at' m.2.2.2.2.2.1.len m.2.2.2.2.2.1.cap), (.slice m.2.2.2.2.2.2.1.at' m.2.2.2.2.2.2.1.len m.2.2.2.2.2.2.1.cap), (.int .i64 m.2.2.2.2.2.2.2.1), (.slice m.2.2.2.2.2.2.2.2.1.at' m.2.2.2.2.2.2.2.2.1.len m.2.2.2.2.2.2.2.2.1.cap), (.slice m.2.2.2.2.2.2.2.2.2.1.at' m.2.2.2.2.2.2.2.2.2.1.len m.2.2.2.2.2.2.2.2.2.1.cap), (.slice m.2.2.2.2.2.2.2.2.2.2.1.at' m.2.2.2.2.2.2.2.2.2.2.1.len m.2.2.2.2.2.2.2.2.2.2.1.cap), (.bool m.2.2.2.2.2.2.2.2.2.2.2.1.1), (.int .u32 m.2.2.2.2.2.2.2.2.2.2.2.1.2.1), (.int .u32 m.2.2.2.2.2.2.2.2.2.2.2.1.2.2.1), (.int .u32 m.2.2.2.2.2.2.2.2.2.2.2.1.2.2.2.1), (.int .u32 m.2.2.2.2.2.2.2.2.2.2.2.1.2.2.2.2.1), (.slice m.2.2.2.2.2.2.2.2.2.2.2.1.2.2.2.2.2.1.at' m.2.2.2.2.2.2.2.2.2.2.2.1.2.2.2.2.2.1.len m.2.2.2.2.2.2.2.2.2.2.2.1.2.2.2.2.2.1.cap)] 36 (0, 0)) ∧ (k ≤ m.2.1.len)) ?_ ?_
        · skip
          exact ⟨_, 0, roa, roc, rfl, hf.sub ⟨rfl, rfl, rfl, (some_int (by first | rfl | omega)), (some_sl (by first | omega | rfl | (simp only [List.length_append, List.length_cons, List.length_nil]; omega) | (simp <;> omega)) rfl), trivial⟩, hb, (rowToE hro hq1), hkb1, by omega⟩
        · skip
          clear hf fa; intro mq4 fa w18 hI KL4 hKL4
          clear hb
          clear hkb1
          clear hro
          obtain ⟨k, roa, roc, hmq4, hf, hb, hro, hkb1, hk⟩ := hI
          have hcro := Row.caps hro
          have hol : (tyL m ++ (m.2.1.list.take k).map imLn).length ≤ 200 := by rw [List.length_append, List.length_map, List.length_take, Sl.list_length]; omega
          refine wp_seq_k (fun K27 hK27 => ?_)
          refine wp_region_lit ?_
          refine sqv hf (r_lt rfl rfl) rfl rfl rfl ?_; clear hf fa; intro fa hf
          apply wpList_nil
          (try simp only [Exit.then, Exit.inBlock, ↓reduceIte, Nat.reduceEqDiff])
          refine hK27 _ _ ?_
          refine wp_seq_k (fun K28 hK28 => ?_)
          refine wp_cond_split (t := (decide (((k : Nat) : Int) < ((m.2.1.len : Nat) : Int)))) (hf.ev rfl) (fun hqt77_1 => ?_) (fun hqt77_1 => ?_)
          · have hqt77_1b := hqt77_1
            try simp only [decide_eq_true_eq, Bool.and_eq_true, Bool.or_eq_true, Bool.not_eq_true', decide_eq_false_iff_not, ne_eq, Bool.not_eq_true] at hqt77_1
            refine wp_skip ?_
            (try simp only [Exit.then, Exit.inBlock, ↓reduceIte, Nat.reduceEqDiff])
            refine hK28 _ _ ?_
            refine wp_seq_k (fun K29 hK29 => ?_)
            refine wp_block ?_
            refine wp_seq_k (fun K30 hK30 => ?_)
            obtain ⟨y, hy⟩ : ∃ y, m.2.1.list[k]? = some y := ⟨_, List.getElem?_eq_getElem (by rw [Sl.list_length]; omega)⟩
            have hym := List.mem_of_getElem? hy
            have hy1 := hT2 y hym
            have hs1 := shS_len y.1; have hs2 := shS_len y.2.1
            have hk8 := fInt_u8 (fSl_el g.2.1.2 hy).2.2.1
            have ht8 := fInt_u32 (fSl_el g.2.1.2 hy).2.2.2.1
            have h18 := fInt_u32 (fSl_el g.2.1.2 hy).2.2.2.2.1.1
            have h28 := fInt_u32 (fSl_el g.2.1.2 hy).2.2.2.2.1.2.1
            have h38 := fInt_u8 (fSl_el g.2.1.2 hy).2.2.2.2.2.1.1
            have htl8 := taken_len y hk8 ht8 h18 h28 h38
            have hkl := kindS_len y.2.2.1
            refine wp_region_lit ?_
            have hy4 : (m.2.1.list)[k]? = some y := hy
            obtain ⟨ab3, aoff3, hat3, hlb3, hel4⟩ := RdS.at (RdS.of_arg g.2.1.2) hy4
            refine sqv hf (r_ixa (sz := 9) (j := k) (evAt rfl hat3) rfl Try.underlying23 (by kernel_rfl) rfl (by omega) rfl) rfl rfl rfl ?_; clear hf fa; intro fa hf
            refine sqv hf (r_loadA (cs := [(.string y.1), (.string y.2.1), (.int .u8 y.2.2.1), (.int .u32 y.2.2.2.1), (.int .u32 y.2.2.2.2.1.1), (.int .u32 y.2.2.2.2.1.2.1), (.bool y.2.2.2.2.1.2.2.1), (.int .u8 y.2.2.2.2.2.1.1), (.bool y.2.2.2.2.2.1.2.1)]) rfl Try.underlying100 rfl (by kernel_rfl) (cellsAt_below hel4 hb hlb3)) rfl rfl rfl ?_; clear hf fa; intro fa hf
            refine sqdt hf (d_alloc (z := (.agg #[(.string ⟨#[]⟩), (.string ⟨#[]⟩), (.int .u8 (0 : Int)), (.int .u32 (0 : Int)), (.int .u32 (0 : Int)), (.int .u32 (0 : Int)), (.bool false), (.int .u8 (0 : Int)), (.bool false)])) (cs := #[(.string ⟨#[]⟩), (.string ⟨#[]⟩), (.int .u8 (0 : Int)), (.int .u32 (0 : Int)), (.int .u32 (0 : Int)), (.int .u32 (0 : Int)), (.bool false), (.int .u8 (0 : Int)), (.bool false)]) (by kernel_rfl) rfl) rfl rfl rfl ?_; clear hf fa; rintro fa _ w19 ⟨b7, rfl, hle7, hk9, he10⟩ hf
            have hBb7 : w.heap.size ≤ b7 := Nat.le_trans hb.size hle7
            have : b1 < b7 := Nat.lt_of_lt_of_le (blk_lt hkb1) hle7
            replace hkb1 := blk_ext hkb1 he10
            replace hro := Row.ext hro he10
            replace hb := hb.trans (Below.mono he10 hb.size)
            refine sqn hf (d_storeK (T := 100) (v := (.agg #[(.string y.1), (.string y.2.1), (.int .u8 y.2.2.1), (.int .u32 y.2.2.2.1), (.int .u32 y.2.2.2.2.1.1), (.int .u32 y.2.2.2.2.1.2.1), (.bool y.2.2.2.2.1.2.2.1), (.int .u8 y.2.2.2.2.2.1.1), (.bool y.2.2.2.2.2.1.2.1)])) (cs := #[(.string ⟨#[]⟩), (.string ⟨#[]⟩), (.int .u8 (0 : Int)), (.int .u32 (0 : Int)), (.int .u32 (0 : Int)), (.int .u32 (0 : Int)), (.bool false), (.int .u8 (0 : Int)), (.bool false)]) (cs' := #[(.string y.1), (.string y.2.1), (.int .u8 y.2.2.1), (.int .u32 y.2.2.2.1), (.int .u32 y.2.2.2.2.1.1), (.int .u32 y.2.2.2.2.1.2.1), (.bool y.2.2.2.2.1.2.2.1), (.int .u8 y.2.2.2.2.2.1.1), (.bool y.2.2.2.2.2.1.2.1)]) rfl rfl (by kernel_rfl) (by kernel_rfl) hk9 (by kernel_rfl) (by kernel_rfl)) rfl rfl ?_; clear hf fa; rintro fa _ w20 ⟨hk10, hg5⟩ hf
            replace hkb1 := blk_grown hkb1 hg5 (by omega)
            replace hro := Row.grown hro hg5 (Row.ne_type hro hk9 rfl)
            replace hb := hb.trans (grown_below hg5 hb.size hBb7)
            apply wpList_nil
            (try simp only [Exit.then, Exit.inBlock, ↓reduceIte, Nat.reduceEqDiff])
            refine hK30 _ _ ?_
            refine wp_region_unT 20 (fun wq => Below w20.heap.size w20 wq) (fun w w' => Below w.heap.size w w')
              (fun V => [(fun x _ => x = (.slice roa (((tyL m ++ (m.2.1.list.take k).map imLn)).length) roc)), (fun x _ => x = (.pointer (some ⟨b7, 0, none⟩))), (fun x _ => x = (.string y.1)), (fun x _ => x = (.string (shS y.1))), (fun x _ => x = (.string ((⟨#[105, 109, 112, 111, 114, 116, 32]⟩ : ByteArray) ++ (shS y.1)))), (fun x _ => x = (.string (((⟨#[105, 109, 112, 111, 114, 116, 32]⟩ : ByteArray) ++ (shS y.1)) ++ (⟨#[32]⟩ : ByteArray)))), (fun x _ => x = (.pointer (some ⟨b7, 1, none⟩))), (fun x _ => x = (.string y.2.1)), (fun x _ => x = (.string (shS y.2.1))), (fun x _ => x = (.string ((((⟨#[105, 109, 112, 111, 114, 116, 32]⟩ : ByteArray) ++ (shS y.1)) ++ (⟨#[32]⟩ : ByteArray)) ++ (shS y.2.1)))), (fun x _ => x = (.string (((((⟨#[105, 109, 112, 111, 114, 116, 32]⟩ : ByteArray) ++ (shS y.1)) ++ (⟨#[32]⟩ : ByteArray)) ++ (shS y.2.1)) ++ (⟨#[32]⟩ : ByteArray)))), (fun x _ => x = (.pointer (some ⟨b7, 2, none⟩))), (fun x _ => x = (.int .u8 y.2.2.1)), (fun x _ => x = (.string (kindS y.2.2.1))), (fun x _ => x = (.string ((((((⟨#[105, 109, 112, 111, 114, 116, 32]⟩ : ByteArray) ++ (shS y.1)) ++ (⟨#[32]⟩ : ByteArray)) ++ (shS y.2.1)) ++ (⟨#[32]⟩ : ByteArray)) ++ (kindS y.2.2.1)))), (fun x _ => x = (.string (((((((⟨#[105, 109, 112, 111, 114, 116, 32]⟩ : ByteArray) ++ (shS y.1)) ++ (⟨#[32]⟩ : ByteArray)) ++ (shS y.2.1)) ++ (⟨#[32]⟩ : ByteArray)) ++ (kindS y.2.2.1)) ++ (⟨#[32]⟩ : ByteArray)))), (fun x _ => x = (.agg #[(.string y.1), (.string y.2.1), (.int .u8 y.2.2.1), (.int .u32 y.2.2.2.1), (.int .u32 y.2.2.2.2.1.1), (.int .u32 y.2.2.2.2.1.2.1), (.bool y.2.2.2.2.1.2.2.1), (.int .u8 y.2.2.2.2.2.1.1), (.bool y.2.2.2.2.2.1.2.1)])), (fun x _ => x = (.string (takenP y))), (fun x _ => x = (.string ((((((((⟨#[105, 109, 112, 111, 114, 116, 32]⟩ : ByteArray) ++ (shS y.1)) ++ (⟨#[32]⟩ : ByteArray)) ++ (shS y.2.1)) ++ (⟨#[32]⟩ : ByteArray)) ++ (kindS y.2.2.1)) ++ (⟨#[32]⟩ : ByteArray)) ++ (takenP y)))), (fun x wq => ∃ b, x = .slice (some ⟨b, 0, none⟩) 1 1 ∧ w20.heap.size ≤ b ∧ wq.heap[b]? = some (.cells #[(.string ((((((((⟨#[105, 109, 112, 111, 114, 116, 32]⟩ : ByteArray) ++ (shS y.1)) ++ (⟨#[32]⟩ : ByteArray)) ++ (shS y.2.1)) ++ (⟨#[32]⟩ : ByteArray)) ++ (kindS y.2.2.1)) ++ (⟨#[32]⟩ : ByteArray)) ++ (takenP y)))] 9 (0, 0)))])
              [19]
              [[], [], [1], [2], [3], [4], [], [6], [3, 7], [5, 8], [9], [], [11], [8, 12], [10, 13], [14], [], [13, 16], [15, 17], [18], [], []]
              hf (by kernel_rfl) (by kernel_rfl) (by kernel_rfl) (fun _ => rfl) ((Below.refl _ _).drew) (fun a b h1 h2 => h1.trans (h2.mono h1.size)) (fun _ _ h => h.size) (fun V => ⟨kept_eq, kept_eq, kept_eq, kept_eq, kept_eq, kept_eq, kept_eq, kept_eq, kept_eq, kept_eq, kept_eq, kept_eq, kept_eq, kept_eq, kept_eq, kept_eq, kept_eq, kept_eq, kept_eq, keptB, trivial⟩) (fun _ _ _ _ _ => rfl) ?_ ?_
            · skip
              intro V
              refine ⟨fun wu0 hC hd => ?_, ?_⟩
              · clear hd
                replace hb := hb.trans (hC.mono hb.size)
                replace hkb1 := blk_ext hkb1 hC
                replace hk10 := blk_ext hk10 hC
                replace hro := Row.ext hro hC
                exact Runs.does (r_move rfl) ⟨Below.refl _ _, rfl, nofr rfl⟩
              refine ⟨fun wu1 hC hd => ?_, ?_⟩
              · clear hd
                replace hb := hb.trans (hC.mono hb.size)
                replace hkb1 := blk_ext hkb1 hC
                replace hk10 := blk_ext hk10 hC
                replace hro := Row.ext hro hC
                exact Runs.does (r_fa rfl Try.underlying100 (f := 0) (q := 0) rfl (by kernel_rfl) rfl) ⟨Below.refl _ _, rfl, nofr rfl⟩
              refine ⟨fun wu2 hC hd => ?_, ?_⟩
              · obtain ⟨h1, _⟩ := hd
                skip
                replace h1 : V 1 = (.pointer (some ⟨b7, 0, none⟩)) := h1
                replace hb := hb.trans (hC.mono hb.size)
                replace hkb1 := blk_ext hkb1 hC
                replace hk10 := blk_ext hk10 hC
                replace hro := Row.ext hro hC
                exact Runs.does (r_load (v := (.string y.1)) (congrArg some h1) Try.underlying9 rfl (cell_blk hk10 rfl)) ⟨Below.refl _ _, rfl, nofr rfl⟩
              refine ⟨fun wu3 hC hd => ?_, ?_⟩
              · obtain ⟨h2, _⟩ := hd
                skip
                replace h2 : V 2 = (.string y.1) := h2
                replace hb := hb.trans (hC.mono hb.size)
                replace hkb1 := blk_ext hkb1 hC
                replace hk10 := blk_ext hk10 hC
                replace hro := Row.ext hro hC
                refine Does.mono (d_callB (vs := [(.string y.1)]) (show [some (V 2)] = [some (.string y.1)] from by rw [h2]) Try.func41 (by kernel_rfl) (by kernel_rfl) (showS_any y.1 _ (by omega))) (fun _ _ h => ⟨h.2, h.1, nofr rfl⟩)
              refine ⟨fun wu4 hC hd => ?_, ?_⟩
              · obtain ⟨h3, _⟩ := hd
                skip
                replace h3 : V 3 = (.string (shS y.1)) := h3
                replace hb := hb.trans (hC.mono hb.size)
                replace hkb1 := blk_ext hkb1 hC
                replace hk10 := blk_ext hk10 hC
                replace hro := Row.ext hro hC
                exact Runs.does (r_sadd rfl (congrArg some h3) (by have : ((⟨#[105, 109, 112, 111, 114, 116, 32]⟩) : ByteArray).size = 7 := rfl; omega)) ⟨Below.refl _ _, rfl, nofr rfl⟩
              refine ⟨fun wu5 hC hd => ?_, ?_⟩
              · obtain ⟨h4, _⟩ := hd
                skip
                replace h4 : V 4 = (.string ((⟨#[105, 109, 112, 111, 114, 116, 32]⟩ : ByteArray) ++ (shS y.1))) := h4
                replace hb := hb.trans (hC.mono hb.size)
                replace hkb1 := blk_ext hkb1 hC
                replace hk10 := blk_ext hk10 hC
                replace hro := Row.ext hro hC
                exact Runs.does (r_sadd (congrArg some h4) rfl (by have : ((⟨#[105, 109, 112, 111, 114, 116, 32]⟩) : ByteArray).size = 7 := rfl; have := sz_app (⟨#[105, 109, 112, 111, 114, 116, 32]⟩ : ByteArray) (shS y.1); have : ((⟨#[32]⟩) : ByteArray).size = 1 := rfl; omega)) ⟨Below.refl _ _, rfl, nofr rfl⟩
              refine ⟨fun wu6 hC hd => ?_, ?_⟩
              · clear hd
                replace hb := hb.trans (hC.mono hb.size)
                replace hkb1 := blk_ext hkb1 hC
                replace hk10 := blk_ext hk10 hC
                replace hro := Row.ext hro hC
                exact Runs.does (r_fa rfl Try.underlying100 (f := 1) (q := 1) rfl (by kernel_rfl) rfl) ⟨Below.refl _ _, rfl, nofr rfl⟩
              refine ⟨fun wu7 hC hd => ?_, ?_⟩
              · obtain ⟨h6, _⟩ := hd
                skip
                replace h6 : V 6 = (.pointer (some ⟨b7, 1, none⟩)) := h6
                replace hb := hb.trans (hC.mono hb.size)
                replace hkb1 := blk_ext hkb1 hC
                replace hk10 := blk_ext hk10 hC
                replace hro := Row.ext hro hC
                exact Runs.does (r_load (v := (.string y.2.1)) (congrArg some h6) Try.underlying9 rfl (cell_blk hk10 rfl)) ⟨Below.refl _ _, rfl, nofr rfl⟩
              refine ⟨fun wu8 hC hd => ?_, ?_⟩
              · obtain ⟨h3, h7, _⟩ := hd
                skip
                skip
                replace h3 : V 3 = (.string (shS y.1)) := h3
                replace h7 : V 7 = (.string y.2.1) := h7
                replace hb := hb.trans (hC.mono hb.size)
                replace hkb1 := blk_ext hkb1 hC
                replace hk10 := blk_ext hk10 hC
                replace hro := Row.ext hro hC
                refine Does.mono (d_callB (vs := [(.string y.2.1)]) (show [some (V 7)] = [some (.string y.2.1)] from by rw [h7]) Try.func41 (by kernel_rfl) (by kernel_rfl) (showS_any y.2.1 _ (by omega))) (fun _ _ h => ⟨h.2, h.1, nofr rfl⟩)
              refine ⟨fun wu9 hC hd => ?_, ?_⟩
              · obtain ⟨h5, h8, _⟩ := hd
                skip
                skip
                replace h5 : V 5 = (.string (((⟨#[105, 109, 112, 111, 114, 116, 32]⟩ : ByteArray) ++ (shS y.1)) ++ (⟨#[32]⟩ : ByteArray))) := h5
                replace h8 : V 8 = (.string (shS y.2.1)) := h8
                replace hb := hb.trans (hC.mono hb.size)
                replace hkb1 := blk_ext hkb1 hC
                replace hk10 := blk_ext hk10 hC
                replace hro := Row.ext hro hC
                exact Runs.does (r_sadd (congrArg some h5) (congrArg some h8) (by have : ((⟨#[105, 109, 112, 111, 114, 116, 32]⟩) : ByteArray).size = 7 := rfl; have := sz_app (⟨#[105, 109, 112, 111, 114, 116, 32]⟩ : ByteArray) (shS y.1); have : ((⟨#[32]⟩) : ByteArray).size = 1 := rfl; have := sz_app ((⟨#[105, 109, 112, 111, 114, 116, 32]⟩ : ByteArray) ++ (shS y.1)) (⟨#[32]⟩ : ByteArray); omega)) ⟨Below.refl _ _, rfl, nofr rfl⟩
              refine ⟨fun wu10 hC hd => ?_, ?_⟩
              · obtain ⟨h9, _⟩ := hd
                skip
                replace h9 : V 9 = (.string ((((⟨#[105, 109, 112, 111, 114, 116, 32]⟩ : ByteArray) ++ (shS y.1)) ++ (⟨#[32]⟩ : ByteArray)) ++ (shS y.2.1))) := h9
                replace hb := hb.trans (hC.mono hb.size)
                replace hkb1 := blk_ext hkb1 hC
                replace hk10 := blk_ext hk10 hC
                replace hro := Row.ext hro hC
                exact Runs.does (r_sadd (congrArg some h9) rfl (by have : ((⟨#[105, 109, 112, 111, 114, 116, 32]⟩) : ByteArray).size = 7 := rfl; have := sz_app (⟨#[105, 109, 112, 111, 114, 116, 32]⟩ : ByteArray) (shS y.1); have : ((⟨#[32]⟩) : ByteArray).size = 1 := rfl; have := sz_app ((⟨#[105, 109, 112, 111, 114, 116, 32]⟩ : ByteArray) ++ (shS y.1)) (⟨#[32]⟩ : ByteArray); have := sz_app (((⟨#[105, 109, 112, 111, 114, 116, 32]⟩ : ByteArray) ++ (shS y.1)) ++ (⟨#[32]⟩ : ByteArray)) (shS y.2.1); have : ((⟨#[32]⟩) : ByteArray).size = 1 := rfl; omega)) ⟨Below.refl _ _, rfl, nofr rfl⟩
              refine ⟨fun wu11 hC hd => ?_, ?_⟩
              · clear hd
                replace hb := hb.trans (hC.mono hb.size)
                replace hkb1 := blk_ext hkb1 hC
                replace hk10 := blk_ext hk10 hC
                replace hro := Row.ext hro hC
                exact Runs.does (r_fa rfl Try.underlying100 (f := 2) (q := 2) rfl (by kernel_rfl) rfl) ⟨Below.refl _ _, rfl, nofr rfl⟩
              refine ⟨fun wu12 hC hd => ?_, ?_⟩
              · obtain ⟨h11, _⟩ := hd
                skip
                replace h11 : V 11 = (.pointer (some ⟨b7, 2, none⟩)) := h11
                replace hb := hb.trans (hC.mono hb.size)
                replace hkb1 := blk_ext hkb1 hC
                replace hk10 := blk_ext hk10 hC
                replace hro := Row.ext hro hC
                exact Runs.does (r_load (v := (.int .u8 y.2.2.1)) (congrArg some h11) Try.underlying5 rfl (cell_blk hk10 rfl)) ⟨Below.refl _ _, rfl, nofr rfl⟩
              refine ⟨fun wu13 hC hd => ?_, ?_⟩
              · obtain ⟨h8, h12, _⟩ := hd
                skip
                skip
                replace h8 : V 8 = (.string (shS y.2.1)) := h8
                replace h12 : V 12 = (.int .u8 y.2.2.1) := h12
                replace hb := hb.trans (hC.mono hb.size)
                replace hkb1 := blk_ext hkb1 hC
                replace hk10 := blk_ext hk10 hC
                replace hro := Row.ext hro hC
                refine Does.mono (d_callB (vs := [(.int .u8 y.2.2.1)]) (show [some (V 12)] = [some (.int .u8 y.2.2.1)] from by rw [h12]) Try.func43 (by kernel_rfl) (by kernel_rfl) (kind_any y.2.2.1 _ (by omega))) (fun _ _ h => ⟨h.2, h.1, nofr rfl⟩)
              refine ⟨fun wu14 hC hd => ?_, ?_⟩
              · obtain ⟨h10, h13, _⟩ := hd
                skip
                skip
                replace h10 : V 10 = (.string (((((⟨#[105, 109, 112, 111, 114, 116, 32]⟩ : ByteArray) ++ (shS y.1)) ++ (⟨#[32]⟩ : ByteArray)) ++ (shS y.2.1)) ++ (⟨#[32]⟩ : ByteArray))) := h10
                replace h13 : V 13 = (.string (kindS y.2.2.1)) := h13
                replace hb := hb.trans (hC.mono hb.size)
                replace hkb1 := blk_ext hkb1 hC
                replace hk10 := blk_ext hk10 hC
                replace hro := Row.ext hro hC
                exact Runs.does (r_sadd (congrArg some h10) (congrArg some h13) (by have : ((⟨#[105, 109, 112, 111, 114, 116, 32]⟩) : ByteArray).size = 7 := rfl; have := sz_app (⟨#[105, 109, 112, 111, 114, 116, 32]⟩ : ByteArray) (shS y.1); have : ((⟨#[32]⟩) : ByteArray).size = 1 := rfl; have := sz_app ((⟨#[105, 109, 112, 111, 114, 116, 32]⟩ : ByteArray) ++ (shS y.1)) (⟨#[32]⟩ : ByteArray); have := sz_app (((⟨#[105, 109, 112, 111, 114, 116, 32]⟩ : ByteArray) ++ (shS y.1)) ++ (⟨#[32]⟩ : ByteArray)) (shS y.2.1); have : ((⟨#[32]⟩) : ByteArray).size = 1 := rfl; have := sz_app ((((⟨#[105, 109, 112, 111, 114, 116, 32]⟩ : ByteArray) ++ (shS y.1)) ++ (⟨#[32]⟩ : ByteArray)) ++ (shS y.2.1)) (⟨#[32]⟩ : ByteArray); omega)) ⟨Below.refl _ _, rfl, nofr rfl⟩
              refine ⟨fun wu15 hC hd => ?_, ?_⟩
              · obtain ⟨h14, _⟩ := hd
                skip
                replace h14 : V 14 = (.string ((((((⟨#[105, 109, 112, 111, 114, 116, 32]⟩ : ByteArray) ++ (shS y.1)) ++ (⟨#[32]⟩ : ByteArray)) ++ (shS y.2.1)) ++ (⟨#[32]⟩ : ByteArray)) ++ (kindS y.2.2.1))) := h14
                replace hb := hb.trans (hC.mono hb.size)
                replace hkb1 := blk_ext hkb1 hC
                replace hk10 := blk_ext hk10 hC
                replace hro := Row.ext hro hC
                exact Runs.does (r_sadd (congrArg some h14) rfl (by have : ((⟨#[105, 109, 112, 111, 114, 116, 32]⟩) : ByteArray).size = 7 := rfl; have := sz_app (⟨#[105, 109, 112, 111, 114, 116, 32]⟩ : ByteArray) (shS y.1); have : ((⟨#[32]⟩) : ByteArray).size = 1 := rfl; have := sz_app ((⟨#[105, 109, 112, 111, 114, 116, 32]⟩ : ByteArray) ++ (shS y.1)) (⟨#[32]⟩ : ByteArray); have := sz_app (((⟨#[105, 109, 112, 111, 114, 116, 32]⟩ : ByteArray) ++ (shS y.1)) ++ (⟨#[32]⟩ : ByteArray)) (shS y.2.1); have : ((⟨#[32]⟩) : ByteArray).size = 1 := rfl; have := sz_app ((((⟨#[105, 109, 112, 111, 114, 116, 32]⟩ : ByteArray) ++ (shS y.1)) ++ (⟨#[32]⟩ : ByteArray)) ++ (shS y.2.1)) (⟨#[32]⟩ : ByteArray); have := sz_app (((((⟨#[105, 109, 112, 111, 114, 116, 32]⟩ : ByteArray) ++ (shS y.1)) ++ (⟨#[32]⟩ : ByteArray)) ++ (shS y.2.1)) ++ (⟨#[32]⟩ : ByteArray)) (kindS y.2.2.1); have : ((⟨#[32]⟩) : ByteArray).size = 1 := rfl; omega)) ⟨Below.refl _ _, rfl, nofr rfl⟩
              refine ⟨fun wu16 hC hd => ?_, ?_⟩
              · clear hd
                replace hb := hb.trans (hC.mono hb.size)
                replace hkb1 := blk_ext hkb1 hC
                replace hk10 := blk_ext hk10 hC
                replace hro := Row.ext hro hC
                exact Runs.does (r_loadA (cs := [(.string y.1), (.string y.2.1), (.int .u8 y.2.2.1), (.int .u32 y.2.2.2.1), (.int .u32 y.2.2.2.2.1.1), (.int .u32 y.2.2.2.2.1.2.1), (.bool y.2.2.2.2.1.2.2.1), (.int .u8 y.2.2.2.2.2.1.1), (.bool y.2.2.2.2.2.1.2.1)]) rfl Try.underlying100 rfl (by kernel_rfl) (cellsAt_blk hk10)) ⟨Below.refl _ _, rfl, nofr rfl⟩
              refine ⟨fun wu17 hC hd => ?_, ?_⟩
              · obtain ⟨h13, h16, _⟩ := hd
                skip
                skip
                replace h13 : V 13 = (.string (kindS y.2.2.1)) := h13
                replace h16 : V 16 = (.agg #[(.string y.1), (.string y.2.1), (.int .u8 y.2.2.1), (.int .u32 y.2.2.2.1), (.int .u32 y.2.2.2.2.1.1), (.int .u32 y.2.2.2.2.1.2.1), (.bool y.2.2.2.2.1.2.2.1), (.int .u8 y.2.2.2.2.2.1.1), (.bool y.2.2.2.2.2.1.2.1)]) := h16
                replace hb := hb.trans (hC.mono hb.size)
                replace hkb1 := blk_ext hkb1 hC
                replace hk10 := blk_ext hk10 hC
                replace hro := Row.ext hro hC
                refine Does.mono (d_callB (vs := [(.agg #[(.string y.1), (.string y.2.1), (.int .u8 y.2.2.1), (.int .u32 y.2.2.2.1), (.int .u32 y.2.2.2.2.1.1), (.int .u32 y.2.2.2.2.1.2.1), (.bool y.2.2.2.2.1.2.2.1), (.int .u8 y.2.2.2.2.2.1.1), (.bool y.2.2.2.2.2.1.2.1)])]) (show [some (V 16)] = [some (.agg #[(.string y.1), (.string y.2.1), (.int .u8 y.2.2.1), (.int .u32 y.2.2.2.1), (.int .u32 y.2.2.2.2.1.1), (.int .u32 y.2.2.2.2.1.2.1), (.bool y.2.2.2.2.1.2.2.1), (.int .u8 y.2.2.2.2.2.1.1), (.bool y.2.2.2.2.2.1.2.1)])] from by rw [h16]) Try.func44 (by kernel_rfl) (by kernel_rfl) (taken_any y _ hk8 ht8 h18 h28 h38)) (fun _ _ h => ⟨h.2, h.1, nofr rfl⟩)
              refine ⟨fun wu18 hC hd => ?_, ?_⟩
              · obtain ⟨h15, h17, _⟩ := hd
                skip
                skip
                replace h15 : V 15 = (.string (((((((⟨#[105, 109, 112, 111, 114, 116, 32]⟩ : ByteArray) ++ (shS y.1)) ++ (⟨#[32]⟩ : ByteArray)) ++ (shS y.2.1)) ++ (⟨#[32]⟩ : ByteArray)) ++ (kindS y.2.2.1)) ++ (⟨#[32]⟩ : ByteArray))) := h15
                replace h17 : V 17 = (.string (takenP y)) := h17
                replace hb := hb.trans (hC.mono hb.size)
                replace hkb1 := blk_ext hkb1 hC
                replace hk10 := blk_ext hk10 hC
                replace hro := Row.ext hro hC
                exact Runs.does (r_sadd (congrArg some h15) (congrArg some h17) (by have : ((⟨#[105, 109, 112, 111, 114, 116, 32]⟩) : ByteArray).size = 7 := rfl; have := sz_app (⟨#[105, 109, 112, 111, 114, 116, 32]⟩ : ByteArray) (shS y.1); have : ((⟨#[32]⟩) : ByteArray).size = 1 := rfl; have := sz_app ((⟨#[105, 109, 112, 111, 114, 116, 32]⟩ : ByteArray) ++ (shS y.1)) (⟨#[32]⟩ : ByteArray); have := sz_app (((⟨#[105, 109, 112, 111, 114, 116, 32]⟩ : ByteArray) ++ (shS y.1)) ++ (⟨#[32]⟩ : ByteArray)) (shS y.2.1); have : ((⟨#[32]⟩) : ByteArray).size = 1 := rfl; have := sz_app ((((⟨#[105, 109, 112, 111, 114, 116, 32]⟩ : ByteArray) ++ (shS y.1)) ++ (⟨#[32]⟩ : ByteArray)) ++ (shS y.2.1)) (⟨#[32]⟩ : ByteArray); have := sz_app (((((⟨#[105, 109, 112, 111, 114, 116, 32]⟩ : ByteArray) ++ (shS y.1)) ++ (⟨#[32]⟩ : ByteArray)) ++ (shS y.2.1)) ++ (⟨#[32]⟩ : ByteArray)) (kindS y.2.2.1); have : ((⟨#[32]⟩) : ByteArray).size = 1 := rfl; have := sz_app ((((((⟨#[105, 109, 112, 111, 114, 116, 32]⟩ : ByteArray) ++ (shS y.1)) ++ (⟨#[32]⟩ : ByteArray)) ++ (shS y.2.1)) ++ (⟨#[32]⟩ : ByteArray)) ++ (kindS y.2.2.1)) (⟨#[32]⟩ : ByteArray); omega)) ⟨Below.refl _ _, rfl, nofr rfl⟩
              refine ⟨fun wu19 hC hd => ?_, ?_⟩
              · obtain ⟨h18, _⟩ := hd
                skip
                replace h18 : V 18 = (.string ((((((((⟨#[105, 109, 112, 111, 114, 116, 32]⟩ : ByteArray) ++ (shS y.1)) ++ (⟨#[32]⟩ : ByteArray)) ++ (shS y.2.1)) ++ (⟨#[32]⟩ : ByteArray)) ++ (kindS y.2.2.1)) ++ (⟨#[32]⟩ : ByteArray)) ++ (takenP y))) := h18
                replace hb := hb.trans (hC.mono hb.size)
                replace hkb1 := blk_ext hkb1 hC
                replace hk10 := blk_ext hk10 hC
                replace hro := Row.ext hro hC
                refine Does.mono (d_bslice (z := (.string ⟨#[]⟩)) (sz := 1) (vs := [(0, (.string ((((((((⟨#[105, 109, 112, 111, 114, 116, 32]⟩ : ByteArray) ++ (shS y.1)) ++ (⟨#[32]⟩ : ByteArray)) ++ (shS y.2.1)) ++ (⟨#[32]⟩ : ByteArray)) ++ (kindS y.2.2.1)) ++ (⟨#[32]⟩ : ByteArray)) ++ (takenP y))))]) (cs := #[(.string ((((((((⟨#[105, 109, 112, 111, 114, 116, 32]⟩ : ByteArray) ++ (shS y.1)) ++ (⟨#[32]⟩ : ByteArray)) ++ (shS y.2.1)) ++ (⟨#[32]⟩ : ByteArray)) ++ (kindS y.2.2.1)) ++ (⟨#[32]⟩ : ByteArray)) ++ (takenP y)))]) (show [(0, some (V 18))] = [(0, some (.string ((((((((⟨#[105, 109, 112, 111, 114, 116, 32]⟩ : ByteArray) ++ (shS y.1)) ++ (⟨#[32]⟩ : ByteArray)) ++ (shS y.2.1)) ++ (⟨#[32]⟩ : ByteArray)) ++ (kindS y.2.2.1)) ++ (⟨#[32]⟩ : ByteArray)) ++ (takenP y))))] from by rw [h18]) Try.underlying32 (by kernel_rfl) rfl (by kernel_rfl)) ?_
                rintro _ w' ⟨b, rfl, hF⟩
                exact ⟨hF.2.2, ⟨b, rfl, Nat.le_trans hC.size hF.1, hF.2.1⟩, isfr rfl hF.1 (blk_lt hF.2.1)⟩
              trivial
            · skip
              clear hf fa; intro V w21 fa he11 hp hnb hf
              have hv0 : V 0 = (.slice roa (((tyL m ++ (m.2.1.list.take k).map imLn)).length) roc) := postsHold_at hp 0 rfl
              have hv1 : V 1 = (.pointer (some ⟨b7, 0, none⟩)) := postsHold_at hp 1 rfl
              have hv2 : V 2 = (.string y.1) := postsHold_at hp 2 rfl
              have hv3 : V 3 = (.string (shS y.1)) := postsHold_at hp 3 rfl
              have hv4 : V 4 = (.string ((⟨#[105, 109, 112, 111, 114, 116, 32]⟩ : ByteArray) ++ (shS y.1))) := postsHold_at hp 4 rfl
              have hv5 : V 5 = (.string (((⟨#[105, 109, 112, 111, 114, 116, 32]⟩ : ByteArray) ++ (shS y.1)) ++ (⟨#[32]⟩ : ByteArray))) := postsHold_at hp 5 rfl
              have hv6 : V 6 = (.pointer (some ⟨b7, 1, none⟩)) := postsHold_at hp 6 rfl
              have hv7 : V 7 = (.string y.2.1) := postsHold_at hp 7 rfl
              have hv8 : V 8 = (.string (shS y.2.1)) := postsHold_at hp 8 rfl
              have hv9 : V 9 = (.string ((((⟨#[105, 109, 112, 111, 114, 116, 32]⟩ : ByteArray) ++ (shS y.1)) ++ (⟨#[32]⟩ : ByteArray)) ++ (shS y.2.1))) := postsHold_at hp 9 rfl
              have hv10 : V 10 = (.string (((((⟨#[105, 109, 112, 111, 114, 116, 32]⟩ : ByteArray) ++ (shS y.1)) ++ (⟨#[32]⟩ : ByteArray)) ++ (shS y.2.1)) ++ (⟨#[32]⟩ : ByteArray))) := postsHold_at hp 10 rfl
              have hv11 : V 11 = (.pointer (some ⟨b7, 2, none⟩)) := postsHold_at hp 11 rfl
              have hv12 : V 12 = (.int .u8 y.2.2.1) := postsHold_at hp 12 rfl
              have hv13 : V 13 = (.string (kindS y.2.2.1)) := postsHold_at hp 13 rfl
              have hv14 : V 14 = (.string ((((((⟨#[105, 109, 112, 111, 114, 116, 32]⟩ : ByteArray) ++ (shS y.1)) ++ (⟨#[32]⟩ : ByteArray)) ++ (shS y.2.1)) ++ (⟨#[32]⟩ : ByteArray)) ++ (kindS y.2.2.1))) := postsHold_at hp 14 rfl
              have hv15 : V 15 = (.string (((((((⟨#[105, 109, 112, 111, 114, 116, 32]⟩ : ByteArray) ++ (shS y.1)) ++ (⟨#[32]⟩ : ByteArray)) ++ (shS y.2.1)) ++ (⟨#[32]⟩ : ByteArray)) ++ (kindS y.2.2.1)) ++ (⟨#[32]⟩ : ByteArray))) := postsHold_at hp 15 rfl
              have hv16 : V 16 = (.agg #[(.string y.1), (.string y.2.1), (.int .u8 y.2.2.1), (.int .u32 y.2.2.2.1), (.int .u32 y.2.2.2.2.1.1), (.int .u32 y.2.2.2.2.1.2.1), (.bool y.2.2.2.2.1.2.2.1), (.int .u8 y.2.2.2.2.2.1.1), (.bool y.2.2.2.2.2.1.2.1)]) := postsHold_at hp 16 rfl
              have hv17 : V 17 = (.string (takenP y)) := postsHold_at hp 17 rfl
              have hv18 : V 18 = (.string ((((((((⟨#[105, 109, 112, 111, 114, 116, 32]⟩ : ByteArray) ++ (shS y.1)) ++ (⟨#[32]⟩ : ByteArray)) ++ (shS y.2.1)) ++ (⟨#[32]⟩ : ByteArray)) ++ (kindS y.2.2.1)) ++ (⟨#[32]⟩ : ByteArray)) ++ (takenP y))) := postsHold_at hp 18 rfl
              have hv19 := postsHold_at hp 19 rfl
              obtain ⟨b8, hv19, hle8, hk11⟩ := hv19
              have hBb8 : w.heap.size ≤ b8 := Nat.le_trans hb.size hle8
              simp only [List.take_succ_cons, List.take_zero, insAll, ins, hv0, hv1, hv2, hv3, hv4, hv5, hv6, hv7, hv8, hv9, hv10, hv11, hv12, hv13, hv14, hv15, hv16, hv17, hv18, hv19] at hf
              have : b1 < b8 := Nat.lt_of_lt_of_le (blk_lt hkb1) hle8
              have : b7 < b8 := Nat.lt_of_lt_of_le (blk_lt hk10) hle8
              have hnr2 : (Value.slice roa ((((tyL m ++ (m.2.1.list.take k).map imLn)).length)) roc).ownBlock ≠ some b8 := fun hq => by have := (Row.lt hro _ hq).2; have := hle8; omega
              clear hp hnb hv0 hv1 hv2 hv3 hv4 hv5 hv6 hv7 hv8 hv9 hv10 hv11 hv12 hv13 hv14 hv15 hv16 hv17 hv18 hv19
              replace hkb1 := blk_ext hkb1 he11
              replace hk10 := blk_ext hk10 he11
              replace hro := Row.ext hro he11
              replace hb := hb.trans (Below.mono he11 hb.size)
              simp only [List.drop_succ_cons, List.drop_zero]
              have hs3 := Row.rd (by intros; rfl) (Row.of_new (k := 1) (V := vStr) (l := [((((((((⟨#[105, 109, 112, 111, 114, 116, 32]⟩ : ByteArray) ++ (shS y.1)) ++ (⟨#[32]⟩ : ByteArray)) ++ (shS y.2.1)) ++ (⟨#[32]⟩ : ByteArray)) ++ (kindS y.2.2.1)) ++ (⟨#[32]⟩ : ByteArray)) ++ (takenP y))]) hk11 (Nat.le_refl _) rfl rfl (Nat.le_of_ble_eq_true rfl))
              refine sqdt hf (d_append (V := vStr) (k := 1) (e := 9) (bytes := 16) (z := (.string ⟨#[]⟩)) (news := [((((((((⟨#[105, 109, 112, 111, 114, 116, 32]⟩ : ByteArray) ++ (shS y.1)) ++ (⟨#[32]⟩ : ByteArray)) ++ (shS y.2.1)) ++ (⟨#[32]⟩ : ByteArray)) ++ (kindS y.2.2.1)) ++ (⟨#[32]⟩ : ByteArray)) ++ (takenP y))]) (base := w.heap.size) (by intros; rfl) (by intro x u hu; simp only [vStr, List.mem_singleton] at hu; subst hu; rfl) rfl rfl Try.underlying32 (by kernel_rfl) rfl rfl rfl hro hs3 rfl (fun h => by cases h) (by first | omega | (simp only [List.length_cons, List.length_nil, List.length_append, nums_len, List.length_map, List.length_take, Sl.list_length]; omega)) (by have := hb.size; omega)) rfl rfl rfl ?_; clear hf fa; rintro fa v w22 ⟨hr5, hg6⟩ hf; obtain ⟨ra3, rc3, rfl, hcrc3, hmrc3⟩ := Row.slice hr5
              replace hkb1 := blk_row' hkb1 hg6 (Row.ne_type hro hkb1 rfl)
              replace hk10 := blk_row' hk10 hg6 (Row.ne_type hro hk10 rfl)
              replace hb := hb.trans (row_below hro hg6 hb.size (by have := hb.size; omega))
              refine sqv hf (r_assign rfl) rfl rfl rfl ?_; clear hf fa; intro fa hf
              apply wpList_nil
              (try simp only [Exit.then, Exit.inBlock, ↓reduceIte, Nat.reduceEqDiff])
              refine hK29 _ _ ?_
              refine wp_region_lit ?_
              refine sqv hf (r_add (C := (((k : Nat) : Int) + (1 : Int))) rfl rfl (by rw [IntKind.wrap_i64]; omega)) rfl rfl rfl ?_; clear hf fa; intro fa hf
              refine sqv hf (r_move rfl) rfl rfl rfl ?_; clear hf fa; intro fa hf
              apply wpList_nil
              (try simp only [Exit.then, Exit.inBlock, ↓reduceIte, Nat.reduceEqDiff])
              have hrl : ((m.2.1.list.take (k + 1)).map imLn).length = ((m.2.1.list.take k).map imLn).length + 1 := by rw [take_at hy, List.map_append, List.length_append]; rfl
              refine hKL4 _ _ _ (by omega) ⟨(k + 1), ra3, rc3, rfl, hf.sub ⟨rfl, rfl, rfl, (some_int (by first | rfl | omega)), (some_sl (by first | omega | rfl | (simp only [List.length_append, List.length_cons, List.length_nil]; omega) | (simp <;> omega)) rfl), trivial⟩, hb, (rowToE hr5 (map_snoc (f := imLn) (p := tyL m) hy)), hkb1, by omega⟩
          · have hqt77_1b := hqt77_1
            replace hqt77_1 := Bool.eq_false_iff.1 hqt77_1
            try simp only [ne_eq, decide_eq_true_eq, Bool.and_eq_true, Bool.or_eq_true, Bool.not_eq_true', decide_eq_false_iff_not] at hqt77_1
            refine wp_exit ?_
            (try simp only [Exit.then, Exit.inBlock, ↓reduceIte, Nat.reduceEqDiff])
            refine hK25 _ _ ?_
            refine wp_seq_k (fun K31 hK31 => ?_)
            refine wp_seq_k (fun K32 hK32 => ?_)
            have hq2 : tyL m ++ (m.2.1.list.take k).map imLn = imL m ++ (m.2.2.2.2.2.2.1.list.take 0).map exLn := by rw [List.take_of_length_le (by rw [Sl.list_length]; omega), List.take_zero, List.map_nil, List.append_nil]; rfl
            have hq2l := congrArg List.length hq2
            refine wp_region_lit ?_
            refine sqv hf (r_fa rfl Try.underlying36 (f := 6) (q := 6) rfl (by kernel_rfl) rfl) rfl rfl rfl ?_; clear hf fa; intro fa hf
            refine sqv hf (r_load (v := (.slice m.2.2.2.2.2.2.1.at' m.2.2.2.2.2.2.1.len m.2.2.2.2.2.2.1.cap)) rfl Try.underlying27 rfl (cell_blk hkb1 rfl)) rfl rfl rfl ?_; clear hf fa; intro fa hf
            refine sqv hf (r_lensl rfl Try.underlying27) rfl rfl rfl ?_; clear hf fa; intro fa hf
            refine sqv hf (r_move rfl) rfl rfl rfl ?_; clear hf fa; intro fa hf
            apply wpList_nil
            (try simp only [Exit.then, Exit.inBlock, ↓reduceIte, Nat.reduceEqDiff])
            refine hK32 _ _ ?_
            refine wp_block ?_
            refine wp_loop_k (fun mq fa wr => ∃ (k : Nat) (roa : Option Addr) (roc : Nat), mq = m.2.2.2.2.2.2.1.len - k ∧ Fr 154 fa [(1, (.pointer (some ⟨b1, 0, none⟩))), (103, (.slice m.2.2.2.2.2.2.1.at' m.2.2.2.2.2.2.1.len m.2.2.2.2.2.2.1.cap)), (104, (.int .i64 ((m.2.2.2.2.2.2.1.len : Nat) : Int))), (105, (.int .i64 ((k : Nat) : Int))), (3, (.slice roa (((imL m ++ (m.2.2.2.2.2.2.1.list.take k).map exLn)).length) roc))] ∧ Below w.heap.size w wr ∧ Row 1 vStr 9 (w.heap.size) wr (.slice roa (((imL m ++ (m.2.2.2.2.2.2.1.list.take k).map exLn)).length) roc) (imL m ++ (m.2.2.2.2.2.2.1.list.take k).map exLn) ∧ wr.heap[b1]? = some (.cells #[(.slice m.1.at' m.1.len m.1.cap), (.slice m.2.1.at' m.2.1.len m.2.1.cap), (.slice m.2.2.1.at' m.2.2.1.len m.2.2.1.cap), (.slice m.2.2.2.1.at' m.2.2.2.1.len m.2.2.2.1.cap), (.slice m.2.2.2.2.1.at' m.2.2.2.2.1.len m.2.2.2.2.1.cap), (.slice m.2.2.2.2.2.1.at' m.2.2.2.2.2.1.len m.2.2.2.2.2.1.cap), (.slice m.2.2.2.2.2.2.1.at' m.2.2.2.2.2.2.1.len m.2.2.2.2.2.2.1.cap), (.int .i64 m.2.2.2.2.2.2.2.1), (.slice m.2.2.2.2.2.2.2.2.1.at' m.2.2.2.2.2.2.2.2.1.len m.2.2.2.2.2.2.2.2.1.cap), (.slice m.2.2.2.2.2.2.2.2.2.1.at' m.2.2.2.2.2.2.2.2.2.1.len m.2.2.2.2.2.2.2.2.2.1.cap), (.slice m.2.2.2.2.2.2.2.2.2.2.1.at' m.2.2.2.2.2.2.2.2.2.2.1.len m.2.2.2.2.2.2.2.2.2.2.1.cap), (.bool m.2.2.2.2.2.2.2.2.2.2.2.1.1), (.int .u32 m.2.2.2.2.2.2.2.2.2.2.2.1.2.1), (.int .u32 m.2.2.2.2.2.2.2.2.2.2.2.1.2.2.1), (.int .u32 m.2.2.2.2.2.2.2.2.2.2.2.1.2.2.2.1), (.int .u32 m.2.2.2.2.2.2.2.2.2.2.2.1.2.2.2.2.1), (.slice m.2.2.2.2.2.2.2.2.2.2.2.1.2.2.2.2.2.1.at' m.2.2.2.2.2.2.2.2.2.2.2.1.2.2.2.2.2.1.len m.2.2.2.2.2.2.2.2.2.2.2.1.2.2.2.2.2.1.cap)] 36 (0, 0)) ∧ (k ≤ m.2.2.2.2.2.2.1.len)) ?_ ?_
            · skip
              exact ⟨_, 0, roa, roc, rfl, hf.sub ⟨rfl, rfl, rfl, (some_int (by first | rfl | omega)), (some_sl (by first | omega | rfl | (simp only [List.length_append, List.length_cons, List.length_nil]; omega) | (simp <;> omega)) rfl), trivial⟩, hb, (rowToE hro hq2), hkb1, by omega⟩
            · skip
              clear hf fa; intro mq5 fa w23 hI KL5 hKL5
              clear hb
              clear hkb1
              clear hro
              obtain ⟨k, roa, roc, hmq5, hf, hb, hro, hkb1, hk⟩ := hI
              have hcro := Row.caps hro
              have hol : (imL m ++ (m.2.2.2.2.2.2.1.list.take k).map exLn).length ≤ 200 := by rw [List.length_append, List.length_map, List.length_take, Sl.list_length]; omega
              refine wp_seq_k (fun K33 hK33 => ?_)
              refine wp_region_lit ?_
              refine sqv hf (r_lt rfl rfl) rfl rfl rfl ?_; clear hf fa; intro fa hf
              apply wpList_nil
              (try simp only [Exit.then, Exit.inBlock, ↓reduceIte, Nat.reduceEqDiff])
              refine hK33 _ _ ?_
              refine wp_seq_k (fun K34 hK34 => ?_)
              refine wp_cond_split (t := (decide (((k : Nat) : Int) < ((m.2.2.2.2.2.2.1.len : Nat) : Int)))) (hf.ev rfl) (fun hqt106_1 => ?_) (fun hqt106_1 => ?_)
              · have hqt106_1b := hqt106_1
                try simp only [decide_eq_true_eq, Bool.and_eq_true, Bool.or_eq_true, Bool.not_eq_true', decide_eq_false_iff_not, ne_eq, Bool.not_eq_true] at hqt106_1
                refine wp_skip ?_
                (try simp only [Exit.then, Exit.inBlock, ↓reduceIte, Nat.reduceEqDiff])
                refine hK34 _ _ ?_
                refine wp_seq_k (fun K35 hK35 => ?_)
                refine wp_block ?_
                refine wp_seq_k (fun K36 hK36 => ?_)
                obtain ⟨y, hy⟩ : ∃ y, m.2.2.2.2.2.2.1.list[k]? = some y := ⟨_, List.getElem?_eq_getElem (by rw [Sl.list_length]; omega)⟩
                have hym := List.mem_of_getElem? hy
                have hy1 := hT3 y hym
                have hs1 := shS_len y.1
                have hk8 := fInt_u8 (fSl_el g.2.2.2.2.2.2.1.2 hy).2.1
                have ht8 := fInt_u32 (fSl_el g.2.2.2.2.2.2.1.2 hy).2.2.1
                have hkl := kindS_len y.2.1
                have hdl := dS_len (n := y.2.2.1) (inI_u32 (by omega))
                refine wp_region_lit ?_
                have hy5 : (m.2.2.2.2.2.2.1.list)[k]? = some y := hy
                obtain ⟨ab4, aoff4, hat4, hlb4, hel5⟩ := RdS.at (RdS.of_arg g.2.2.2.2.2.2.1.2) hy5
                refine sqv hf (r_ixa (sz := 3) (j := k) (evAt rfl hat4) rfl Try.underlying27 (by kernel_rfl) rfl (by omega) rfl) rfl rfl rfl ?_; clear hf fa; intro fa hf
                refine sqv hf (r_loadA (cs := [(.string y.1), (.int .u8 y.2.1), (.int .u32 y.2.2.1)]) rfl Try.underlying104 rfl (by kernel_rfl) (cellsAt_below hel5 hb hlb4)) rfl rfl rfl ?_; clear hf fa; intro fa hf
                refine sqdt hf (d_alloc (z := (.agg #[(.string ⟨#[]⟩), (.int .u8 (0 : Int)), (.int .u32 (0 : Int))])) (cs := #[(.string ⟨#[]⟩), (.int .u8 (0 : Int)), (.int .u32 (0 : Int))]) (by kernel_rfl) rfl) rfl rfl rfl ?_; clear hf fa; rintro fa _ w24 ⟨b9, rfl, hle9, hk12, he12⟩ hf
                have hBb9 : w.heap.size ≤ b9 := Nat.le_trans hb.size hle9
                have : b1 < b9 := Nat.lt_of_lt_of_le (blk_lt hkb1) hle9
                replace hkb1 := blk_ext hkb1 he12
                replace hro := Row.ext hro he12
                replace hb := hb.trans (Below.mono he12 hb.size)
                refine sqn hf (d_storeK (T := 104) (v := (.agg #[(.string y.1), (.int .u8 y.2.1), (.int .u32 y.2.2.1)])) (cs := #[(.string ⟨#[]⟩), (.int .u8 (0 : Int)), (.int .u32 (0 : Int))]) (cs' := #[(.string y.1), (.int .u8 y.2.1), (.int .u32 y.2.2.1)]) rfl rfl (by kernel_rfl) (by kernel_rfl) hk12 (by kernel_rfl) (by kernel_rfl)) rfl rfl ?_; clear hf fa; rintro fa _ w25 ⟨hk13, hg7⟩ hf
                replace hkb1 := blk_grown hkb1 hg7 (by omega)
                replace hro := Row.grown hro hg7 (Row.ne_type hro hk12 rfl)
                replace hb := hb.trans (grown_below hg7 hb.size hBb9)
                apply wpList_nil
                (try simp only [Exit.then, Exit.inBlock, ↓reduceIte, Nat.reduceEqDiff])
                refine hK36 _ _ ?_
                refine wp_region_unT 17 (fun wq => Below w25.heap.size w25 wq) (fun w w' => Below w.heap.size w w')
                  (fun V => [(fun x _ => x = (.slice roa (((imL m ++ (m.2.2.2.2.2.2.1.list.take k).map exLn)).length) roc)), (fun x _ => x = (.pointer (some ⟨b9, 0, none⟩))), (fun x _ => x = (.string y.1)), (fun x _ => x = (.string (shS y.1))), (fun x _ => x = (.string ((⟨#[101, 120, 112, 111, 114, 116, 32]⟩ : ByteArray) ++ (shS y.1)))), (fun x _ => x = (.string (((⟨#[101, 120, 112, 111, 114, 116, 32]⟩ : ByteArray) ++ (shS y.1)) ++ (⟨#[32]⟩ : ByteArray)))), (fun x _ => x = (.pointer (some ⟨b9, 1, none⟩))), (fun x _ => x = (.int .u8 y.2.1)), (fun x _ => x = (.string (kindS y.2.1))), (fun x _ => x = (.string ((((⟨#[101, 120, 112, 111, 114, 116, 32]⟩ : ByteArray) ++ (shS y.1)) ++ (⟨#[32]⟩ : ByteArray)) ++ (kindS y.2.1)))), (fun x _ => x = (.string (((((⟨#[101, 120, 112, 111, 114, 116, 32]⟩ : ByteArray) ++ (shS y.1)) ++ (⟨#[32]⟩ : ByteArray)) ++ (kindS y.2.1)) ++ (⟨#[32]⟩ : ByteArray)))), (fun x _ => x = (.pointer (some ⟨b9, 2, none⟩))), (fun x _ => x = (.int .u32 y.2.2.1)), (fun x _ => x = (.int .u64 y.2.2.1)), (fun x _ => x = (.string (dS y.2.2.1))), (fun x _ => x = (.string ((((((⟨#[101, 120, 112, 111, 114, 116, 32]⟩ : ByteArray) ++ (shS y.1)) ++ (⟨#[32]⟩ : ByteArray)) ++ (kindS y.2.1)) ++ (⟨#[32]⟩ : ByteArray)) ++ (dS y.2.2.1)))), (fun x wq => ∃ b, x = .slice (some ⟨b, 0, none⟩) 1 1 ∧ w25.heap.size ≤ b ∧ wq.heap[b]? = some (.cells #[(.string ((((((⟨#[101, 120, 112, 111, 114, 116, 32]⟩ : ByteArray) ++ (shS y.1)) ++ (⟨#[32]⟩ : ByteArray)) ++ (kindS y.2.1)) ++ (⟨#[32]⟩ : ByteArray)) ++ (dS y.2.2.1)))] 9 (0, 0)))])
                  [16]
                  [[], [], [1], [2], [3], [4], [], [6], [3, 7], [5, 8], [9], [], [11], [12], [8, 13], [10, 14], [15], [], []]
                  hf (by kernel_rfl) (by kernel_rfl) (by kernel_rfl) (fun _ => rfl) ((Below.refl _ _).drew) (fun a b h1 h2 => h1.trans (h2.mono h1.size)) (fun _ _ h => h.size) (fun V => ⟨kept_eq, kept_eq, kept_eq, kept_eq, kept_eq, kept_eq, kept_eq, kept_eq, kept_eq, kept_eq, kept_eq, kept_eq, kept_eq, kept_eq, kept_eq, kept_eq, keptB, trivial⟩) (fun _ _ _ _ _ => rfl) ?_ ?_
                · skip
                  intro V
                  refine ⟨fun wu0 hC hd => ?_, ?_⟩
                  · clear hd
                    replace hb := hb.trans (hC.mono hb.size)
                    replace hkb1 := blk_ext hkb1 hC
                    replace hk13 := blk_ext hk13 hC
                    replace hro := Row.ext hro hC
                    exact Runs.does (r_move rfl) ⟨Below.refl _ _, rfl, nofr rfl⟩
                  refine ⟨fun wu1 hC hd => ?_, ?_⟩
                  · clear hd
                    replace hb := hb.trans (hC.mono hb.size)
                    replace hkb1 := blk_ext hkb1 hC
                    replace hk13 := blk_ext hk13 hC
                    replace hro := Row.ext hro hC
                    exact Runs.does (r_fa rfl Try.underlying104 (f := 0) (q := 0) rfl (by kernel_rfl) rfl) ⟨Below.refl _ _, rfl, nofr rfl⟩
                  refine ⟨fun wu2 hC hd => ?_, ?_⟩
                  · obtain ⟨h1, _⟩ := hd
                    skip
                    replace h1 : V 1 = (.pointer (some ⟨b9, 0, none⟩)) := h1
                    replace hb := hb.trans (hC.mono hb.size)
                    replace hkb1 := blk_ext hkb1 hC
                    replace hk13 := blk_ext hk13 hC
                    replace hro := Row.ext hro hC
                    exact Runs.does (r_load (v := (.string y.1)) (congrArg some h1) Try.underlying9 rfl (cell_blk hk13 rfl)) ⟨Below.refl _ _, rfl, nofr rfl⟩
                  refine ⟨fun wu3 hC hd => ?_, ?_⟩
                  · obtain ⟨h2, _⟩ := hd
                    skip
                    replace h2 : V 2 = (.string y.1) := h2
                    replace hb := hb.trans (hC.mono hb.size)
                    replace hkb1 := blk_ext hkb1 hC
                    replace hk13 := blk_ext hk13 hC
                    replace hro := Row.ext hro hC
                    refine Does.mono (d_callB (vs := [(.string y.1)]) (show [some (V 2)] = [some (.string y.1)] from by rw [h2]) Try.func41 (by kernel_rfl) (by kernel_rfl) (showS_any y.1 _ (by omega))) (fun _ _ h => ⟨h.2, h.1, nofr rfl⟩)
                  refine ⟨fun wu4 hC hd => ?_, ?_⟩
                  · obtain ⟨h3, _⟩ := hd
                    skip
                    replace h3 : V 3 = (.string (shS y.1)) := h3
                    replace hb := hb.trans (hC.mono hb.size)
                    replace hkb1 := blk_ext hkb1 hC
                    replace hk13 := blk_ext hk13 hC
                    replace hro := Row.ext hro hC
                    exact Runs.does (r_sadd rfl (congrArg some h3) (by have : ((⟨#[101, 120, 112, 111, 114, 116, 32]⟩) : ByteArray).size = 7 := rfl; omega)) ⟨Below.refl _ _, rfl, nofr rfl⟩
                  refine ⟨fun wu5 hC hd => ?_, ?_⟩
                  · obtain ⟨h4, _⟩ := hd
                    skip
                    replace h4 : V 4 = (.string ((⟨#[101, 120, 112, 111, 114, 116, 32]⟩ : ByteArray) ++ (shS y.1))) := h4
                    replace hb := hb.trans (hC.mono hb.size)
                    replace hkb1 := blk_ext hkb1 hC
                    replace hk13 := blk_ext hk13 hC
                    replace hro := Row.ext hro hC
                    exact Runs.does (r_sadd (congrArg some h4) rfl (by have : ((⟨#[101, 120, 112, 111, 114, 116, 32]⟩) : ByteArray).size = 7 := rfl; have := sz_app (⟨#[101, 120, 112, 111, 114, 116, 32]⟩ : ByteArray) (shS y.1); have : ((⟨#[32]⟩) : ByteArray).size = 1 := rfl; omega)) ⟨Below.refl _ _, rfl, nofr rfl⟩
                  refine ⟨fun wu6 hC hd => ?_, ?_⟩
                  · clear hd
                    replace hb := hb.trans (hC.mono hb.size)
                    replace hkb1 := blk_ext hkb1 hC
                    replace hk13 := blk_ext hk13 hC
                    replace hro := Row.ext hro hC
                    exact Runs.does (r_fa rfl Try.underlying104 (f := 1) (q := 1) rfl (by kernel_rfl) rfl) ⟨Below.refl _ _, rfl, nofr rfl⟩
                  refine ⟨fun wu7 hC hd => ?_, ?_⟩
                  · obtain ⟨h6, _⟩ := hd
                    skip
                    replace h6 : V 6 = (.pointer (some ⟨b9, 1, none⟩)) := h6
                    replace hb := hb.trans (hC.mono hb.size)
                    replace hkb1 := blk_ext hkb1 hC
                    replace hk13 := blk_ext hk13 hC
                    replace hro := Row.ext hro hC
                    exact Runs.does (r_load (v := (.int .u8 y.2.1)) (congrArg some h6) Try.underlying5 rfl (cell_blk hk13 rfl)) ⟨Below.refl _ _, rfl, nofr rfl⟩
                  refine ⟨fun wu8 hC hd => ?_, ?_⟩
                  · obtain ⟨h3, h7, _⟩ := hd
                    skip
                    skip
                    replace h3 : V 3 = (.string (shS y.1)) := h3
                    replace h7 : V 7 = (.int .u8 y.2.1) := h7
                    replace hb := hb.trans (hC.mono hb.size)
                    replace hkb1 := blk_ext hkb1 hC
                    replace hk13 := blk_ext hk13 hC
                    replace hro := Row.ext hro hC
                    refine Does.mono (d_callB (vs := [(.int .u8 y.2.1)]) (show [some (V 7)] = [some (.int .u8 y.2.1)] from by rw [h7]) Try.func43 (by kernel_rfl) (by kernel_rfl) (kind_any y.2.1 _ (by omega))) (fun _ _ h => ⟨h.2, h.1, nofr rfl⟩)
                  refine ⟨fun wu9 hC hd => ?_, ?_⟩
                  · obtain ⟨h5, h8, _⟩ := hd
                    skip
                    skip
                    replace h5 : V 5 = (.string (((⟨#[101, 120, 112, 111, 114, 116, 32]⟩ : ByteArray) ++ (shS y.1)) ++ (⟨#[32]⟩ : ByteArray))) := h5
                    replace h8 : V 8 = (.string (kindS y.2.1)) := h8
                    replace hb := hb.trans (hC.mono hb.size)
                    replace hkb1 := blk_ext hkb1 hC
                    replace hk13 := blk_ext hk13 hC
                    replace hro := Row.ext hro hC
                    exact Runs.does (r_sadd (congrArg some h5) (congrArg some h8) (by have : ((⟨#[101, 120, 112, 111, 114, 116, 32]⟩) : ByteArray).size = 7 := rfl; have := sz_app (⟨#[101, 120, 112, 111, 114, 116, 32]⟩ : ByteArray) (shS y.1); have : ((⟨#[32]⟩) : ByteArray).size = 1 := rfl; have := sz_app ((⟨#[101, 120, 112, 111, 114, 116, 32]⟩ : ByteArray) ++ (shS y.1)) (⟨#[32]⟩ : ByteArray); omega)) ⟨Below.refl _ _, rfl, nofr rfl⟩
                  refine ⟨fun wu10 hC hd => ?_, ?_⟩
                  · obtain ⟨h9, _⟩ := hd
                    skip
                    replace h9 : V 9 = (.string ((((⟨#[101, 120, 112, 111, 114, 116, 32]⟩ : ByteArray) ++ (shS y.1)) ++ (⟨#[32]⟩ : ByteArray)) ++ (kindS y.2.1))) := h9
                    replace hb := hb.trans (hC.mono hb.size)
                    replace hkb1 := blk_ext hkb1 hC
                    replace hk13 := blk_ext hk13 hC
                    replace hro := Row.ext hro hC
                    exact Runs.does (r_sadd (congrArg some h9) rfl (by have : ((⟨#[101, 120, 112, 111, 114, 116, 32]⟩) : ByteArray).size = 7 := rfl; have := sz_app (⟨#[101, 120, 112, 111, 114, 116, 32]⟩ : ByteArray) (shS y.1); have : ((⟨#[32]⟩) : ByteArray).size = 1 := rfl; have := sz_app ((⟨#[101, 120, 112, 111, 114, 116, 32]⟩ : ByteArray) ++ (shS y.1)) (⟨#[32]⟩ : ByteArray); have := sz_app (((⟨#[101, 120, 112, 111, 114, 116, 32]⟩ : ByteArray) ++ (shS y.1)) ++ (⟨#[32]⟩ : ByteArray)) (kindS y.2.1); have : ((⟨#[32]⟩) : ByteArray).size = 1 := rfl; omega)) ⟨Below.refl _ _, rfl, nofr rfl⟩
                  refine ⟨fun wu11 hC hd => ?_, ?_⟩
                  · clear hd
                    replace hb := hb.trans (hC.mono hb.size)
                    replace hkb1 := blk_ext hkb1 hC
                    replace hk13 := blk_ext hk13 hC
                    replace hro := Row.ext hro hC
                    exact Runs.does (r_fa rfl Try.underlying104 (f := 2) (q := 2) rfl (by kernel_rfl) rfl) ⟨Below.refl _ _, rfl, nofr rfl⟩
                  refine ⟨fun wu12 hC hd => ?_, ?_⟩
                  · obtain ⟨h11, _⟩ := hd
                    skip
                    replace h11 : V 11 = (.pointer (some ⟨b9, 2, none⟩)) := h11
                    replace hb := hb.trans (hC.mono hb.size)
                    replace hkb1 := blk_ext hkb1 hC
                    replace hk13 := blk_ext hk13 hC
                    replace hro := Row.ext hro hC
                    exact Runs.does (r_load (v := (.int .u32 y.2.2.1)) (congrArg some h11) Try.underlying31 rfl (cell_blk hk13 rfl)) ⟨Below.refl _ _, rfl, nofr rfl⟩
                  refine ⟨fun wu13 hC hd => ?_, ?_⟩
                  · obtain ⟨h12, _⟩ := hd
                    skip
                    replace h12 : V 12 = (.int .u32 y.2.2.1) := h12
                    replace hb := hb.trans (hC.mono hb.size)
                    replace hkb1 := blk_ext hkb1 hC
                    replace hk13 := blk_ext hk13 hC
                    replace hro := Row.ext hro hC
                    exact Runs.does (r_conv (C := y.2.2.1) (congrArg some h12) Try.underlying31 Try.underlying63 (by rw [IntKind.wrap_u64]; omega)) ⟨Below.refl _ _, rfl, nofr rfl⟩
                  refine ⟨fun wu14 hC hd => ?_, ?_⟩
                  · obtain ⟨h8, h13, _⟩ := hd
                    skip
                    skip
                    replace h8 : V 8 = (.string (kindS y.2.1)) := h8
                    replace h13 : V 13 = (.int .u64 y.2.2.1) := h13
                    replace hb := hb.trans (hC.mono hb.size)
                    replace hkb1 := blk_ext hkb1 hC
                    replace hk13 := blk_ext hk13 hC
                    replace hro := Row.ext hro hC
                    refine Does.mono (d_callB (vs := [(.int .u64 y.2.2.1)]) (show [some (V 13)] = [some (.int .u64 y.2.2.1)] from by rw [h13]) Try.func40 (by kernel_rfl) (by kernel_rfl) (nat46_any y.2.2.1 _ (by omega))) (fun _ _ h => ⟨h.2, h.1, nofr rfl⟩)
                  refine ⟨fun wu15 hC hd => ?_, ?_⟩
                  · obtain ⟨h10, h14, _⟩ := hd
                    skip
                    skip
                    replace h10 : V 10 = (.string (((((⟨#[101, 120, 112, 111, 114, 116, 32]⟩ : ByteArray) ++ (shS y.1)) ++ (⟨#[32]⟩ : ByteArray)) ++ (kindS y.2.1)) ++ (⟨#[32]⟩ : ByteArray))) := h10
                    replace h14 : V 14 = (.string (dS y.2.2.1)) := h14
                    replace hb := hb.trans (hC.mono hb.size)
                    replace hkb1 := blk_ext hkb1 hC
                    replace hk13 := blk_ext hk13 hC
                    replace hro := Row.ext hro hC
                    exact Runs.does (r_sadd (congrArg some h10) (congrArg some h14) (by have : ((⟨#[101, 120, 112, 111, 114, 116, 32]⟩) : ByteArray).size = 7 := rfl; have := sz_app (⟨#[101, 120, 112, 111, 114, 116, 32]⟩ : ByteArray) (shS y.1); have : ((⟨#[32]⟩) : ByteArray).size = 1 := rfl; have := sz_app ((⟨#[101, 120, 112, 111, 114, 116, 32]⟩ : ByteArray) ++ (shS y.1)) (⟨#[32]⟩ : ByteArray); have := sz_app (((⟨#[101, 120, 112, 111, 114, 116, 32]⟩ : ByteArray) ++ (shS y.1)) ++ (⟨#[32]⟩ : ByteArray)) (kindS y.2.1); have : ((⟨#[32]⟩) : ByteArray).size = 1 := rfl; have := sz_app ((((⟨#[101, 120, 112, 111, 114, 116, 32]⟩ : ByteArray) ++ (shS y.1)) ++ (⟨#[32]⟩ : ByteArray)) ++ (kindS y.2.1)) (⟨#[32]⟩ : ByteArray); omega)) ⟨Below.refl _ _, rfl, nofr rfl⟩
                  refine ⟨fun wu16 hC hd => ?_, ?_⟩
                  · obtain ⟨h15, _⟩ := hd
                    skip
                    replace h15 : V 15 = (.string ((((((⟨#[101, 120, 112, 111, 114, 116, 32]⟩ : ByteArray) ++ (shS y.1)) ++ (⟨#[32]⟩ : ByteArray)) ++ (kindS y.2.1)) ++ (⟨#[32]⟩ : ByteArray)) ++ (dS y.2.2.1))) := h15
                    replace hb := hb.trans (hC.mono hb.size)
                    replace hkb1 := blk_ext hkb1 hC
                    replace hk13 := blk_ext hk13 hC
                    replace hro := Row.ext hro hC
                    refine Does.mono (d_bslice (z := (.string ⟨#[]⟩)) (sz := 1) (vs := [(0, (.string ((((((⟨#[101, 120, 112, 111, 114, 116, 32]⟩ : ByteArray) ++ (shS y.1)) ++ (⟨#[32]⟩ : ByteArray)) ++ (kindS y.2.1)) ++ (⟨#[32]⟩ : ByteArray)) ++ (dS y.2.2.1))))]) (cs := #[(.string ((((((⟨#[101, 120, 112, 111, 114, 116, 32]⟩ : ByteArray) ++ (shS y.1)) ++ (⟨#[32]⟩ : ByteArray)) ++ (kindS y.2.1)) ++ (⟨#[32]⟩ : ByteArray)) ++ (dS y.2.2.1)))]) (show [(0, some (V 15))] = [(0, some (.string ((((((⟨#[101, 120, 112, 111, 114, 116, 32]⟩ : ByteArray) ++ (shS y.1)) ++ (⟨#[32]⟩ : ByteArray)) ++ (kindS y.2.1)) ++ (⟨#[32]⟩ : ByteArray)) ++ (dS y.2.2.1))))] from by rw [h15]) Try.underlying32 (by kernel_rfl) rfl (by kernel_rfl)) ?_
                    rintro _ w' ⟨b, rfl, hF⟩
                    exact ⟨hF.2.2, ⟨b, rfl, Nat.le_trans hC.size hF.1, hF.2.1⟩, isfr rfl hF.1 (blk_lt hF.2.1)⟩
                  trivial
                · skip
                  clear hf fa; intro V w26 fa he13 hp hnb hf
                  have hv0 : V 0 = (.slice roa (((imL m ++ (m.2.2.2.2.2.2.1.list.take k).map exLn)).length) roc) := postsHold_at hp 0 rfl
                  have hv1 : V 1 = (.pointer (some ⟨b9, 0, none⟩)) := postsHold_at hp 1 rfl
                  have hv2 : V 2 = (.string y.1) := postsHold_at hp 2 rfl
                  have hv3 : V 3 = (.string (shS y.1)) := postsHold_at hp 3 rfl
                  have hv4 : V 4 = (.string ((⟨#[101, 120, 112, 111, 114, 116, 32]⟩ : ByteArray) ++ (shS y.1))) := postsHold_at hp 4 rfl
                  have hv5 : V 5 = (.string (((⟨#[101, 120, 112, 111, 114, 116, 32]⟩ : ByteArray) ++ (shS y.1)) ++ (⟨#[32]⟩ : ByteArray))) := postsHold_at hp 5 rfl
                  have hv6 : V 6 = (.pointer (some ⟨b9, 1, none⟩)) := postsHold_at hp 6 rfl
                  have hv7 : V 7 = (.int .u8 y.2.1) := postsHold_at hp 7 rfl
                  have hv8 : V 8 = (.string (kindS y.2.1)) := postsHold_at hp 8 rfl
                  have hv9 : V 9 = (.string ((((⟨#[101, 120, 112, 111, 114, 116, 32]⟩ : ByteArray) ++ (shS y.1)) ++ (⟨#[32]⟩ : ByteArray)) ++ (kindS y.2.1))) := postsHold_at hp 9 rfl
                  have hv10 : V 10 = (.string (((((⟨#[101, 120, 112, 111, 114, 116, 32]⟩ : ByteArray) ++ (shS y.1)) ++ (⟨#[32]⟩ : ByteArray)) ++ (kindS y.2.1)) ++ (⟨#[32]⟩ : ByteArray))) := postsHold_at hp 10 rfl
                  have hv11 : V 11 = (.pointer (some ⟨b9, 2, none⟩)) := postsHold_at hp 11 rfl
                  have hv12 : V 12 = (.int .u32 y.2.2.1) := postsHold_at hp 12 rfl
                  have hv13 : V 13 = (.int .u64 y.2.2.1) := postsHold_at hp 13 rfl
                  have hv14 : V 14 = (.string (dS y.2.2.1)) := postsHold_at hp 14 rfl
                  have hv15 : V 15 = (.string ((((((⟨#[101, 120, 112, 111, 114, 116, 32]⟩ : ByteArray) ++ (shS y.1)) ++ (⟨#[32]⟩ : ByteArray)) ++ (kindS y.2.1)) ++ (⟨#[32]⟩ : ByteArray)) ++ (dS y.2.2.1))) := postsHold_at hp 15 rfl
                  have hv16 := postsHold_at hp 16 rfl
                  obtain ⟨b10, hv16, hle10, hk14⟩ := hv16
                  have hBb10 : w.heap.size ≤ b10 := Nat.le_trans hb.size hle10
                  simp only [List.take_succ_cons, List.take_zero, insAll, ins, hv0, hv1, hv2, hv3, hv4, hv5, hv6, hv7, hv8, hv9, hv10, hv11, hv12, hv13, hv14, hv15, hv16] at hf
                  have : b1 < b10 := Nat.lt_of_lt_of_le (blk_lt hkb1) hle10
                  have : b9 < b10 := Nat.lt_of_lt_of_le (blk_lt hk13) hle10
                  have hnr3 : (Value.slice roa ((((imL m ++ (m.2.2.2.2.2.2.1.list.take k).map exLn)).length)) roc).ownBlock ≠ some b10 := fun hq => by have := (Row.lt hro _ hq).2; have := hle10; omega
                  clear hp hnb hv0 hv1 hv2 hv3 hv4 hv5 hv6 hv7 hv8 hv9 hv10 hv11 hv12 hv13 hv14 hv15 hv16
                  replace hkb1 := blk_ext hkb1 he13
                  replace hk13 := blk_ext hk13 he13
                  replace hro := Row.ext hro he13
                  replace hb := hb.trans (Below.mono he13 hb.size)
                  simp only [List.drop_succ_cons, List.drop_zero]
                  have hs4 := Row.rd (by intros; rfl) (Row.of_new (k := 1) (V := vStr) (l := [((((((⟨#[101, 120, 112, 111, 114, 116, 32]⟩ : ByteArray) ++ (shS y.1)) ++ (⟨#[32]⟩ : ByteArray)) ++ (kindS y.2.1)) ++ (⟨#[32]⟩ : ByteArray)) ++ (dS y.2.2.1))]) hk14 (Nat.le_refl _) rfl rfl (Nat.le_of_ble_eq_true rfl))
                  refine sqdt hf (d_append (V := vStr) (k := 1) (e := 9) (bytes := 16) (z := (.string ⟨#[]⟩)) (news := [((((((⟨#[101, 120, 112, 111, 114, 116, 32]⟩ : ByteArray) ++ (shS y.1)) ++ (⟨#[32]⟩ : ByteArray)) ++ (kindS y.2.1)) ++ (⟨#[32]⟩ : ByteArray)) ++ (dS y.2.2.1))]) (base := w.heap.size) (by intros; rfl) (by intro x u hu; simp only [vStr, List.mem_singleton] at hu; subst hu; rfl) rfl rfl Try.underlying32 (by kernel_rfl) rfl rfl rfl hro hs4 rfl (fun h => by cases h) (by first | omega | (simp only [List.length_cons, List.length_nil, List.length_append, nums_len, List.length_map, List.length_take, Sl.list_length]; omega)) (by have := hb.size; omega)) rfl rfl rfl ?_; clear hf fa; rintro fa v w27 ⟨hr6, hg8⟩ hf; obtain ⟨ra4, rc4, rfl, hcrc4, hmrc4⟩ := Row.slice hr6
                  replace hkb1 := blk_row' hkb1 hg8 (Row.ne_type hro hkb1 rfl)
                  replace hk13 := blk_row' hk13 hg8 (Row.ne_type hro hk13 rfl)
                  replace hb := hb.trans (row_below hro hg8 hb.size (by have := hb.size; omega))
                  refine sqv hf (r_assign rfl) rfl rfl rfl ?_; clear hf fa; intro fa hf
                  apply wpList_nil
                  (try simp only [Exit.then, Exit.inBlock, ↓reduceIte, Nat.reduceEqDiff])
                  refine hK35 _ _ ?_
                  refine wp_region_lit ?_
                  refine sqv hf (r_add (C := (((k : Nat) : Int) + (1 : Int))) rfl rfl (by rw [IntKind.wrap_i64]; omega)) rfl rfl rfl ?_; clear hf fa; intro fa hf
                  refine sqv hf (r_move rfl) rfl rfl rfl ?_; clear hf fa; intro fa hf
                  apply wpList_nil
                  (try simp only [Exit.then, Exit.inBlock, ↓reduceIte, Nat.reduceEqDiff])
                  have hrl : ((m.2.2.2.2.2.2.1.list.take (k + 1)).map exLn).length = ((m.2.2.2.2.2.2.1.list.take k).map exLn).length + 1 := by rw [take_at hy, List.map_append, List.length_append]; rfl
                  refine hKL5 _ _ _ (by omega) ⟨(k + 1), ra4, rc4, rfl, hf.sub ⟨rfl, rfl, rfl, (some_int (by first | rfl | omega)), (some_sl (by first | omega | rfl | (simp only [List.length_append, List.length_cons, List.length_nil]; omega) | (simp <;> omega)) rfl), trivial⟩, hb, (rowToE hr6 (map_snoc (f := exLn) (p := imL m) hy)), hkb1, by omega⟩
              · have hqt106_1b := hqt106_1
                replace hqt106_1 := Bool.eq_false_iff.1 hqt106_1
                try simp only [ne_eq, decide_eq_true_eq, Bool.and_eq_true, Bool.or_eq_true, Bool.not_eq_true', decide_eq_false_iff_not] at hqt106_1
                refine wp_exit ?_
                (try simp only [Exit.then, Exit.inBlock, ↓reduceIte, Nat.reduceEqDiff])
                refine hK31 _ _ ?_
                refine wp_seq_k (fun K37 hK37 => ?_)
                refine wp_region_unT 25 (fun wq => Below w23.heap.size w23 wq) (fun w w' => Below w.heap.size w w')
                  (fun V => [(fun x _ => x = (.slice roa (((imL m ++ (m.2.2.2.2.2.2.1.list.take k).map exLn)).length) roc)), (fun x _ => x = (.pointer (some ⟨b1, 2, none⟩))), (fun x _ => x = (.slice m.2.2.1.at' m.2.2.1.len m.2.2.1.cap)), (fun x _ => x = (.int .i64 ((m.2.2.1.len : Nat) : Int))), (fun x _ => x = (.string (dS ((m.2.2.1.len : Nat) : Int)))), (fun x _ => x = (.string ((⟨#[99, 111, 117, 110, 116, 115, 32]⟩ : ByteArray) ++ (dS ((m.2.2.1.len : Nat) : Int))))), (fun x _ => x = (.string (((⟨#[99, 111, 117, 110, 116, 115, 32]⟩ : ByteArray) ++ (dS ((m.2.2.1.len : Nat) : Int))) ++ (⟨#[32]⟩ : ByteArray)))), (fun x _ => x = (.pointer (some ⟨b1, 5, none⟩))), (fun x _ => x = (.slice m.2.2.2.2.2.1.at' m.2.2.2.2.2.1.len m.2.2.2.2.2.1.cap)), (fun x _ => x = (.int .i64 ((m.2.2.2.2.2.1.len : Nat) : Int))), (fun x _ => x = (.string (dS ((m.2.2.2.2.2.1.len : Nat) : Int)))), (fun x _ => x = (.string ((((⟨#[99, 111, 117, 110, 116, 115, 32]⟩ : ByteArray) ++ (dS ((m.2.2.1.len : Nat) : Int))) ++ (⟨#[32]⟩ : ByteArray)) ++ (dS ((m.2.2.2.2.2.1.len : Nat) : Int))))), (fun x _ => x = (.string (((((⟨#[99, 111, 117, 110, 116, 115, 32]⟩ : ByteArray) ++ (dS ((m.2.2.1.len : Nat) : Int))) ++ (⟨#[32]⟩ : ByteArray)) ++ (dS ((m.2.2.2.2.2.1.len : Nat) : Int))) ++ (⟨#[32]⟩ : ByteArray)))), (fun x _ => x = (.pointer (some ⟨b1, 8, none⟩))), (fun x _ => x = (.slice m.2.2.2.2.2.2.2.2.1.at' m.2.2.2.2.2.2.2.2.1.len m.2.2.2.2.2.2.2.2.1.cap)), (fun x _ => x = (.int .i64 ((m.2.2.2.2.2.2.2.2.1.len : Nat) : Int))), (fun x _ => x = (.string (dS ((m.2.2.2.2.2.2.2.2.1.len : Nat) : Int)))), (fun x _ => x = (.string ((((((⟨#[99, 111, 117, 110, 116, 115, 32]⟩ : ByteArray) ++ (dS ((m.2.2.1.len : Nat) : Int))) ++ (⟨#[32]⟩ : ByteArray)) ++ (dS ((m.2.2.2.2.2.1.len : Nat) : Int))) ++ (⟨#[32]⟩ : ByteArray)) ++ (dS ((m.2.2.2.2.2.2.2.2.1.len : Nat) : Int))))), (fun x _ => x = (.string (((((((⟨#[99, 111, 117, 110, 116, 115, 32]⟩ : ByteArray) ++ (dS ((m.2.2.1.len : Nat) : Int))) ++ (⟨#[32]⟩ : ByteArray)) ++ (dS ((m.2.2.2.2.2.1.len : Nat) : Int))) ++ (⟨#[32]⟩ : ByteArray)) ++ (dS ((m.2.2.2.2.2.2.2.2.1.len : Nat) : Int))) ++ (⟨#[32]⟩ : ByteArray)))), (fun x _ => x = (.pointer (some ⟨b1, 10, none⟩))), (fun x _ => x = (.slice m.2.2.2.2.2.2.2.2.2.2.1.at' m.2.2.2.2.2.2.2.2.2.2.1.len m.2.2.2.2.2.2.2.2.2.2.1.cap)), (fun x _ => x = (.int .i64 ((m.2.2.2.2.2.2.2.2.2.2.1.len : Nat) : Int))), (fun x _ => x = (.string (dS ((m.2.2.2.2.2.2.2.2.2.2.1.len : Nat) : Int)))), (fun x _ => x = (.string ((((((((⟨#[99, 111, 117, 110, 116, 115, 32]⟩ : ByteArray) ++ (dS ((m.2.2.1.len : Nat) : Int))) ++ (⟨#[32]⟩ : ByteArray)) ++ (dS ((m.2.2.2.2.2.1.len : Nat) : Int))) ++ (⟨#[32]⟩ : ByteArray)) ++ (dS ((m.2.2.2.2.2.2.2.2.1.len : Nat) : Int))) ++ (⟨#[32]⟩ : ByteArray)) ++ (dS ((m.2.2.2.2.2.2.2.2.2.2.1.len : Nat) : Int))))), (fun x wq => ∃ b, x = .slice (some ⟨b, 0, none⟩) 1 1 ∧ w23.heap.size ≤ b ∧ wq.heap[b]? = some (.cells #[(.string ((((((((⟨#[99, 111, 117, 110, 116, 115, 32]⟩ : ByteArray) ++ (dS ((m.2.2.1.len : Nat) : Int))) ++ (⟨#[32]⟩ : ByteArray)) ++ (dS ((m.2.2.2.2.2.1.len : Nat) : Int))) ++ (⟨#[32]⟩ : ByteArray)) ++ (dS ((m.2.2.2.2.2.2.2.2.1.len : Nat) : Int))) ++ (⟨#[32]⟩ : ByteArray)) ++ (dS ((m.2.2.2.2.2.2.2.2.2.2.1.len : Nat) : Int))))] 9 (0, 0)))])
                  [24]
                  [[], [], [1], [2], [3], [4], [5], [], [7], [8], [4, 9], [6, 10], [11], [], [13], [14], [10, 15], [12, 16], [17], [], [19], [20], [16, 21], [18, 22], [23], [], []]
                  hf (by kernel_rfl) (by kernel_rfl) (by kernel_rfl) (fun _ => rfl) ((Below.refl _ _).drew) (fun a b h1 h2 => h1.trans (h2.mono h1.size)) (fun _ _ h => h.size) (fun V => ⟨kept_eq, kept_eq, kept_eq, kept_eq, kept_eq, kept_eq, kept_eq, kept_eq, kept_eq, kept_eq, kept_eq, kept_eq, kept_eq, kept_eq, kept_eq, kept_eq, kept_eq, kept_eq, kept_eq, kept_eq, kept_eq, kept_eq, kept_eq, kept_eq, keptB, trivial⟩) (fun _ _ _ _ _ => rfl) ?_ ?_
                · skip
                  intro V
                  refine ⟨fun wu0 hC hd => ?_, ?_⟩
                  · clear hd
                    replace hb := hb.trans (hC.mono hb.size)
                    replace hkb1 := blk_ext hkb1 hC
                    replace hro := Row.ext hro hC
                    exact Runs.does (r_move rfl) ⟨Below.refl _ _, rfl, nofr rfl⟩
                  refine ⟨fun wu1 hC hd => ?_, ?_⟩
                  · clear hd
                    replace hb := hb.trans (hC.mono hb.size)
                    replace hkb1 := blk_ext hkb1 hC
                    replace hro := Row.ext hro hC
                    exact Runs.does (r_fa rfl Try.underlying36 (f := 2) (q := 2) rfl (by kernel_rfl) rfl) ⟨Below.refl _ _, rfl, nofr rfl⟩
                  refine ⟨fun wu2 hC hd => ?_, ?_⟩
                  · obtain ⟨h1, _⟩ := hd
                    skip
                    replace h1 : V 1 = (.pointer (some ⟨b1, 2, none⟩)) := h1
                    replace hb := hb.trans (hC.mono hb.size)
                    replace hkb1 := blk_ext hkb1 hC
                    replace hro := Row.ext hro hC
                    exact Runs.does (r_load (v := (.slice m.2.2.1.at' m.2.2.1.len m.2.2.1.cap)) (congrArg some h1) Try.underlying24 rfl (cell_blk hkb1 rfl)) ⟨Below.refl _ _, rfl, nofr rfl⟩
                  refine ⟨fun wu3 hC hd => ?_, ?_⟩
                  · obtain ⟨h2, _⟩ := hd
                    skip
                    replace h2 : V 2 = (.slice m.2.2.1.at' m.2.2.1.len m.2.2.1.cap) := h2
                    replace hb := hb.trans (hC.mono hb.size)
                    replace hkb1 := blk_ext hkb1 hC
                    replace hro := Row.ext hro hC
                    exact Runs.does (r_lensl (congrArg some h2) Try.underlying24) ⟨Below.refl _ _, rfl, nofr rfl⟩
                  refine ⟨fun wu4 hC hd => ?_, ?_⟩
                  · obtain ⟨h3, _⟩ := hd
                    skip
                    replace h3 : V 3 = (.int .i64 ((m.2.2.1.len : Nat) : Int)) := h3
                    replace hb := hb.trans (hC.mono hb.size)
                    replace hkb1 := blk_ext hkb1 hC
                    replace hro := Row.ext hro hC
                    refine Does.mono (d_callB (vs := [(.int .i64 ((m.2.2.1.len : Nat) : Int))]) (show [some (V 3)] = [some (.int .i64 ((m.2.2.1.len : Nat) : Int))] from by rw [h3]) Try.func31 (by kernel_rfl) (by kernel_rfl) (digits_any ((m.2.2.1.len : Nat) : Int) _ (inI_u32 (by omega)))) (fun _ _ h => ⟨h.2, h.1, nofr rfl⟩)
                  refine ⟨fun wu5 hC hd => ?_, ?_⟩
                  · obtain ⟨h4, _⟩ := hd
                    skip
                    replace h4 : V 4 = (.string (dS ((m.2.2.1.len : Nat) : Int))) := h4
                    replace hb := hb.trans (hC.mono hb.size)
                    replace hkb1 := blk_ext hkb1 hC
                    replace hro := Row.ext hro hC
                    exact Runs.does (r_sadd rfl (congrArg some h4) (by have : ((⟨#[99, 111, 117, 110, 116, 115, 32]⟩) : ByteArray).size = 7 := rfl; omega)) ⟨Below.refl _ _, rfl, nofr rfl⟩
                  refine ⟨fun wu6 hC hd => ?_, ?_⟩
                  · obtain ⟨h5, _⟩ := hd
                    skip
                    replace h5 : V 5 = (.string ((⟨#[99, 111, 117, 110, 116, 115, 32]⟩ : ByteArray) ++ (dS ((m.2.2.1.len : Nat) : Int)))) := h5
                    replace hb := hb.trans (hC.mono hb.size)
                    replace hkb1 := blk_ext hkb1 hC
                    replace hro := Row.ext hro hC
                    exact Runs.does (r_sadd (congrArg some h5) rfl (by have : ((⟨#[99, 111, 117, 110, 116, 115, 32]⟩) : ByteArray).size = 7 := rfl; have := sz_app (⟨#[99, 111, 117, 110, 116, 115, 32]⟩ : ByteArray) (dS ((m.2.2.1.len : Nat) : Int)); have : ((⟨#[32]⟩) : ByteArray).size = 1 := rfl; omega)) ⟨Below.refl _ _, rfl, nofr rfl⟩
                  refine ⟨fun wu7 hC hd => ?_, ?_⟩
                  · clear hd
                    replace hb := hb.trans (hC.mono hb.size)
                    replace hkb1 := blk_ext hkb1 hC
                    replace hro := Row.ext hro hC
                    exact Runs.does (r_fa rfl Try.underlying36 (f := 5) (q := 5) rfl (by kernel_rfl) rfl) ⟨Below.refl _ _, rfl, nofr rfl⟩
                  refine ⟨fun wu8 hC hd => ?_, ?_⟩
                  · obtain ⟨h7, _⟩ := hd
                    skip
                    replace h7 : V 7 = (.pointer (some ⟨b1, 5, none⟩)) := h7
                    replace hb := hb.trans (hC.mono hb.size)
                    replace hkb1 := blk_ext hkb1 hC
                    replace hro := Row.ext hro hC
                    exact Runs.does (r_load (v := (.slice m.2.2.2.2.2.1.at' m.2.2.2.2.2.1.len m.2.2.2.2.2.1.cap)) (congrArg some h7) Try.underlying26 rfl (cell_blk hkb1 rfl)) ⟨Below.refl _ _, rfl, nofr rfl⟩
                  refine ⟨fun wu9 hC hd => ?_, ?_⟩
                  · obtain ⟨h8, _⟩ := hd
                    skip
                    replace h8 : V 8 = (.slice m.2.2.2.2.2.1.at' m.2.2.2.2.2.1.len m.2.2.2.2.2.1.cap) := h8
                    replace hb := hb.trans (hC.mono hb.size)
                    replace hkb1 := blk_ext hkb1 hC
                    replace hro := Row.ext hro hC
                    exact Runs.does (r_lensl (congrArg some h8) Try.underlying26) ⟨Below.refl _ _, rfl, nofr rfl⟩
                  refine ⟨fun wu10 hC hd => ?_, ?_⟩
                  · obtain ⟨h4, h9, _⟩ := hd
                    skip
                    skip
                    replace h4 : V 4 = (.string (dS ((m.2.2.1.len : Nat) : Int))) := h4
                    replace h9 : V 9 = (.int .i64 ((m.2.2.2.2.2.1.len : Nat) : Int)) := h9
                    replace hb := hb.trans (hC.mono hb.size)
                    replace hkb1 := blk_ext hkb1 hC
                    replace hro := Row.ext hro hC
                    refine Does.mono (d_callB (vs := [(.int .i64 ((m.2.2.2.2.2.1.len : Nat) : Int))]) (show [some (V 9)] = [some (.int .i64 ((m.2.2.2.2.2.1.len : Nat) : Int))] from by rw [h9]) Try.func31 (by kernel_rfl) (by kernel_rfl) (digits_any ((m.2.2.2.2.2.1.len : Nat) : Int) _ (inI_u32 (by omega)))) (fun _ _ h => ⟨h.2, h.1, nofr rfl⟩)
                  refine ⟨fun wu11 hC hd => ?_, ?_⟩
                  · obtain ⟨h6, h10, _⟩ := hd
                    skip
                    skip
                    replace h6 : V 6 = (.string (((⟨#[99, 111, 117, 110, 116, 115, 32]⟩ : ByteArray) ++ (dS ((m.2.2.1.len : Nat) : Int))) ++ (⟨#[32]⟩ : ByteArray))) := h6
                    replace h10 : V 10 = (.string (dS ((m.2.2.2.2.2.1.len : Nat) : Int))) := h10
                    replace hb := hb.trans (hC.mono hb.size)
                    replace hkb1 := blk_ext hkb1 hC
                    replace hro := Row.ext hro hC
                    exact Runs.does (r_sadd (congrArg some h6) (congrArg some h10) (by have : ((⟨#[99, 111, 117, 110, 116, 115, 32]⟩) : ByteArray).size = 7 := rfl; have := sz_app (⟨#[99, 111, 117, 110, 116, 115, 32]⟩ : ByteArray) (dS ((m.2.2.1.len : Nat) : Int)); have : ((⟨#[32]⟩) : ByteArray).size = 1 := rfl; have := sz_app ((⟨#[99, 111, 117, 110, 116, 115, 32]⟩ : ByteArray) ++ (dS ((m.2.2.1.len : Nat) : Int))) (⟨#[32]⟩ : ByteArray); omega)) ⟨Below.refl _ _, rfl, nofr rfl⟩
                  refine ⟨fun wu12 hC hd => ?_, ?_⟩
                  · obtain ⟨h11, _⟩ := hd
                    skip
                    replace h11 : V 11 = (.string ((((⟨#[99, 111, 117, 110, 116, 115, 32]⟩ : ByteArray) ++ (dS ((m.2.2.1.len : Nat) : Int))) ++ (⟨#[32]⟩ : ByteArray)) ++ (dS ((m.2.2.2.2.2.1.len : Nat) : Int)))) := h11
                    replace hb := hb.trans (hC.mono hb.size)
                    replace hkb1 := blk_ext hkb1 hC
                    replace hro := Row.ext hro hC
                    exact Runs.does (r_sadd (congrArg some h11) rfl (by have : ((⟨#[99, 111, 117, 110, 116, 115, 32]⟩) : ByteArray).size = 7 := rfl; have := sz_app (⟨#[99, 111, 117, 110, 116, 115, 32]⟩ : ByteArray) (dS ((m.2.2.1.len : Nat) : Int)); have : ((⟨#[32]⟩) : ByteArray).size = 1 := rfl; have := sz_app ((⟨#[99, 111, 117, 110, 116, 115, 32]⟩ : ByteArray) ++ (dS ((m.2.2.1.len : Nat) : Int))) (⟨#[32]⟩ : ByteArray); have := sz_app (((⟨#[99, 111, 117, 110, 116, 115, 32]⟩ : ByteArray) ++ (dS ((m.2.2.1.len : Nat) : Int))) ++ (⟨#[32]⟩ : ByteArray)) (dS ((m.2.2.2.2.2.1.len : Nat) : Int)); have : ((⟨#[32]⟩) : ByteArray).size = 1 := rfl; omega)) ⟨Below.refl _ _, rfl, nofr rfl⟩
                  refine ⟨fun wu13 hC hd => ?_, ?_⟩
                  · clear hd
                    replace hb := hb.trans (hC.mono hb.size)
                    replace hkb1 := blk_ext hkb1 hC
                    replace hro := Row.ext hro hC
                    exact Runs.does (r_fa rfl Try.underlying36 (f := 8) (q := 8) rfl (by kernel_rfl) rfl) ⟨Below.refl _ _, rfl, nofr rfl⟩
                  refine ⟨fun wu14 hC hd => ?_, ?_⟩
                  · obtain ⟨h13, _⟩ := hd
                    skip
                    replace h13 : V 13 = (.pointer (some ⟨b1, 8, none⟩)) := h13
                    replace hb := hb.trans (hC.mono hb.size)
                    replace hkb1 := blk_ext hkb1 hC
                    replace hro := Row.ext hro hC
                    exact Runs.does (r_load (v := (.slice m.2.2.2.2.2.2.2.2.1.at' m.2.2.2.2.2.2.2.2.1.len m.2.2.2.2.2.2.2.2.1.cap)) (congrArg some h13) Try.underlying28 rfl (cell_blk hkb1 rfl)) ⟨Below.refl _ _, rfl, nofr rfl⟩
                  refine ⟨fun wu15 hC hd => ?_, ?_⟩
                  · obtain ⟨h14, _⟩ := hd
                    skip
                    replace h14 : V 14 = (.slice m.2.2.2.2.2.2.2.2.1.at' m.2.2.2.2.2.2.2.2.1.len m.2.2.2.2.2.2.2.2.1.cap) := h14
                    replace hb := hb.trans (hC.mono hb.size)
                    replace hkb1 := blk_ext hkb1 hC
                    replace hro := Row.ext hro hC
                    exact Runs.does (r_lensl (congrArg some h14) Try.underlying28) ⟨Below.refl _ _, rfl, nofr rfl⟩
                  refine ⟨fun wu16 hC hd => ?_, ?_⟩
                  · obtain ⟨h10, h15, _⟩ := hd
                    skip
                    skip
                    replace h10 : V 10 = (.string (dS ((m.2.2.2.2.2.1.len : Nat) : Int))) := h10
                    replace h15 : V 15 = (.int .i64 ((m.2.2.2.2.2.2.2.2.1.len : Nat) : Int)) := h15
                    replace hb := hb.trans (hC.mono hb.size)
                    replace hkb1 := blk_ext hkb1 hC
                    replace hro := Row.ext hro hC
                    refine Does.mono (d_callB (vs := [(.int .i64 ((m.2.2.2.2.2.2.2.2.1.len : Nat) : Int))]) (show [some (V 15)] = [some (.int .i64 ((m.2.2.2.2.2.2.2.2.1.len : Nat) : Int))] from by rw [h15]) Try.func31 (by kernel_rfl) (by kernel_rfl) (digits_any ((m.2.2.2.2.2.2.2.2.1.len : Nat) : Int) _ (inI_u32 (by omega)))) (fun _ _ h => ⟨h.2, h.1, nofr rfl⟩)
                  refine ⟨fun wu17 hC hd => ?_, ?_⟩
                  · obtain ⟨h12, h16, _⟩ := hd
                    skip
                    skip
                    replace h12 : V 12 = (.string (((((⟨#[99, 111, 117, 110, 116, 115, 32]⟩ : ByteArray) ++ (dS ((m.2.2.1.len : Nat) : Int))) ++ (⟨#[32]⟩ : ByteArray)) ++ (dS ((m.2.2.2.2.2.1.len : Nat) : Int))) ++ (⟨#[32]⟩ : ByteArray))) := h12
                    replace h16 : V 16 = (.string (dS ((m.2.2.2.2.2.2.2.2.1.len : Nat) : Int))) := h16
                    replace hb := hb.trans (hC.mono hb.size)
                    replace hkb1 := blk_ext hkb1 hC
                    replace hro := Row.ext hro hC
                    exact Runs.does (r_sadd (congrArg some h12) (congrArg some h16) (by have : ((⟨#[99, 111, 117, 110, 116, 115, 32]⟩) : ByteArray).size = 7 := rfl; have := sz_app (⟨#[99, 111, 117, 110, 116, 115, 32]⟩ : ByteArray) (dS ((m.2.2.1.len : Nat) : Int)); have : ((⟨#[32]⟩) : ByteArray).size = 1 := rfl; have := sz_app ((⟨#[99, 111, 117, 110, 116, 115, 32]⟩ : ByteArray) ++ (dS ((m.2.2.1.len : Nat) : Int))) (⟨#[32]⟩ : ByteArray); have := sz_app (((⟨#[99, 111, 117, 110, 116, 115, 32]⟩ : ByteArray) ++ (dS ((m.2.2.1.len : Nat) : Int))) ++ (⟨#[32]⟩ : ByteArray)) (dS ((m.2.2.2.2.2.1.len : Nat) : Int)); have : ((⟨#[32]⟩) : ByteArray).size = 1 := rfl; have := sz_app ((((⟨#[99, 111, 117, 110, 116, 115, 32]⟩ : ByteArray) ++ (dS ((m.2.2.1.len : Nat) : Int))) ++ (⟨#[32]⟩ : ByteArray)) ++ (dS ((m.2.2.2.2.2.1.len : Nat) : Int))) (⟨#[32]⟩ : ByteArray); omega)) ⟨Below.refl _ _, rfl, nofr rfl⟩
                  refine ⟨fun wu18 hC hd => ?_, ?_⟩
                  · obtain ⟨h17, _⟩ := hd
                    skip
                    replace h17 : V 17 = (.string ((((((⟨#[99, 111, 117, 110, 116, 115, 32]⟩ : ByteArray) ++ (dS ((m.2.2.1.len : Nat) : Int))) ++ (⟨#[32]⟩ : ByteArray)) ++ (dS ((m.2.2.2.2.2.1.len : Nat) : Int))) ++ (⟨#[32]⟩ : ByteArray)) ++ (dS ((m.2.2.2.2.2.2.2.2.1.len : Nat) : Int)))) := h17
                    replace hb := hb.trans (hC.mono hb.size)
                    replace hkb1 := blk_ext hkb1 hC
                    replace hro := Row.ext hro hC
                    exact Runs.does (r_sadd (congrArg some h17) rfl (by have : ((⟨#[99, 111, 117, 110, 116, 115, 32]⟩) : ByteArray).size = 7 := rfl; have := sz_app (⟨#[99, 111, 117, 110, 116, 115, 32]⟩ : ByteArray) (dS ((m.2.2.1.len : Nat) : Int)); have : ((⟨#[32]⟩) : ByteArray).size = 1 := rfl; have := sz_app ((⟨#[99, 111, 117, 110, 116, 115, 32]⟩ : ByteArray) ++ (dS ((m.2.2.1.len : Nat) : Int))) (⟨#[32]⟩ : ByteArray); have := sz_app (((⟨#[99, 111, 117, 110, 116, 115, 32]⟩ : ByteArray) ++ (dS ((m.2.2.1.len : Nat) : Int))) ++ (⟨#[32]⟩ : ByteArray)) (dS ((m.2.2.2.2.2.1.len : Nat) : Int)); have : ((⟨#[32]⟩) : ByteArray).size = 1 := rfl; have := sz_app ((((⟨#[99, 111, 117, 110, 116, 115, 32]⟩ : ByteArray) ++ (dS ((m.2.2.1.len : Nat) : Int))) ++ (⟨#[32]⟩ : ByteArray)) ++ (dS ((m.2.2.2.2.2.1.len : Nat) : Int))) (⟨#[32]⟩ : ByteArray); have := sz_app (((((⟨#[99, 111, 117, 110, 116, 115, 32]⟩ : ByteArray) ++ (dS ((m.2.2.1.len : Nat) : Int))) ++ (⟨#[32]⟩ : ByteArray)) ++ (dS ((m.2.2.2.2.2.1.len : Nat) : Int))) ++ (⟨#[32]⟩ : ByteArray)) (dS ((m.2.2.2.2.2.2.2.2.1.len : Nat) : Int)); have : ((⟨#[32]⟩) : ByteArray).size = 1 := rfl; omega)) ⟨Below.refl _ _, rfl, nofr rfl⟩
                  refine ⟨fun wu19 hC hd => ?_, ?_⟩
                  · clear hd
                    replace hb := hb.trans (hC.mono hb.size)
                    replace hkb1 := blk_ext hkb1 hC
                    replace hro := Row.ext hro hC
                    exact Runs.does (r_fa rfl Try.underlying36 (f := 10) (q := 10) rfl (by kernel_rfl) rfl) ⟨Below.refl _ _, rfl, nofr rfl⟩
                  refine ⟨fun wu20 hC hd => ?_, ?_⟩
                  · obtain ⟨h19, _⟩ := hd
                    skip
                    replace h19 : V 19 = (.pointer (some ⟨b1, 10, none⟩)) := h19
                    replace hb := hb.trans (hC.mono hb.size)
                    replace hkb1 := blk_ext hkb1 hC
                    replace hro := Row.ext hro hC
                    exact Runs.does (r_load (v := (.slice m.2.2.2.2.2.2.2.2.2.2.1.at' m.2.2.2.2.2.2.2.2.2.2.1.len m.2.2.2.2.2.2.2.2.2.2.1.cap)) (congrArg some h19) Try.underlying30 rfl (cell_blk hkb1 rfl)) ⟨Below.refl _ _, rfl, nofr rfl⟩
                  refine ⟨fun wu21 hC hd => ?_, ?_⟩
                  · obtain ⟨h20, _⟩ := hd
                    skip
                    replace h20 : V 20 = (.slice m.2.2.2.2.2.2.2.2.2.2.1.at' m.2.2.2.2.2.2.2.2.2.2.1.len m.2.2.2.2.2.2.2.2.2.2.1.cap) := h20
                    replace hb := hb.trans (hC.mono hb.size)
                    replace hkb1 := blk_ext hkb1 hC
                    replace hro := Row.ext hro hC
                    exact Runs.does (r_lensl (congrArg some h20) Try.underlying30) ⟨Below.refl _ _, rfl, nofr rfl⟩
                  refine ⟨fun wu22 hC hd => ?_, ?_⟩
                  · obtain ⟨h16, h21, _⟩ := hd
                    skip
                    skip
                    replace h16 : V 16 = (.string (dS ((m.2.2.2.2.2.2.2.2.1.len : Nat) : Int))) := h16
                    replace h21 : V 21 = (.int .i64 ((m.2.2.2.2.2.2.2.2.2.2.1.len : Nat) : Int)) := h21
                    replace hb := hb.trans (hC.mono hb.size)
                    replace hkb1 := blk_ext hkb1 hC
                    replace hro := Row.ext hro hC
                    refine Does.mono (d_callB (vs := [(.int .i64 ((m.2.2.2.2.2.2.2.2.2.2.1.len : Nat) : Int))]) (show [some (V 21)] = [some (.int .i64 ((m.2.2.2.2.2.2.2.2.2.2.1.len : Nat) : Int))] from by rw [h21]) Try.func31 (by kernel_rfl) (by kernel_rfl) (digits_any ((m.2.2.2.2.2.2.2.2.2.2.1.len : Nat) : Int) _ (inI_u32 (by omega)))) (fun _ _ h => ⟨h.2, h.1, nofr rfl⟩)
                  refine ⟨fun wu23 hC hd => ?_, ?_⟩
                  · obtain ⟨h18, h22, _⟩ := hd
                    skip
                    skip
                    replace h18 : V 18 = (.string (((((((⟨#[99, 111, 117, 110, 116, 115, 32]⟩ : ByteArray) ++ (dS ((m.2.2.1.len : Nat) : Int))) ++ (⟨#[32]⟩ : ByteArray)) ++ (dS ((m.2.2.2.2.2.1.len : Nat) : Int))) ++ (⟨#[32]⟩ : ByteArray)) ++ (dS ((m.2.2.2.2.2.2.2.2.1.len : Nat) : Int))) ++ (⟨#[32]⟩ : ByteArray))) := h18
                    replace h22 : V 22 = (.string (dS ((m.2.2.2.2.2.2.2.2.2.2.1.len : Nat) : Int))) := h22
                    replace hb := hb.trans (hC.mono hb.size)
                    replace hkb1 := blk_ext hkb1 hC
                    replace hro := Row.ext hro hC
                    exact Runs.does (r_sadd (congrArg some h18) (congrArg some h22) (by have : ((⟨#[99, 111, 117, 110, 116, 115, 32]⟩) : ByteArray).size = 7 := rfl; have := sz_app (⟨#[99, 111, 117, 110, 116, 115, 32]⟩ : ByteArray) (dS ((m.2.2.1.len : Nat) : Int)); have : ((⟨#[32]⟩) : ByteArray).size = 1 := rfl; have := sz_app ((⟨#[99, 111, 117, 110, 116, 115, 32]⟩ : ByteArray) ++ (dS ((m.2.2.1.len : Nat) : Int))) (⟨#[32]⟩ : ByteArray); have := sz_app (((⟨#[99, 111, 117, 110, 116, 115, 32]⟩ : ByteArray) ++ (dS ((m.2.2.1.len : Nat) : Int))) ++ (⟨#[32]⟩ : ByteArray)) (dS ((m.2.2.2.2.2.1.len : Nat) : Int)); have : ((⟨#[32]⟩) : ByteArray).size = 1 := rfl; have := sz_app ((((⟨#[99, 111, 117, 110, 116, 115, 32]⟩ : ByteArray) ++ (dS ((m.2.2.1.len : Nat) : Int))) ++ (⟨#[32]⟩ : ByteArray)) ++ (dS ((m.2.2.2.2.2.1.len : Nat) : Int))) (⟨#[32]⟩ : ByteArray); have := sz_app (((((⟨#[99, 111, 117, 110, 116, 115, 32]⟩ : ByteArray) ++ (dS ((m.2.2.1.len : Nat) : Int))) ++ (⟨#[32]⟩ : ByteArray)) ++ (dS ((m.2.2.2.2.2.1.len : Nat) : Int))) ++ (⟨#[32]⟩ : ByteArray)) (dS ((m.2.2.2.2.2.2.2.2.1.len : Nat) : Int)); have : ((⟨#[32]⟩) : ByteArray).size = 1 := rfl; have := sz_app ((((((⟨#[99, 111, 117, 110, 116, 115, 32]⟩ : ByteArray) ++ (dS ((m.2.2.1.len : Nat) : Int))) ++ (⟨#[32]⟩ : ByteArray)) ++ (dS ((m.2.2.2.2.2.1.len : Nat) : Int))) ++ (⟨#[32]⟩ : ByteArray)) ++ (dS ((m.2.2.2.2.2.2.2.2.1.len : Nat) : Int))) (⟨#[32]⟩ : ByteArray); omega)) ⟨Below.refl _ _, rfl, nofr rfl⟩
                  refine ⟨fun wu24 hC hd => ?_, ?_⟩
                  · obtain ⟨h23, _⟩ := hd
                    skip
                    replace h23 : V 23 = (.string ((((((((⟨#[99, 111, 117, 110, 116, 115, 32]⟩ : ByteArray) ++ (dS ((m.2.2.1.len : Nat) : Int))) ++ (⟨#[32]⟩ : ByteArray)) ++ (dS ((m.2.2.2.2.2.1.len : Nat) : Int))) ++ (⟨#[32]⟩ : ByteArray)) ++ (dS ((m.2.2.2.2.2.2.2.2.1.len : Nat) : Int))) ++ (⟨#[32]⟩ : ByteArray)) ++ (dS ((m.2.2.2.2.2.2.2.2.2.2.1.len : Nat) : Int)))) := h23
                    replace hb := hb.trans (hC.mono hb.size)
                    replace hkb1 := blk_ext hkb1 hC
                    replace hro := Row.ext hro hC
                    refine Does.mono (d_bslice (z := (.string ⟨#[]⟩)) (sz := 1) (vs := [(0, (.string ((((((((⟨#[99, 111, 117, 110, 116, 115, 32]⟩ : ByteArray) ++ (dS ((m.2.2.1.len : Nat) : Int))) ++ (⟨#[32]⟩ : ByteArray)) ++ (dS ((m.2.2.2.2.2.1.len : Nat) : Int))) ++ (⟨#[32]⟩ : ByteArray)) ++ (dS ((m.2.2.2.2.2.2.2.2.1.len : Nat) : Int))) ++ (⟨#[32]⟩ : ByteArray)) ++ (dS ((m.2.2.2.2.2.2.2.2.2.2.1.len : Nat) : Int)))))]) (cs := #[(.string ((((((((⟨#[99, 111, 117, 110, 116, 115, 32]⟩ : ByteArray) ++ (dS ((m.2.2.1.len : Nat) : Int))) ++ (⟨#[32]⟩ : ByteArray)) ++ (dS ((m.2.2.2.2.2.1.len : Nat) : Int))) ++ (⟨#[32]⟩ : ByteArray)) ++ (dS ((m.2.2.2.2.2.2.2.2.1.len : Nat) : Int))) ++ (⟨#[32]⟩ : ByteArray)) ++ (dS ((m.2.2.2.2.2.2.2.2.2.2.1.len : Nat) : Int))))]) (show [(0, some (V 23))] = [(0, some (.string ((((((((⟨#[99, 111, 117, 110, 116, 115, 32]⟩ : ByteArray) ++ (dS ((m.2.2.1.len : Nat) : Int))) ++ (⟨#[32]⟩ : ByteArray)) ++ (dS ((m.2.2.2.2.2.1.len : Nat) : Int))) ++ (⟨#[32]⟩ : ByteArray)) ++ (dS ((m.2.2.2.2.2.2.2.2.1.len : Nat) : Int))) ++ (⟨#[32]⟩ : ByteArray)) ++ (dS ((m.2.2.2.2.2.2.2.2.2.2.1.len : Nat) : Int)))))] from by rw [h23]) Try.underlying32 (by kernel_rfl) rfl (by kernel_rfl)) ?_
                    rintro _ w' ⟨b, rfl, hF⟩
                    exact ⟨hF.2.2, ⟨b, rfl, Nat.le_trans hC.size hF.1, hF.2.1⟩, isfr rfl hF.1 (blk_lt hF.2.1)⟩
                  trivial
                · skip
                  clear hf fa; intro V w28 fa he14 hp hnb hf
                  have hv0 : V 0 = (.slice roa (((imL m ++ (m.2.2.2.2.2.2.1.list.take k).map exLn)).length) roc) := postsHold_at hp 0 rfl
                  have hv1 : V 1 = (.pointer (some ⟨b1, 2, none⟩)) := postsHold_at hp 1 rfl
                  have hv2 : V 2 = (.slice m.2.2.1.at' m.2.2.1.len m.2.2.1.cap) := postsHold_at hp 2 rfl
                  have hv3 : V 3 = (.int .i64 ((m.2.2.1.len : Nat) : Int)) := postsHold_at hp 3 rfl
                  have hv4 : V 4 = (.string (dS ((m.2.2.1.len : Nat) : Int))) := postsHold_at hp 4 rfl
                  have hv5 : V 5 = (.string ((⟨#[99, 111, 117, 110, 116, 115, 32]⟩ : ByteArray) ++ (dS ((m.2.2.1.len : Nat) : Int)))) := postsHold_at hp 5 rfl
                  have hv6 : V 6 = (.string (((⟨#[99, 111, 117, 110, 116, 115, 32]⟩ : ByteArray) ++ (dS ((m.2.2.1.len : Nat) : Int))) ++ (⟨#[32]⟩ : ByteArray))) := postsHold_at hp 6 rfl
                  have hv7 : V 7 = (.pointer (some ⟨b1, 5, none⟩)) := postsHold_at hp 7 rfl
                  have hv8 : V 8 = (.slice m.2.2.2.2.2.1.at' m.2.2.2.2.2.1.len m.2.2.2.2.2.1.cap) := postsHold_at hp 8 rfl
                  have hv9 : V 9 = (.int .i64 ((m.2.2.2.2.2.1.len : Nat) : Int)) := postsHold_at hp 9 rfl
                  have hv10 : V 10 = (.string (dS ((m.2.2.2.2.2.1.len : Nat) : Int))) := postsHold_at hp 10 rfl
                  have hv11 : V 11 = (.string ((((⟨#[99, 111, 117, 110, 116, 115, 32]⟩ : ByteArray) ++ (dS ((m.2.2.1.len : Nat) : Int))) ++ (⟨#[32]⟩ : ByteArray)) ++ (dS ((m.2.2.2.2.2.1.len : Nat) : Int)))) := postsHold_at hp 11 rfl
                  have hv12 : V 12 = (.string (((((⟨#[99, 111, 117, 110, 116, 115, 32]⟩ : ByteArray) ++ (dS ((m.2.2.1.len : Nat) : Int))) ++ (⟨#[32]⟩ : ByteArray)) ++ (dS ((m.2.2.2.2.2.1.len : Nat) : Int))) ++ (⟨#[32]⟩ : ByteArray))) := postsHold_at hp 12 rfl
                  have hv13 : V 13 = (.pointer (some ⟨b1, 8, none⟩)) := postsHold_at hp 13 rfl
                  have hv14 : V 14 = (.slice m.2.2.2.2.2.2.2.2.1.at' m.2.2.2.2.2.2.2.2.1.len m.2.2.2.2.2.2.2.2.1.cap) := postsHold_at hp 14 rfl
                  have hv15 : V 15 = (.int .i64 ((m.2.2.2.2.2.2.2.2.1.len : Nat) : Int)) := postsHold_at hp 15 rfl
                  have hv16 : V 16 = (.string (dS ((m.2.2.2.2.2.2.2.2.1.len : Nat) : Int))) := postsHold_at hp 16 rfl
                  have hv17 : V 17 = (.string ((((((⟨#[99, 111, 117, 110, 116, 115, 32]⟩ : ByteArray) ++ (dS ((m.2.2.1.len : Nat) : Int))) ++ (⟨#[32]⟩ : ByteArray)) ++ (dS ((m.2.2.2.2.2.1.len : Nat) : Int))) ++ (⟨#[32]⟩ : ByteArray)) ++ (dS ((m.2.2.2.2.2.2.2.2.1.len : Nat) : Int)))) := postsHold_at hp 17 rfl
                  have hv18 : V 18 = (.string (((((((⟨#[99, 111, 117, 110, 116, 115, 32]⟩ : ByteArray) ++ (dS ((m.2.2.1.len : Nat) : Int))) ++ (⟨#[32]⟩ : ByteArray)) ++ (dS ((m.2.2.2.2.2.1.len : Nat) : Int))) ++ (⟨#[32]⟩ : ByteArray)) ++ (dS ((m.2.2.2.2.2.2.2.2.1.len : Nat) : Int))) ++ (⟨#[32]⟩ : ByteArray))) := postsHold_at hp 18 rfl
                  have hv19 : V 19 = (.pointer (some ⟨b1, 10, none⟩)) := postsHold_at hp 19 rfl
                  have hv20 : V 20 = (.slice m.2.2.2.2.2.2.2.2.2.2.1.at' m.2.2.2.2.2.2.2.2.2.2.1.len m.2.2.2.2.2.2.2.2.2.2.1.cap) := postsHold_at hp 20 rfl
                  have hv21 : V 21 = (.int .i64 ((m.2.2.2.2.2.2.2.2.2.2.1.len : Nat) : Int)) := postsHold_at hp 21 rfl
                  have hv22 : V 22 = (.string (dS ((m.2.2.2.2.2.2.2.2.2.2.1.len : Nat) : Int))) := postsHold_at hp 22 rfl
                  have hv23 : V 23 = (.string ((((((((⟨#[99, 111, 117, 110, 116, 115, 32]⟩ : ByteArray) ++ (dS ((m.2.2.1.len : Nat) : Int))) ++ (⟨#[32]⟩ : ByteArray)) ++ (dS ((m.2.2.2.2.2.1.len : Nat) : Int))) ++ (⟨#[32]⟩ : ByteArray)) ++ (dS ((m.2.2.2.2.2.2.2.2.1.len : Nat) : Int))) ++ (⟨#[32]⟩ : ByteArray)) ++ (dS ((m.2.2.2.2.2.2.2.2.2.2.1.len : Nat) : Int)))) := postsHold_at hp 23 rfl
                  have hv24 := postsHold_at hp 24 rfl
                  obtain ⟨b11, hv24, hle11, hk15⟩ := hv24
                  have hBb11 : w.heap.size ≤ b11 := Nat.le_trans hb.size hle11
                  simp only [List.take_succ_cons, List.take_zero, insAll, ins, hv0, hv1, hv2, hv3, hv4, hv5, hv6, hv7, hv8, hv9, hv10, hv11, hv12, hv13, hv14, hv15, hv16, hv17, hv18, hv19, hv20, hv21, hv22, hv23, hv24] at hf
                  have : b1 < b11 := Nat.lt_of_lt_of_le (blk_lt hkb1) hle11
                  have hnr4 : (Value.slice roa ((((imL m ++ (m.2.2.2.2.2.2.1.list.take k).map exLn)).length)) roc).ownBlock ≠ some b11 := fun hq => by have := (Row.lt hro _ hq).2; have := hle11; omega
                  clear hp hnb hv0 hv1 hv2 hv3 hv4 hv5 hv6 hv7 hv8 hv9 hv10 hv11 hv12 hv13 hv14 hv15 hv16 hv17 hv18 hv19 hv20 hv21 hv22 hv23 hv24
                  replace hkb1 := blk_ext hkb1 he14
                  replace hro := Row.ext hro he14
                  replace hb := hb.trans (Below.mono he14 hb.size)
                  simp only [List.drop_succ_cons, List.drop_zero]
                  have hs5 := Row.rd (by intros; rfl) (Row.of_new (k := 1) (V := vStr) (l := [((((((((⟨#[99, 111, 117, 110, 116, 115, 32]⟩ : ByteArray) ++ (dS ((m.2.2.1.len : Nat) : Int))) ++ (⟨#[32]⟩ : ByteArray)) ++ (dS ((m.2.2.2.2.2.1.len : Nat) : Int))) ++ (⟨#[32]⟩ : ByteArray)) ++ (dS ((m.2.2.2.2.2.2.2.2.1.len : Nat) : Int))) ++ (⟨#[32]⟩ : ByteArray)) ++ (dS ((m.2.2.2.2.2.2.2.2.2.2.1.len : Nat) : Int)))]) hk15 (Nat.le_refl _) rfl rfl (Nat.le_of_ble_eq_true rfl))
                  refine sqdt hf (d_append (V := vStr) (k := 1) (e := 9) (bytes := 16) (z := (.string ⟨#[]⟩)) (news := [((((((((⟨#[99, 111, 117, 110, 116, 115, 32]⟩ : ByteArray) ++ (dS ((m.2.2.1.len : Nat) : Int))) ++ (⟨#[32]⟩ : ByteArray)) ++ (dS ((m.2.2.2.2.2.1.len : Nat) : Int))) ++ (⟨#[32]⟩ : ByteArray)) ++ (dS ((m.2.2.2.2.2.2.2.2.1.len : Nat) : Int))) ++ (⟨#[32]⟩ : ByteArray)) ++ (dS ((m.2.2.2.2.2.2.2.2.2.2.1.len : Nat) : Int)))]) (base := w.heap.size) (by intros; rfl) (by intro x u hu; simp only [vStr, List.mem_singleton] at hu; subst hu; rfl) rfl rfl Try.underlying32 (by kernel_rfl) rfl rfl rfl hro hs5 rfl (fun h => by cases h) (by first | omega | (simp only [List.length_cons, List.length_nil, List.length_append, nums_len, List.length_map, List.length_take, Sl.list_length]; omega)) (by have := hb.size; omega)) rfl rfl rfl ?_; clear hf fa; rintro fa v w29 ⟨hr7, hg9⟩ hf; obtain ⟨ra5, rc5, rfl, hcrc5, hmrc5⟩ := Row.slice hr7
                  replace hkb1 := blk_row' hkb1 hg9 (Row.ne_type hro hkb1 rfl)
                  replace hb := hb.trans (row_below hro hg9 hb.size (by have := hb.size; omega))
                  refine sqv hf (r_assign rfl) rfl rfl rfl ?_; clear hf fa; intro fa hf
                  apply wpList_nil
                  (try simp only [Exit.then, Exit.inBlock, ↓reduceIte, Nat.reduceEqDiff])
                  refine hK37 _ _ ?_
                  refine wp_ret ?_
                  (try simp only [Exit.then, Exit.inBlock])
                  refine ret1 hf rfl rfl ?_
                  have hou : ((imL m ++ (m.2.2.2.2.2.2.1.list.take k).map exLn) ++ [((((((((⟨#[99, 111, 117, 110, 116, 115, 32]⟩ : ByteArray) ++ (dS ((m.2.2.1.len : Nat) : Int))) ++ (⟨#[32]⟩ : ByteArray)) ++ (dS ((m.2.2.2.2.2.1.len : Nat) : Int))) ++ (⟨#[32]⟩ : ByteArray)) ++ (dS ((m.2.2.2.2.2.2.2.2.1.len : Nat) : Int))) ++ (⟨#[32]⟩ : ByteArray)) ++ (dS ((m.2.2.2.2.2.2.2.2.2.2.1.len : Nat) : Int)))]) = outL m := by unfold outL; rw [← show imL m ++ m.2.2.2.2.2.2.1.list.map exLn = exL m from rfl, List.take_of_length_le (by rw [Sl.list_length]; omega)]; rfl
                  exact ⟨_, rfl, rowToE' hr7 hou, hb⟩
end Go.Proofs.Ytpalmpfkliepfaa
