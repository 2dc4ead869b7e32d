/- What is proved here: a memory's state, and what its methods come to over it. -/
import Derived.Test.YtmcmickgllffoaaMpCp
namespace Go.Proofs.Ytmcmickgllffoaa
open Go.RowKit
set_option linter.unusedVariables false
set_option linter.unusedSimpArgs false
/-- A memory that stands for the reference's cells. -/
def St26 (B : Nat) (w : World) (p ln : Nat) (mo : Int) (C : List MCe) : Prop := ∃ L, MemR B w p L mo ∧ L.length = ln ∧ (∀ x ∈ L, 0 ≤ x ∧ x < 256) ∧ ML L C ∧ ln ≤ 16777216 ∧ ln % 65536 = 0 ∧ ((ln / 65536 : Nat) : Int) ≤ mo ∧ mo ≤ 256
theorem St26.ext {B p ln : Nat} {w w' : World} {mo : Int} {C : List MCe} (h : St26 B w p ln mo C) (hb : Below w.heap.size w w') : St26 B w' p ln mo C := by
  obtain ⟨L, h1, h2⟩ := h
  exact ⟨L, h1.ext hb, h2⟩
theorem mapU8 (M : List Int) : M.flatMap (vInt .u8) = M.map (Value.int .u8) := by
  induction M with
  | nil => rfl
  | cons x M ih => rw [List.flatMap_cons, ih]; rfl
theorem MemR.parts {B p : Nat} {w : World} {L : List Int} {mo : Int} (h : MemR B w p L mo) : ∃ mg cap, w.heap[p]? = some (.cells #[.slice (some ⟨mg, 0, none⟩) L.length cap, .int .i64 mo] 152 (0, 0)) ∧ Row 1 (vInt .u8) 5 B w (.slice (some ⟨mg, 0, none⟩) L.length cap) L ∧ B ≤ p := by
  obtain ⟨h1, g, cap, h2, h3⟩ := h
  rw [← mapU8] at h3
  exact ⟨g, cap, h2, h3, h1⟩
theorem MemR.lower {B B2 p : Nat} {w : World} {L : List Int} {mo : Int} (h : MemR B w p L mo) (hB : B2 ≤ B) : MemR B2 w p L mo := by
  obtain ⟨mg, cap, h1, h2, h3⟩ := h.parts
  have h4 : w.ownsRow B2 5 1 (.slice (some ⟨mg, 0, none⟩) L.length cap) L.length (L.flatMap (vInt .u8)) := h2.rebase hB
  rw [mapU8] at h4
  exact ⟨Nat.le_trans hB h3, mg, cap, h1, h4⟩
/-- What a change of the memory leaves alone. -/
def Pk26 (w w' : World) : Prop := KT 111 w w' ∧ KT 113 w w' ∧ KT 162 w w' ∧ w.heap.size ≤ w'.heap.size
theorem Pk26.of_below {w w' : World} (h : Below w.heap.size w w') : Pk26 w w' := ⟨KT.of_below h, KT.of_below h, KT.of_below h, h.size⟩
theorem Pk26.trans {w w1 w2 : World} (h : Pk26 w w1) (h2 : Pk26 w1 w2) : Pk26 w w2 := ⟨h.1.trans h2.1, h.2.1.trans h2.2.1, h.2.2.1.trans h2.2.2.1, Nat.le_trans h.2.2.2 h2.2.2.2⟩
theorem KT.of_mem {B p T : Nat} {w w' : World} {L : List Int} {mo : Int} (h : MemR B w p L mo) (hf : MemFr p w w') (h1 : (T == 152) = false) (h2 : (T == 5) = false) : KT T w w' := by
  obtain ⟨g, cap, c0, _, _, _, hb, _, _, _, _, _, hblk, hown⟩ := h.open
  obtain ⟨cur, e1, _⟩ := ownsRow_here hown
  intro bf cs hbf
  refine (hf.1 bf (Array.getElem?_eq_some_iff.1 hbf).1 (blk_ty hbf hblk h1) ?_).trans hbf
  intro e
  have hd : dataB w p = some g := by unfold dataB; rw [c0]; rfl
  rw [hd] at e
  exact blk_ty hbf e1 h2 (Option.some.inj e).symm
theorem Pk26.of_mem {B p : Nat} {w w' : World} {L : List Int} {mo : Int} (h : MemR B w p L mo) (hf : MemFr p w w') : Pk26 w w' := ⟨KT.of_mem h hf rfl rfl, KT.of_mem h hf rfl rfl, KT.of_mem h hf rfl rfl, hf.2⟩
theorem SrcV.of_rd {w : World} {a : Option Addr} {M : List Int} (h : RdS 1 (vInt .u8) w a M) : SrcV w a M.length (M.map (Value.int .u8)) := by
  refine ⟨List.length_map _, fun j u hj => ?_⟩
  rw [List.getElem?_map] at hj
  obtain ⟨x, hx, hu⟩ := Option.map_eq_some_iff.1 hj
  obtain ⟨b, off, h1, h2, h3⟩ := h j x hx
  have h4 := h3 0 (.int .u8 x) rfl
  rw [Nat.mul_one, Nat.add_zero] at h4
  exact ⟨b, off, h1, by rw [← hu]; exact h4, h2⟩
theorem fits_in {L : List Int} {ln k m : Nat} (h : L.length = ln) : fitsB L k m = inP ln k ((m : Nat) : Int) := by
  unfold fitsB inP
  rw [h, Bool.eq_iff_iff]
  simp only [Bool.and_eq_true, decide_eq_true_eq]
  omega
def wrC (C : List MCe) (k : Nat) (s : ByteArray) : List MCe := C.filter (wrQ k s.size) ++ newC k s s.size
theorem sz_str {M : List Int} (h : ∀ x ∈ M, 0 ≤ x ∧ x < 256) : (strOfNums M).size = M.length := by rw [← nums_len, nums_str h]
theorem sb_str {M : List Int} (h : ∀ x ∈ M, 0 ≤ x ∧ x < 256) : ∀ i, i < M.length → M[i]? = some ((sbt (strOfNums M) i : Nat) : Int) := by
  intro i hi
  have := nums_get (s := strOfNums M) (j := i) (by rw [sz_str h]; exact hi)
  rw [nums_str h] at this
  exact this
section
variable {w0 w : World} {p ln : Nat} {mo : Int} {C : List MCe}
theorem write_S (hb : Below w0.heap.size w0 w) (hS : St26 w0.heap.size w p ln mo C) {a : Option Addr} {M : List Int} {c : Nat} (hM : RdS 1 (vInt .u8) w a M) (hM6 : ∀ x ∈ M, 0 ≤ x ∧ x < 256) (hMl : M.length ≤ 1000000) (k : Nat) (hk : k < 18446744073709551616) : Calls Try.prog 77 #[.pointer (some ⟨p, 0, none⟩), .int .u64 ((k : Nat) : Int), .slice a M.length c] w fun e w' => ∃ x, e = .returned x ∧ x = .int .i64 (if inP ln k ((M.length : Nat) : Int) = true then 0 else 63) ∧ St26 w0.heap.size w' p ln mo (if inP ln k ((M.length : Nat) : Int) = true then wrC C k (strOfNums M) else C) ∧ Below w0.heap.size w0 w' ∧ Pk26 w w' := by
  obtain ⟨L, h1, h2, h3, h4, h5⟩ := hS
  refine (mwrite_any w0.heap.size p k L M mo a c w (by omega) hk (by omega) (SrcV.of_rd hM) h1).mono (fun e w' h => ?_)
  obtain ⟨e1, e2, e3, e4⟩ := h
  rw [fits_in h2] at e1 e2
  refine ⟨_, e1, rfl, ?_, hb.trans e3, Pk26.of_mem h1 e4⟩
  cases hi : inP ln k ((M.length : Nat) : Int) with
  | false => rw [hi] at e2; exact ⟨L, e2, h2, h3, h4, h5⟩
  | true =>
    rw [hi] at e2
    have hin : 0 ≤ ((M.length : Nat) : Int) ∧ k ≤ ln ∧ ((M.length : Nat) : Int) ≤ ((ln : Nat) : Int) - ((k : Nat) : Int) := of_decide_eq_true hi
    have hfit : k + M.length ≤ L.length := by omega
    refine ⟨over L k M, e2, by rw [over_length L k M hfit, h2], ?_, ?_, h5⟩
    · intro x hx
      unfold over at hx
      rcases List.mem_append.1 hx with hx | hx
      · exact h3 x (List.mem_of_mem_take hx)
      · rcases List.mem_append.1 hx with hx | hx
        · exact hM6 x hx
        · exact h3 x (List.mem_of_mem_drop hx)
    · exact h4.over (sz_str hM6) (sb_str hM6) hM6 hfit
/-- What Read leaves. -/
def rdL (C : List MCe) (ln k : Nat) (n : Int) : List Int := if inP ln k n = true then rdF C k n.toNat else []
theorem read_S {B : Nat} (hS : St26 B w p ln mo C) (k : Nat) (n : Int) (hk : k < 18446744073709551616) (hn1 : -9223372036854775808 ≤ n ∧ n < 9223372036854775808) : Calls Try.prog 80 #[.pointer (some ⟨p, 0, none⟩), .int .u64 ((k : Nat) : Int), .int .i64 n] w fun e w' => ∃ x, e = .returned x ∧ ∃ va vc, x = .tuple #[.slice va (rdL C ln k n).length vc, .int .i64 (if inP ln k n = true then 0 else 63)] ∧ Row 1 (vInt .u8) 5 w.heap.size w' (.slice va (rdL C ln k n).length vc) (rdL C ln k n) ∧ Below w.heap.size w w' := by
  obtain ⟨L, h1, h2, h3, h4, h5⟩ := hS
  unfold rdL
  cases hi : inP ln k n with
  | false =>
    have hin : ¬ (0 ≤ n ∧ k ≤ ln ∧ n ≤ ((ln : Nat) : Int) - ((k : Nat) : Int)) := of_decide_eq_false hi
    refine (read_bad B p k n L mo w (by omega) hk hn1.2 (by omega) h1).mono (fun e w' h => ?_)
    obtain ⟨e1, rfl⟩ := h
    exact ⟨_, e1, none, 0, rfl, Row.nil, Below.refl _ _⟩
  | true =>
    have hin : 0 ≤ n ∧ k ≤ ln ∧ n ≤ ((ln : Nat) : Int) - ((k : Nat) : Int) := of_decide_eq_true hi
    obtain ⟨m, rfl⟩ : ∃ m : Nat, n = ((m : Nat) : Int) := ⟨n.toNat, by omega⟩
    refine (read_ok B p k m L mo w (by omega) (by omega) (by omega) (by omega) h1).mono (fun e w' h => ?_)
    obtain ⟨⟨s, e1, e2⟩, e3⟩ := h
    have hr := h4.read (k := k) (n := m) (by omega)
    rw [hr, ← mapU8] at e2
    have hlen := rdF_len C k m
    rw [← hlen] at e2
    have e4 : Row 1 (vInt .u8) 5 w.heap.size w' s (rdF C k m) := by
      have e5 := e2
      rw [hlen] at e5
      unfold Row
      rw [hlen]
      exact e5
    obtain ⟨va, vc, rfl, _, _⟩ := Row.slice e4
    rw [Int.toNat_natCast]
    exact ⟨_, e1, va, vc, rfl, e4, e3⟩
theorem grow_S (hb : Below w0.heap.size w0 w) (hS : St26 w0.heap.size w p ln mo C) (n : Nat) (hn : n < 18446744073709551616) : Calls Try.prog 76 #[.pointer (some ⟨p, 0, none⟩), .int .u64 ((n : Nat) : Int)] w fun e w' => ∃ x, e = .returned x ∧ x = .tuple #[.int .i64 (if ((n : Nat) : Int) ≤ mo - ((ln / 65536 : Nat) : Int) then ((ln / 65536 : Nat) : Int) else 0), .bool (decide (((n : Nat) : Int) ≤ mo - ((ln / 65536 : Nat) : Int)))] ∧ St26 w0.heap.size w' p (if ((n : Nat) : Int) ≤ mo - ((ln / 65536 : Nat) : Int) then ln + n * 65536 else ln) mo (if ((n : Nat) : Int) ≤ mo - ((ln / 65536 : Nat) : Int) then C.filter (szQ (((ln : Nat) : Int) + ((n : Nat) : Int) * 65536)) else C) ∧ Below w0.heap.size w0 w' ∧ Pk26 w w' := by
  obtain ⟨L, h1, h2, h3, h4, h5, h6, h7, h8⟩ := hS
  refine (grow_any w0.heap.size p n L mo w (by omega) (by rw [h2]; omega) h8 hb.size hn h1).mono (fun e w' h => ?_)
  obtain ⟨e1, e2, e3, e4⟩ := h
  unfold growsB at e1 e2
  rw [h2] at e1 e2
  have hd : ((ln : Nat) : Int) / 65536 = ((ln / 65536 : Nat) : Int) := by omega
  rw [hd] at e1 e2
  by_cases hc : ((n : Nat) : Int) ≤ mo - ((ln / 65536 : Nat) : Int)
  · rw [decide_eq_true hc] at e1 e2
    rw [if_pos hc, if_pos hc, if_pos hc, decide_eq_true hc]
    refine ⟨_, e1, rfl, ⟨_, e2, by rw [if_pos rfl, List.length_append, List.length_replicate, h2], ?_, ?_, by omega, by omega, by omega, h8⟩, hb.trans e3, Pk26.of_mem h1 e4⟩
    · rw [if_pos rfl]
      intro x hx
      rcases List.mem_append.1 hx with hx | hx
      · exact h3 x hx
      · rw [List.eq_of_mem_replicate hx]; omega
    · rw [if_pos rfl]
      exact h4.grow _ (by rw [h2]; omega)
  · rw [decide_eq_false hc] at e1 e2
    rw [if_neg hc, if_neg hc, if_neg hc, decide_eq_false hc]
    exact ⟨_, e1, rfl, ⟨L, e2, h2, h3, h4, h5, h6, h7, h8⟩, hb.trans e3, Pk26.of_mem h1 e4⟩
theorem shrink_S (hb : Below w0.heap.size w0 w) (hS : St26 w0.heap.size w p ln mo C) (n : Int) : Calls Try.prog 83 #[.pointer (some ⟨p, 0, none⟩), .int .i64 n] w fun e w' => ∃ x, e = .returned x ∧ x = .tuple #[] ∧ St26 w0.heap.size w' p (if 0 ≤ n ∧ n < ((ln / 65536 : Nat) : Int) then n.toNat * 65536 else ln) mo (if 0 ≤ n ∧ n < ((ln / 65536 : Nat) : Int) then C.filter (szQ (n * 65536)) else C) ∧ Below w0.heap.size w0 w' ∧ Pk26 w w' := by
  obtain ⟨L, h1, h2, h3, h4, h5, h6, h7, h8⟩ := hS
  refine (shrink_any w0.heap.size p n L mo w (by omega) hb.size h1).mono (fun e w' h => ?_)
  obtain ⟨e1, e2, e3, e4⟩ := h
  unfold shrinkL at e2
  rw [h2] at e2
  have hd : ((ln : Nat) : Int) / 65536 = ((ln / 65536 : Nat) : Int) := by omega
  rw [hd] at e2
  by_cases hc : 0 ≤ n ∧ n < ((ln / 65536 : Nat) : Int)
  · rw [if_pos hc] at e2
    rw [if_pos hc, if_pos hc]
    have hl : (L.take (n.toNat * 65536)).length = n.toNat * 65536 := by rw [List.length_take]; omega
    exact ⟨_, e1, rfl, ⟨_, e2, hl, fun x hx => h3 x (List.mem_of_mem_take hx), h4.shrink (by omega) (by omega), by omega, by omega, by omega, h8⟩, hb.trans e3, Pk26.of_mem h1 e4⟩
  · rw [if_neg hc] at e2
    rw [if_neg hc, if_neg hc]
    exact ⟨_, e1, rfl, ⟨L, e2, h2, h3, h4, h5, h6, h7, h8⟩, hb.trans e3, Pk26.of_mem h1 e4⟩
theorem sum_S {B : Nat} (hS : St26 B w p ln mo C) : Calls Try.prog 62 #[.pointer (some ⟨p, 0, none⟩)] w fun e w' => e = .returned (.int .u64 (sumG C C.length)) ∧ Below w.heap.size w w' := by
  obtain ⟨L, h1, h2, h3, h4, h5⟩ := hS
  refine (sum_any B p L mo w (by omega) h3 h1).mono (fun e w' h => ?_)
  obtain ⟨e1, rfl⟩ := h
  rw [h4.sum] at e1
  exact ⟨e1, Below.refl _ _⟩
theorem pages_S {B : Nat} (hS : St26 B w p ln mo C) : Calls Try.prog 58 #[.pointer (some ⟨p, 0, none⟩)] w fun e w' => e = .returned (.int .i64 ((ln / 65536 : Nat) : Int)) ∧ Below w.heap.size w w' := by
  obtain ⟨L, h1, h2, h3, h4, h5⟩ := hS
  refine (pages_any B p L mo w (by omega) h1).mono (fun e w' h => ?_)
  obtain ⟨e1, rfl⟩ := h
  rw [h2] at e1
  exact ⟨e1, Below.refl _ _⟩
theorem mlen_S {B : Nat} (hS : St26 B w p ln mo C) : Calls Try.prog 61 #[.pointer (some ⟨p, 0, none⟩)] w fun e w' => e = .returned (.int .i64 ((ln : Nat) : Int)) ∧ Below w.heap.size w w' := by
  obtain ⟨L, h1, h2, h3, h4, h5⟩ := hS
  obtain ⟨mg, cap, p1, p2, p3⟩ := h1.parts
  have h := mlen_p p mg cap L mo B w p1 p2 (by omega) h3
  rw [h2] at h
  exact h
theorem mmost_S {B : Nat} (hS : St26 B w p ln mo C) : Calls Try.prog 59 #[.pointer (some ⟨p, 0, none⟩)] w fun e w' => e = .returned (.int .i64 mo) ∧ Below w.heap.size w w' := by
  obtain ⟨L, h1, h2, h3, h4, h5⟩ := hS
  obtain ⟨mg, cap, p1, p2, p3⟩ := h1.parts
  exact mmost_p p mg cap L mo B w p1 p2 (by omega) h3
/-- Load, where nothing is read by the instruction. -/
theorem load_A {B : Nat} (hS : St26 B w p ln mo C) {op b o : Nat} (hop : op < 256) (hb0 : b < 18446744073709551616) (ho0 : o < 18446744073709551616) (h : okL op = false) : Calls Try.prog 90 #[.pointer (some ⟨p, 0, none⟩), .int .u8 ((op : Nat) : Int), .int .u64 ((b : Nat) : Int), .int .u64 ((o : Nat) : Int)] w fun e w' => e = .returned (.tuple #[.agg #[.int .u8 0, .int .u64 0], .int .i64 9]) ∧ Below w.heap.size w w' := by
  obtain ⟨L, h1, h2, h3, h4, h5⟩ := hS
  obtain ⟨mg, cap, p1, p2, p3⟩ := h1.parts
  have hh := load_p p mg cap L mo B w p1 p2 (by omega) h3 op b o hop hb0 ho0
  rw [show loadT op b o L = (0, 0, 9) by unfold loadT; rw [if_neg (by rw [h]; decide)]] at hh
  exact hh
theorem load_B {B : Nat} (hS : St26 B w p ln mo C) {op b o n0 : Nat} (hop : op < 256) (hb0 : b < 18446744073709551616) (ho0 : o < 18446744073709551616) (h : okL op = true) (hn : (accT op).1 = ((n0 : Nat) : Int)) (hi : (plP b o n0 ln).2 = false) : Calls Try.prog 90 #[.pointer (some ⟨p, 0, none⟩), .int .u8 ((op : Nat) : Int), .int .u64 ((b : Nat) : Int), .int .u64 ((o : Nat) : Int)] w fun e w' => e = .returned (.tuple #[.agg #[.int .u8 0, .int .u64 0], .int .i64 63]) ∧ Below w.heap.size w w' := by
  obtain ⟨L, h1, h2, h3, h4, h5⟩ := hS
  obtain ⟨mg, cap, p1, p2, p3⟩ := h1.parts
  have hh := load_p p mg cap L mo B w p1 p2 (by omega) h3 op b o hop hb0 ho0
  rw [show loadT op b o L = (0, 0, 63) by unfold loadT; rw [if_pos h, hn, h2, Int.toNat_natCast, if_neg (by rw [hi]; decide)]] at hh
  exact hh
theorem load_C {B : Nat} (hS : St26 B w p ln mo C) {op b o n0 : Nat} (hop : op < 256) (hb0 : b < 18446744073709551616) (ho0 : o < 18446744073709551616) (h : okL op = true) (hn : (accT op).1 = ((n0 : Nat) : Int)) (hi : (plP b o n0 ln).2 = true) : Calls Try.prog 90 #[.pointer (some ⟨p, 0, none⟩), .int .u8 ((op : Nat) : Int), .int .u64 ((b : Nat) : Int), .int .u64 ((o : Nat) : Int)] w fun e w' => e = .returned (.tuple #[.agg #[.int .u8 (readT op (rdF C (plP b o n0 ln).1 n0)).1, .int .u64 (((readT op (rdF C (plP b o n0 ln).1 n0)).2.1 : Nat) : Int)], .int .i64 0]) ∧ Below w.heap.size w w' := by
  obtain ⟨L, h1, h2, h3, h4, h5⟩ := hS
  obtain ⟨mg, cap, p1, p2, p3⟩ := h1.parts
  have hh := load_p p mg cap L mo B w p1 p2 (by omega) h3 op b o hop hb0 ho0
  have hp := plP_in hi
  rw [show loadT op b o L = ((readT op (rdF C (plP b o n0 ln).1 n0)).1, (readT op (rdF C (plP b o n0 ln).1 n0)).2.1, 0) by
    unfold loadT
    rw [if_pos h, hn, h2, Int.toNat_natCast, if_pos hi, h4.read (by omega)]] at hh
  exact hh
theorem place_A {B : Nat} (hS : St26 B w p ln mo C) {op b o v : Nat} (hop : op < 256) (hb0 : b < 18446744073709551616) (ho0 : o < 18446744073709551616) (hv0 : v < 18446744073709551616) (h : (writeT op v).2 = false) : Calls Try.prog 92 #[.pointer (some ⟨p, 0, none⟩), .int .u8 ((op : Nat) : Int), .int .u64 ((b : Nat) : Int), .int .u64 ((o : Nat) : Int), .int .u64 ((v : Nat) : Int)] w fun e w' => ∃ x, e = .returned x ∧ ∃ va vc, x = .tuple #[.int .u64 0, .slice va ([] : List Int).length vc, .int .i64 9] ∧ Row 1 (vInt .u8) 5 w.heap.size w' (.slice va ([] : List Int).length vc) [] ∧ Below w.heap.size w w' := by
  obtain ⟨L, h1, h2, h3, h4, h5⟩ := hS
  obtain ⟨mg, cap, p1, p2, p3⟩ := h1.parts
  have hh := mplace_p p mg cap L mo B w p1 p2 (by omega) h3 op b o v hop hb0 ho0 hv0
  rw [show placT op b o v L = (0, [], 9) by unfold placT; rw [if_neg (by rw [h]; decide)]] at hh
  exact hh
theorem place_B {B : Nat} (hS : St26 B w p ln mo C) {op b o v : Nat} (hop : op < 256) (hb0 : b < 18446744073709551616) (ho0 : o < 18446744073709551616) (hv0 : v < 18446744073709551616) (h : (writeT op v).2 = true) (hi : (plP b o (writeT op v).1.length ln).2 = false) : Calls Try.prog 92 #[.pointer (some ⟨p, 0, none⟩), .int .u8 ((op : Nat) : Int), .int .u64 ((b : Nat) : Int), .int .u64 ((o : Nat) : Int), .int .u64 ((v : Nat) : Int)] w fun e w' => ∃ x, e = .returned x ∧ ∃ va vc, x = .tuple #[.int .u64 0, .slice va ([] : List Int).length vc, .int .i64 63] ∧ Row 1 (vInt .u8) 5 w.heap.size w' (.slice va ([] : List Int).length vc) [] ∧ Below w.heap.size w w' := by
  obtain ⟨L, h1, h2, h3, h4, h5⟩ := hS
  obtain ⟨mg, cap, p1, p2, p3⟩ := h1.parts
  have hh := mplace_p p mg cap L mo B w p1 p2 (by omega) h3 op b o v hop hb0 ho0 hv0
  rw [show placT op b o v L = (0, [], 63) by unfold placT; rw [if_pos h, h2, if_neg (by rw [hi]; decide)]] at hh
  exact hh
theorem place_C {B : Nat} (hS : St26 B w p ln mo C) {op b o v : Nat} (hop : op < 256) (hb0 : b < 18446744073709551616) (ho0 : o < 18446744073709551616) (hv0 : v < 18446744073709551616) (h : (writeT op v).2 = true) (hi : (plP b o (writeT op v).1.length ln).2 = true) : Calls Try.prog 92 #[.pointer (some ⟨p, 0, none⟩), .int .u8 ((op : Nat) : Int), .int .u64 ((b : Nat) : Int), .int .u64 ((o : Nat) : Int), .int .u64 ((v : Nat) : Int)] w fun e w' => ∃ x, e = .returned x ∧ ∃ va vc, x = .tuple #[.int .u64 (((plP b o (writeT op v).1.length ln).1 : Nat) : Int), .slice va (writeT op v).1.length vc, .int .i64 0] ∧ Row 1 (vInt .u8) 5 w.heap.size w' (.slice va (writeT op v).1.length vc) (writeT op v).1 ∧ Below w.heap.size w w' := by
  obtain ⟨L, h1, h2, h3, h4, h5⟩ := hS
  obtain ⟨mg, cap, p1, p2, p3⟩ := h1.parts
  have hh := mplace_p p mg cap L mo B w p1 p2 (by omega) h3 op b o v hop hb0 ho0 hv0
  rw [show placT op b o v L = ((plP b o (writeT op v).1.length ln).1, (writeT op v).1, 0) by unfold placT; rw [if_pos h, h2, if_pos hi]] at hh
  exact hh
end
theorem new_S26 (n : Nat) (mo : Int) (w : World) (hn : n ≤ 256) (h1 : ((n : Nat) : Int) ≤ mo) (h2 : mo ≤ 256) : Calls Try.prog 57 #[.int .i64 ((n : Nat) : Int), .int .i64 mo] w fun e w' => ∃ x, e = .returned x ∧ ∃ p, x = .tuple #[.pointer (some ⟨p, 0, none⟩), .int .i64 0] ∧ St26 w.heap.size w' p (n * 65536) mo [] ∧ Below w.heap.size w w' := by
  refine (mnew_any n mo w w.heap.size (Nat.le_refl _) hn h1 h2).mono (fun e w' h => ?_)
  obtain ⟨⟨b, e1, e2, e3⟩, e4⟩ := h
  refine ⟨_, e1, b, rfl, ⟨_, e3, by rw [List.length_replicate], fun x hx => ?_, ML.zero _, by omega, by omega, by omega, h2⟩, e4⟩
  rw [List.eq_of_mem_replicate hx]
  omega
end Go.Proofs.Ytmcmickgllffoaa
