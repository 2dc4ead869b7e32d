/- What is proved here: what a memory's Read, Sum, Grow and Shrink come to. -/
import Derived.Test.YtmcmickgllffoaaMoAp
namespace Go.Proofs.Ytmcmickgllffoaa
open Go.RowKit
set_option linter.unusedVariables false
set_option linter.unusedSimpArgs false

/-- A slice appended to a row of the call's own, as a law of the walk. -/
theorem wpList_appends {P : Program} {w : World} {t e bytes : Nat} {z : Value} (ht : P.underlying t = some (.slice e)) (hinfo : (P.info? e).map (fun i => (i.zero, i.size, i.bytes)) = some (some z, 1, bytes)) (hz : z.cells.size = 1) (hb1 : 1 ≤ bytes)
    {base n : Nat} {v : Value} {xs : List Value} (hown : w.ownsRow base e 1 v n xs) (hbase : base ≤ w.heap.size) {ad : Option Addr} {m c : Nat} {news : List Value} (hsrc : SrcV w ad m news) (h1 : ∀ u ∈ news, u.oneCell' = true) (hbytes : (n + m) * bytes ≤ 140737488355328) (hnil : m = 0 → ad = none → c = 0)
    {ops : Array Oper} {rest : List Oper} {o : Oper} {a : Act} {Q : Exit → Act → World → Prop} {s x : Operand}
    (hgd : o.guard = none) (ho : o.op = .call { callee := .builtin .append, args := #[s, x], argTypes := #[t, t] }) (hs : a.eval s = v) (hx : a.eval x = .slice ad m c)
    (h : ∀ v' w', w'.ownsRow base e 1 v' (n + m) (xs ++ news) → Below base w w' → w.heap.size ≤ w'.heap.size → wpList P ops Q rest (a.put o.dst v') w') : wpList P ops Q (o :: rest) a w := by
  obtain ⟨v', w', hr, h2, h3, h4⟩ := appends_run (P := P) ht hinfo hz hb1 hown hbase hsrc h1 hbytes hnil
  exact wpList_app hr hgd ho hs hx (h v' w' h2 h3 h4)

/-- The same; the new row is there. -/
theorem wpList_appendsN {P : Program} {w : World} {t e bytes : Nat} {z : Value} (ht : P.underlying t = some (.slice e)) (hinfo : (P.info? e).map (fun i => (i.zero, i.size, i.bytes)) = some (some z, 1, bytes)) (hz : z.cells.size = 1) (hb1 : 1 ≤ bytes)
    {base n g0 c0 : Nat} {xs : List Value} (hown : w.ownsRow base e 1 (.slice (some ⟨g0, 0, none⟩) n c0) n xs) (hbase : base ≤ w.heap.size) {ad : Addr} {m c : Nat} {news : List Value} (hsrc : SrcV w (some ad) m news) (h1 : ∀ u ∈ news, u.oneCell' = true) (hbytes : (n + m) * bytes ≤ 140737488355328)
    {ops : Array Oper} {rest : List Oper} {o : Oper} {a : Act} {Q : Exit → Act → World → Prop} {s x : Operand}
    (hgd : o.guard = none) (ho : o.op = .call { callee := .builtin .append, args := #[s, x], argTypes := #[t, t] }) (hs : a.eval s = .slice (some ⟨g0, 0, none⟩) n c0) (hx : a.eval x = .slice (some ad) m c)
    (h : ∀ g' c' w', w'.ownsRow base e 1 (.slice (some ⟨g', 0, none⟩) (n + m) c') (n + m) (xs ++ news) → Below base w w' → w.heap.size ≤ w'.heap.size → (∀ q, q < w.heap.size → q ≠ g0 → w'.heap[q]? = w.heap[q]?) → wpList P ops Q rest (a.put o.dst (.slice (some ⟨g', 0, none⟩) (n + m) c')) w') : wpList P ops Q (o :: rest) a w := by
  obtain ⟨i, hi, hz0, hs0, hby⟩ := info_parts hinfo
  have hle : n + m ≤ (n + m) * bytes := Nat.le_mul_of_pos_right _ hb1
  have key : ∀ ty, ∃ v' w', (Builtin.append_ #[t, t] ty #[.slice (some ⟨g0, 0, none⟩) n c0, .slice (some ad) m c]).run P w = .ok v' w' ∧ w'.ownsRow base e 1 v' (n + m) (xs ++ news) ∧ w.grownBy w' (some g0) ∧ v' ≠ .slice none 0 0 := by
    intro ty
    obtain ⟨v', w', hr, h2, h3, h4⟩ := run_append_own (P := P) w base t ty e i z 1 bytes ht hi hz0 hs0 hby hz (by decide) _ n xs hown
      ad m c news (by have := hsrc.1; omega) (fun j u hj => by
        obtain ⟨b, off, ha, hc, _⟩ := hsrc.2 j u hj
        simp at ha; subst ha
        have e1 : (⟨b, off, none⟩ : Addr).add j = ⟨b, off + j, none⟩ := by unfold Addr.add; split <;> simp_all
        rw [e1]; exact hc) h1 (by unfold maxLen; omega) hbytes hbase
    exact ⟨v', w', hr, h2, h3, fun e => by have := (h4.1 e).1; cases this⟩
  obtain ⟨v', w', hr, h2, h3, h4⟩ := key 0
  rcases h2.2 with ⟨e1, _⟩ | ⟨g', c', cur, e1, _⟩
  · exact absurd e1 h4
  · subst e1
    refine wpList_app (v' := .slice (some ⟨g', 0, none⟩) (n + m) c') (fun ty => by rw [← hr]; rfl) hgd ho hs hx (h g' c' w' h2 ((Below.refl _ _).grown h3 hbase (fun k hk => (hown.lt k hk).1)) h3.size (fun q hq hne => h3.block q hq (by simpa using hne)))

theorem src_cut {w : World} {base e g N cap k n : Nat} {xs : List Value} (h : w.ownsRow base e 1 (.slice (some ⟨g, 0, none⟩) N cap) N xs) (hk : k + n ≤ N) : SrcV w (some ⟨g, k, none⟩) n ((xs.drop k).take n) := by
  obtain ⟨cur, e1, e2, e3, e4, e5, e6⟩ := ownsRow_here h
  have hl := h.1
  refine ⟨by simp; omega, fun j u hj => ⟨g, k, rfl, ?_, (Array.getElem?_eq_some_iff.1 e1).1⟩⟩
  rw [cell_of_row w g (k + j) _ _ _ e1]
  have hjn : j < n := by
    have := (List.getElem?_eq_some_iff.1 hj).1
    simp at this; omega
  rw [List.getElem?_take, if_pos hjn, List.getElem?_drop, ← e3, List.getElem?_take, if_pos (by omega)] at hj
  simpa using hj

theorem src_none (w : World) (a : Option Addr) : SrcV w a 0 [] := ⟨rfl, fun j u hj => by simp at hj⟩

theorem ownsRow_empty {w : World} {base e g : Nat} (h : w.heap[g]? = some (.cells #[] e (0, 0))) (hb : base ≤ g) : w.ownsRow base e 1 (.slice (some ⟨g, 0, none⟩) 0 0) 0 [] :=
  ⟨rfl, .inr ⟨g, 0, #[], rfl, hb, h, Nat.le_refl _, Nat.zero_le _, rfl, rfl⟩⟩

set_option maxHeartbeats 400000 in
set_option maxRecDepth 100000 in
theorem read_ok (base b k n : Nat) (L : List Int) (most : Int) (w : World) (hL : L.length ≤ 20000000) (hn : n ≤ L.length) (hkl : k ≤ L.length) (hml : n ≤ L.length - k) (h : MemR base w b L most) :
    Calls Try.prog 80 #[.pointer (some ⟨b, 0, none⟩), .int .u64 k, .int .i64 n] w fun e w' => (∃ s, e = .returned (.tuple #[s, .int .i64 0]) ∧ w'.ownsRow w.heap.size 5 1 s n (((L.drop k).take n).map (Value.int .u8))) ∧ Below w.heap.size w w' := by
  have H := hid h
  obtain ⟨g, cap, c0, c1, z0, z1, hb, hbb, hlc, hg, hbg, hgb, hblk, hown⟩ := h.open
  clear h
  have hlw : IntKind.u64.wrap (L.length : Int) = L.length := wrap_u64 (by omega) (by omega)
  have hmw : IntKind.u64.wrap (n : Int) = n := wrap_u64 (by omega) (by omega)
  have t0 : decide ((k : Int) > L.length) = false := by simp; omega
  have t0' : decide (L.length < k) = false := by simp; omega
  have t2 : decide ((n : Int) < 0) = false := by simp
  have hsw : IntKind.u64.wrap ((L.length : Int) - k) = L.length - k := wrap_u64 (by omega) (by omega)
  have haw : IntKind.u64.wrap ((k : Int) + n) = k + n := wrap_u64 (by omega) (by omega)
  have t1 : decide ((n : Int) > L.length - k) = false := by simp; omega
  have hxs : ((L.map (Value.int .u8)).drop k).take n = ((L.drop k).take n).map (Value.int .u8) := by rw [List.map_take, List.map_drop]
  have hsrc := src_cut (k := k) (n := n) (hown.alloc (.cells #[] 5)) (by omega)
  rw [hxs] at hsrc
  have hbel := (Below.refl w.heap.size w).alloc (Nat.le_refl _) (.cells #[] 5)
  have hemp : (w.alloc (.cells #[] 5)).ownsRow w.heap.size 5 1 (.slice (some ⟨w.heap.size, 0, none⟩) 0 0) 0 [] := ownsRow_empty (heap_alloc_last _ _) (Nat.le_refl _)
  generalize hX : ((L.drop k).take n).map (Value.int .u8) = X at *
  have Hone : Hid (∀ u ∈ X, u.oneCell' = true) := hid (by rw [← hX]; exact oneCell_ints)
  have hkk : k + n - k = n := by omega
  have Hs : Hid (SrcV (w.alloc (.cells #[] 5)) (some ⟨g, k, none⟩) (k + n - k) X) := hid (by rw [hkk]; exact hsrc)
  have Hkk := hid hkk
  have He := hid hemp
  have Hb := hid hbel
  have Hsz : Hid (w.heap.size ≤ (w.alloc (.cells #[] 5)).heap.size) := hid (by simp)
  clear hown hblk hsrc hX hemp hbel hxs
  clear hkk
  by_cases hck : cap = k
  · have hn0 : n = 0 := by omega
    have Hs0 : Hid (SrcV (w.alloc (.cells #[] 5)) (some ⟨g, 0, none⟩) (k + n - k) X) := by
      subst hn0
      obtain rfl : X = [] := List.eq_nil_of_length_eq_zero (Hs.out.1.trans Hkk.out)
      rw [Hkk.out]
      exact src_none _ _
    clear hn0
    subst hck
    go_enter Try.func80, Try.ntmps80
    go_wp2_with (at_builtin; (refine wpList_appends Try.underlying84 infoB rfl (by decide) He.out Hsz.out Hs0.out Hone.out (by omega) (by intro _ h; cases h) rfl rfl rfl rfl ?_; intro v' w' hown' hb' hlt'; have Ho' := hid hown'; have Hb' := hid hb'; clear hown' hb'))
    go_ret2
    exact ⟨⟨v', rfl, by have := Ho'.out; rw [Hkk.out] at this; simpa using this⟩, Hb.out.trans Hb'.out⟩
  · go_enter Try.func80, Try.ntmps80
    go_wp2_with (at_builtin; (refine wpList_appends Try.underlying84 infoB rfl (by decide) He.out Hsz.out Hs.out Hone.out (by omega) (by intro _ h; cases h) rfl rfl rfl rfl ?_; intro v' w' hown' hb' hlt'; have Ho' := hid hown'; have Hb' := hid hb'; clear hown' hb'))
    go_ret2
    exact ⟨⟨v', rfl, by have := Ho'.out; rw [Hkk.out] at this; simpa using this⟩, Hb.out.trans Hb'.out⟩

/-- Of all bytes, each times its place and one more. -/
def sumF : List Int → Nat → Int
  | [], _ => 0
  | c :: l, i => c * (i + 1) + sumF l (i + 1)

theorem sumF_append (l : List Int) : ∀ (m : List Int) (i : Nat), sumF (m ++ l) i = sumF m i + sumF l (i + m.length)
  | [], i => by simp [sumF]
  | c :: m, i => by
    have := sumF_append l m (i + 1)
    simp only [List.cons_append, sumF, this, List.length_cons]
    rw [show i + 1 + m.length = i + (m.length + 1) by omega]
    omega

theorem sumF_take (L : List Int) (k : Nat) (h : k < L.length) : sumF (L.take (k + 1)) 0 = sumF (L.take k) 0 + L.getD k 0 * (k + 1) := by
  rw [List.take_succ_eq_append_getElem h, sumF_append]
  have : (L.take k).length = k := by simp; omega
  simp [sumF, this, h]

set_option maxHeartbeats 400000 in
set_option maxRecDepth 100000 in
theorem sum_any (base b : Nat) (L : List Int) (most : Int) (w : World) (hL : L.length ≤ 20000000) (hby : ∀ x ∈ L, 0 ≤ x ∧ x < 256) (h : MemR base w b L most) :
    Calls Try.prog 62 #[.pointer (some ⟨b, 0, none⟩)] w fun e w' => e = .returned (.int .u64 (sumF L 0 % 18446744073709551616)) ∧ w = w' := by
  obtain ⟨g, cap, c0, c1, z0, z1, hb, hbb, hlc, hg, hbg, hgb, hblk, hown⟩ := h.open
  have hcell : ∀ j, j < L.length → w.cell? ⟨g, j, none⟩ = some (.int .u8 (L.getD j 0)) := by
    intro j hj
    obtain ⟨cur, e1, e2, e3, e4, e5, e6⟩ := ownsRow_here hown
    rw [cell_of_row w g j _ _ _ e1]
    have : (cur.take L.length)[j]? = (L.map (Value.int .u8))[j]? := by rw [e3]
    rw [List.getElem?_take, if_pos hj] at this
    simp [hj] at this
    simp [this, hj]
  have Hc := hid hcell
  have HB := hid hby
  clear hcell h hblk hown hby
  go_enter Try.func62, Try.ntmps62
  go_wp2
  go_loop [3, 4, 5, 11] (fun s _ _ i => ∃ k : Nat, k ≤ L.length ∧ i = .int .i64 k ∧ s = .int .u64 (sumF (L.take k) 0 % 18446744073709551616)) (fun _ _ _ i => L.length - (intOf i).toNat)
  case atStart => exact ⟨0, Nat.zero_le _, rfl, rfl⟩
  case round =>
    obtain ⟨k, hk, rfl, rfl⟩ := hrel
    by_cases hlt : k < L.length
    · have hst := sumF_take L k hlt
      have hce := Hc.out k hlt
      have hbb := HB.out (L.getD k 0) (by simp [hlt])
      generalize L.getD k 0 = c at *
      generalize hs1 : sumF (L.take (k + 1)) 0 = s1 at *
      generalize sumF (L.take k) 0 = s0 at *
      have Hst := hid hst
      have Hs1 := hid hs1
      clear hst hs1
      by_cases hc0 : c = 0
      · subst hc0
        go_wp2
        go_round
        case rel => exact ⟨k + 1, by omega, by go_num, by rw [Hs1.out, Hst.out]; simp⟩
        case measure => simp [intOf]; omega
      · have t1 : (c != 0) = true := by simp [hc0]
        clear hc0
        go_wp2
        go_round
        case rel => exact ⟨k + 1, by omega, by go_num, by rw [Hs1.out, Hst.out, wrap_u64_def, wrap_u64_def]; congr 1; omega⟩
        case measure => simp [intOf]; omega
    · obtain rfl : k = L.length := by omega
      have hall : sumF (L.take L.length) 0 = sumF L 0 := by rw [List.take_length]
      go_wp2
      go_ret
      exact ⟨by simp, rfl⟩

set_option maxHeartbeats 400000 in
set_option maxRecDepth 100000 in
theorem read_bad (base b k : Nat) (n : Int) (L : List Int) (most : Int) (w : World) (hL : L.length ≤ 20000000) (hk : k < 18446744073709551616) (hn1 : n < 9223372036854775808) (hbad : n < 0 ∨ L.length < k ∨ (L.length : Int) - k < n) (h : MemR base w b L most) :
    Calls Try.prog 80 #[.pointer (some ⟨b, 0, none⟩), .int .u64 k, .int .i64 n] w fun e w' => e = .returned (.tuple #[.slice none 0 0, .int .i64 63]) ∧ w = w' := by
  obtain ⟨g, cap, c0, c1, z0, z1, hb, hbb, hlc, hg, hbg, hgb, hblk, hown⟩ := h.open
  clear h hblk hown
  have hlw : IntKind.u64.wrap (L.length : Int) = L.length := wrap_u64 (by omega) (by omega)
  by_cases h0 : n < 0
  · have t2 : decide (n < 0) = true := by simp [h0]
    clear hbad
    go_enter Try.func80, Try.ntmps80
    go_wp2
    go_ret2
    exact ⟨rfl, rfl⟩
  · obtain ⟨m, rfl⟩ := Int.eq_ofNat_of_zero_le (show 0 ≤ n by omega)
    have t2 : decide ((m : Int) < 0) = false := by simp
    by_cases h1 : L.length < k
    · have t0 : decide ((k : Int) > L.length) = true := by simp; omega
      have t0' : decide (L.length < k) = true := by simp; omega
      clear hbad h0
      go_enter Try.func80, Try.ntmps80
      go_wp2
      go_ret2
      exact ⟨rfl, rfl⟩
    · have t0 : decide ((k : Int) > L.length) = false := by simp; omega
      have t0' : decide (L.length < k) = false := by simp; omega
      have hmw : IntKind.u64.wrap (m : Int) = m := wrap_u64 (by omega) (by omega)
      have hsw : IntKind.u64.wrap ((L.length : Int) - k) = L.length - k := wrap_u64 (by omega) (by omega)
      have t1 : decide ((m : Int) > L.length - k) = true := by simp; omega
      clear hbad h0
      go_enter Try.func80, Try.ntmps80
      go_wp2
      go_ret2
      exact ⟨rfl, rfl⟩

/-- The pages and what may be. -/
def growsB (L : List Int) (most : Int) (n : Nat) : Bool := decide ((n : Int) ≤ most - L.length / 65536)

theorem MemR.stored {base : Nat} {w' : World} {b : Nat} {L' : List Int} {most : Int} {v : Value} {g cap : Nat} (hbb : base ≤ b) (hblk : w'.heap[b]? = some (.cells #[v, .int .i64 most] 152 (0, 0))) (hown : w'.ownsRow base 5 1 (.slice (some ⟨g, 0, none⟩) L'.length cap) L'.length (L'.map (Value.int .u8))) :
    MemR base (w'.setCell ⟨b, 0, none⟩ (.slice (some ⟨g, 0, none⟩) L'.length cap)) b L' most := by
  refine ⟨hbb, g, cap, ?_, ?_⟩
  · have := heap_setCell_same w' b 0 _ _ (.slice (some ⟨g, 0, none⟩) L'.length cap) hblk
    simpa using this
  · exact ownsRow_other hown ⟨b, 0, none⟩ _ (ownBlock_ne hown hblk (by decide))

set_option maxHeartbeats 1000000 in
set_option maxRecDepth 100000 in
theorem grow_any (base b n : Nat) (L : List Int) (most : Int) (w : World) (hL : L.length ≤ 20000000) (hm0 : (L.length : Int) / 65536 ≤ most) (hm1 : most ≤ 256) (hbase : base ≤ w.heap.size) (hn : n < 18446744073709551616) (h : MemR base w b L most) :
    Calls Try.prog 76 #[.pointer (some ⟨b, 0, none⟩), .int .u64 n] w fun e w' => e = .returned (.tuple #[.int .i64 (if growsB L most n then (L.length : Int) / 65536 else 0), .bool (growsB L most n)]) ∧ MemR base w' b (if growsB L most n then L ++ List.replicate (n * 65536) 0 else L) most ∧ Below base w w' ∧ MemFr b w w' := by
  have Hp := hid (pages_any base b L most w hL h)
  have H := hid h
  obtain ⟨g, cap, c0, c1, z0, z1, hb, hbb, hlc, hg, hbg, hgb, hblk, hown⟩ := h.open
  clear h
  have hpg : ((L.length / 65536 : Nat) : Int) = (L.length : Int) / 65536 := by omega
  cases hf : growsB L most n with
  | false =>
    simp only [Bool.false_eq_true, if_false]
    have hf' : ¬ ((n : Int) ≤ most - L.length / 65536) := by simpa [growsB] using hf
    have hw1 : wrap64 (most - (L.length : Int) / 65536) = most - (L.length : Int) / 65536 := by unfold wrap64; omega
    have hw2 : IntKind.u64.wrap (most - (L.length : Int) / 65536) = most - (L.length : Int) / 65536 := wrap_u64 (by omega) (by omega)
    have t1 : decide ((n : Int) > most - (L.length : Int) / 65536) = true := by simp; omega
    clear hblk hown hf hf'
    go_enter Try.func76, Try.ntmps76
    go_wp2_with fail
    refine Hp.out.mono ?_
    rintro e w1 ⟨rfl, rfl⟩
    rw [hpg]
    go_wp2
    go_ret2
    exact ⟨rfl, H.out, Below.refl _ _, MemFr.refl _ _⟩
  | true =>
    simp only [if_true]
    have hf' : (n : Int) ≤ most - L.length / 65536 := by simpa [growsB] using hf
    have hw1 : wrap64 (most - (L.length : Int) / 65536) = most - (L.length : Int) / 65536 := by unfold wrap64; omega
    have hw2 : IntKind.u64.wrap (most - (L.length : Int) / 65536) = most - (L.length : Int) / 65536 := wrap_u64 (by omega) (by omega)
    have t1 : decide ((n : Int) > most - (L.length : Int) / 65536) = false := by simp; omega
    have hn256 : n ≤ 256 := by omega
    obtain ⟨v', w', hr, ho, hbw, hsz, hk, hfr, hv0⟩ := zeros_run (P := Try.prog) (k := n * 65536) (tn := 3) (kq := .i64) Try.underlying84 Try.underlying3 infoB rfl rfl (by decide) hown (by omega) hbase
    have hcast : (n : Int) * 65536 = ((n * 65536 : Nat) : Int) := by omega
    have hv : ∃ g' cap', v' = .slice (some ⟨g', 0, none⟩) (L.length + n * 65536) cap' := hv0 ⟨g, cap, rfl⟩
    obtain ⟨g', cap', rfl⟩ := hv
    have hlen : (L ++ List.replicate (n * 65536) (0 : Int)).length = L.length + n * 65536 := by simp
    have ho2 : w'.ownsRow base 5 1 (.slice (some ⟨g', 0, none⟩) (L ++ List.replicate (n * 65536) (0 : Int)).length cap') (L ++ List.replicate (n * 65536) (0 : Int)).length ((L ++ List.replicate (n * 65536) (0 : Int)).map (Value.int .u8)) := by
      rw [hlen, List.map_append, List.map_replicate]; exact ho
    have hblk' : w'.heap[b]? = some (.cells #[.slice (some ⟨g, 0, none⟩) L.length cap, .int .i64 most] 152 (0, 0)) := by
      rw [hk b hb (fun e => hgb (by simpa [Value.ownBlock] using e))]; exact hblk
    have hdata : dataB w b = some g := by unfold dataB; rw [c0]; rfl
    have hfin := MemR.stored (g := g') (cap := cap') hbb hblk' ho2
    have hbel := hbw.setCell (p := ⟨b, 0, none⟩) hbb (.slice (some ⟨g', 0, none⟩) (L ++ List.replicate (n * 65536) (0 : Int)).length cap')
    have hfr2 : MemFr b w (w'.setCell ⟨b, 0, none⟩ (.slice (some ⟨g', 0, none⟩) (L ++ List.replicate (n * 65536) (0 : Int)).length cap')) := by
      refine ⟨fun q hq hqb hqd => ?_, by simp [World.setCell]; omega⟩
      rw [Below.heap_setCell _ _ _ _ hqb]
      refine hk q hq (fun e => hqd ?_)
      rw [hdata]; simpa [Value.ownBlock] using e
    rw [hlen] at hfin hbel hfr2
    have Hfin := hid (And.intro hfin (And.intro hbel hfr2))
    have c0' := cell_of_row w' b 0 _ _ _ hblk'
    have z0' := frozen_of_row w' b 0 _ _ hblk'
    have Hr := hid (fun ty => hr ty)
    generalize L ++ List.replicate (n * 65536) (0 : Int) = L2 at *
    have hsz' : b < w'.heap.size := by omega
    clear hblk hown hf hf' ho ho2 hk hfr hfin hbel hfr2 hblk' hdata hr hlen
    generalize n * 65536 = k at *
    go_enter Try.func76, Try.ntmps76
    go_wp2_with fail
    refine Hp.out.mono ?_
    rintro e w1 ⟨rfl, rfl⟩
    rw [hpg]
    go_wp2_with (at_builtin; go_loud (refine wpList_app (t := 84) (tn := 3) Hr.out rfl rfl rfl rfl ?_))
    go_ret2
    exact ⟨rfl, Hfin.out⟩

def shrinkL (L : List Int) (n : Int) : List Int := if 0 ≤ n ∧ n < (L.length : Int) / 65536 then L.take (n.toNat * 65536) else L

theorem shrink_step {base b g cap g' c' k : Nat} {L L2 : List Int} {most : Int} {w w0 w' : World} (hbb : base ≤ b) (hb : b < w.heap.size)
    (hblk : w.heap[b]? = some (.cells #[.slice (some ⟨g, 0, none⟩) L.length cap, .int .i64 most] 152 (0, 0))) (hb0 : Below w.heap.size w w0) (hsz : w.heap.size < w0.heap.size)
    (hown : w'.ownsRow base 5 1 (.slice (some ⟨g', 0, none⟩) (0 + k) c') (0 + k) ([] ++ L2.map (Value.int .u8))) (hbw : Below base w0 w') (hlt : w0.heap.size ≤ w'.heap.size) (hk : ∀ q, q < w0.heap.size → q ≠ w.heap.size → w'.heap[q]? = w0.heap[q]?) (hlen : L2.length = k) :
    w'.heap[b]? = some (.cells #[.slice (some ⟨g, 0, none⟩) L.length cap, .int .i64 most] 152 (0, 0)) ∧ b < w'.heap.size ∧
    (MemR base (w'.setCell ⟨b, 0, none⟩ (.slice (some ⟨g', 0, none⟩) k c')) b L2 most ∧ Below base w (w'.setCell ⟨b, 0, none⟩ (.slice (some ⟨g', 0, none⟩) k c')) ∧ MemFr b w (w'.setCell ⟨b, 0, none⟩ (.slice (some ⟨g', 0, none⟩) k c'))) := by
  have hq : ∀ q, q < w.heap.size → w'.heap[q]? = w.heap[q]? := fun q hq => (hk q (by omega) (by omega)).trans (hb0.block q hq)
  have hb1 : w'.heap[b]? = some (.cells #[.slice (some ⟨g, 0, none⟩) L.length cap, .int .i64 most] 152 (0, 0)) := (hq b hb).trans hblk
  refine ⟨hb1, by omega, ?_, ?_, ?_⟩
  · subst hlen
    rw [Nat.zero_add, List.nil_append] at hown
    exact MemR.stored hbb hb1 hown
  · exact ((hb0.mono (by omega)).trans hbw).setCell (p := ⟨b, 0, none⟩) hbb _
  · refine ⟨fun q hql hqb _ => ?_, by simp [World.setCell]; omega⟩
    rw [Below.heap_setCell _ _ _ _ hqb]
    exact hq q hql

set_option maxHeartbeats 1000000 in
set_option maxRecDepth 100000 in
theorem shrink_any (base b : Nat) (n : Int) (L : List Int) (most : Int) (w : World) (hL : L.length ≤ 20000000) (hbase : base ≤ w.heap.size) (h : MemR base w b L most) :
    Calls Try.prog 83 #[.pointer (some ⟨b, 0, none⟩), .int .i64 n] w fun e w' => e = .returned (.tuple #[]) ∧ MemR base w' b (shrinkL L n) most ∧ Below base w w' ∧ MemFr b w w' := by
  have Hp := hid (pages_any base b L most w hL h)
  have H := hid h
  obtain ⟨g, cap, c0, c1, z0, z1, hb, hbb, hlc, hg, hbg, hgb, hblk, hown⟩ := h.open
  clear h
  have hpg : ((L.length / 65536 : Nat) : Int) = (L.length : Int) / 65536 := by omega
  unfold shrinkL
  by_cases h0 : 0 ≤ n
  · by_cases h1 : n < (L.length : Int) / 65536
    · rw [if_pos ⟨h0, h1⟩]
      obtain ⟨m, rfl⟩ := Int.eq_ofNat_of_zero_le h0
      have t0 : decide (0 ≤ (m : Int)) = true := by simp
      have t1 : decide ((m : Int) < (L.length : Int) / 65536) = true := by simp; omega
      have hcast : (m : Int) * 65536 = ((m * 65536 : Nat) : Int) := by omega
      rw [Int.toNat_natCast]
      have hmk : m * 65536 ≤ L.length := by omega
      have hxs : ((L.map (Value.int .u8)).drop 0).take (m * 65536) = (L.take (m * 65536)).map (Value.int .u8) := by rw [List.map_take, List.drop_zero]
      have hsrc := src_cut (k := 0) (n := m * 65536) (hown.alloc (.cells #[] 5)) (by omega)
      rw [hxs] at hsrc
      have hbel := (Below.refl w.heap.size w).alloc (Nat.le_refl _) (.cells #[] 5)
      have hemp : (w.alloc (.cells #[] 5)).ownsRow base 5 1 (.slice (some ⟨w.heap.size, 0, none⟩) 0 0) 0 [] := ownsRow_empty (heap_alloc_last _ _) hbase
      have hlen : (L.take (m * 65536)).length = m * 65536 := by simp; omega
      have Hone : Hid (∀ u ∈ (L.take (m * 65536)).map (Value.int .u8), u.oneCell' = true) := hid oneCell_ints
      have Hs := hid hsrc
      have He := hid hemp
      have Hb := hid hbel
      have Hlen := hid hlen
      have Hsz : Hid (base ≤ (w.alloc (.cells #[] 5)).heap.size) := hid (by simp; omega)
      have Hblk := hid hblk
      have hszw : w.heap.size < (w.alloc (.cells #[] 5)).heap.size := by simp
      have Hszw := hid hszw
      clear h0 h1 hown hblk hsrc hxs hemp hbel hlen hszw
      generalize L.take (m * 65536) = L2 at *
      generalize m * 65536 = k at *
      go_enter Try.func83, Try.ntmps83
      go_wp2_with fail
      refine Hp.out.mono ?_
      rintro e w1 ⟨rfl, rfl⟩
      rw [hpg]
      go_wp2_with (at_builtin; (refine wpList_appendsN Try.underlying84 infoB rfl (by decide) He.out Hsz.out Hs.out Hone.out (by omega) rfl rfl rfl rfl ?_; intro g' c' w' hown' hb' hlt' hk'; obtain ⟨hf1, hf2, hf3⟩ := shrink_step (base := base) (g := g) (g' := g') (c' := c') hbb hb Hblk.out Hb.out Hszw.out hown' hb' hlt' hk' Hlen.out; have c0' := cell_of_row w' b 0 _ _ _ hf1; have z0' := frozen_of_row w' b 0 _ _ hf1; have hbw' : b < w'.heap.size := hf2; have Hf := hid hf3; clear hown' hb' hlt' hk' hf1 hf2 hf3))
      go_end0
      exact ⟨rfl, Hf.out⟩
    · rw [if_neg (by omega)]
      have t0 : decide (0 ≤ n) = true := by simp [h0]
      have t1 : decide (n < (L.length : Int) / 65536) = false := by simp; omega
      clear h0 h1 hblk hown
      go_enter Try.func83, Try.ntmps83
      go_wp2_with fail
      refine Hp.out.mono ?_
      rintro e w1 ⟨rfl, rfl⟩
      rw [hpg]
      go_wp2
      go_end0
      exact ⟨rfl, H.out, Below.refl _ _, MemFr.refl _ _⟩
  · rw [if_neg (by omega)]
    have t0 : decide (0 ≤ n) = false := by simp; omega
    clear h0 hblk hown
    go_enter Try.func83, Try.ntmps83
    go_wp2
    go_end0
    exact ⟨rfl, H.out, Below.refl _ _, MemFr.refl _ _⟩
end Go.Proofs.Ytmcmickgllffoaa
