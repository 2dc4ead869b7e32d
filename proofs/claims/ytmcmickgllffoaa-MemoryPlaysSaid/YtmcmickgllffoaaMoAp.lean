/- What is proved here: what the functions of the package memory come to. -/
import Derived.Test.YtmcmickgllffoaaKitZp
import Derived.Test.YtmcmickgllffoaaKit2p
import Derived.Laws.CopyOwn
namespace Go.Proofs.Ytmcmickgllffoaa
open Go.RowKit
set_option linter.unusedVariables false
set_option linter.unusedSimpArgs false

theorem infoB : (Try.prog.info? 5).map (fun i => (i.zero, i.size, i.bytes)) = some (some (.int .u8 0), 1, 1) := by kernel_rfl

/-- A memory: its bytes and how many pages there may be. -/
def MemR (base : Nat) (w : World) (b : Nat) (L : List Int) (most : Int) : Prop :=
  base ≤ b ∧ ∃ g cap, w.heap[b]? = some (.cells #[.slice (some ⟨g, 0, none⟩) L.length cap, .int .i64 most] 152 (0, 0)) ∧ w.ownsRow base 5 1 (.slice (some ⟨g, 0, none⟩) L.length cap) L.length (L.map (Value.int .u8))

theorem MemR.ext {base : Nat} {w w' : World} {b : Nat} {L : List Int} {most : Int} (h : MemR base w b L most) (hb : Below w.heap.size w w') : MemR base w' b L most := by
  obtain ⟨h1, g, cap, h2, h3⟩ := h
  exact ⟨h1, g, cap, (hb.block b (Array.getElem?_eq_some_iff.1 h2).1).trans h2, ownsRow_ext h3 hb⟩

/-- An own row that is there: its block. -/
theorem ownsRow_here {w : World} {base e g n cap : Nat} {xs : List Value} (h : w.ownsRow base e 1 (.slice (some ⟨g, 0, none⟩) n cap) n xs) :
    ∃ cur : List Value, w.heap[g]? = some (.cells cur.toArray e (0, 0)) ∧ cur.length = cap ∧ cur.take n = xs ∧ n ≤ cap ∧ cap ≤ maxLen ∧ base ≤ g := by
  rcases h.2 with ⟨h0, _⟩ | ⟨g', cap', cur, hv, hb, hg, hc, hm, hs, ht⟩
  · cases h0
  · simp at hv
    obtain ⟨rfl, rfl⟩ := hv
    exact ⟨cur.toList, hg, by simpa using hs, by simpa using ht, hc, hm, hb⟩

/-- A memory, as the walk wants it. -/
theorem MemR.open {base : Nat} {w : World} {b : Nat} {L : List Int} {most : Int} (h : MemR base w b L most) :
    ∃ g cap, w.cell? ⟨b, 0, none⟩ = some (.slice (some ⟨g, 0, none⟩) L.length cap) ∧ w.cell? ⟨b, 1, none⟩ = some (.int .i64 most) ∧ w.frozen? ⟨b, 0, none⟩ = false ∧ w.frozen? ⟨b, 1, none⟩ = false ∧ b < w.heap.size ∧ base ≤ b ∧ L.length ≤ cap ∧ g < w.heap.size ∧ base ≤ g ∧ g ≠ b ∧
      w.heap[b]? = some (.cells #[.slice (some ⟨g, 0, none⟩) L.length cap, .int .i64 most] 152 (0, 0)) ∧ w.ownsRow base 5 1 (.slice (some ⟨g, 0, none⟩) L.length cap) L.length (L.map (Value.int .u8)) := by
  obtain ⟨h1, g, cap, h2, h3⟩ := h
  obtain ⟨cur, e1, e2, e3, e4, e5, e6⟩ := ownsRow_here h3
  refine ⟨g, cap, cell_of_row w b 0 _ _ _ h2, cell_of_row w b 1 _ _ _ h2, frozen_of_row w b 0 _ _ h2, frozen_of_row w b 1 _ _ h2, (Array.getElem?_eq_some_iff.1 h2).1, h1, e4, (Array.getElem?_eq_some_iff.1 e1).1, e6, ?_, h2, h3⟩
  rintro rfl
  exact ownBlock_ne h3 h2 (by decide) rfl

/-- The block of a memory's bytes. -/
def dataB (w : World) (b : Nat) : Option Nat := (w.cell? ⟨b, 0, none⟩).bind Value.ownBlock

/-- Only the memory's own blocks turned. -/
def MemFr (b : Nat) (w w' : World) : Prop := (∀ k, k < w.heap.size → k ≠ b → dataB w b ≠ some k → w'.heap[k]? = w.heap[k]?) ∧ w.heap.size ≤ w'.heap.size

theorem MemFr.refl (b : Nat) (w : World) : MemFr b w w := ⟨fun _ _ _ _ => rfl, Nat.le_refl _⟩
theorem MemFr.ext {b : Nat} {w w' : World} (h : Below w.heap.size w w') : MemFr b w w' := ⟨fun k hk _ _ => h.block k hk, h.size⟩

theorem made_bytes (i : TypeInfo) (hs : i.size = 1) (k : Nat) : madeCells (Value.int .u8 0).cells (k * i.size) = ((List.replicate k (0 : Int)).map (Value.int .u8)).toArray := by
  apply Array.ext'
  rw [hs]
  apply List.ext_getElem?
  intro j
  by_cases hj : j < k <;> simp [madeCells, Value.cells, hj, Nat.mod_one]

/-- What a copy wants of its two addresses. -/
def CopyPos (w : World) (dp sp : Option Addr) (g off : Nat) (cs : List Value) : Prop := 0 < cs.length → dp = some ⟨g, off, none⟩ ∧ ∃ ad, sp = some ad ∧ ∀ j v, cs[j]? = some v → w.cell? (ad.add j) = some v

/-- A copy into a row that is known whole: only that block turns. -/
theorem wpList_copy_keep {P : Program} {w : World} {ops : Array Oper} {rest : List Oper} {o : Oper} {a : Act} {Q : Exit → Act → World → Prop} (hgd : o.guard = none) (d s : Operand) (dT sT : TypeId)
    (ho : o.op = .call { callee := .builtin .copy, args := #[d, s], argTypes := #[dT, sT] }) (elem : TypeId) (hu : P.underlying dT = some (.slice elem)) (hsz : (P.info? elem).map (·.size) = some 1)
    (dp sp : Option Addr) (dLen dCap sLen sCap : Nat) (hd : a.eval d = .slice dp dLen dCap) (hs : a.eval s = .slice sp sLen sCap)
    (g off : Nat) (cur : List Value) (t : TypeId) (hg : w.heap[g]? = some (.cells cur.toArray t (0, 0))) (cs : List Value) (hn : cs.length = Nat.min sLen dLen)
    (hpos : CopyPos w dp sp g off cs)
    (hfit : off + cs.length ≤ cur.length) (h1 : ∀ v ∈ cs, v.oneCell' = true)
    (h : ∀ w', w'.heap[g]? = some (.cells (splice cur off cs).toArray t (0, 0)) → w'.os = w.os → w'.tape = w.tape → w'.output = w.output → w'.heap.size = w.heap.size → (∀ q, q ≠ g → w'.heap[q]? = w.heap[q]?) → wpList P ops Q rest (a.put o.dst (goInt cs.length)) w') :
    wpList P ops Q (o :: rest) a w := by
  by_cases h0 : cs.length = 0
  · obtain rfl : cs = [] := List.eq_nil_of_length_eq_zero h0
    refine wpList_copy_nothing hgd d s dT sT ho elem hu hsz dp sp dLen dCap sLen sCap hd hs (by simpa using hn.symm) ?_
    exact h w (by simpa [splice] using hg) rfl rfl rfl rfl (fun _ _ => rfl)
  · obtain ⟨rfl, ad, rfl, hsrc⟩ := hpos (by omega)
    refine wpList_copy_own hgd d s dT sT ho elem hu hsz g off dLen dCap ad sLen sCap hd hs cur.toArray t hg cs hn hsrc (by simpa using hfit) h1 ?_
    exact h _ (by simpa [splice] using setRow_heap w g _ _ t _ hg) rfl rfl rfl (by simp [World.setRow]) (fun q hq => setRow_other w g q _ hq)

set_option maxHeartbeats 400000 in
set_option maxRecDepth 100000 in
theorem mnew_any (n : Nat) (most : Int) (w : World) (base : Nat) (hbase : base ≤ w.heap.size) (hn : n ≤ 256) (h1 : (n : Int) ≤ most) (h2 : most ≤ 256) :
    Calls Try.prog 57 #[.int .i64 n, .int .i64 most] w fun e w' => (∃ b, e = .returned (.tuple #[.pointer (some ⟨b, 0, none⟩), .int .i64 0]) ∧ w.heap.size ≤ b ∧ MemR base w' b (List.replicate (n * 65536) 0) most) ∧ Below w.heap.size w w' := by
  obtain ⟨i, hi, hz0, hs, hby⟩ := info_parts infoB
  have hmk := run_make (P := Try.prog) w 84 5 i (.int .u8 0) Try.underlying84 hi hz0 .i64 .i64 ((n * 65536 : Nat) : Int) ((n * 65536 : Nat) : Int) (by omega) (by omega) (by rw [hby]; omega) (by omega)
  have hcast : (n : Int) * 65536 = ((n * 65536 : Nat) : Int) := by omega
  rw [Int.toNat_natCast, made_bytes i hs] at hmk
  have t0 : decide ((n : Int) < 0) = false := by simp
  have t1 : decide (most < n) = false := by simp; omega
  have t2 : decide (most > 256) = false := by simp; omega
  have hkn : n * 65536 ≤ 16777216 := by omega
  have hL : (List.replicate (n * 65536) (0 : Int)).length = n * 65536 := by simp
  generalize List.replicate (n * 65536) (0 : Int) = L at *
  generalize n * 65536 = k at *
  have HL := hid hL; clear hL
  go_enter Try.func57, Try.ntmps57
  go_wp2
  go_ret2
  obtain ⟨X, hX, hszX, hbX, d0, d1⟩ := allocs2 w (L.map (Value.int .u8)).toArray #[.slice (some ⟨w.heap.size, 0, none⟩) k k, .int .i64 most] 5 152
  rw [← hX]; clear hX
  refine ⟨⟨w.heap.size + 1, rfl, by omega, by omega, w.heap.size, k, ?_, ?_⟩, hbX⟩
  · rw [HL.out]; exact d1
  · rw [HL.out]
    exact ⟨by simp [HL.out], .inr ⟨_, _, _, rfl, hbase, d0, Nat.le_refl _, by unfold maxLen; omega, by simp [HL.out], by have := HL.out; subst this; simp [List.take_of_length_le]⟩⟩

set_option maxRecDepth 100000 in
theorem pages_any (base b : Nat) (L : List Int) (most : Int) (w : World) (hL : L.length ≤ 20000000) (h : MemR base w b L most) :
    Calls Try.prog 58 #[.pointer (some ⟨b, 0, none⟩)] w fun e w' => e = .returned (.int .i64 ((L.length / 65536 : Nat) : Int)) ∧ w = w' := by
  obtain ⟨g, cap, c0, c1, z0, z1, hb, hbb, hlc, hg, hbg, hgb, hblk, hown⟩ := h.open
  clear h hblk hown
  go_enter Try.func58, Try.ntmps58
  go_wp2
  go_ret
  exact ⟨by simp, rfl⟩

/-- Bytes laid over bytes. -/
def over (L : List Int) (at' : Nat) (M : List Int) : List Int := L.take at' ++ (M ++ L.drop (at' + M.length))
theorem over_length (L : List Int) (k : Nat) (M : List Int) (h : k + M.length ≤ L.length) : (over L k M).length = L.length := by simp [over]; omega

def fitsB (L : List Int) (k m : Nat) : Bool := decide (k ≤ L.length) && decide (m ≤ L.length - k)

set_option maxHeartbeats 400000 in
set_option maxRecDepth 100000 in
theorem mwrite_any (base b k : Nat) (L M : List Int) (most : Int) (a : Option Addr) (c : Nat) (w : World) (hL : L.length ≤ 20000000) (hk : k < 18446744073709551616) (hM : M.length ≤ 20000000) (hs : SrcV w a M.length (M.map (Value.int .u8))) (h : MemR base w b L most) :
    Calls Try.prog 77 #[.pointer (some ⟨b, 0, none⟩), .int .u64 k, .slice a M.length c] w fun e w' => e = .returned (.int .i64 (if fitsB L k M.length then 0 else 63)) ∧ MemR base w' b (if fitsB L k M.length then over L k M else L) most ∧ Below base w w' ∧ MemFr b w w' := by
  have H := hid h
  obtain ⟨g, cap, c0, c1, z0, z1, hb, hbb, hlc, hg, hbg, hgb, hblk, hown⟩ := h.open
  clear h
  have hlw : IntKind.u64.wrap (L.length : Int) = L.length := wrap_u64 (by omega) (by omega)
  have hmw : IntKind.u64.wrap (M.length : Int) = M.length := wrap_u64 (by omega) (by omega)
  cases hf : fitsB L k M.length with
  | false =>
    simp only [Bool.false_eq_true, if_false]
    clear hblk hown hs
    by_cases hkl : k ≤ L.length
    · have hml : ¬ M.length ≤ L.length - k := by simpa [fitsB, hkl] using hf
      have t0 : decide ((k : Int) > L.length) = false := by simp; omega
      have hsw : IntKind.u64.wrap ((L.length : Int) - k) = L.length - k := wrap_u64 (by omega) (by omega)
      have t1 : decide ((M.length : Int) > L.length - k) = true := by simp; omega
      clear hf hml
      go_enter Try.func77, Try.ntmps77
      go_wp2
      go_ret
      exact ⟨rfl, H.out, Below.refl _ _, MemFr.refl _ _⟩
    · have t0 : decide ((k : Int) > L.length) = true := by simp; omega
      clear hf
      go_enter Try.func77, Try.ntmps77
      go_wp2
      go_ret
      exact ⟨rfl, H.out, Below.refl _ _, MemFr.refl _ _⟩
  | true =>
    simp only [if_true]
    obtain ⟨hkl, hml⟩ : k ≤ L.length ∧ M.length ≤ L.length - k := by simpa [fitsB] using hf
    have t0 : decide ((k : Int) > L.length) = false := by simp; omega
    have hsw : IntKind.u64.wrap ((L.length : Int) - k) = L.length - k := wrap_u64 (by omega) (by omega)
    have t1 : decide ((M.length : Int) > L.length - k) = false := by simp; omega
    obtain ⟨cur, e1, e2, e3, e4, e5, e6⟩ := ownsRow_here hown
    have E1 := hid e1; have E3 := hid e3
    have Hs := hid hs
    have Hblk := hid hblk
    clear hf hown e1 e3 hs hblk
    have hsz1 : (Try.prog.info? 5).map (·.size) = some 1 := by
      obtain ⟨i, hi, _, hs1, _⟩ := info_parts infoB
      simp [hi, hs1]
    have hdone : ∀ w' : World, w'.heap[g]? = some (.cells (splice cur k (M.map (Value.int .u8))).toArray 5 (0, 0)) → w'.os = w.os → w'.tape = w.tape → w'.output = w.output → w'.heap.size = w.heap.size → (∀ q, q ≠ g → w'.heap[q]? = w.heap[q]?) → Hid (MemR base w' b (over L k M) most ∧ Below base w w' ∧ MemFr b w w') := by
      intro w' hw ho1 ho2 ho3 hz hq
      have hlen : (over L k M).length = L.length := over_length _ _ _ (by omega)
      refine ⟨⟨hbb, g, cap, ?_, ?_⟩, ⟨ho1, ho2, ho3, by omega, fun q hqb => hq q (by omega)⟩, ?_⟩
      · rw [hq b (fun e => hgb e.symm), hlen]; exact Hblk.out
      · rw [hlen]
        refine ⟨by simp [hlen], .inr ⟨g, cap, _, rfl, hbg, hw, hlc, e5, ?_, ?_⟩⟩
        · simp [splice]; omega
        · have h1 : cur = L.map (Value.int .u8) ++ cur.drop L.length := by rw [← E3.out, List.take_append_drop]
          have h2 : (splice cur k (M.map (Value.int .u8))) = (over L k M).map (Value.int .u8) ++ cur.drop L.length := by
            have z1 : k - L.length = 0 := by omega
            have z2 : k + M.length - L.length = 0 := by omega
            unfold splice over
            rw [h1]
            simp [List.take_append, List.drop_append, List.map_take, List.map_drop, z1, z2]
          simp [h2, hlen, List.take_append]
      · refine ⟨fun q hql hqb hqd => hq q (fun e => hqd ?_), by omega⟩
        unfold dataB
        rw [cell_of_row w b 0 _ _ _ Hblk.out, e]; rfl
    have Hd := hid hdone; clear hdone
    have hpos : ∀ dp : Option Addr, (¬ cap = k → dp = some ⟨g, k, none⟩) → CopyPos w dp a g k (M.map (Value.int .u8)) := by
      intro dp hdp h0
      simp at h0
      refine ⟨hdp (by omega), ?_⟩
      obtain ⟨b0, off, rfl, _, _⟩ := Hs.out.2 0 _ (List.getElem?_eq_getElem (by simpa using h0))
      refine ⟨_, rfl, fun j v hj => ?_⟩
      obtain ⟨b1, off1, he, hc, _⟩ := Hs.out.2 j v hj
      simp at he
      obtain ⟨rfl, rfl⟩ := he
      have e1 : (⟨b0, off, none⟩ : Addr).add j = ⟨b0, off + j, none⟩ := by unfold Addr.add; split <;> simp_all
      rw [e1]; exact hc
    have Hp := hid hpos; clear hpos
    by_cases hck : cap = k
    · have hk2 : k = L.length := by omega
      have hm0 : M.length = 0 := by omega
      have HP := hid (Hp.out (some ⟨g, 0, none⟩) (fun h => absurd hck h))
      have Hfit : Hid (k + (M.map (Value.int .u8)).length ≤ cur.length) := hid (by simp; omega)
      have Hn : Hid ((M.map (Value.int .u8)).length = Nat.min M.length 0) := hid (by rw [List.length_map, hm0]; rfl)
      clear hk2 hm0
      have Hck := hid hck
      subst hck
      go_enter Try.func77, Try.ntmps77
      go_wp2_with (refine wpList_copy_keep rfl (.tmp 34) (.tmp 35) 84 84 rfl 5 Try.underlying84 hsz1 _ _ _ _ _ _ rfl rfl g cap cur 5 E1.out (M.map (Value.int .u8)) Hn.out HP.out Hfit.out oneCell_ints ?_; intro w' h1 h2 h3 h4 h5 h6; have Hw := hid (Hd.out w' h1 h2 h3 h4 h5 h6); clear h1 h2 h3 h4 h5 h6)
      go_ret
      exact ⟨rfl, Hw.out⟩
    · have HP := hid (Hp.out (some ⟨g, k, none⟩) (fun h => rfl))
      have Hfit : Hid (k + (M.map (Value.int .u8)).length ≤ cur.length) := hid (by simp; omega)
      have Hn : Hid ((M.map (Value.int .u8)).length = Nat.min M.length (L.length - k)) := hid (by rw [List.length_map]; exact (Nat.min_eq_left (by omega)).symm)
      go_enter Try.func77, Try.ntmps77
      go_wp2_with (refine wpList_copy_keep rfl (.tmp 34) (.tmp 35) 84 84 rfl 5 Try.underlying84 hsz1 _ _ _ _ _ _ rfl rfl g k cur 5 E1.out (M.map (Value.int .u8)) Hn.out HP.out Hfit.out oneCell_ints ?_; intro w' h1 h2 h3 h4 h5 h6; have Hw := hid (Hd.out w' h1 h2 h3 h4 h5 h6); clear h1 h2 h3 h4 h5 h6)
      go_ret
      exact ⟨rfl, Hw.out⟩
end Go.Proofs.Ytmcmickgllffoaa
