/-
  What is proved here: noughts are appended to a row of the call's own (append of make).
-/
import Derived.Test.YtmcmickgllffoaaKit5p
import Derived.Lib.AppendZerosOnto
namespace Go.Proofs.Ytmcmickgllffoaa
open Go.RowKit
set_option linter.unusedVariables false
set_option linter.unusedSimpArgs false

theorem zeroCells_list {z : Value} (hz : z.cells = #[z]) (k : Nat) : (Builtin.zeroCells z.cells k).toList = List.replicate k z := by
  rw [hz]
  apply List.ext_getElem?
  intro j
  by_cases hj : j < k <;> simp [Builtin.zeroCells, hj, Nat.mod_one]

theorem zeroCells_arr {z : Value} (hz : z.cells = #[z]) (k : Nat) : Builtin.zeroCells z.cells k = (List.replicate k z).toArray := by
  rw [← zeroCells_list hz k]

theorem run_append_room_zeros {P : Program} (w : World) (t tn ty e : TypeId) (i : TypeInfo) (z : Value) (kn kq : IntKind) (ht : P.underlying t = some (.slice e)) (htn : P.underlying tn = some (.int kn)) (hi : P.info? e = some i) (hz : i.zero = some z) (hs : i.size = 1) (hzc : z.cells = #[z]) (h1 : z.oneCell' = true)
    (g sLen sCap k : Nat) (cur : Array Value) (hg : w.heap[g]? = some (.cells cur e (0, 0))) (hroom : sLen + k ≤ sCap) (hfit : sLen + k ≤ cur.size) (h63 : ((sLen + k : Nat) : Int) ≤ 9223372036854775807) (h48 : k * i.bytes ≤ 281474976710656) :
    ∃ w', (∀ ty, (Builtin.append_ #[t, tn] ty #[.slice (some ⟨g, 0, none⟩) sLen sCap, .int kq k]).run P w = .ok (.slice (some ⟨g, 0, none⟩) (sLen + k) sCap) w') ∧
      w'.heap[g]? = some (.cells (cur.toList.take sLen ++ List.replicate k z ++ cur.toList.drop (sLen + k)).toArray e (0, 0)) ∧ w'.os = w.os ∧ w'.tape = w.tape ∧ w'.output = w.output ∧ w'.heap.size = w.heap.size ∧ ∀ q, q ≠ g → w'.heap[q]? = w.heap[q]? := by
  have hw : IntKind.i64.wrap (k : Int) = k := by rw [IntKind.wrap_i64]; omega
  have h48i : ¬ (281474976710656 < (k : Int) * (i.bytes : Int)) := by
    rw [← Int.natCast_mul]
    omega
  have hneg : ¬ ((k : Int) < 0) := by omega
  by_cases hk : k = 0
  · subst hk
    have hw0 : IntKind.i64.wrap 0 = 0 := by decide
    have hst := run_storeCells_at P g (sLen * 1) e [] 0 cur w hg (by simp; omega) (by simp)
    simp at hst hroom
    refine ⟨w.setRow g cur, fun ty => ?_, by simpa using setRow_heap w g cur cur e _ hg, rfl, rfl, rfl, by simp [World.setRow], fun q hq => setRow_other w g q _ hq⟩
    simp [Builtin.append_, run_underlying ht, run_underlying htn, sizeOf, typeInfo, zeroValue, hi, hz, hs, asInt, asIntOf, hw0, hroom, Addr.add_lit, hst]
  · have hst := run_storeCells_at P g (sLen * 1) e (List.replicate k z) 0 cur w hg (by simp; omega) (by intro u hu; rw [List.eq_of_mem_replicate hu]; exact h1)
    simp only [Nat.add_zero, Nat.mul_one] at hst
    refine ⟨_, fun ty => ?_, setRow_heap w g cur _ e _ hg, rfl, rfl, rfl, by simp [World.setRow], fun q hq => setRow_other w g q _ hq⟩
    rw [List.length_replicate] at hst
    simp [Builtin.append_, run_underlying ht, run_underlying htn, sizeOf, typeInfo, zeroValue, hi, hz, hs, asInt, asIntOf, hw, hroom, hneg, hk, h48i, Addr.add_lit, zeroCells_arr hzc, hst]

theorem zeros_run {P : Program} {w : World} {t tn e bytes : Nat} {z : Value} {kn kq : IntKind} (ht : P.underlying t = some (.slice e)) (htn : P.underlying tn = some (.int kn)) (hinfo : (P.info? e).map (fun i => (i.zero, i.size, i.bytes)) = some (some z, 1, bytes)) (hzc : z.cells = #[z]) (h1 : z.oneCell' = true) (hb1 : 1 ≤ bytes)
    {base n k : Nat} {v : Value} {xs : List Value} (hown : w.ownsRow base e 1 v n xs) (hbytes : (n + k) * bytes ≤ 140737488355328) (hbase : base ≤ w.heap.size) :
    ∃ v' w', (∀ ty, (Builtin.append_ #[t, tn] ty #[v, .int kq k]).run P w = .ok v' w') ∧ w'.ownsRow base e 1 v' (n + k) (xs ++ List.replicate k z) ∧ Below base w w' ∧ w.heap.size ≤ w'.heap.size ∧ (∀ q, q < w.heap.size → v.ownBlock ≠ some q → w'.heap[q]? = w.heap[q]?) ∧ (∀ g, v'.ownBlock = some g → v.ownBlock = some g ∨ w.heap.size ≤ g) ∧ ((∃ g cap, v = .slice (some ⟨g, 0, none⟩) n cap) → ∃ g cap, v' = .slice (some ⟨g, 0, none⟩) (n + k) cap) := by
  obtain ⟨i, hi, hz0, hs, hby⟩ := info_parts hinfo
  have hle : n + k ≤ (n + k) * bytes := Nat.le_mul_of_pos_right _ hb1
  have hkb : k * bytes ≤ (n + k) * bytes := Nat.mul_le_mul_right _ (by omega)
  have hlen : (xs ++ List.replicate k z).length = (n + k) * 1 := by rw [List.length_append, hown.1]; simp
  have grown : ∀ (old : Nat), old < n + k →
      (w.drew.alloc (.cells (xs.toArray ++ Builtin.zeroCells z.cells k ++ Builtin.zeroCells z.cells (grownCap w (n + k) old e - (n + k))) e)).ownsRow base e 1
        (.slice (some ⟨w.heap.size, 0, none⟩) (n + k) (grownCap w (n + k) old e)) (n + k) (xs ++ List.replicate k z) := by
    intro old ho
    have hge := grownCap_ge w (n + k) old e
    have hcm : grownCap w (n + k) old e ≤ maxLen := grownCap_le_maxLen w (n + k) old e (by unfold maxLen; omega)
    refine ⟨hlen, .inr ⟨w.heap.size, _, _, rfl, hbase, heap_alloc_new w.drew _, hge, hcm, ?_, ?_⟩⟩
    · rw [zeroCells_arr hzc, zeroCells_arr hzc]
      simp [hown.1]; omega
    · rw [zeroCells_arr hzc, zeroCells_arr hzc]
      simp only [Array.toList_append, List.append_assoc]
      rw [← List.append_assoc, ← hlen]
      exact List.take_left
  have gkeep : ∀ (o : Obj) q, q < w.heap.size → (w.drew.alloc o).heap[q]? = w.heap[q]? := fun o q hq => heap_alloc_old w.drew o q hq
  have gbel : ∀ (o : Obj), Below base w (w.drew.alloc o) := fun o => (below_drewN (Below.refl _ _) 1).alloc (by exact hbase) o
  rcases hown.2 with ⟨rfl, rfl⟩ | ⟨g, cap, cur, rfl, hbg, hg, hnc, hcm, hcs, htake⟩
  · have hx : xs = [] := List.eq_nil_of_length_eq_zero (by simpa using hown.1)
    subst hx
    by_cases hk : k = 0
    · subst hk
      refine ⟨.slice none 0 0, w, fun ty => ?_, World.ownsRow_nil w base e 1, Below.refl _ _, Nat.le_refl _, fun _ _ _ => rfl, fun g hg => .inl hg, fun ⟨g, c, h⟩ => by cases h⟩
      have hw0 : IntKind.i64.wrap 0 = 0 := by decide
      simp [Builtin.append_, run_underlying ht, run_underlying htn, sizeOf, typeInfo, hi, asInt, asIntOf, hw0]
    · have hr := fun ty => Lib.run_append_nil_zeros (P := P) w t tn ty e i z kq kn ht htn hi hz0 k (by omega) (by omega) (by omega) (by rw [hby]; omega)
      have hgr := grown 0 (by omega)
      simp only [Nat.zero_add, List.nil_append, Array.empty_append] at hgr ⊢
      exact ⟨_, _, hr, hgr, gbel _, by simp, fun q hq _ => gkeep _ q hq, fun g hg => .inr (by simp [Value.ownBlock] at hg; omega), fun _ => ⟨_, _, rfl⟩⟩
  · by_cases hroom : n + k ≤ cap
    · obtain ⟨w', hr, h2, h3, h4, h5, h6, h7⟩ := run_append_room_zeros (P := P) w t tn 0 e i z kn kq ht htn hi hz0 hs hzc h1 g n cap k cur hg hroom (by omega) (by omega) (by rw [hby]; omega)
      refine ⟨_, w', hr, ⟨hlen, .inr ⟨g, cap, _, rfl, hbg, h2, hroom, hcm, ?_, ?_⟩⟩, ⟨h3, h4, h5, by omega, fun q hq => h7 q (by omega)⟩, by omega, fun q hq hne => h7 q (fun e => hne (by rw [e]; rfl)), fun g hg => .inl hg, fun _ => ⟨_, _, rfl⟩⟩
      · simp only [List.size_toArray, List.length_append, List.length_take, List.length_drop, Array.length_toList, List.length_replicate]
        omega
      · have hh : cur.toList.take n = xs := by simpa using htake
        rw [hh, ← hlen]
        exact List.take_left
    · have holds : ∀ j u, xs[j]? = some u → w.cell? ((⟨g, 0, none⟩ : Addr).add j) = some u := hown.cells (g := g) rfl
      have hld := run_firstCells_some (P := P) w.drew i.size n ⟨g, 0, none⟩ n cap xs (by rw [hs]; exact hown.1) (fun j u hj => by exact holds j u hj)
      have hr := fun ty => Lib.run_append_grow_zeros (P := P) w t tn ty e i z kq kn ht htn hi hz0 (some ⟨g, 0, none⟩) n cap xs hld k (by omega) (by omega) (by omega) (by omega) (by rw [hby]; omega) (by
        have := growslice_fits (by omega) hbytes (old := cap) (need := n + k)
        rw [hby]; exact this)
      exact ⟨_, _, hr, grown cap (by omega), gbel _, by simp, fun q hq _ => gkeep _ q hq, fun g hg => .inr (by simp [Value.ownBlock] at hg; omega), fun _ => ⟨_, _, rfl⟩⟩
end Go.Proofs.Ytmcmickgllffoaa
