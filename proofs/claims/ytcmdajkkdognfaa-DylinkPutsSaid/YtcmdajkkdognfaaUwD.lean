/- What is proved here: what the document's Bytes, First and Count come to. -/
import Derived.Test.YtcmdajkkdognfaaUwC
namespace Go.Proofs.Ytcmdajkkdognfaa.Ut
open Go.RowKit
set_option linter.unusedVariables false
set_option linter.unusedSimpArgs false

def strN (l : List Nat) : ByteArray := strOfNums (l.map fun (x : Nat) => (x : Int))
theorem bl_strN (l : List Nat) (h : ∀ x ∈ l, x < 256) : bl (strN l) = l := by
  unfold bl strN
  rw [strOfNums_data, List.map_map, List.map_map]
  conv => rhs; rw [← List.map_id l]
  apply List.map_congr_left
  intro x hx
  have := h x hx
  simp
  omega

theorem cell_one_row (w : World) (l : List Value) (e : TypeId) (i : Nat) : (w.alloc (.cells l.toArray e)).cell? ⟨w.heap.size, i, none⟩ = l[i]? := by
  have h : (w.alloc (.cells l.toArray e)).heap[w.heap.size]? = some (.cells l.toArray e (0, 0)) := by
    unfold World.alloc
    exact Array.getElem?_push_size
  rw [cell_of_row _ _ i _ _ _ h]
  simp

/-- A sign's bytes, as a string. -/
def encS (c : Int) : ByteArray := if c < 0 then ⟨#[]⟩ else strN (encB c.toNat)

set_option maxHeartbeats 1000000 in
set_option maxRecDepth 100000 in
theorem refBytes_any (c : Int) (w : World) (h1 : -9223372036854775808 ≤ c) (h2 : c ≤ 9223372036854775807) : Calls Try.prog 152 #[.int .i64 c] w fun e w' => e = .returned (.string (encS c)) ∧ Below w.heap.size w w' := by
  unfold encS
  by_cases h0 : c < 0
  · rw [if_pos h0]
    have t0 : decide (c < 0) = true := by simp [h0]
    go_enter Try.func152, Try.ntmps152
    go_wp2
    go_ret
    exact ⟨rfl, Below.refl _ _⟩
  · rw [if_neg h0]
    obtain ⟨n, rfl⟩ := Int.eq_ofNat_of_zero_le (show 0 ≤ c by omega)
    rw [Int.toNat_natCast]
    have t0 : decide ((n : Int) < 0) = false := by simp
    clear h0
    have hbel := fun k => (Below.refl w.heap.size w).alloc (Nat.le_refl _) (.cells k 5)
    have hcv : ∀ l : List Nat, (convert 47 9 (.slice (some ⟨w.heap.size, 0, none⟩) l.length l.length)).run Try.prog (w.alloc (.cells (l.map fun (x : Nat) => Value.int .u8 x).toArray 5)) = .ok (.string (strN l)) (w.alloc (.cells (l.map fun (x : Nat) => Value.int .u8 x).toArray 5)) := by
      intro l
      refine run_convert_bytes_arg _ 47 5 Try.underlying47 Try.underlying5 w.heap.size 0 l.length l.length (l.map fun (x : Nat) => (x : Int)) (by simp) (fun i hi => ?_) 9 Try.underlying9
      rw [Nat.zero_add, cell_one_row w _ 5 i]
      simp [hi]
    rcases encB_cases n with ⟨e, g⟩ | ⟨e, g⟩ | ⟨e, g⟩ | ⟨e, g⟩ | ⟨e, g⟩
    · rw [e]
      clear hcv
      by_cases q : 1114111 < n
      · have t1 : decide ((n : Int) > 1114111) = true := by simp; omega
        clear e g q
        go_enter Try.func152, Try.ntmps152
        go_wp2
        go_ret
        exact ⟨rfl, Below.refl _ _⟩
      · have t1 : decide ((n : Int) > 1114111) = false := by simp; omega
        have t2 : decide (55296 ≤ (n : Int)) = true := by simp; omega
        have t4 : decide ((n : Int) ≤ 57343) = true := by simp; omega
        clear e g q
        go_enter Try.func152, Try.ntmps152
        go_wp2
        go_ret
        exact ⟨rfl, Below.refl _ _⟩
    · rw [e]
      have t1 : decide ((n : Int) > 1114111) = false := by simp; omega
      have t2 : decide (55296 ≤ (n : Int)) = false := by simp; omega
      have t3 : decide ((n : Int) < 128) = true := by simp; omega
      have hc1 := hcv [n]
      simp only [List.map_cons, List.map_nil, List.length_cons, List.length_nil, Nat.zero_add, Nat.reduceAdd, Int.natCast_add, Int.natCast_ediv, Int.natCast_emod, Int.cast_ofNat_Int] at hc1
      clear hcv
      have Hb := hid hbel
      clear e hbel
      go_enter Try.func152, Try.ntmps152
      go_wp2
      go_ret
      exact ⟨rfl, Hb.out _⟩
    · rw [e]
      have t1 : decide ((n : Int) > 1114111) = false := by simp; omega
      have t2 : decide (55296 ≤ (n : Int)) = false := by simp; omega
      have t3 : decide ((n : Int) < 128) = false := by simp; omega
      have t5 : decide ((n : Int) < 2048) = true := by simp; omega
      have hc1 := hcv [192 + n / 64, 128 + n % 64]
      simp only [List.map_cons, List.map_nil, List.length_cons, List.length_nil, Nat.zero_add, Nat.reduceAdd, Int.natCast_add, Int.natCast_ediv, Int.natCast_emod, Int.cast_ofNat_Int] at hc1
      clear hcv
      have Hb := hid hbel
      clear e hbel
      go_enter Try.func152, Try.ntmps152
      go_wp2
      go_ret
      exact ⟨rfl, Hb.out _⟩
    · rw [e]
      by_cases q : 55296 ≤ n
      · have t1 : decide ((n : Int) > 1114111) = false := by simp; omega
        have t3 : decide ((n : Int) < 128) = false := by simp; omega
        have t5 : decide ((n : Int) < 2048) = false := by simp; omega
        have t6 : decide ((n : Int) < 65536) = true := by simp; omega
        have t2 : decide (55296 ≤ (n : Int)) = true := by simp; omega
        have t4 : decide ((n : Int) ≤ 57343) = false := by simp; omega
        have hc1 := hcv [224 + n / 4096, 128 + n / 64 % 64, 128 + n % 64]
        simp only [List.map_cons, List.map_nil, List.length_cons, List.length_nil, Nat.zero_add, Nat.reduceAdd, Int.natCast_add, Int.natCast_ediv, Int.natCast_emod, Int.cast_ofNat_Int] at hc1
        clear hcv
        have Hb := hid hbel
        clear e hbel
        go_enter Try.func152, Try.ntmps152
        go_wp2
        go_ret
        exact ⟨rfl, Hb.out _⟩
      · have t1 : decide ((n : Int) > 1114111) = false := by simp; omega
        have t3 : decide ((n : Int) < 128) = false := by simp; omega
        have t5 : decide ((n : Int) < 2048) = false := by simp; omega
        have t6 : decide ((n : Int) < 65536) = true := by simp; omega
        have t2 : decide (55296 ≤ (n : Int)) = false := by simp; omega
        have hc1 := hcv [224 + n / 4096, 128 + n / 64 % 64, 128 + n % 64]
        simp only [List.map_cons, List.map_nil, List.length_cons, List.length_nil, Nat.zero_add, Nat.reduceAdd, Int.natCast_add, Int.natCast_ediv, Int.natCast_emod, Int.cast_ofNat_Int] at hc1
        clear hcv
        have Hb := hid hbel
        clear e hbel
        go_enter Try.func152, Try.ntmps152
        go_wp2
        go_ret
        exact ⟨rfl, Hb.out _⟩
    · rw [e]
      have t1 : decide ((n : Int) > 1114111) = false := by simp; omega
      have t3 : decide ((n : Int) < 128) = false := by simp; omega
      have t5 : decide ((n : Int) < 2048) = false := by simp; omega
      have t6 : decide ((n : Int) < 65536) = false := by simp; omega
      have t2 : decide (55296 ≤ (n : Int)) = true := by simp; omega
      have t4 : decide ((n : Int) ≤ 57343) = false := by simp; omega
      have hc1 := hcv [240 + n / 262144, 128 + n / 4096 % 64, 128 + n / 64 % 64, 128 + n % 64]
      simp only [List.map_cons, List.map_nil, List.length_cons, List.length_nil, Nat.zero_add, Nat.reduceAdd, Int.natCast_add, Int.natCast_ediv, Int.natCast_emod, Int.cast_ofNat_Int] at hc1
      clear hcv
      have Hb := hid hbel
      clear e hbel
      go_enter Try.func152, Try.ntmps152
      go_wp2
      go_ret
      exact ⟨rfl, Hb.out _⟩
end Go.Proofs.Ytcmdajkkdognfaa.Ut
