/- What is proved here: a string appended to a row of bytes; bytes as numbers and back. -/
import Derived.Test.YtbllifhcfgjdlaaSxG
import Derived.Lib.AppendStr
import Derived.Test.YtbllifhcfgjdlaaKitO
namespace Go.Proofs.Ytbllifhcfgjdlaa
open Go.RowKit
set_option linter.unusedVariables false
set_option linter.unusedSimpArgs false

theorem fInt_u64 {w : World} {n : Int} (h : fInt .u64 w n) : 0 ≤ n ∧ n < 18446744073709551616 := by
  simp [fInt, Lit.wf, IntKind.min, IntKind.max, IntKind.signed, IntKind.bits] at h; omega
/-- The bytes of a string, as numbers. -/
def nums (s : ByteArray) : List Int := s.data.toList.map fun b => ((b.toNat : Nat) : Int)
theorem nums_len (s : ByteArray) : (nums s).length = s.size := by unfold nums; rw [List.length_map, Array.length_toList]; rfl
theorem strOfNums_nums (s : ByteArray) : strOfNums (nums s) = s := by
  unfold strOfNums nums
  rw [List.map_map]
  have h : s.data.toList.map ((fun n : Int => UInt8.ofNat n.toNat) ∘ fun b : UInt8 => ((b.toNat : Nat) : Int)) = s.data.toList := by
    conv => rhs; rw [← List.map_id s.data.toList]
    apply List.map_congr_left
    intro b _
    simp
  rw [h]
theorem strOfNums_app (a b : List Int) : strOfNums (a ++ b) = strOfNums a ++ strOfNums b := by
  apply ByteArray.ext
  unfold strOfNums
  rw [ByteArray.data_append]
  simp
theorem nums_app (a b : ByteArray) : nums (a ++ b) = nums a ++ nums b := by
  unfold nums
  rw [ByteArray.data_append]
  simp
theorem nums_str {l : List Int} (h : ∀ x ∈ l, 0 ≤ x ∧ x < 256) : nums (strOfNums l) = l := by
  unfold nums strOfNums
  rw [show (⟨(l.map fun n => UInt8.ofNat n.toNat).toArray⟩ : ByteArray).data.toList = l.map fun n => UInt8.ofNat n.toNat from by simp, List.map_map]
  conv => rhs; rw [← List.map_id l]
  apply List.map_congr_left
  intro x hx
  have := h x hx
  simp
  omega
theorem nums_rng (s : ByteArray) : ∀ x ∈ nums s, 0 ≤ x ∧ x < 256 := by
  intro x hx
  unfold nums at hx
  obtain ⟨b, _, rfl⟩ := List.mem_map.1 hx
  have := b.toNat_lt
  omega
theorem nums_get {s : ByteArray} {j : Nat} (h : j < s.size) : (nums s)[j]? = some ((sbt s j : Nat) : Int) := by
  have hl : j < s.data.toList.length := by rw [Array.length_toList]; exact h
  unfold nums sbt
  rw [List.getElem?_map, List.getElem?_eq_getElem hl, List.getD_eq_getElem?_getD, List.getElem?_eq_getElem hl]
  rfl
theorem strCells_nums (s : ByteArray) : Lib.strCells s = (nums s).flatMap (vInt .u8) := by
  rw [flatMap_vInt]
  unfold Lib.strCells nums
  rw [List.map_map]
  rfl
theorem str_ext {s t : ByteArray} (h : nums s = nums t) : s = t := by rw [← strOfNums_nums s, h, strOfNums_nums]

section
variable {P : Program} {L : List (Nat × Value)} {w : World} {d : Option Tmp} {ty : TypeId} {ps : String} {af : Array Edge} {g : Option (Nat × Bool)}
theorem retC {fn : Func} {R : Ending → World → Prop} {a : Act} {N : Nat} {p : Tmp} {T T2 : TypeId} {b : Nat} {cs : Array Value} {fr : Nat × Nat} {td : TypeDesc} (hf : Fr N a L) (hr : fn.results = #[.cell p T]) (hp : lk L p = some (.pointer (some ⟨b, 0, none⟩)))
    (hb : w.heap[b]? = some (.cells cs T2 fr)) (hu : P.underlying T = some td) (hd : plainT td = false) (hi : (P.info? T).map (·.size) = some cs.size) (hR : R (.returned (.agg cs)) w) : bodyPost P fn R .ret a w := by
  refine bodyPost_ret (v := .agg cs) ?_ hf.defers hR
  simp [results, hr, hf.has p _ hp, asAddr, load_cell hb hu hd hi]
/-- One string appended to a row of bytes. -/
theorem d_appendS {t u e base n c : Nat} {s x : Operand} {a : Option Addr} {l : List Int} {str : ByteArray} (hs : evO L s = some (.slice a n c)) (hx : evO L x = some (.string str)) (ht : P.underlying t = some (.slice e)) (hu : P.underlying u = some .string)
    (hi : (P.info? e).map (fun i => (i.zero, i.size, i.bytes)) = some (some (.int .u8 0), 1, 1))
    (hrow : Row 1 (vInt .u8) e base w (.slice a n c) l) (hbytes : l.length + str.size ≤ 140737488355328) (hbase : base ≤ w.heap.size) :
    Does P L ⟨d, .call { callee := .builtin .append, args := #[s, x], argTypes := #[t, u] }, ty, ps, af, g⟩ w (fun v' w' => Row 1 (vInt .u8) e base w' v' (l ++ nums str) ∧ w.grownBy w' (Value.slice a n c).ownBlock) := by
  obtain ⟨i, hii, hz0, hs0, hby⟩ := info_parts hi
  obtain ⟨v', w', hr, h2, h3, _⟩ := Lib.run_append_own_string (P := P) w base t u ty e i ht hu hii hz0 hs0 hby (.slice a n c) l.length (l.flatMap (vInt .u8)) hrow str (by unfold maxLen; omega) hbytes hbase
  refine Runs.does (v := v') (w' := w') (bi_run (f := Builtin.append_) (vs := [.slice a n c, .string str]) (fun _ _ _ _ => rfl) (by simp [hs, hx]) hr) ⟨?_, h3⟩
  unfold Row
  rw [List.flatMap_append, List.length_append, nums_len, ← strCells_nums]
  exact h2
end
end Go.Proofs.Ytbllifhcfgjdlaa
