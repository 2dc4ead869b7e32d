/- What is proved here: modules as plain values, and how they are read. -/
import Derived.Test.YtmcmickgllffoaaSxS
import Derived.Test.YtmcmickgllffoaaKitW
namespace Go.Proofs.Ytmcmickgllffoaa
open Go.RowKit
set_option linter.unusedVariables false
set_option linter.unusedSimpArgs false
set_option maxRecDepth 100000
instance {α : Type} [Inhabited α] : Inhabited (Sl α) := ⟨⟨none, 0, 0, fun _ => default⟩⟩
theorem fInt_u8 {w : World} {n : Int} (h : fInt .u8 w n) : 0 ≤ n ∧ n < 256 := by
  simp [fInt, Lit.wf, IntKind.min, IntKind.max, IntKind.signed, IntKind.bits] at h; omega
theorem fInt_u32 {w : World} {n : Int} (h : fInt .u32 w n) : 0 ≤ n ∧ n < 4294967296 := by
  simp [fInt, Lit.wf, IntKind.min, IntKind.max, IntKind.signed, IntKind.bits] at h; omega
theorem fInt_i64 {w : World} {n : Int} (h : fInt .i64 w n) : -9223372036854775808 ≤ n ∧ n < 9223372036854775808 := by
  simp [fInt, Lit.wf, IntKind.min, IntKind.max, IntKind.signed, IntKind.bits] at h; omega

abbrev MVal := (Int × Int × Unit)
def zMVal : MVal := ((0 : Int), (0 : Int), ())
def vMVal : MVal → List Value := (fun d => (vInt .u8) d.1 ++ (fun d => (vInt .u64) d.1 ++ (fun _ => []) d.2) d.2)
def fMVal : World → MVal → Prop := (fun w d => (fInt .u8) w d.1 ∧ (fun w d => (fInt .u64) w d.1 ∧ (fun _ _ => True) w d.2) w d.2)
theorem vMVal_len (x : MVal) : (vMVal x).length = 2 := rfl
theorem rdMVal : ReadsW Try.prog 86 vMVal fMVal := (readsW_struct Try.underlying86 (by kernel_rfl) (readsFsW_cons (o := 0) (c := 1) rfl (by kernel_rfl) (reads_int Try.underlying5).toW (readsFsW_cons (o := 1) (c := 1) rfl (by kernel_rfl) (reads_int Try.underlying26).toW (readsFsW_nil rfl))))
theorem oneMVal : ∀ x, ∀ u ∈ vMVal x, u.oneCell' = true := by
  intro x u hu
  have hu : u ∈ [(.int .u8 x.1), (.int .u64 x.2.1)] := hu
  simp only [List.mem_cons, List.not_mem_nil, or_false] at hu
  rcases hu with rfl | rfl <;> rfl

abbrev MFt := (ByteArray × ByteArray × Unit)
def zMFt : MFt := ((⟨#[]⟩ : ByteArray), (⟨#[]⟩ : ByteArray), ())
def vMFt : MFt → List Value := (fun d => vStr d.1 ++ (fun d => vStr d.1 ++ (fun _ => []) d.2) d.2)
def fMFt : World → MFt → Prop := (fun w d => fStr w d.1 ∧ (fun w d => fStr w d.1 ∧ (fun _ _ => True) w d.2) w d.2)
theorem vMFt_len (x : MFt) : (vMFt x).length = 2 := rfl
theorem rdMFt : ReadsW Try.prog 31 vMFt fMFt := (readsW_struct Try.underlying31 (by kernel_rfl) (readsFsW_cons (o := 0) (c := 1) rfl (by kernel_rfl) (reads_string Try.underlying9).toW (readsFsW_cons (o := 1) (c := 1) rfl (by kernel_rfl) (reads_string Try.underlying9).toW (readsFsW_nil rfl))))
theorem oneMFt : ∀ x, ∀ u ∈ vMFt x, u.oneCell' = true := by
  intro x u hu
  have hu : u ∈ [(.string x.1), (.string x.2.1)] := hu
  simp only [List.mem_cons, List.not_mem_nil, or_false] at hu
  rcases hu with rfl | rfl <;> rfl

abbrev MIn := (Int × Int × Int × (Sl Int) × Unit)
def zMIn : MIn := ((0 : Int), (0 : Int), (0 : Int), ⟨none, 0, 0, fun _ => default⟩, ())
def vMIn : MIn → List Value := (fun d => (vInt .u8) d.1 ++ (fun d => (vInt .u64) d.1 ++ (fun d => (vInt .u64) d.1 ++ (fun d => vSl d.1 ++ (fun _ => []) d.2) d.2) d.2) d.2)
def fMIn : World → MIn → Prop := (fun w d => (fInt .u8) w d.1 ∧ (fun w d => (fInt .u64) w d.1 ∧ (fun w d => (fInt .u64) w d.1 ∧ (fun w d => (fSlW 1 4 (vInt .u32) (fInt .u32)) w d.1 ∧ (fun _ _ => True) w d.2) w d.2) w d.2) w d.2)
theorem vMIn_len (x : MIn) : (vMIn x).length = 4 := rfl
theorem rdMIn : ReadsW Try.prog 127 vMIn fMIn := (readsW_struct Try.underlying127 (by kernel_rfl) (readsFsW_cons (o := 0) (c := 1) rfl (by kernel_rfl) (reads_int Try.underlying5).toW (readsFsW_cons (o := 1) (c := 1) rfl (by kernel_rfl) (reads_int Try.underlying26).toW (readsFsW_cons (o := 2) (c := 1) rfl (by kernel_rfl) (reads_int Try.underlying26).toW (readsFsW_cons (o := 3) (c := 1) rfl (by kernel_rfl) (readsW_slice Try.underlying125 (by kernel_rfl) (by kernel_rfl) (by decide) (reads_int Try.underlying144).toW) (readsFsW_nil rfl))))))
theorem oneMIn : ∀ x, ∀ u ∈ vMIn x, u.oneCell' = true := by
  intro x u hu
  have hu : u ∈ [(.int .u8 x.1), (.int .u64 x.2.1), (.int .u64 x.2.2.1), (.slice x.2.2.2.1.at' x.2.2.2.1.len x.2.2.2.1.cap)] := hu
  simp only [List.mem_cons, List.not_mem_nil, or_false] at hu
  rcases hu with rfl | rfl | rfl | rfl <;> rfl
end Go.Proofs.Ytmcmickgllffoaa
