/- What is proved here: modules as plain values, and how they are read. -/
import Derived.Test.YtcmdajkkdognfaaSxS
import Derived.Test.YtcmdajkkdognfaaKitW
namespace Go.Proofs.Ytcmdajkkdognfaa
open Go.RowKit
set_option linter.unusedVariables false
set_option linter.unusedSimpArgs false
set_option maxRecDepth 100000
instance {α : Type} [Inhabited α] : Inhabited (Sl α) := ⟨⟨none, 0, 0, fun _ => default⟩⟩
theorem fInt_u8 {w : World} {n : Int} (h : fInt .u8 w n) : 0 ≤ n ∧ n < 256 := by
  simp [fInt, Lit.wf, IntKind.min, IntKind.max, IntKind.signed, IntKind.bits] at h; omega
theorem fInt_u32 {w : World} {n : Int} (h : fInt .u32 w n) : 0 ≤ n ∧ n < 4294967296 := by
  simp [fInt, Lit.wf, IntKind.min, IntKind.max, IntKind.signed, IntKind.bits] at h; omega
theorem fInt_i64 {w : World} {n : Int} (h : fInt .i64 w n) : -9223372036854775808 ≤ n ∧ n < 9223372036854775808 := by
  simp [fInt, Lit.wf, IntKind.min, IntKind.max, IntKind.signed, IntKind.bits] at h; omega

abbrev MVal := (Int × Int × Unit)
def zMVal : MVal := ((0 : Int), (0 : Int), ())
def vMVal : MVal → List Value := (fun d => (vInt .u8) d.1 ++ (fun d => (vInt .u64) d.1 ++ (fun _ => []) d.2) d.2)
def fMVal : World → MVal → Prop := (fun w d => (fInt .u8) w d.1 ∧ (fun w d => (fInt .u64) w d.1 ∧ (fun _ _ => True) w d.2) w d.2)
theorem vMVal_len (x : MVal) : (vMVal x).length = 2 := rfl
theorem rdMVal : ReadsW Try.prog 57 vMVal fMVal := (readsW_struct Try.underlying57 (by kernel_rfl) (readsFsW_cons (o := 0) (c := 1) rfl (by kernel_rfl) (reads_int Try.underlying5).toW (readsFsW_cons (o := 1) (c := 1) rfl (by kernel_rfl) (reads_int Try.underlying55).toW (readsFsW_nil rfl))))
theorem oneMVal : ∀ x, ∀ u ∈ vMVal x, u.oneCell' = true := by
  intro x u hu
  have hu : u ∈ [(.int .u8 x.1), (.int .u64 x.2.1)] := hu
  simp only [List.mem_cons, List.not_mem_nil, or_false] at hu
  rcases hu with rfl | rfl <;> rfl

abbrev MSec := (Int × ByteArray × (Sl Int) × Int × Unit)
def zMSec : MSec := ((0 : Int), (⟨#[]⟩ : ByteArray), ⟨none, 0, 0, fun _ => default⟩, (0 : Int), ())
def vMSec : MSec → List Value := (fun d => (vInt .u8) d.1 ++ (fun d => vStr d.1 ++ (fun d => vSl d.1 ++ (fun d => (vInt .i64) d.1 ++ (fun _ => []) d.2) d.2) d.2) d.2)
def fMSec : World → MSec → Prop := (fun w d => (fInt .u8) w d.1 ∧ (fun w d => fStr w d.1 ∧ (fun w d => (fSlW 1 1 (vInt .u8) (fInt .u8)) w d.1 ∧ (fun w d => (fInt .i64) w d.1 ∧ (fun _ _ => True) w d.2) w d.2) w d.2) w d.2)
theorem vMSec_len (x : MSec) : (vMSec x).length = 4 := rfl
theorem rdMSec : ReadsW Try.prog 119 vMSec fMSec := (readsW_struct Try.underlying119 (by kernel_rfl) (readsFsW_cons (o := 0) (c := 1) rfl (by kernel_rfl) (reads_int Try.underlying5).toW (readsFsW_cons (o := 1) (c := 1) rfl (by kernel_rfl) (reads_string Try.underlying9).toW (readsFsW_cons (o := 2) (c := 1) rfl (by kernel_rfl) (readsW_slice Try.underlying47 (by kernel_rfl) (by kernel_rfl) (by decide) (reads_int Try.underlying5).toW) (readsFsW_cons (o := 3) (c := 1) rfl (by kernel_rfl) (reads_int Try.underlying3).toW (readsFsW_nil rfl))))))
theorem oneMSec : ∀ x, ∀ u ∈ vMSec x, u.oneCell' = true := by
  intro x u hu
  have hu : u ∈ [(.int .u8 x.1), (.string x.2.1), (.slice x.2.2.1.at' x.2.2.1.len x.2.2.1.cap), (.int .i64 x.2.2.2.1)] := hu
  simp only [List.mem_cons, List.not_mem_nil, or_false] at hu
  rcases hu with rfl | rfl | rfl | rfl <;> rfl

abbrev MFt := (ByteArray × ByteArray × Unit)
def zMFt : MFt := ((⟨#[]⟩ : ByteArray), (⟨#[]⟩ : ByteArray), ())
def vMFt : MFt → List Value := (fun d => vStr d.1 ++ (fun d => vStr d.1 ++ (fun _ => []) d.2) d.2)
def fMFt : World → MFt → Prop := (fun w d => fStr w d.1 ∧ (fun w d => fStr w d.1 ∧ (fun _ _ => True) w d.2) w d.2)
theorem vMFt_len (x : MFt) : (vMFt x).length = 2 := rfl
theorem rdMFt : ReadsW Try.prog 67 vMFt fMFt := (readsW_struct Try.underlying67 (by kernel_rfl) (readsFsW_cons (o := 0) (c := 1) rfl (by kernel_rfl) (reads_string Try.underlying9).toW (readsFsW_cons (o := 1) (c := 1) rfl (by kernel_rfl) (reads_string Try.underlying9).toW (readsFsW_nil rfl))))
theorem oneMFt : ∀ x, ∀ u ∈ vMFt x, u.oneCell' = true := by
  intro x u hu
  have hu : u ∈ [(.string x.1), (.string x.2.1)] := hu
  simp only [List.mem_cons, List.not_mem_nil, or_false] at hu
  rcases hu with rfl | rfl <;> rfl

abbrev MLim := (Int × Int × Bool × Unit)
def zMLim : MLim := ((0 : Int), (0 : Int), false, ())
def vMLim : MLim → List Value := (fun d => (vInt .u32) d.1 ++ (fun d => (vInt .u32) d.1 ++ (fun d => vBool d.1 ++ (fun _ => []) d.2) d.2) d.2)
def fMLim : World → MLim → Prop := (fun w d => (fInt .u32) w d.1 ∧ (fun w d => (fInt .u32) w d.1 ∧ (fun w d => fAll w d.1 ∧ (fun _ _ => True) w d.2) w d.2) w d.2)
theorem vMLim_len (x : MLim) : (vMLim x).length = 3 := rfl
theorem rdMLim : ReadsW Try.prog 43 vMLim fMLim := (readsW_struct Try.underlying43 (by kernel_rfl) (readsFsW_cons (o := 0) (c := 1) rfl (by kernel_rfl) (reads_int Try.underlying24).toW (readsFsW_cons (o := 1) (c := 1) rfl (by kernel_rfl) (reads_int Try.underlying24).toW (readsFsW_cons (o := 2) (c := 1) rfl (by kernel_rfl) (reads_bool Try.underlying4).toW (readsFsW_nil rfl)))))
theorem oneMLim : ∀ x, ∀ u ∈ vMLim x, u.oneCell' = true := by
  intro x u hu
  have hu : u ∈ [(.int .u32 x.1), (.int .u32 x.2.1), (.bool x.2.2.1)] := hu
  simp only [List.mem_cons, List.not_mem_nil, or_false] at hu
  rcases hu with rfl | rfl | rfl <;> rfl

abbrev MGt := (Int × Bool × Unit)
def zMGt : MGt := ((0 : Int), false, ())
def vMGt : MGt → List Value := (fun d => (vInt .u8) d.1 ++ (fun d => vBool d.1 ++ (fun _ => []) d.2) d.2)
def fMGt : World → MGt → Prop := (fun w d => (fInt .u8) w d.1 ∧ (fun w d => fAll w d.1 ∧ (fun _ _ => True) w d.2) w d.2)
theorem vMGt_len (x : MGt) : (vMGt x).length = 2 := rfl
theorem rdMGt : ReadsW Try.prog 54 vMGt fMGt := (readsW_struct Try.underlying54 (by kernel_rfl) (readsFsW_cons (o := 0) (c := 1) rfl (by kernel_rfl) (reads_int Try.underlying5).toW (readsFsW_cons (o := 1) (c := 1) rfl (by kernel_rfl) (reads_bool Try.underlying4).toW (readsFsW_nil rfl))))
theorem oneMGt : ∀ x, ∀ u ∈ vMGt x, u.oneCell' = true := by
  intro x u hu
  have hu : u ∈ [(.int .u8 x.1), (.bool x.2.1)] := hu
  simp only [List.mem_cons, List.not_mem_nil, or_false] at hu
  rcases hu with rfl | rfl <;> rfl

abbrev MImp := (ByteArray × ByteArray × Int × Int × MLim × MGt × Unit)
def zMImp : MImp := ((⟨#[]⟩ : ByteArray), (⟨#[]⟩ : ByteArray), (0 : Int), (0 : Int), ((0 : Int), (0 : Int), false, ()), ((0 : Int), false, ()), ())
def vMImp : MImp → List Value := (fun d => vStr d.1 ++ (fun d => vStr d.1 ++ (fun d => (vInt .u8) d.1 ++ (fun d => (vInt .u32) d.1 ++ (fun d => vMLim d.1 ++ (fun d => vMGt d.1 ++ (fun _ => []) d.2) d.2) d.2) d.2) d.2) d.2)
def fMImp : World → MImp → Prop := (fun w d => fStr w d.1 ∧ (fun w d => fStr w d.1 ∧ (fun w d => (fInt .u8) w d.1 ∧ (fun w d => (fInt .u32) w d.1 ∧ (fun w d => fMLim w d.1 ∧ (fun w d => fMGt w d.1 ∧ (fun _ _ => True) w d.2) w d.2) w d.2) w d.2) w d.2) w d.2)
theorem vMImp_len (x : MImp) : (vMImp x).length = 9 := rfl
theorem rdMImp : ReadsW Try.prog 81 vMImp fMImp := (readsW_struct Try.underlying81 (by kernel_rfl) (readsFsW_cons (o := 0) (c := 1) rfl (by kernel_rfl) (reads_string Try.underlying9).toW (readsFsW_cons (o := 1) (c := 1) rfl (by kernel_rfl) (reads_string Try.underlying9).toW (readsFsW_cons (o := 2) (c := 1) rfl (by kernel_rfl) (reads_int Try.underlying5).toW (readsFsW_cons (o := 3) (c := 1) rfl (by kernel_rfl) (reads_int Try.underlying24).toW (readsFsW_cons (o := 4) (c := 3) rfl (by kernel_rfl) rdMLim (readsFsW_cons (o := 7) (c := 2) rfl (by kernel_rfl) rdMGt (readsFsW_nil rfl))))))))
theorem oneMImp : ∀ x, ∀ u ∈ vMImp x, u.oneCell' = true := by
  intro x u hu
  have hu : u ∈ [(.string x.1), (.string x.2.1), (.int .u8 x.2.2.1), (.int .u32 x.2.2.2.1), (.int .u32 x.2.2.2.2.1.1), (.int .u32 x.2.2.2.2.1.2.1), (.bool x.2.2.2.2.1.2.2.1), (.int .u8 x.2.2.2.2.2.1.1), (.bool x.2.2.2.2.2.1.2.1)] := hu
  simp only [List.mem_cons, List.not_mem_nil, or_false] at hu
  rcases hu with rfl | rfl | rfl | rfl | rfl | rfl | rfl | rfl | rfl <;> rfl

abbrev MExp := (ByteArray × Int × Int × Unit)
def zMExp : MExp := ((⟨#[]⟩ : ByteArray), (0 : Int), (0 : Int), ())
def vMExp : MExp → List Value := (fun d => vStr d.1 ++ (fun d => (vInt .u8) d.1 ++ (fun d => (vInt .u32) d.1 ++ (fun _ => []) d.2) d.2) d.2)
def fMExp : World → MExp → Prop := (fun w d => fStr w d.1 ∧ (fun w d => (fInt .u8) w d.1 ∧ (fun w d => (fInt .u32) w d.1 ∧ (fun _ _ => True) w d.2) w d.2) w d.2)
theorem vMExp_len (x : MExp) : (vMExp x).length = 3 := rfl
theorem rdMExp : ReadsW Try.prog 26 vMExp fMExp := (readsW_struct Try.underlying26 (by kernel_rfl) (readsFsW_cons (o := 0) (c := 1) rfl (by kernel_rfl) (reads_string Try.underlying9).toW (readsFsW_cons (o := 1) (c := 1) rfl (by kernel_rfl) (reads_int Try.underlying5).toW (readsFsW_cons (o := 2) (c := 1) rfl (by kernel_rfl) (reads_int Try.underlying24).toW (readsFsW_nil rfl)))))
theorem oneMExp : ∀ x, ∀ u ∈ vMExp x, u.oneCell' = true := by
  intro x u hu
  have hu : u ∈ [(.string x.1), (.int .u8 x.2.1), (.int .u32 x.2.2.1)] := hu
  simp only [List.mem_cons, List.not_mem_nil, or_false] at hu
  rcases hu with rfl | rfl | rfl <;> rfl

abbrev MDy := (Bool × Int × Int × Int × Int × (Sl ByteArray) × Unit)
def zMDy : MDy := (false, (0 : Int), (0 : Int), (0 : Int), (0 : Int), ⟨none, 0, 0, fun _ => default⟩, ())
def vMDy : MDy → List Value := (fun d => vBool d.1 ++ (fun d => (vInt .u32) d.1 ++ (fun d => (vInt .u32) d.1 ++ (fun d => (vInt .u32) d.1 ++ (fun d => (vInt .u32) d.1 ++ (fun d => vSl d.1 ++ (fun _ => []) d.2) d.2) d.2) d.2) d.2) d.2)
def fMDy : World → MDy → Prop := (fun w d => fAll w d.1 ∧ (fun w d => (fInt .u32) w d.1 ∧ (fun w d => (fInt .u32) w d.1 ∧ (fun w d => (fInt .u32) w d.1 ∧ (fun w d => (fInt .u32) w d.1 ∧ (fun w d => (fSlW 1 16 vStr fStr) w d.1 ∧ (fun _ _ => True) w d.2) w d.2) w d.2) w d.2) w d.2) w d.2)
theorem vMDy_len (x : MDy) : (vMDy x).length = 6 := rfl
theorem rdMDy : ReadsW Try.prog 37 vMDy fMDy := (readsW_struct Try.underlying37 (by kernel_rfl) (readsFsW_cons (o := 0) (c := 1) rfl (by kernel_rfl) (reads_bool Try.underlying4).toW (readsFsW_cons (o := 1) (c := 1) rfl (by kernel_rfl) (reads_int Try.underlying24).toW (readsFsW_cons (o := 2) (c := 1) rfl (by kernel_rfl) (reads_int Try.underlying24).toW (readsFsW_cons (o := 3) (c := 1) rfl (by kernel_rfl) (reads_int Try.underlying24).toW (readsFsW_cons (o := 4) (c := 1) rfl (by kernel_rfl) (reads_int Try.underlying24).toW (readsFsW_cons (o := 5) (c := 1) rfl (by kernel_rfl) (readsW_slice Try.underlying33 (by kernel_rfl) (by kernel_rfl) (by decide) (reads_string Try.underlying9).toW) (readsFsW_nil rfl))))))))
theorem oneMDy : ∀ x, ∀ u ∈ vMDy x, u.oneCell' = true := by
  intro x u hu
  have hu : u ∈ [(.bool x.1), (.int .u32 x.2.1), (.int .u32 x.2.2.1), (.int .u32 x.2.2.2.1), (.int .u32 x.2.2.2.2.1), (.slice x.2.2.2.2.2.1.at' x.2.2.2.2.2.1.len x.2.2.2.2.2.1.cap)] := hu
  simp only [List.mem_cons, List.not_mem_nil, or_false] at hu
  rcases hu with rfl | rfl | rfl | rfl | rfl | rfl <;> rfl
end Go.Proofs.Ytcmdajkkdognfaa
