/- What is proved here: modules as plain values, and how they are read. -/
import Derived.Test.YtahgkfekggkjnaaSxE
import Derived.Test.YtahgkfekggkjnaaKitW
namespace Go.Proofs.Ytahgkfekggkjnaa
open Go.RowKit
set_option linter.unusedVariables false
set_option linter.unusedSimpArgs false
set_option maxRecDepth 100000
instance {α : Type} [Inhabited α] : Inhabited (Sl α) := ⟨⟨none, 0, 0, fun _ => default⟩⟩
theorem fInt_u8 {w : World} {n : Int} (h : fInt .u8 w n) : 0 ≤ n ∧ n < 256 := by
  simp [fInt, Lit.wf, IntKind.min, IntKind.max, IntKind.signed, IntKind.bits] at h; omega
theorem fInt_u32 {w : World} {n : Int} (h : fInt .u32 w n) : 0 ≤ n ∧ n < 4294967296 := by
  simp [fInt, Lit.wf, IntKind.min, IntKind.max, IntKind.signed, IntKind.bits] at h; omega
theorem fInt_i64 {w : World} {n : Int} (h : fInt .i64 w n) : -9223372036854775808 ≤ n ∧ n < 9223372036854775808 := by
  simp [fInt, Lit.wf, IntKind.min, IntKind.max, IntKind.signed, IntKind.bits] at h; omega

abbrev MFt := (ByteArray × ByteArray × Unit)
def zMFt : MFt := ((⟨#[]⟩ : ByteArray), (⟨#[]⟩ : ByteArray), ())
def vMFt : MFt → List Value := (fun d => vStr d.1 ++ (fun d => vStr d.1 ++ (fun _ => []) d.2) d.2)
def fMFt : World → MFt → Prop := (fun w d => fStr w d.1 ∧ (fun w d => fStr w d.1 ∧ (fun _ _ => True) w d.2) w d.2)
theorem vMFt_len (x : MFt) : (vMFt x).length = 2 := rfl
theorem rdMFt : ReadsW Try.prog 78 vMFt fMFt := (readsW_struct Try.underlying78 (by kernel_rfl) (readsFsW_cons (o := 0) (c := 1) rfl (by kernel_rfl) (reads_string Try.underlying9).toW (readsFsW_cons (o := 1) (c := 1) rfl (by kernel_rfl) (reads_string Try.underlying9).toW (readsFsW_nil rfl))))
theorem oneMFt : ∀ x, ∀ u ∈ vMFt x, u.oneCell' = true := by
  intro x u hu
  have hu : u ∈ [(.string x.1), (.string x.2.1)] := hu
  simp only [List.mem_cons, List.not_mem_nil, or_false] at hu
  rcases hu with rfl | rfl <;> rfl

abbrev MLim := (Int × Int × Bool × Unit)
def zMLim : MLim := ((0 : Int), (0 : Int), false, ())
def vMLim : MLim → List Value := (fun d => (vInt .u32) d.1 ++ (fun d => (vInt .u32) d.1 ++ (fun d => vBool d.1 ++ (fun _ => []) d.2) d.2) d.2)
def fMLim : World → MLim → Prop := (fun w d => (fInt .u32) w d.1 ∧ (fun w d => (fInt .u32) w d.1 ∧ (fun w d => fAll w d.1 ∧ (fun _ _ => True) w d.2) w d.2) w d.2)
theorem vMLim_len (x : MLim) : (vMLim x).length = 3 := rfl
theorem rdMLim : ReadsW Try.prog 76 vMLim fMLim := (readsW_struct Try.underlying76 (by kernel_rfl) (readsFsW_cons (o := 0) (c := 1) rfl (by kernel_rfl) (reads_int Try.underlying44).toW (readsFsW_cons (o := 1) (c := 1) rfl (by kernel_rfl) (reads_int Try.underlying44).toW (readsFsW_cons (o := 2) (c := 1) rfl (by kernel_rfl) (reads_bool Try.underlying4).toW (readsFsW_nil rfl)))))
theorem oneMLim : ∀ x, ∀ u ∈ vMLim x, u.oneCell' = true := by
  intro x u hu
  have hu : u ∈ [(.int .u32 x.1), (.int .u32 x.2.1), (.bool x.2.2.1)] := hu
  simp only [List.mem_cons, List.not_mem_nil, or_false] at hu
  rcases hu with rfl | rfl | rfl <;> rfl

abbrev MGt := (Int × Bool × Unit)
def zMGt : MGt := ((0 : Int), false, ())
def vMGt : MGt → List Value := (fun d => (vInt .u8) d.1 ++ (fun d => vBool d.1 ++ (fun _ => []) d.2) d.2)
def fMGt : World → MGt → Prop := (fun w d => (fInt .u8) w d.1 ∧ (fun w d => fAll w d.1 ∧ (fun _ _ => True) w d.2) w d.2)
theorem vMGt_len (x : MGt) : (vMGt x).length = 2 := rfl
theorem rdMGt : ReadsW Try.prog 101 vMGt fMGt := (readsW_struct Try.underlying101 (by kernel_rfl) (readsFsW_cons (o := 0) (c := 1) rfl (by kernel_rfl) (reads_int Try.underlying5).toW (readsFsW_cons (o := 1) (c := 1) rfl (by kernel_rfl) (reads_bool Try.underlying4).toW (readsFsW_nil rfl))))
theorem oneMGt : ∀ x, ∀ u ∈ vMGt x, u.oneCell' = true := by
  intro x u hu
  have hu : u ∈ [(.int .u8 x.1), (.bool x.2.1)] := hu
  simp only [List.mem_cons, List.not_mem_nil, or_false] at hu
  rcases hu with rfl | rfl <;> rfl

abbrev MIn := (Int × Int × Int × (Sl Int) × Unit)
def zMIn : MIn := ((0 : Int), (0 : Int), (0 : Int), ⟨none, 0, 0, fun _ => default⟩, ())
def vMIn : MIn → List Value := (fun d => (vInt .u8) d.1 ++ (fun d => (vInt .u64) d.1 ++ (fun d => (vInt .u64) d.1 ++ (fun d => vSl d.1 ++ (fun _ => []) d.2) d.2) d.2) d.2)
def fMIn : World → MIn → Prop := (fun w d => (fInt .u8) w d.1 ∧ (fun w d => (fInt .u64) w d.1 ∧ (fun w d => (fInt .u64) w d.1 ∧ (fun w d => (fSlW 1 4 (vInt .u32) (fInt .u32)) w d.1 ∧ (fun _ _ => True) w d.2) w d.2) w d.2) w d.2)
theorem vMIn_len (x : MIn) : (vMIn x).length = 4 := rfl
theorem rdMIn : ReadsW Try.prog 39 vMIn fMIn := (readsW_struct Try.underlying39 (by kernel_rfl) (readsFsW_cons (o := 0) (c := 1) rfl (by kernel_rfl) (reads_int Try.underlying5).toW (readsFsW_cons (o := 1) (c := 1) rfl (by kernel_rfl) (reads_int Try.underlying36).toW (readsFsW_cons (o := 2) (c := 1) rfl (by kernel_rfl) (reads_int Try.underlying36).toW (readsFsW_cons (o := 3) (c := 1) rfl (by kernel_rfl) (readsW_slice Try.underlying37 (by kernel_rfl) (by kernel_rfl) (by decide) (reads_int Try.underlying44).toW) (readsFsW_nil rfl))))))
theorem oneMIn : ∀ x, ∀ u ∈ vMIn x, u.oneCell' = true := by
  intro x u hu
  have hu : u ∈ [(.int .u8 x.1), (.int .u64 x.2.1), (.int .u64 x.2.2.1), (.slice x.2.2.2.1.at' x.2.2.2.1.len x.2.2.2.1.cap)] := hu
  simp only [List.mem_cons, List.not_mem_nil, or_false] at hu
  rcases hu with rfl | rfl | rfl | rfl <;> rfl

abbrev MImp := (ByteArray × ByteArray × Int × Int × MLim × MGt × Unit)
def zMImp : MImp := ((⟨#[]⟩ : ByteArray), (⟨#[]⟩ : ByteArray), (0 : Int), (0 : Int), ((0 : Int), (0 : Int), false, ()), ((0 : Int), false, ()), ())
def vMImp : MImp → List Value := (fun d => vStr d.1 ++ (fun d => vStr d.1 ++ (fun d => (vInt .u8) d.1 ++ (fun d => (vInt .u32) d.1 ++ (fun d => vMLim d.1 ++ (fun d => vMGt d.1 ++ (fun _ => []) d.2) d.2) d.2) d.2) d.2) d.2)
def fMImp : World → MImp → Prop := (fun w d => fStr w d.1 ∧ (fun w d => fStr w d.1 ∧ (fun w d => (fInt .u8) w d.1 ∧ (fun w d => (fInt .u32) w d.1 ∧ (fun w d => fMLim w d.1 ∧ (fun w d => fMGt w d.1 ∧ (fun _ _ => True) w d.2) w d.2) w d.2) w d.2) w d.2) w d.2)
theorem vMImp_len (x : MImp) : (vMImp x).length = 9 := rfl
theorem rdMImp : ReadsW Try.prog 103 vMImp fMImp := (readsW_struct Try.underlying103 (by kernel_rfl) (readsFsW_cons (o := 0) (c := 1) rfl (by kernel_rfl) (reads_string Try.underlying9).toW (readsFsW_cons (o := 1) (c := 1) rfl (by kernel_rfl) (reads_string Try.underlying9).toW (readsFsW_cons (o := 2) (c := 1) rfl (by kernel_rfl) (reads_int Try.underlying5).toW (readsFsW_cons (o := 3) (c := 1) rfl (by kernel_rfl) (reads_int Try.underlying44).toW (readsFsW_cons (o := 4) (c := 3) rfl (by kernel_rfl) rdMLim (readsFsW_cons (o := 7) (c := 2) rfl (by kernel_rfl) rdMGt (readsFsW_nil rfl))))))))
theorem oneMImp : ∀ x, ∀ u ∈ vMImp x, u.oneCell' = true := by
  intro x u hu
  have hu : u ∈ [(.string x.1), (.string x.2.1), (.int .u8 x.2.2.1), (.int .u32 x.2.2.2.1), (.int .u32 x.2.2.2.2.1.1), (.int .u32 x.2.2.2.2.1.2.1), (.bool x.2.2.2.2.1.2.2.1), (.int .u8 x.2.2.2.2.2.1.1), (.bool x.2.2.2.2.2.1.2.1)] := hu
  simp only [List.mem_cons, List.not_mem_nil, or_false] at hu
  rcases hu with rfl | rfl | rfl | rfl | rfl | rfl | rfl | rfl | rfl <;> rfl

abbrev MExp := (ByteArray × Int × Int × Unit)
def zMExp : MExp := ((⟨#[]⟩ : ByteArray), (0 : Int), (0 : Int), ())
def vMExp : MExp → List Value := (fun d => vStr d.1 ++ (fun d => (vInt .u8) d.1 ++ (fun d => (vInt .u32) d.1 ++ (fun _ => []) d.2) d.2) d.2)
def fMExp : World → MExp → Prop := (fun w d => fStr w d.1 ∧ (fun w d => (fInt .u8) w d.1 ∧ (fun w d => (fInt .u32) w d.1 ∧ (fun _ _ => True) w d.2) w d.2) w d.2)
theorem vMExp_len (x : MExp) : (vMExp x).length = 3 := rfl
theorem rdMExp : ReadsW Try.prog 94 vMExp fMExp := (readsW_struct Try.underlying94 (by kernel_rfl) (readsFsW_cons (o := 0) (c := 1) rfl (by kernel_rfl) (reads_string Try.underlying9).toW (readsFsW_cons (o := 1) (c := 1) rfl (by kernel_rfl) (reads_int Try.underlying5).toW (readsFsW_cons (o := 2) (c := 1) rfl (by kernel_rfl) (reads_int Try.underlying44).toW (readsFsW_nil rfl)))))
theorem oneMExp : ∀ x, ∀ u ∈ vMExp x, u.oneCell' = true := by
  intro x u hu
  have hu : u ∈ [(.string x.1), (.int .u8 x.2.1), (.int .u32 x.2.2.1)] := hu
  simp only [List.mem_cons, List.not_mem_nil, or_false] at hu
  rcases hu with rfl | rfl | rfl <;> rfl

abbrev MGl := (MGt × MIn × Unit)
def zMGl : MGl := (((0 : Int), false, ()), ((0 : Int), (0 : Int), (0 : Int), ⟨none, 0, 0, fun _ => default⟩, ()), ())
def vMGl : MGl → List Value := (fun d => vMGt d.1 ++ (fun d => vMIn d.1 ++ (fun _ => []) d.2) d.2)
def fMGl : World → MGl → Prop := (fun w d => fMGt w d.1 ∧ (fun w d => fMIn w d.1 ∧ (fun _ _ => True) w d.2) w d.2)
theorem vMGl_len (x : MGl) : (vMGl x).length = 6 := rfl
theorem rdMGl : ReadsW Try.prog 142 vMGl fMGl := (readsW_struct Try.underlying142 (by kernel_rfl) (readsFsW_cons (o := 0) (c := 2) rfl (by kernel_rfl) rdMGt (readsFsW_cons (o := 2) (c := 4) rfl (by kernel_rfl) rdMIn (readsFsW_nil rfl))))
theorem oneMGl : ∀ x, ∀ u ∈ vMGl x, u.oneCell' = true := by
  intro x u hu
  have hu : u ∈ [(.int .u8 x.1.1), (.bool x.1.2.1), (.int .u8 x.2.1.1), (.int .u64 x.2.1.2.1), (.int .u64 x.2.1.2.2.1), (.slice x.2.1.2.2.2.1.at' x.2.1.2.2.2.1.len x.2.1.2.2.2.1.cap)] := hu
  simp only [List.mem_cons, List.not_mem_nil, or_false] at hu
  rcases hu with rfl | rfl | rfl | rfl | rfl | rfl <;> rfl

abbrev MEl := (MIn × (Sl Int) × Unit)
def zMEl : MEl := (((0 : Int), (0 : Int), (0 : Int), ⟨none, 0, 0, fun _ => default⟩, ()), ⟨none, 0, 0, fun _ => default⟩, ())
def vMEl : MEl → List Value := (fun d => vMIn d.1 ++ (fun d => vSl d.1 ++ (fun _ => []) d.2) d.2)
def fMEl : World → MEl → Prop := (fun w d => fMIn w d.1 ∧ (fun w d => (fSlW 1 4 (vInt .u32) (fInt .u32)) w d.1 ∧ (fun _ _ => True) w d.2) w d.2)
theorem vMEl_len (x : MEl) : (vMEl x).length = 5 := rfl
theorem rdMEl : ReadsW Try.prog 138 vMEl fMEl := (readsW_struct Try.underlying138 (by kernel_rfl) (readsFsW_cons (o := 0) (c := 4) rfl (by kernel_rfl) rdMIn (readsFsW_cons (o := 4) (c := 1) rfl (by kernel_rfl) (readsW_slice Try.underlying37 (by kernel_rfl) (by kernel_rfl) (by decide) (reads_int Try.underlying44).toW) (readsFsW_nil rfl))))
theorem oneMEl : ∀ x, ∀ u ∈ vMEl x, u.oneCell' = true := by
  intro x u hu
  have hu : u ∈ [(.int .u8 x.1.1), (.int .u64 x.1.2.1), (.int .u64 x.1.2.2.1), (.slice x.1.2.2.2.1.at' x.1.2.2.2.1.len x.1.2.2.2.1.cap), (.slice x.2.1.at' x.2.1.len x.2.1.cap)] := hu
  simp only [List.mem_cons, List.not_mem_nil, or_false] at hu
  rcases hu with rfl | rfl | rfl | rfl | rfl <;> rfl

abbrev MLoc := (Int × Int × Unit)
def zMLoc : MLoc := ((0 : Int), (0 : Int), ())
def vMLoc : MLoc → List Value := (fun d => (vInt .u32) d.1 ++ (fun d => (vInt .u8) d.1 ++ (fun _ => []) d.2) d.2)
def fMLoc : World → MLoc → Prop := (fun w d => (fInt .u32) w d.1 ∧ (fun w d => (fInt .u8) w d.1 ∧ (fun _ _ => True) w d.2) w d.2)
theorem vMLoc_len (x : MLoc) : (vMLoc x).length = 2 := rfl
theorem rdMLoc : ReadsW Try.prog 195 vMLoc fMLoc := (readsW_struct Try.underlying195 (by kernel_rfl) (readsFsW_cons (o := 0) (c := 1) rfl (by kernel_rfl) (reads_int Try.underlying44).toW (readsFsW_cons (o := 1) (c := 1) rfl (by kernel_rfl) (reads_int Try.underlying5).toW (readsFsW_nil rfl))))
theorem oneMLoc : ∀ x, ∀ u ∈ vMLoc x, u.oneCell' = true := by
  intro x u hu
  have hu : u ∈ [(.int .u32 x.1), (.int .u8 x.2.1)] := hu
  simp only [List.mem_cons, List.not_mem_nil, or_false] at hu
  rcases hu with rfl | rfl <;> rfl

abbrev MCo := ((Sl MLoc) × (Sl MIn) × Unit)
def zMCo : MCo := (⟨none, 0, 0, fun _ => default⟩, ⟨none, 0, 0, fun _ => default⟩, ())
def vMCo : MCo → List Value := (fun d => vSl d.1 ++ (fun d => vSl d.1 ++ (fun _ => []) d.2) d.2)
def fMCo : World → MCo → Prop := (fun w d => (fSlW 2 8 vMLoc fMLoc) w d.1 ∧ (fun w d => (fSlW 4 48 vMIn fMIn) w d.1 ∧ (fun _ _ => True) w d.2) w d.2)
theorem vMCo_len (x : MCo) : (vMCo x).length = 2 := rfl
theorem rdMCo : ReadsW Try.prog 135 vMCo fMCo := (readsW_struct Try.underlying135 (by kernel_rfl) (readsFsW_cons (o := 0) (c := 1) rfl (by kernel_rfl) (readsW_slice Try.underlying133 (by kernel_rfl) (by kernel_rfl) (by decide) rdMLoc) (readsFsW_cons (o := 1) (c := 1) rfl (by kernel_rfl) (readsW_slice Try.underlying27 (by kernel_rfl) (by kernel_rfl) (by decide) rdMIn) (readsFsW_nil rfl))))
theorem oneMCo : ∀ x, ∀ u ∈ vMCo x, u.oneCell' = true := by
  intro x u hu
  have hu : u ∈ [(.slice x.1.at' x.1.len x.1.cap), (.slice x.2.1.at' x.2.1.len x.2.1.cap)] := hu
  simp only [List.mem_cons, List.not_mem_nil, or_false] at hu
  rcases hu with rfl | rfl <;> rfl

abbrev MDa := (MIn × ByteArray × Unit)
def zMDa : MDa := (((0 : Int), (0 : Int), (0 : Int), ⟨none, 0, 0, fun _ => default⟩, ()), (⟨#[]⟩ : ByteArray), ())
def vMDa : MDa → List Value := (fun d => vMIn d.1 ++ (fun d => vStr d.1 ++ (fun _ => []) d.2) d.2)
def fMDa : World → MDa → Prop := (fun w d => fMIn w d.1 ∧ (fun w d => fStr w d.1 ∧ (fun _ _ => True) w d.2) w d.2)
theorem vMDa_len (x : MDa) : (vMDa x).length = 5 := rfl
theorem rdMDa : ReadsW Try.prog 140 vMDa fMDa := (readsW_struct Try.underlying140 (by kernel_rfl) (readsFsW_cons (o := 0) (c := 4) rfl (by kernel_rfl) rdMIn (readsFsW_cons (o := 4) (c := 1) rfl (by kernel_rfl) (reads_string Try.underlying9).toW (readsFsW_nil rfl))))
theorem oneMDa : ∀ x, ∀ u ∈ vMDa x, u.oneCell' = true := by
  intro x u hu
  have hu : u ∈ [(.int .u8 x.1.1), (.int .u64 x.1.2.1), (.int .u64 x.1.2.2.1), (.slice x.1.2.2.2.1.at' x.1.2.2.2.1.len x.1.2.2.2.1.cap), (.string x.2.1)] := hu
  simp only [List.mem_cons, List.not_mem_nil, or_false] at hu
  rcases hu with rfl | rfl | rfl | rfl | rfl <;> rfl

abbrev MDy := (Bool × Int × Int × Int × Int × (Sl ByteArray) × Unit)
def zMDy : MDy := (false, (0 : Int), (0 : Int), (0 : Int), (0 : Int), ⟨none, 0, 0, fun _ => default⟩, ())
def vMDy : MDy → List Value := (fun d => vBool d.1 ++ (fun d => (vInt .u32) d.1 ++ (fun d => (vInt .u32) d.1 ++ (fun d => (vInt .u32) d.1 ++ (fun d => (vInt .u32) d.1 ++ (fun d => vSl d.1 ++ (fun _ => []) d.2) d.2) d.2) d.2) d.2) d.2)
def fMDy : World → MDy → Prop := (fun w d => fAll w d.1 ∧ (fun w d => (fInt .u32) w d.1 ∧ (fun w d => (fInt .u32) w d.1 ∧ (fun w d => (fInt .u32) w d.1 ∧ (fun w d => (fInt .u32) w d.1 ∧ (fun w d => (fSlW 1 16 vStr fStr) w d.1 ∧ (fun _ _ => True) w d.2) w d.2) w d.2) w d.2) w d.2) w d.2)
theorem vMDy_len (x : MDy) : (vMDy x).length = 6 := rfl
theorem rdMDy : ReadsW Try.prog 65 vMDy fMDy := (readsW_struct Try.underlying65 (by kernel_rfl) (readsFsW_cons (o := 0) (c := 1) rfl (by kernel_rfl) (reads_bool Try.underlying4).toW (readsFsW_cons (o := 1) (c := 1) rfl (by kernel_rfl) (reads_int Try.underlying44).toW (readsFsW_cons (o := 2) (c := 1) rfl (by kernel_rfl) (reads_int Try.underlying44).toW (readsFsW_cons (o := 3) (c := 1) rfl (by kernel_rfl) (reads_int Try.underlying44).toW (readsFsW_cons (o := 4) (c := 1) rfl (by kernel_rfl) (reads_int Try.underlying44).toW (readsFsW_cons (o := 5) (c := 1) rfl (by kernel_rfl) (readsW_slice Try.underlying54 (by kernel_rfl) (by kernel_rfl) (by decide) (reads_string Try.underlying9).toW) (readsFsW_nil rfl))))))))
theorem oneMDy : ∀ x, ∀ u ∈ vMDy x, u.oneCell' = true := by
  intro x u hu
  have hu : u ∈ [(.bool x.1), (.int .u32 x.2.1), (.int .u32 x.2.2.1), (.int .u32 x.2.2.2.1), (.int .u32 x.2.2.2.2.1), (.slice x.2.2.2.2.2.1.at' x.2.2.2.2.2.1.len x.2.2.2.2.2.1.cap)] := hu
  simp only [List.mem_cons, List.not_mem_nil, or_false] at hu
  rcases hu with rfl | rfl | rfl | rfl | rfl | rfl <;> rfl

abbrev MMd := ((Sl MFt) × (Sl MImp) × (Sl Int) × (Sl MLim) × (Sl MLim) × (Sl MGl) × (Sl MExp) × Int × (Sl MEl) × (Sl MCo) × (Sl MDa) × MDy × Unit)
def zMMd : MMd := (⟨none, 0, 0, fun _ => default⟩, ⟨none, 0, 0, fun _ => default⟩, ⟨none, 0, 0, fun _ => default⟩, ⟨none, 0, 0, fun _ => default⟩, ⟨none, 0, 0, fun _ => default⟩, ⟨none, 0, 0, fun _ => default⟩, ⟨none, 0, 0, fun _ => default⟩, (0 : Int), ⟨none, 0, 0, fun _ => default⟩, ⟨none, 0, 0, fun _ => default⟩, ⟨none, 0, 0, fun _ => default⟩, (false, (0 : Int), (0 : Int), (0 : Int), (0 : Int), ⟨none, 0, 0, fun _ => default⟩, ()), ())
def vMMd : MMd → List Value := (fun d => vSl d.1 ++ (fun d => vSl d.1 ++ (fun d => vSl d.1 ++ (fun d => vSl d.1 ++ (fun d => vSl d.1 ++ (fun d => vSl d.1 ++ (fun d => vSl d.1 ++ (fun d => (vInt .i64) d.1 ++ (fun d => vSl d.1 ++ (fun d => vSl d.1 ++ (fun d => vSl d.1 ++ (fun d => vMDy d.1 ++ (fun _ => []) d.2) d.2) d.2) d.2) d.2) d.2) d.2) d.2) d.2) d.2) d.2) d.2)
def fMMd : World → MMd → Prop := (fun w d => (fSlW 2 32 vMFt fMFt) w d.1 ∧ (fun w d => (fSlW 9 56 vMImp fMImp) w d.1 ∧ (fun w d => (fSlW 1 4 (vInt .u32) (fInt .u32)) w d.1 ∧ (fun w d => (fSlW 3 12 vMLim fMLim) w d.1 ∧ (fun w d => (fSlW 3 12 vMLim fMLim) w d.1 ∧ (fun w d => (fSlW 6 56 vMGl fMGl) w d.1 ∧ (fun w d => (fSlW 3 24 vMExp fMExp) w d.1 ∧ (fun w d => (fInt .i64) w d.1 ∧ (fun w d => (fSlW 5 72 vMEl fMEl) w d.1 ∧ (fun w d => (fSlW 2 48 vMCo fMCo) w d.1 ∧ (fun w d => (fSlW 5 64 vMDa fMDa) w d.1 ∧ (fun w d => fMDy w d.1 ∧ (fun _ _ => True) w d.2) w d.2) w d.2) w d.2) w d.2) w d.2) w d.2) w d.2) w d.2) w d.2) w d.2) w d.2)
theorem vMMd_len (x : MMd) : (vMMd x).length = 17 := rfl
theorem rdMMd : ReadsW Try.prog 67 vMMd fMMd := (readsW_struct Try.underlying67 (by kernel_rfl) (readsFsW_cons (o := 0) (c := 1) rfl (by kernel_rfl) (readsW_slice Try.underlying56 (by kernel_rfl) (by kernel_rfl) (by decide) rdMFt) (readsFsW_cons (o := 1) (c := 1) rfl (by kernel_rfl) (readsW_slice Try.underlying57 (by kernel_rfl) (by kernel_rfl) (by decide) rdMImp) (readsFsW_cons (o := 2) (c := 1) rfl (by kernel_rfl) (readsW_slice Try.underlying37 (by kernel_rfl) (by kernel_rfl) (by decide) (reads_int Try.underlying44).toW) (readsFsW_cons (o := 3) (c := 1) rfl (by kernel_rfl) (readsW_slice Try.underlying58 (by kernel_rfl) (by kernel_rfl) (by decide) rdMLim) (readsFsW_cons (o := 4) (c := 1) rfl (by kernel_rfl) (readsW_slice Try.underlying58 (by kernel_rfl) (by kernel_rfl) (by decide) rdMLim) (readsFsW_cons (o := 5) (c := 1) rfl (by kernel_rfl) (readsW_slice Try.underlying59 (by kernel_rfl) (by kernel_rfl) (by decide) rdMGl) (readsFsW_cons (o := 6) (c := 1) rfl (by kernel_rfl) (readsW_slice Try.underlying60 (by kernel_rfl) (by kernel_rfl) (by decide) rdMExp) (readsFsW_cons (o := 7) (c := 1) rfl (by kernel_rfl) (reads_int Try.underlying3).toW (readsFsW_cons (o := 8) (c := 1) rfl (by kernel_rfl) (readsW_slice Try.underlying61 (by kernel_rfl) (by kernel_rfl) (by decide) rdMEl) (readsFsW_cons (o := 9) (c := 1) rfl (by kernel_rfl) (readsW_slice Try.underlying62 (by kernel_rfl) (by kernel_rfl) (by decide) rdMCo) (readsFsW_cons (o := 10) (c := 1) rfl (by kernel_rfl) (readsW_slice Try.underlying63 (by kernel_rfl) (by kernel_rfl) (by decide) rdMDa) (readsFsW_cons (o := 11) (c := 6) rfl (by kernel_rfl) rdMDy (readsFsW_nil rfl))))))))))))))
theorem oneMMd : ∀ x, ∀ u ∈ vMMd x, u.oneCell' = true := by
  intro x u hu
  have hu : u ∈ [(.slice x.1.at' x.1.len x.1.cap), (.slice x.2.1.at' x.2.1.len x.2.1.cap), (.slice x.2.2.1.at' x.2.2.1.len x.2.2.1.cap), (.slice x.2.2.2.1.at' x.2.2.2.1.len x.2.2.2.1.cap), (.slice x.2.2.2.2.1.at' x.2.2.2.2.1.len x.2.2.2.2.1.cap), (.slice x.2.2.2.2.2.1.at' x.2.2.2.2.2.1.len x.2.2.2.2.2.1.cap), (.slice x.2.2.2.2.2.2.1.at' x.2.2.2.2.2.2.1.len x.2.2.2.2.2.2.1.cap), (.int .i64 x.2.2.2.2.2.2.2.1), (.slice x.2.2.2.2.2.2.2.2.1.at' x.2.2.2.2.2.2.2.2.1.len x.2.2.2.2.2.2.2.2.1.cap), (.slice x.2.2.2.2.2.2.2.2.2.1.at' x.2.2.2.2.2.2.2.2.2.1.len x.2.2.2.2.2.2.2.2.2.1.cap), (.slice x.2.2.2.2.2.2.2.2.2.2.1.at' x.2.2.2.2.2.2.2.2.2.2.1.len x.2.2.2.2.2.2.2.2.2.2.1.cap), (.bool x.2.2.2.2.2.2.2.2.2.2.2.1.1), (.int .u32 x.2.2.2.2.2.2.2.2.2.2.2.1.2.1), (.int .u32 x.2.2.2.2.2.2.2.2.2.2.2.1.2.2.1), (.int .u32 x.2.2.2.2.2.2.2.2.2.2.2.1.2.2.2.1), (.int .u32 x.2.2.2.2.2.2.2.2.2.2.2.1.2.2.2.2.1), (.slice x.2.2.2.2.2.2.2.2.2.2.2.1.2.2.2.2.2.1.at' x.2.2.2.2.2.2.2.2.2.2.2.1.2.2.2.2.2.1.len x.2.2.2.2.2.2.2.2.2.2.2.1.2.2.2.2.2.1.cap)] := hu
  simp only [List.mem_cons, List.not_mem_nil, or_false] at hu
  rcases hu with rfl | rfl | rfl | rfl | rfl | rfl | rfl | rfl | rfl | rfl | rfl | rfl | rfl | rfl | rfl | rfl | rfl <;> rfl

abbrev MWt := (Int × Int × ByteArray × MFt × MLim × Unit)
def zMWt : MWt := ((0 : Int), (0 : Int), (⟨#[]⟩ : ByteArray), ((⟨#[]⟩ : ByteArray), (⟨#[]⟩ : ByteArray), ()), ((0 : Int), (0 : Int), false, ()), ())
def vMWt : MWt → List Value := (fun d => (vInt .i64) d.1 ++ (fun d => (vInt .i64) d.1 ++ (fun d => vStr d.1 ++ (fun d => vMFt d.1 ++ (fun d => vMLim d.1 ++ (fun _ => []) d.2) d.2) d.2) d.2) d.2)
def fMWt : World → MWt → Prop := (fun w d => (fInt .i64) w d.1 ∧ (fun w d => (fInt .i64) w d.1 ∧ (fun w d => fStr w d.1 ∧ (fun w d => fMFt w d.1 ∧ (fun w d => fMLim w d.1 ∧ (fun _ _ => True) w d.2) w d.2) w d.2) w d.2) w d.2)
theorem vMWt_len (x : MWt) : (vMWt x).length = 8 := rfl
theorem rdMWt : ReadsW Try.prog 80 vMWt fMWt := (readsW_struct Try.underlying80 (by kernel_rfl) (readsFsW_cons (o := 0) (c := 1) rfl (by kernel_rfl) (reads_int Try.underlying3).toW (readsFsW_cons (o := 1) (c := 1) rfl (by kernel_rfl) (reads_int Try.underlying3).toW (readsFsW_cons (o := 2) (c := 1) rfl (by kernel_rfl) (reads_string Try.underlying9).toW (readsFsW_cons (o := 3) (c := 2) rfl (by kernel_rfl) rdMFt (readsFsW_cons (o := 5) (c := 3) rfl (by kernel_rfl) rdMLim (readsFsW_nil rfl)))))))
theorem oneMWt : ∀ x, ∀ u ∈ vMWt x, u.oneCell' = true := by
  intro x u hu
  have hu : u ∈ [(.int .i64 x.1), (.int .i64 x.2.1), (.string x.2.2.1), (.string x.2.2.2.1.1), (.string x.2.2.2.1.2.1), (.int .u32 x.2.2.2.2.1.1), (.int .u32 x.2.2.2.2.1.2.1), (.bool x.2.2.2.2.1.2.2.1)] := hu
  simp only [List.mem_cons, List.not_mem_nil, or_false] at hu
  rcases hu with rfl | rfl | rfl | rfl | rfl | rfl | rfl | rfl <;> rfl

abbrev MUn := (ByteArray × MMd × Unit)
def zMUn : MUn := ((⟨#[]⟩ : ByteArray), (⟨none, 0, 0, fun _ => default⟩, ⟨none, 0, 0, fun _ => default⟩, ⟨none, 0, 0, fun _ => default⟩, ⟨none, 0, 0, fun _ => default⟩, ⟨none, 0, 0, fun _ => default⟩, ⟨none, 0, 0, fun _ => default⟩, ⟨none, 0, 0, fun _ => default⟩, (0 : Int), ⟨none, 0, 0, fun _ => default⟩, ⟨none, 0, 0, fun _ => default⟩, ⟨none, 0, 0, fun _ => default⟩, (false, (0 : Int), (0 : Int), (0 : Int), (0 : Int), ⟨none, 0, 0, fun _ => default⟩, ()), ()), ())
def vMUn : MUn → List Value := (fun d => vStr d.1 ++ (fun d => vMMd d.1 ++ (fun _ => []) d.2) d.2)
def fMUn : World → MUn → Prop := (fun w d => fStr w d.1 ∧ (fun w d => fMMd w d.1 ∧ (fun _ _ => True) w d.2) w d.2)
theorem vMUn_len (x : MUn) : (vMUn x).length = 18 := rfl
theorem rdMUn : ReadsW Try.prog 132 vMUn fMUn := (readsW_struct Try.underlying132 (by kernel_rfl) (readsFsW_cons (o := 0) (c := 1) rfl (by kernel_rfl) (reads_string Try.underlying9).toW (readsFsW_cons (o := 1) (c := 17) rfl (by kernel_rfl) rdMMd (readsFsW_nil rfl))))
theorem oneMUn : ∀ x, ∀ u ∈ vMUn x, u.oneCell' = true := by
  intro x u hu
  have hu : u ∈ [(.string x.1), (.slice x.2.1.1.at' x.2.1.1.len x.2.1.1.cap), (.slice x.2.1.2.1.at' x.2.1.2.1.len x.2.1.2.1.cap), (.slice x.2.1.2.2.1.at' x.2.1.2.2.1.len x.2.1.2.2.1.cap), (.slice x.2.1.2.2.2.1.at' x.2.1.2.2.2.1.len x.2.1.2.2.2.1.cap), (.slice x.2.1.2.2.2.2.1.at' x.2.1.2.2.2.2.1.len x.2.1.2.2.2.2.1.cap), (.slice x.2.1.2.2.2.2.2.1.at' x.2.1.2.2.2.2.2.1.len x.2.1.2.2.2.2.2.1.cap), (.slice x.2.1.2.2.2.2.2.2.1.at' x.2.1.2.2.2.2.2.2.1.len x.2.1.2.2.2.2.2.2.1.cap), (.int .i64 x.2.1.2.2.2.2.2.2.2.1), (.slice x.2.1.2.2.2.2.2.2.2.2.1.at' x.2.1.2.2.2.2.2.2.2.2.1.len x.2.1.2.2.2.2.2.2.2.2.1.cap), (.slice x.2.1.2.2.2.2.2.2.2.2.2.1.at' x.2.1.2.2.2.2.2.2.2.2.2.1.len x.2.1.2.2.2.2.2.2.2.2.2.1.cap), (.slice x.2.1.2.2.2.2.2.2.2.2.2.2.1.at' x.2.1.2.2.2.2.2.2.2.2.2.2.1.len x.2.1.2.2.2.2.2.2.2.2.2.2.1.cap), (.bool x.2.1.2.2.2.2.2.2.2.2.2.2.2.1.1), (.int .u32 x.2.1.2.2.2.2.2.2.2.2.2.2.2.1.2.1), (.int .u32 x.2.1.2.2.2.2.2.2.2.2.2.2.2.1.2.2.1), (.int .u32 x.2.1.2.2.2.2.2.2.2.2.2.2.2.1.2.2.2.1), (.int .u32 x.2.1.2.2.2.2.2.2.2.2.2.2.2.1.2.2.2.2.1), (.slice x.2.1.2.2.2.2.2.2.2.2.2.2.2.1.2.2.2.2.2.1.at' x.2.1.2.2.2.2.2.2.2.2.2.2.2.1.2.2.2.2.2.1.len x.2.1.2.2.2.2.2.2.2.2.2.2.2.1.2.2.2.2.2.1.cap)] := hu
  simp only [List.mem_cons, List.not_mem_nil, or_false] at hu
  rcases hu with rfl | rfl | rfl | rfl | rfl | rfl | rfl | rfl | rfl | rfl | rfl | rfl | rfl | rfl | rfl | rfl | rfl | rfl <;> rfl

abbrev MPc := (Int × Int × Unit)
def zMPc : MPc := ((0 : Int), (0 : Int), ())
def vMPc : MPc → List Value := (fun d => (vInt .i64) d.1 ++ (fun d => (vInt .u32) d.1 ++ (fun _ => []) d.2) d.2)
def fMPc : World → MPc → Prop := (fun w d => (fInt .i64) w d.1 ∧ (fun w d => (fInt .u32) w d.1 ∧ (fun _ _ => True) w d.2) w d.2)
theorem vMPc_len (x : MPc) : (vMPc x).length = 2 := rfl
theorem rdMPc : ReadsW Try.prog 49 vMPc fMPc := (readsW_struct Try.underlying49 (by kernel_rfl) (readsFsW_cons (o := 0) (c := 1) rfl (by kernel_rfl) (reads_int Try.underlying3).toW (readsFsW_cons (o := 1) (c := 1) rfl (by kernel_rfl) (reads_int Try.underlying44).toW (readsFsW_nil rfl))))
theorem oneMPc : ∀ x, ∀ u ∈ vMPc x, u.oneCell' = true := by
  intro x u hu
  have hu : u ∈ [(.int .i64 x.1), (.int .u32 x.2.1)] := hu
  simp only [List.mem_cons, List.not_mem_nil, or_false] at hu
  rcases hu with rfl | rfl <;> rfl
end Go.Proofs.Ytahgkfekggkjnaa
