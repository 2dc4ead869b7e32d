/- What is proved here: an array of four small numbers is like itself. -/
import Derived.Test.YtpdmkignihhobaaJnC
namespace Go.Proofs.Ytpdmkignihhobaa
open Go.RowKit
set_option linter.unusedVariables false
set_option linter.unusedSimpArgs false

set_option maxRecDepth 100000 in
theorem arr_eql' (d : Nat) (v0 v1 v2 v3 : Int) (w : World) : (Op.equalIn (d + 2) 22 (.agg #[.int .u8 v0, .int .u8 v1, .int .u8 v2, .int .u8 v3]) (.agg #[.int .u8 v0, .int .u8 v1, .int .u8 v2, .int .u8 v3])).run Try.prog w = .ok true w := by
  have hsz : ∀ w, (sizeOf 5).run Try.prog w = .ok 1 w := fun w => by kernel_rfl
  have hp : ∀ (k : Nat) (u : Value) (xs : Array Value) (w : World), xs[k]? = some u → u.oneCell' = true → (part 5 xs k).run Try.prog w = .ok u w := by
    intro k u xs w hk hu
    simp [part, go_sem, hsz, hk]
  have he : ∀ (a : Int) (w : World), (Op.equalIn (d + 1) 5 (.int .u8 a) (.int .u8 a)).run Try.prog w = .ok true w := by
    intro a w
    rw [run_equalIn_int w d 5 .u8 .u8 a a Try.underlying5]
    simp
  have p0 := fun w => hp 0 (.int .u8 v0) #[.int .u8 v0, .int .u8 v1, .int .u8 v2, .int .u8 v3] w rfl rfl
  have p1 := fun w => hp 1 (.int .u8 v1) #[.int .u8 v0, .int .u8 v1, .int .u8 v2, .int .u8 v3] w rfl rfl
  have p2 := fun w => hp 2 (.int .u8 v2) #[.int .u8 v0, .int .u8 v1, .int .u8 v2, .int .u8 v3] w rfl rfl
  have p3 := fun w => hp 3 (.int .u8 v3) #[.int .u8 v0, .int .u8 v1, .int .u8 v2, .int .u8 v3] w rfl rfl
  rw [show d + 2 = (d + 1) + 1 from rfl]
  rw [Op.equalIn]
  simp only [Sem.run_bind, run_underlying Try.underlying22, Result.andThen_ok, hsz]
  rw [Std.Legacy.Range.forIn_eq_forIn_range']
  rw [show (List.range' ([0:4] : Std.Legacy.Range).start ([0:4] : Std.Legacy.Range).size ([0:4] : Std.Legacy.Range).step) = [0, 1, 2, 3] from rfl]
  simp only [List.forIn_cons, List.forIn_nil, Sem.run_bind, Nat.mul_one, p0, p1, p2, p3, he, Result.andThen_ok, Bool.not_true, Bool.false_eq_true, if_false, Sem.run_pure]

theorem arr_eql (v0 v1 v2 v3 : Int) (w : World) : (Op.equalIn 10000 22 (.agg #[.int .u8 v0, .int .u8 v1, .int .u8 v2, .int .u8 v3]) (.agg #[.int .u8 v0, .int .u8 v1, .int .u8 v2, .int .u8 v3])).run Try.prog w = .ok true w :=
  arr_eql' 9998 v0 v1 v2 v3 w
end Go.Proofs.Ytpdmkignihhobaa
