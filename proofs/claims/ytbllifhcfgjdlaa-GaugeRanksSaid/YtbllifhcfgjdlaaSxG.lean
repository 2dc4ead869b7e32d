/- What is proved here: rules for arrays behind a pointer. -/
import Derived.Test.YtbllifhcfgjdlaaSxE
namespace Go.Proofs.Ytbllifhcfgjdlaa
open Go.RowKit
set_option linter.unusedVariables false
set_option linter.unusedSimpArgs false
section
variable {P : Program} {L : List (Nat × Value)} {w : World} {d : Option Tmp} {ty : TypeId} {ps : String} {af : Array Edge} {g : Option (Nat × Bool)}
theorem r_ixp {tt e : TypeId} {x i : Operand} {k : IntKind} {I : Int} {b off nn j sz q : Nat} (hx : evO L x = some (.pointer (some ⟨b, off, none⟩))) (hi : evO L i = some (.int k I)) (ht : P.underlying tt = some (.array nn e)) (hsz : (P.info? e).map (·.size) = some sz)
    (hj : I = j) (hlt : j < nn) (hq : off + j * sz = q) : Runs P L ⟨d, .indexAddr tt x i, ty, ps, af, g⟩ w (.pointer (some ⟨b, q, none⟩)) w := by
  intro ρ hρ
  obtain ⟨ii, hii, hs⟩ : ∃ ii, P.info? e = some ii ∧ ii.size = sz := by
    cases hh : P.info? e with
    | none => rw [hh] at hsz; cases hsz
    | some ii => rw [hh] at hsz; exact ⟨ii, rfl, by simpa using hsz⟩
  subst hj hq
  simp [execOp, hρ x _ hx, hρ i _ hi, Instr.indexAt, asIntOf, run_underlying ht, hlt, sizeOf, typeInfo, hii, hs, Addr.add_lit, Instr.sureAddr]
end
end Go.Proofs.Ytbllifhcfgjdlaa
