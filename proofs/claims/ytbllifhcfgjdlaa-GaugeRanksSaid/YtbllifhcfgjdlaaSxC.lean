/- What is proved here: more rules over known values: a row of bytes as a string; guarded calls. -/
import Derived.Test.YtbllifhcfgjdlaaSxM
namespace Go.Proofs.Ytbllifhcfgjdlaa
open Go.RowKit
set_option linter.unusedVariables false
set_option linter.unusedSimpArgs false

theorem flatMap_vInt (k : IntKind) (l : List Int) : l.flatMap (vInt k) = l.map (Value.int k) := by
  induction l with
  | nil => rfl
  | cons a l ih => simp only [List.flatMap_cons, List.map_cons, ih]; rfl

theorem r_rowstr {P : Program} {L : List (Nat × Value)} {w : World} {d : Option Tmp} {ty : TypeId} {ps : String} {af : Array Edge} {g : Option (Nat × Bool)} {src dst e e' base : Nat} {x : Operand} {v : Value} {l : List Int}
    (hx : evO L x = some v) (hs : P.underlying src = some (.slice e)) (he : P.underlying e = some (.int .u8)) (hd : P.underlying dst = some .string) (hr : Row 1 (vInt .u8) e' base w v l) :
    Runs P L ⟨d, .convert src dst x, ty, ps, af, g⟩ w (.string (strOfNums l)) w := by
  intro ρ hρ
  simp only [execOp, hρ x _ hx]
  unfold Row at hr
  rw [flatMap_vInt] at hr
  simp [conv_row hs he hd hr]

theorem strOfNums_size (l : List Int) : (strOfNums l).size = l.length := by unfold strOfNums; simp [ByteArray.size]

theorem act_T (ag c : Bool) : (ag && (c == true)) = (ag && c) := by cases ag <;> cases c <;> rfl
theorem act_F (ag c : Bool) : (ag && (c == false)) = (ag && !c) := by cases ag <;> cases c <;> rfl
theorem cons_ev {L : List (Nat × Value)} {x : Operand} {xs : List Operand} {v : Value} {vs : List Value} (h : evO L x = some v) (hs : xs.map (evO L) = vs.map some) : (x :: xs).map (evO L) = (v :: vs).map some := by
  rw [List.map_cons, List.map_cons, h, hs]
theorem Row.eqL {α : Type} {k e base : Nat} {V : α → List Value} {w : World} {v : Value} {l l' : List α} (h : Row k V e base w v l) (he : l = l') : Row k V e base w v l' := he ▸ h
end Go.Proofs.Ytbllifhcfgjdlaa
