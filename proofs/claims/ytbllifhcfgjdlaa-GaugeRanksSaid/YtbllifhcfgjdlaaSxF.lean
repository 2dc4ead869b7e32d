/- What is proved here: the rules of single operations over floats. -/
import Derived.Test.YtbllifhcfgjdlaaSxE
import Derived.Test.YtbllifhcfgjdlaaFltM
import Derived.Test.YtbllifhcfgjdlaaKitO
import Derived.Laws.Cover2
import Derived.Laws.FloatArith
import Derived.Laws.Externs
import Derived.Laws.NewFold
namespace Go.Proofs.Ytbllifhcfgjdlaa
open Go.RowKit
set_option linter.unusedVariables false
set_option linter.unusedSimpArgs false
def ford (a b : Nat) : Option Ordering := FltT.D.order a b
/-- What an operation on floats may give. -/
def FRes (op : BinOp) (x y r : Nat) : Prop := r < 18446744073709551616 ∧ (floatBits op .f64 x y = some r ∨ (floatBits op .f64 x y = none ∧ FltT.isNan r))
section
variable {P : Program} {L : List (Nat × Value)} {w : World} {d : Option Tmp} {ty : TypeId} {ps : String} {af : Array Edge} {g : Option (Nat × Bool)}
section
variable {xt yt : TypeId} {x y : Operand} {a b : Nat}
theorem eqGuard_at_float (op : BinOp) (t : TypeId) (x y : Operand) (k : FloatKind) (n : Nat) (v : Value) : eqGuard op t x y (.float k n) v = pure () := by cases op <;> rfl
theorem r_feql (hx : evO L x = some (.float .f64 a)) (hy : evO L y = some (.float .f64 b)) : Runs P L ⟨d, .binOp .eql xt x y yt, ty, ps, af, g⟩ w (.bool (ford a b == some .eq)) w :=
  r_bin hx hy (eqGuard_at_float _ _ _ _ _ _ _) (by rw [binOp_float_cmp_eql]; rfl)
theorem r_fneq (hx : evO L x = some (.float .f64 a)) (hy : evO L y = some (.float .f64 b)) : Runs P L ⟨d, .binOp .neq xt x y yt, ty, ps, af, g⟩ w (.bool (ford a b != some .eq)) w :=
  r_bin hx hy (eqGuard_at_float _ _ _ _ _ _ _) (by rw [binOp_float_cmp_neq]; rfl)
theorem r_flss (hx : evO L x = some (.float .f64 a)) (hy : evO L y = some (.float .f64 b)) : Runs P L ⟨d, .binOp .lss xt x y yt, ty, ps, af, g⟩ w (.bool (ford a b == some .lt)) w :=
  r_bin hx hy rfl (by rw [binOp_float_cmp_lss]; rfl)
theorem r_fleq (hx : evO L x = some (.float .f64 a)) (hy : evO L y = some (.float .f64 b)) : Runs P L ⟨d, .binOp .leq xt x y yt, ty, ps, af, g⟩ w (.bool (ford a b == some .lt || ford a b == some .eq)) w :=
  r_bin hx hy rfl (by rw [binOp_float_cmp_leq]; rfl)
theorem r_fgtr (hx : evO L x = some (.float .f64 a)) (hy : evO L y = some (.float .f64 b)) : Runs P L ⟨d, .binOp .gtr xt x y yt, ty, ps, af, g⟩ w (.bool (ford a b == some .gt)) w :=
  r_bin hx hy rfl (by rw [binOp_float_cmp_gtr]; rfl)
theorem r_fgeq (hx : evO L x = some (.float .f64 a)) (hy : evO L y = some (.float .f64 b)) : Runs P L ⟨d, .binOp .geq xt x y yt, ty, ps, af, g⟩ w (.bool (ford a b == some .gt || ford a b == some .eq)) w :=
  r_bin hx hy rfl (by rw [binOp_float_cmp_geq]; rfl)
theorem r_farith {op : BinOp} {r : Nat} (hx : evO L x = some (.float .f64 a)) (hy : evO L y = some (.float .f64 b)) (hg : ∀ v, eqGuard op xt x y (.float .f64 a) v = pure ()) (h : floatBits op .f64 a b = some r) : Runs P L ⟨d, .binOp op xt x y yt, ty, ps, af, g⟩ w (.float .f64 r) w :=
  r_bin hx hy (hg _) (run_float_arith (P := P) w op xt .f64 a b r h)
theorem r_fofint {src dst : TypeId} {ds : TypeDesc} {k : IntKind} {A : Int} (hx : evO L x = some (.int k A)) (hs : P.underlying src = some ds) (hd : P.underlying dst = some (.float .f64)) : Runs P L ⟨d, .convert src dst x, ty, ps, af, g⟩ w (.float .f64 (floatOfInt .f64 A)) w := by
  intro ρ hρ
  simp only [execOp, hρ x _ hx]
  simp [convert, run_underlying hs, run_underlying hd, Conv.intToFloat, floatOfInt]
theorem r_ftoint {src dst : TypeId} {ds : TypeDesc} {k : IntKind} {n : Int} (hx : evO L x = some (.float .f64 a)) (hs : P.underlying src = some ds) (hd : P.underlying dst = some (.int k)) (h : floatToIntVal .f64 a k = some n) : Runs P L ⟨d, .convert src dst x, ty, ps, af, g⟩ w (.int k n) w := by
  intro ρ hρ
  simp only [execOp, hρ x _ hx]
  have := run_convert_float_int (P := P) w src dst .f64 k a n (by rw [hs]; rfl) hd h
  simp [this]
end
theorem nan_word (t : Nat) : FltT.isNan ((t % 2) * 9223372036854775808 + 9218868437227405312 + 1 + (t / 2) % 4503599627370495) ∧ (t % 2) * 9223372036854775808 + 9218868437227405312 + 1 + (t / 2) % 4503599627370495 < 18446744073709551616 := by
  unfold FltT.isNan FltT.frung
  have h1 : (t / 2) % 4503599627370495 < 4503599627370495 := Nat.mod_lt _ (by decide)
  generalize (t / 2) % 4503599627370495 = x at *
  rcases (by omega : t % 2 = 0 ∨ t % 2 = 1) with h | h <;> rw [h] <;> constructor <;> omega
theorem d_farith {op : BinOp} {xt yt : TypeId} {x y : Operand} {a b : Nat} (hx : evO L x = some (.float .f64 a)) (hy : evO L y = some (.float .f64 b)) (ho : op = .add ∨ op = .sub ∨ op = .mul ∨ op = .quo) :
    Does P L ⟨d, .binOp op xt x y yt, ty, ps, af, g⟩ w (fun v w' => (∃ r, v = .float .f64 r ∧ FRes op a b r) ∧ Below w.heap.size w w') := by
  cases h : floatBits op .f64 a b with
  | some r =>
    refine Runs.does (r_farith hx hy (by rcases ho with rfl | rfl | rfl | rfl <;> (intro; rfl)) h) ⟨⟨r, rfl, ?_, .inl h⟩, Below.refl _ _⟩
    have := floatBits_wf h
    simpa [Lit.wf, FloatKind.format, Ieee.Format.width] using this
  | none =>
    intro A K Q ha hK
    have e : (binOp op xt (.float .f64 a) (.float .f64 b)).run P w = .ok (.float .f64 ((Question.nanBits .f64 a b).cut (w.tape w.drawn (.nanBits .f64 a b)))) w.drew := by
      rcases ho with rfl | rfl | rfl | rfl <;>
      · simp only [floatBits] at h
        simp [binOp, Op.floatArith, h, Question.forced]
    have hn := nan_word (w.tape w.drawn (.nanBits .f64 a b))
    unfold Oper.wp
    have e2 : (execOp A.eval ⟨d, .binOp op xt x y yt, ty, ps, af, g⟩).run P w = .ok (.value (.float .f64 ((Question.nanBits .f64 a b).cut (w.tape w.drawn (.nanBits .f64 a b))))) w.drew := by
      simp only [execOp, ha x _ hx, ha y _ hy, eqGuard_at_float]
      simp [e]
    rw [e2]
    exact hK _ _ ⟨⟨_, rfl, hn.2, .inr ⟨h, hn.1⟩⟩, (Below.refl _ _).drew⟩
theorem d_extern {f : FuncId} {xs : Array Operand} {tys : Array TypeId} {vs : List Value} {fn : Func} {v : Value} {ent : Array Value → Sem Value} (hv : xs.toList.map (evO L) = vs.map some) (hf : P.funcs[f]? = some fn) (hb : fn.body.isNone = true) (hn : (fn.name == "runtime.NumGoroutine") = false)
    (h1 : Extern.findNext fn = none) (h2 : Extern.find fn = some ent) (hr : (ent vs.toArray).run P w = .ok v w) : Runs P L ⟨d, .call { callee := .value (.func f), args := xs, argTypes := tys }, ty, ps, af, g⟩ w v w := by
  intro ρ hρ
  have he : xs.map ρ = vs.toArray := by
    apply Array.ext'
    simp only [Array.toList_map]
    have : ∀ (l : List Operand) (us : List Value), l.map (evO L) = us.map some → l.map ρ = us := by
      intro l
      induction l with
      | nil => intro us h; cases us with | nil => rfl | cons u us => simp at h
      | cons x l ih =>
        intro us h
        cases us with
        | nil => simp at h
        | cons u us =>
          simp only [List.map_cons, List.cons.injEq] at h ⊢
          exact ⟨hρ x u h.1, ih us h.2⟩
    exact this _ _ hv
  have h3 := hρ (.func f) _ rfl
  simp only [execOp, resolve, he, h3, Deferred.ofValue]
  simp [invoke, run_callFunc_extern hf hn hb h1 h2, hr]
end
def vFlt (b : Nat) : List Value := [.float .f64 b]
def fFlt (_ : World) (b : Nat) : Prop := b < 18446744073709551616
theorem oneFlt : ∀ x : Nat, ∀ u ∈ vFlt x, u.oneCell' = true := by
  intro x u hu
  simp only [vFlt, List.mem_singleton] at hu
  subst hu; rfl
theorem reads_float {P : Program} {t : TypeId} (ht : P.underlying t = some (.float .f64)) : Reads P t vFlt fFlt where
  get := by
    intro H enc w base spare held fuel cs x h
    cases fuel with
    | zero => simp [DataW.trod] at h
    | succ m =>
      unfold DataW.trod at h
      rw [ht] at h
      split at h
      all_goals first | (simp_all; done) | skip
      all_goals
        rename_i k k' b heq
        have hk : FloatKind.f64 = k := TypeDesc.float.inj (Option.some.inj heq)
        subst hk
        by_cases hw : k' = FloatKind.f64 ∧ (Lit.float FloatKind.f64 b).wf = true
        · obtain ⟨rfl, hw⟩ := hw
          exact ⟨b, rfl, by simpa [Lit.wf, fFlt, FloatKind.format, Ieee.Format.width] using hw⟩
        · rw [if_neg hw] at h; cases h
  kept := fun _ _ _ _ h => h
end Go.Proofs.Ytbllifhcfgjdlaa
