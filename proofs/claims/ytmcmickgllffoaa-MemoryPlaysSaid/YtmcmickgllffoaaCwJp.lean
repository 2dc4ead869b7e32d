/- What is proved here: ConvAccess, walked. -/
import Derived.Test.YtmcmickgllffoaaCwIp
namespace Go.Proofs.Ytmcmickgllffoaa
open Go.RowKit
set_option linter.unusedVariables false
set_option linter.unusedSimpArgs false
theorem r_rdstr {P : Program} {L : List (Nat × Value)} {w : World} {d : Option Tmp} {ty : TypeId} {ps : String} {af : Array Edge} {g : Option (Nat × Bool)} {src dst e c : Nat} {x : Operand} {a : Option Addr} {l : List Int}
    (hx : evO L x = some (.slice a l.length c)) (hs : P.underlying src = some (.slice e)) (he : P.underlying e = some (.int .u8)) (hd : P.underlying dst = some .string) (hr : RdS 1 (vInt .u8) w a l) :
    Runs P L ⟨d, .convert src dst x, ty, ps, af, g⟩ w (.string (strOfNums l)) w := by
  have key : (convert src dst (.slice a l.length c)).run P w = .ok (.string (strOfNums l)) w := by
    cases l with
    | nil =>
      cases a with
      | none => exact run_convert_bytes_nil w src e hs he _ c dst hd
      | some p =>
        have hl : (loadCells p 0).run P w = .ok (([] : List Int).map (Value.int .u8)).toArray w := run_loadCells_list (P := P) w p [] (by simp)
        rw [run_convert_bytes_string w src dst e _ _ c hs he hd]
        exact run_bytesToString w p 0 c [] hl
    | cons y l =>
      obtain ⟨b, off, ha, hlt, hc⟩ := hr 0 y rfl
      subst ha
      refine run_convert_bytes_arg w src e hs he b off _ c (y :: l) rfl (fun i hi => ?_) dst hd
      obtain ⟨b2, off2, ha2, _, hc2⟩ := hr i _ (List.getElem?_eq_getElem hi)
      cases ha2
      have h0 := hc2 0 _ rfl
      rw [Nat.mul_one, Nat.add_zero] at h0
      rw [h0, List.getD_eq_getElem?_getD, List.getElem?_eq_getElem hi]
      rfl
  intro ρ hρ
  simp only [execOp, hρ x _ hx]
  simp [key]
theorem writeT_snd (op v : Nat) : (writeT op v).2 = ((accT op).2.2.2.2 && (accT op).2.2.1) := by
  unfold writeT
  cases (accT op).2.2.2.2 <;> cases (accT op).2.2.1 <;> rfl
theorem writeT_yes {op v : Nat} (h : (writeT op v).2 = true) : (writeT op v).1 = bytesN (capN (accT op).1) v := by
  unfold writeT at h ⊢
  split
  · rfl
  · rename_i h2; rw [if_neg h2] at h; cases h

theorem rread_l (op : Nat) (l : List Int) (w : World) (hop : op < 256) (hb6 : ∀ y ∈ l, 0 ≤ y ∧ y < 256) (hl : l.length ≤ 9223372036854775807) : Calls Try.prog 45 #[(.int .i64 ((op : Nat) : Int)), .string (strOfNums l)] w fun e w' => e = .returned (.tuple #[.agg #[.int .u8 (readT op l).1, .int .u64 (((readT op l).2.1 : Nat) : Int)], .bool (readT op l).2.2]) ∧ Below w.heap.size w w' := by
  have h := rread_any op (strOfNums l) w hop (by rw [strOfNums_size]; exact hl)
  rw [nums_str hb6] at h
  exact h
end Go.Proofs.Ytmcmickgllffoaa
