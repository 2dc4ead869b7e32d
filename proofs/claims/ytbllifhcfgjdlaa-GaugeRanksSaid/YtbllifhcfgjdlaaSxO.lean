/-
  What is proved here: the rules of single operations over known values.
-/
import Derived.Test.YtbllifhcfgjdlaaSx
import Derived.WalkKit
import Derived.Great.BuildSlice
import Derived.Laws.MakeOwn
import Derived.Laws.OwnMore
namespace Go.Proofs.Ytbllifhcfgjdlaa
open Go.RowKit
set_option linter.unusedVariables false
set_option linter.unusedSimpArgs false

section
variable {P : Program} {L : List (Nat × Value)} {w : World} {d : Option Tmp} {ty : TypeId} {ps : String} {af : Array Edge} {g : Option (Nat × Bool)}

theorem r_move {x : Operand} {v : Value} (hx : evO L x = some v) : Runs P L ⟨d, .move x, ty, ps, af, g⟩ w v w := by
  intro ρ hρ; simp only [execOp, hρ x v hx]; rfl
theorem r_assign {x : Operand} {v : Value} (hx : evO L x = some v) : Runs P L ⟨d, .assign x, ty, ps, af, g⟩ w v w := by
  intro ρ hρ; simp only [execOp, hρ x v hx]; rfl

theorem r_bin {op : BinOp} {xt yt : TypeId} {x y : Operand} {vx vy v : Value} (hx : evO L x = some vx) (hy : evO L y = some vy) (hg : eqGuard op xt x y vx vy = pure ()) (hr : (binOp op xt vx vy).run P w = .ok v w) :
    Runs P L ⟨d, .binOp op xt x y yt, ty, ps, af, g⟩ w v w := by
  intro ρ hρ
  simp only [execOp, hρ x _ hx, hρ y _ hy, hg]
  simp [hr]

section
variable {xt yt : TypeId} {x y : Operand} {k k2 : IntKind} {A B C : Int}
theorem r_add (hx : evO L x = some (.int k A)) (hy : evO L y = some (.int k B)) (hc : k.wrap (A + B) = C) : Runs P L ⟨d, .binOp .add xt x y yt, ty, ps, af, g⟩ w (.int k C) w :=
  r_bin hx hy rfl (by rw [binOp_add]; simp [Op.intArith, hc])
theorem r_sub (hx : evO L x = some (.int k A)) (hy : evO L y = some (.int k B)) (hc : k.wrap (A - B) = C) : Runs P L ⟨d, .binOp .sub xt x y yt, ty, ps, af, g⟩ w (.int k C) w :=
  r_bin hx hy rfl (by rw [binOp_sub]; simp [Op.intArith, hc])
theorem r_mul (hx : evO L x = some (.int k A)) (hy : evO L y = some (.int k B)) (hc : k.wrap (A * B) = C) : Runs P L ⟨d, .binOp .mul xt x y yt, ty, ps, af, g⟩ w (.int k C) w :=
  r_bin hx hy rfl (by rw [binOp_mul]; simp [Op.intArith, hc])
theorem r_quo (hx : evO L x = some (.int k A)) (hy : evO L y = some (.int k B)) (h0 : B ≠ 0) (hc : k.wrap (A.tdiv B) = C) : Runs P L ⟨d, .binOp .quo xt x y yt, ty, ps, af, g⟩ w (.int k C) w :=
  r_bin hx hy rfl (by rw [binOp_quo]; simp [Op.intDiv, h0, hc])
theorem r_rem (hx : evO L x = some (.int k A)) (hy : evO L y = some (.int k B)) (h0 : B ≠ 0) (hc : A.tmod B = C) : Runs P L ⟨d, .binOp .rem xt x y yt, ty, ps, af, g⟩ w (.int k C) w :=
  r_bin hx hy rfl (by rw [binOp_rem]; simp [Op.intDiv, h0, hc])
theorem r_and (hx : evO L x = some (.int k A)) (hy : evO L y = some (.int k B)) (hc : bits .and k A B = C) : Runs P L ⟨d, .binOp .and xt x y yt, ty, ps, af, g⟩ w (.int k C) w :=
  r_bin hx hy rfl (by rw [binOp_and, ← hc]; rfl)
theorem r_or (hx : evO L x = some (.int k A)) (hy : evO L y = some (.int k B)) (hc : bits .or k A B = C) : Runs P L ⟨d, .binOp .or xt x y yt, ty, ps, af, g⟩ w (.int k C) w :=
  r_bin hx hy rfl (by rw [binOp_or, ← hc]; rfl)
theorem r_xor (hx : evO L x = some (.int k A)) (hy : evO L y = some (.int k B)) (hc : bits .xor k A B = C) : Runs P L ⟨d, .binOp .xor xt x y yt, ty, ps, af, g⟩ w (.int k C) w :=
  r_bin hx hy rfl (by rw [binOp_xor, ← hc]; rfl)
theorem r_shl {n : Nat} (hx : evO L x = some (.int k A)) (hy : evO L y = some (.int k2 B)) (hn : B = n) (hc : k.wrap (A * 2 ^ (min n k.bits)) = C) : Runs P L ⟨d, .binOp .shl xt x y yt, ty, ps, af, g⟩ w (.int k C) w :=
  r_bin hx hy rfl (by subst hn; rw [binOp_shl]; unfold Op.shift; rw [if_neg (by omega)]; simp [hc])
theorem r_shr {n : Nat} (hx : evO L x = some (.int k A)) (hy : evO L y = some (.int k2 B)) (hn : B = n) (hc : A.fdiv (2 ^ (min n k.bits)) = C) : Runs P L ⟨d, .binOp .shr xt x y yt, ty, ps, af, g⟩ w (.int k C) w :=
  r_bin hx hy rfl (by subst hn; rw [binOp_shr]; unfold Op.shift; rw [if_neg (by omega)]; simp [hc])

theorem r_eq (hx : evO L x = some (.int k A)) (hy : evO L y = some (.int k B)) : Runs P L ⟨d, .binOp .eql xt x y yt, ty, ps, af, g⟩ w (.bool (decide (A = B))) w :=
  r_bin hx hy (eqGuard_at_int _ _ _ _ _ _ _) (by rw [binOp_eql]; rfl)
theorem r_ne (hx : evO L x = some (.int k A)) (hy : evO L y = some (.int k B)) : Runs P L ⟨d, .binOp .neq xt x y yt, ty, ps, af, g⟩ w (.bool (decide (A ≠ B))) w :=
  r_bin hx hy (eqGuard_at_int _ _ _ _ _ _ _) (by
    rw [binOp_neq]
    have : (A != B) = decide (A ≠ B) := by
      by_cases h : A = B <;> simp [h]
    rw [this]; rfl)
theorem r_lt (hx : evO L x = some (.int k A)) (hy : evO L y = some (.int k B)) : Runs P L ⟨d, .binOp .lss xt x y yt, ty, ps, af, g⟩ w (.bool (decide (A < B))) w :=
  r_bin hx hy rfl (by rw [binOp_lss]; rfl)
theorem r_le (hx : evO L x = some (.int k A)) (hy : evO L y = some (.int k B)) : Runs P L ⟨d, .binOp .leq xt x y yt, ty, ps, af, g⟩ w (.bool (decide (A ≤ B))) w :=
  r_bin hx hy rfl (by rw [binOp_leq]; rfl)
theorem r_gt (hx : evO L x = some (.int k A)) (hy : evO L y = some (.int k B)) : Runs P L ⟨d, .binOp .gtr xt x y yt, ty, ps, af, g⟩ w (.bool (decide (B < A))) w :=
  r_bin hx hy rfl (by rw [binOp_gtr]; rfl)
theorem r_ge (hx : evO L x = some (.int k A)) (hy : evO L y = some (.int k B)) : Runs P L ⟨d, .binOp .geq xt x y yt, ty, ps, af, g⟩ w (.bool (decide (B ≤ A))) w :=
  r_bin hx hy rfl (by rw [binOp_geq]; rfl)
theorem r_neg (hx : evO L x = some (.int k A)) (hc : k.wrap (0 - A) = C) : Runs P L ⟨d, .unOp .neg xt x, ty, ps, af, g⟩ w (.int k C) w := by
  intro ρ hρ; simp only [execOp, hρ x _ hx]; simp [Op.unary, Op.intArith]; simpa using hc
theorem r_com (hx : evO L x = some (.int k A)) (hc : bits .xor k (if k.signed then -1 else k.max) A = C) : Runs P L ⟨d, .unOp .xor xt x, ty, ps, af, g⟩ w (.int k C) w := by
  intro ρ hρ; simp only [execOp, hρ x _ hx, Op.unary]; rw [← hc]; rfl
theorem r_conv {src dst : TypeId} {ds : TypeDesc} (hx : evO L x = some (.int k A)) (hs : P.underlying src = some ds) (hd : P.underlying dst = some (.int k2)) (hc : k2.wrap A = C) : Runs P L ⟨d, .convert src dst x, ty, ps, af, g⟩ w (.int k2 C) w := by
  intro ρ hρ
  simp only [execOp, hρ x _ hx]
  simp [convert, run_underlying hs, run_underlying hd, Conv.intToInt, hc]
end

theorem r_not {xt : TypeId} {x : Operand} {b : Bool} (hx : evO L x = some (.bool b)) : Runs P L ⟨d, .unOp .not xt x, ty, ps, af, g⟩ w (.bool (!b)) w := by
  intro ρ hρ; simp only [execOp, hρ x _ hx]; simp [Op.unary]
theorem r_beq {xt yt : TypeId} {x y : Operand} {b c : Bool} (ht : P.underlying xt = some .bool) (hx : evO L x = some (.bool b)) (hy : evO L y = some (.bool c)) : Runs P L ⟨d, .binOp .eql xt x y yt, ty, ps, af, g⟩ w (.bool (b == c)) w :=
  r_bin hx hy (eqGuard_at_bool _ _ _ _ _ _) (run_eql_bool _ _ _ _ ht)
theorem r_bne {xt yt : TypeId} {x y : Operand} {b c : Bool} (ht : P.underlying xt = some .bool) (hx : evO L x = some (.bool b)) (hy : evO L y = some (.bool c)) : Runs P L ⟨d, .binOp .neq xt x y yt, ty, ps, af, g⟩ w (.bool (!(b == c))) w :=
  r_bin hx hy (eqGuard_at_bool _ _ _ _ _ _) (run_neq_bool _ _ _ _ ht)

theorem r_pick {c x y : Operand} {b : Bool} {vx vy v : Value} (hc : evO L c = some (.bool b)) (hx : evO L x = some vx) (hy : evO L y = some vy) (hv : (cond b vx vy) = v) : Runs P L ⟨d, .pick c x y, ty, ps, af, g⟩ w v w := by
  intro ρ hρ
  simp only [execOp, hρ c _ hc, hρ x _ hx, hρ y _ hy, ← hv]
  cases b <;> simp [asBool]
theorem r_pickA {c x y : Operand} {b e : Bool} (hc : evO L c = some (.bool b)) (hx : evO L x = some (gb b (.bool e))) (hy : evO L y = some (.bool false)) : Runs P L ⟨d, .pick c x y, ty, ps, af, g⟩ w (.bool (b && e)) w :=
  r_pick hc hx hy (by cases b <;> rfl)
theorem r_pickO {c x y : Operand} {b e : Bool} (hc : evO L c = some (.bool b)) (hx : evO L x = some (.bool true)) (hy : evO L y = some (gb (!b) (.bool e))) : Runs P L ⟨d, .pick c x y, ty, ps, af, g⟩ w (.bool (b || e)) w :=
  r_pick hc hx hy (by cases b <;> rfl)
theorem r_pickA2 {c x y : Operand} {b e q : Bool} (hq : q = true) (hc : evO L c = some (gb q (.bool b))) (hx : evO L x = some (gb (q && b) (.bool e))) (hy : evO L y = some (.bool false)) : Runs P L ⟨d, .pick c x y, ty, ps, af, g⟩ w (.bool (b && e)) w := by
  subst hq
  exact r_pickA hc (by rw [hx]; cases b <;> rfl) hy
theorem r_pickO2 {c x y : Operand} {b e q : Bool} (hq : q = true) (hc : evO L c = some (gb q (.bool b))) (hx : evO L x = some (.bool true)) (hy : evO L y = some (gb (q && !b) (.bool e))) : Runs P L ⟨d, .pick c x y, ty, ps, af, g⟩ w (.bool (b || e)) w := by
  subst hq
  exact r_pickO hc hx (by rw [hy]; cases b <;> rfl)

theorem r_extract {x : Operand} {i : Nat} {vs : Array Value} {v : Value} (hx : evO L x = some (.tuple vs)) (hi : vs[i]? = some v) : Runs P L ⟨d, .extract x i, ty, ps, af, g⟩ w v w := by
  intro ρ hρ; simp only [execOp, hρ x _ hx]; simp [Instr.extract, hi]

/- STRINGS. -/
theorem str_toList_data (u : ByteArray) : u.toList = u.data.toList := ByteArray.toList_eq u
theorem toList_inj {s t : ByteArray} (h : s.toList = t.toList) : s = t := by
  have e : ∀ u : ByteArray, u.toList = u.data.toList := fun u => str_toList_data u
  rw [e, e] at h
  cases s; cases t
  simp only [ByteArray.mk.injEq]
  exact Array.toList_inj.1 h
theorem toList_beq (s t : ByteArray) : (s.toList == t.toList) = decide (s = t) := by
  by_cases h : s = t
  · subst h; simp
  · rw [decide_eq_false h]
    simp only [beq_eq_false_iff_ne, ne_eq]
    exact fun e => h (toList_inj e)
section
variable {xt yt : TypeId} {x y : Operand} {s t : ByteArray}
theorem r_sadd (hx : evO L x = some (.string s)) (hy : evO L y = some (.string t)) (hs : s.size + t.size ≤ 9223372036854775807) : Runs P L ⟨d, .binOp .add xt x y yt, ty, ps, af, g⟩ w (.string (s ++ t)) w :=
  r_bin hx hy rfl (by
    simp only [binOp, Op.stringOp]
    rw [if_neg (by rw [IntKind.max_i64]; omega)]; rfl)
theorem r_seq (hx : evO L x = some (.string s)) (hy : evO L y = some (.string t)) : Runs P L ⟨d, .binOp .eql xt x y yt, ty, ps, af, g⟩ w (.bool (decide (s = t))) w :=
  r_bin hx hy (eqGuard_at_string _ _ _ _ _ _) (by simp only [binOp, Op.stringOp, toList_beq]; rfl)
theorem r_sne (hx : evO L x = some (.string s)) (hy : evO L y = some (.string t)) : Runs P L ⟨d, .binOp .neq xt x y yt, ty, ps, af, g⟩ w (.bool (decide (s ≠ t))) w :=
  r_bin hx hy (eqGuard_at_string _ _ _ _ _ _) (by
    simp only [binOp, Op.stringOp, toList_beq]
    have : (!decide (s = t)) = decide (s ≠ t) := by by_cases h : s = t <;> simp [h]
    rw [this]; rfl)
theorem r_lens {tt : TypeId} (hx : evO L x = some (.string s)) (ht : P.underlying tt = some .string) : Runs P L ⟨d, .call { callee := .builtin .len, args := #[x], argTypes := #[tt] }, ty, ps, af, g⟩ w (.int .i64 (s.size : Int)) w := by
  intro ρ hρ
  simp [execOp, resolve, invoke, builtin, hρ x _ hx, Builtin.len_, run_underlying ht, goInt]
theorem r_sindex {i : Operand} {k : IntKind} {I : Int} {j : Nat} {b : UInt8} (hx : evO L x = some (.string s)) (hi : evO L i = some (.int k I)) (ht : P.underlying xt = some .string) (hj : I = j) (hb : s.data.toList[j]? = some b) :
    Runs P L ⟨d, .index xt x i, ty, ps, af, g⟩ w (.int .u8 (b.toNat : Int)) w := by
  intro ρ hρ
  have hb2 : s[j]? = some b := by
    have h1 : j < s.size := by
      have := (List.getElem?_eq_some_iff.1 hb).1
      simpa using this
    rw [getElem?_pos s j h1]
    have h2 := (List.getElem?_eq_some_iff.1 hb).2
    rw [← h2]; rfl
  subst hj
  simp [execOp, hρ x _ hx, hρ i _ hi, Instr.index, asIntOf, run_underlying ht, hb2]
def sbt (s : ByteArray) (j : Nat) : Nat := (s.data.toList.getD j 0).toNat
theorem sbt_lt (s : ByteArray) (j : Nat) : sbt s j < 256 := UInt8.toNat_lt _
theorem ne_size {s : ByteArray} (h : ¬ s = ⟨#[]⟩) : 0 < s.size := by
  rcases Nat.eq_zero_or_pos s.size with h0 | h0
  · exfalso; apply h
    cases s with | mk d => simp only [ByteArray.mk.injEq]; exact Array.eq_empty_of_size_eq_zero h0
  · exact h0
theorem sz_ext (s : ByteArray) (a b : Nat) (h : a ≤ b) (h2 : b ≤ s.size) : (s.extract a b).size = b - a := by
  rw [ByteArray.size_extract]; omega
theorem sz_app (s t : ByteArray) : (s ++ t).size = s.size + t.size := ByteArray.size_append
theorem r_sindexD {i : Operand} {k : IntKind} {I : Int} {j : Nat} (hx : evO L x = some (.string s)) (hi : evO L i = some (.int k I)) (ht : P.underlying xt = some .string) (hj : I = j) (hlt : j < s.size) :
    Runs P L ⟨d, .index xt x i, ty, ps, af, g⟩ w (.int .u8 (sbt s j : Nat)) w := by
  have h1 : s.data.toList[j]? = some (s.data.toList.getD j 0) := by
    have : j < s.data.toList.length := by rw [Array.length_toList]; exact hlt
    rw [List.getD_eq_getElem?_getD, List.getElem?_eq_getElem this]; rfl
  exact r_sindex hx hi ht hj h1
theorem r_sslice {lo hi : Option Operand} {k1 k2 : IntKind} {A B : Int} {a b : Nat} (hx : evO L x = some (.string s)) (ht : P.underlying xt = some .string)
    (hlo : (lo = none ∧ a = 0) ∨ (∃ l, lo = some l ∧ evO L l = some (.int k1 A) ∧ A = a)) (hhi : (hi = none ∧ b = s.size) ∨ (∃ h, hi = some h ∧ evO L h = some (.int k2 B) ∧ B = b)) (hab : a ≤ b) (hbs : b ≤ s.size) :
    Runs P L ⟨d, .slice xt x lo hi none, ty, ps, af, g⟩ w (.string (s.extract a b)) w := by
  intro ρ hρ
  rcases hlo with ⟨rfl, rfl⟩ | ⟨l, rfl, hl, rfl⟩ <;> rcases hhi with ⟨rfl, rfl⟩ | ⟨h, rfl, hh, rfl⟩
  all_goals simp [execOp, hρ x _ hx, *, run_sliceAt_string, Instr.sliceAt, run_underlying ht, Instr.slice, Instr.sliceBounds]
  · rw [run_sliceBound _ _ _ _ _ (by omega) (by omega)]; simp
  · rw [run_sliceBound _ _ _ _ _ (by omega) (by omega)]; simp
  · rw [run_sliceBound _ _ _ _ _ (by omega) (by omega)]; simp
    rw [run_sliceBound _ _ _ _ _ (by omega) (by omega)]; simp
end

/- SLICES AND MEMORY. -/
theorem r_lensl {tt e : TypeId} {x : Operand} {a : Option Addr} {n c : Nat} (hx : evO L x = some (.slice a n c)) (ht : P.underlying tt = some (.slice e)) : Runs P L ⟨d, .call { callee := .builtin .len, args := #[x], argTypes := #[tt] }, ty, ps, af, g⟩ w (.int .i64 (n : Int)) w := by
  intro ρ hρ
  simp [execOp, resolve, invoke, builtin, hρ x _ hx, Builtin.len_, run_underlying ht, goInt]

theorem r_ixa {tt e : TypeId} {x i : Operand} {k : IntKind} {I : Int} {b off n c j sz q : Nat} (hx : evO L x = some (.slice (some ⟨b, off, none⟩) n c)) (hi : evO L i = some (.int k I)) (ht : P.underlying tt = some (.slice e)) (hsz : (P.info? e).map (·.size) = some sz)
    (hj : I = j) (hlt : j < n) (hq : off + j * sz = q) : Runs P L ⟨d, .indexAddr tt x i, ty, ps, af, g⟩ w (.pointer (some ⟨b, q, none⟩)) w := by
  intro ρ hρ
  obtain ⟨ii, hii, hs⟩ : ∃ ii, P.info? e = some ii ∧ ii.size = sz := by
    cases hh : P.info? e with
    | none => rw [hh] at hsz; cases hsz
    | some ii => rw [hh] at hsz; exact ⟨ii, rfl, by simpa using hsz⟩
  subst hj hq
  simp [execOp, hρ x _ hx, hρ i _ hi, Instr.indexAt, asIntOf, run_underlying ht, hlt, sizeOf, typeInfo, hii, hs, Addr.add_lit]

theorem r_fa {tt : TypeId} {x : Operand} {fs : Array Field} {f : Nat} {fd : Field} {b off q : Nat} (hx : evO L x = some (.pointer (some ⟨b, off, none⟩))) (ht : P.underlying tt = some (.struct fs)) (hf : fs[f]? = some fd) (hn : ((P.info? fd.type).map fun i => Nat.blt 0 i.size) = some true) (hq : off + fd.offset = q) :
    Runs P L ⟨d, .fieldAddr tt x f, ty, ps, af, g⟩ w (.pointer (some ⟨b, q, none⟩)) w := by
  intro ρ hρ
  obtain ⟨ii, hii, hs⟩ : ∃ ii, P.info? fd.type = some ii ∧ 0 < ii.size := by
    cases hh : P.info? fd.type with
    | none => rw [hh] at hn; cases hn
    | some ii => rw [hh] at hn; exact ⟨ii, rfl, by simpa [Nat.blt_eq] using hn⟩
  subst hq
  have h0 : ¬ ii.size = 0 := by omega
  simp [execOp, hρ x _ hx, Instr.fieldAt, run_underlying ht, hf, Instr.sureAddr, fieldPlace, sizeOf, typeInfo, hii, Addr.add_lit]
  intro h; exact absurd h h0

def plainT : TypeDesc → Bool
  | .struct _ | .array _ _ => false
  | _ => true

theorem run_isAgg_plain {t : TypeId} {td : TypeDesc} (ht : P.underlying t = some td) (hp : plainT td = true) : (isAgg t).run P w = .ok false w := by
  unfold isAgg
  rw [Sem.run_bind, run_underlying ht w]
  cases td <;> first | rfl | (simp [plainT] at hp)

theorem r_load {t : TypeId} {td : TypeDesc} {x : Operand} {p : Addr} {v : Value} (hx : evO L x = some (.pointer (some p))) (ht : P.underlying t = some td) (hp : plainT td = true) (hc : w.cell? p = some v) : Runs P L ⟨d, .load t x, ty, ps, af, g⟩ w v w := by
  intro ρ hρ
  simp only [execOp, hρ x _ hx, Instr.loadAt, Instr.sureAddr]
  simp [loadVar, run_isAgg_plain ht hp, load, Sem.run, hc]

/-- The cells from a place on. -/
def cellsAt (w : World) (b o : Nat) (cs : List Value) : Prop := ∀ j v, cs[j]? = some v → w.cell? ⟨b, o + j, none⟩ = some v

theorem r_loadA {t : TypeId} {td : TypeDesc} {x : Operand} {b o : Nat} {cs : List Value} (hx : evO L x = some (.pointer (some ⟨b, o, none⟩))) (ht : P.underlying t = some td) (hp : plainT td = false) (hs : (P.info? t).map (·.size) = some cs.length) (hc : cellsAt w b o cs) :
    Runs P L ⟨d, .load t x, ty, ps, af, g⟩ w (.agg cs.toArray) w := by
  intro ρ hρ
  obtain ⟨ii, hii, hss⟩ : ∃ ii, P.info? t = some ii ∧ ii.size = cs.length := by
    cases hh : P.info? t with
    | none => rw [hh] at hs; cases hs
    | some ii => rw [hh] at hs; exact ⟨ii, rfl, by simpa using hs⟩
  have hl : (loadCells ⟨b, o, none⟩ cs.length).run P w = .ok cs.toArray w :=
    run_loadCells_list (P := P) w ⟨b, o, none⟩ cs (fun j v hv => by rw [Addr.add_lit]; exact hc j v hv)
  have hagg : (isAgg t).run P w = .ok true w := by
    unfold isAgg
    rw [Sem.run_bind, run_underlying ht w]
    cases td <;> simp_all [plainT]
  simp only [execOp, hρ x _ hx, Instr.loadAt, Instr.sureAddr]
  simp [loadVar, hagg, sizeOf, typeInfo, hii, hss, hl]

theorem cellsAt_blk {b : Nat} {cs : Array Value} {T : TypeId} {fr : Nat × Nat} (h : w.heap[b]? = some (.cells cs T fr)) : cellsAt w b 0 cs.toList := by
  intro j v hv
  rw [Nat.zero_add, cell_of_row w b j cs T fr h]
  simpa using hv
theorem cell_blk {b j : Nat} {cs : Array Value} {T : TypeId} {fr : Nat × Nat} {v : Value} (h : w.heap[b]? = some (.cells cs T fr)) (hv : cs[j]? = some v) : w.cell? ⟨b, j, none⟩ = some v := by
  rw [cell_of_row w b j cs T fr h]; exact hv

/- WORLDS: a fresh block; a block written. -/
theorem blk_ext {w w' : World} {b : Nat} {o : Obj} (h : w.heap[b]? = some o) (hb : Below w.heap.size w w') : w'.heap[b]? = some o := (hb.block b (Array.getElem?_eq_some_iff.1 h).1).trans h
theorem blk_lt {w : World} {b : Nat} {o : Obj} (h : w.heap[b]? = some o) : b < w.heap.size := (Array.getElem?_eq_some_iff.1 h).1
theorem blk_grown {w w' : World} {b c : Nat} {o : Obj} (h : w.heap[b]? = some o) (hg : w.grownBy w' (some c)) (hne : b ≠ c) : w'.heap[b]? = some o := (hg.block b (blk_lt h) (fun e => hne (by injection e))).trans h
theorem grown_below {w w' : World} {B c : Nat} (hg : w.grownBy w' (some c)) (hB : B ≤ w.heap.size) (hc : B ≤ c) : Below B w w' := (Below.refl B w).grown hg hB (fun k hk => by injection hk with e; omega)
theorem row_lt {w : World} {base e sz n : Nat} {v : Value} {xs : List Value} (h : w.ownsRow base e sz v n xs) : ∀ k, v.ownBlock = some k → k < w.heap.size := fun k hk => (h.lt k hk).2
theorem row_grown {w w' : World} {base e sz n c : Nat} {v : Value} {xs : List Value} (h : w.ownsRow base e sz v n xs) (hg : w.grownBy w' (some c)) (hne : ∀ k, v.ownBlock = some k → k ≠ c) : w'.ownsRow base e sz v n xs :=
  h.kept hg (by cases hv : v.ownBlock with | none => exact .inl rfl | some k => exact .inr (fun e => hne k hv (by injection e)))
theorem grownBy_refl (w : World) (r : Option Nat) : w.grownBy w r := ⟨rfl, rfl, rfl, Nat.le_refl _, fun _ _ _ => rfl⟩
theorem grownBy_trans {a b c : World} {r : Option Nat} (h : a.grownBy b r) (k : b.grownBy c r) : a.grownBy c r :=
  ⟨k.os.trans h.os, k.tape.trans h.tape, k.output.trans h.output, Nat.le_trans h.size k.size, fun i hi hr => (k.block i (Nat.lt_of_lt_of_le hi h.size) hr).trans (h.block i hi hr)⟩
theorem below_grown {a b : World} {r : Option Nat} (h : Below a.heap.size a b) : a.grownBy b r := ⟨h.os, h.tape, h.output, h.size, fun i hi _ => h.block i hi⟩
/-- A block that is new to a world is written: the world is only extended. -/
theorem ext_grown {a b c : World} {k : Nat} (h : Below a.heap.size a b) (hg : b.grownBy c (some k)) (hk : a.heap.size ≤ k) : Below a.heap.size a c := h.grown hg h.size (fun i hi => by injection hi with e; omega)

/-- A fresh block. -/
def Fresh (w : World) (cs : Array Value) (T : TypeId) (b : Nat) (w' : World) : Prop := w.heap.size ≤ b ∧ w'.heap[b]? = some (.cells cs T (0, 0)) ∧ Below w.heap.size w w'
theorem fresh_alloc (w : World) (cs : Array Value) (T : TypeId) : Fresh w cs T w.heap.size (w.alloc (.cells cs T)) := ⟨Nat.le_refl _, heap_alloc_last _ _, (Below.refl _ _).alloc (Nat.le_refl _) _⟩

theorem zv_run {T : TypeId} {z : Value} (hz : (P.info? T).bind (·.zero) = some z) (w : World) : (zeroValue T).run P w = .ok z w := by
  cases hh : P.info? T with
  | none => rw [hh] at hz; cases hz
  | some i =>
    rw [hh] at hz
    simp only [Option.bind_some] at hz
    simp [zeroValue, typeInfo, hh, hz]

theorem d_alloc {T : TypeId} {z : Value} {cs : Array Value} (hz : (P.info? T).bind (·.zero) = some z) (hcs : z.cells = cs) : Does P L ⟨d, .alloc T, ty, ps, af, g⟩ w (fun v w' => ∃ b, v = .pointer (some ⟨b, 0, none⟩) ∧ Fresh w cs T b w') := by
  subst hcs
  refine Runs.does (v := .pointer (some ⟨w.heap.size, 0, none⟩)) (w' := w.alloc (.cells z.cells T)) (fun ρ hρ => ?_) ⟨_, rfl, fresh_alloc _ _ _⟩
  simp [execOp, Instr.alloc, zv_run hz, newVar, newRow, newObj, Sem.run]
theorem d_box {T : TypeId} {x : Operand} {v : Value} {cs : Array Value} (hx : evO L x = some v) (hcs : v.cells = cs) : Does P L ⟨d, .box T x, ty, ps, af, g⟩ w (fun v w' => ∃ b, v = .pointer (some ⟨b, 0, none⟩) ∧ Fresh w cs T b w') := by
  subst hcs
  refine Runs.does (v := .pointer (some ⟨w.heap.size, 0, none⟩)) (w' := w.alloc (.cells v.cells T)) (fun ρ hρ => ?_) ⟨_, rfl, fresh_alloc _ _ _⟩
  simp [execOp, hρ x _ hx, Instr.box, newVar, newRow, newObj, Sem.run]

/-- The cells of a block with some written from a place on. -/
def setAll : Array Value → Nat → List Value → Array Value
  | cs, _, [] => cs
  | cs, i, v :: vs => setAll (cs.setIfInBounds i v) (i + 1) vs

theorem setAll_size : ∀ (vs : List Value) (cs : Array Value) (i : Nat), (setAll cs i vs).size = cs.size
  | [], _, _ => rfl
  | v :: vs, cs, i => (setAll_size vs _ _).trans (by simp)

theorem storeCells_run : ∀ (vs : List Value) (w : World) (b o i : Nat) (cs : Array Value) (T : TypeId), w.heap[b]? = some (.cells cs T (0, 0)) → o + i + vs.length ≤ cs.size → (∀ v ∈ vs, v.oneCell' = true) →
    ∃ w', (storeCells ⟨b, o, none⟩ vs i).run P w = .ok () w' ∧ w'.heap[b]? = some (.cells (setAll cs (o + i) vs) T (0, 0)) ∧ w.grownBy w' (some b)
  | [], w, b, o, i, cs, T, h, _, _ => ⟨w, by simp [storeCells], h, grownBy_refl _ _⟩
  | v :: vs, w, b, o, i, cs, T, h, hl, h1 => by
    simp only [List.length_cons] at hl
    have hc : w.cell? ⟨b, o + i, none⟩ = some cs[o + i] := cell_blk h (Array.getElem?_eq_getElem (by omega))
    have hfr := frozen_of_row w b (o + i) cs T h
    have hs : (store ⟨b, o + i, none⟩ v).run P w = .ok () (w.setCell ⟨b, o + i, none⟩ v) := by
      rw [run_store P w _ _ _ (h1 v (by simp))]
      simp [stored, hc, hfr]
    obtain ⟨w', h2, h3, h4⟩ := storeCells_run vs (w.setCell ⟨b, o + i, none⟩ v) b o (i + 1) (cs.setIfInBounds (o + i) v) T (heap_setCell_same w b (o + i) cs T v h) (by simp; omega) (fun u hu => h1 u (by simp [hu]))
    refine ⟨w', ?_, h3, grownBy_trans (b := w.setCell ⟨b, o + i, none⟩ v) ⟨rfl, rfl, rfl, by simp [World.setCell], fun k _ hk => Below.heap_setCell _ _ _ _ (fun e => hk (by rw [e]))⟩ h4⟩
    unfold storeCells
    rw [Addr.add_lit]
    simp [hs, h2]

/-- A block written from a place on. -/
def Wrote (w : World) (b : Nat) (cs : Array Value) (T : TypeId) (w' : World) : Prop := w'.heap[b]? = some (.cells cs T (0, 0)) ∧ w.grownBy w' (some b)

theorem d_store {t T : TypeId} {x y : Operand} {b o : Nat} {cs cs' : Array Value} {v : Value} (hx : evO L x = some (.pointer (some ⟨b, o, none⟩))) (hy : evO L y = some v) (hs : (P.info? t).map (·.size) = some v.cells.size) (h1 : ∀ u ∈ v.cells.toList, u.oneCell' = true)
    (hb : w.heap[b]? = some (.cells cs T (0, 0))) (hl : o + v.cells.size ≤ cs.size) (hcs : setAll cs o v.cells.toList = cs') : Does P L ⟨d, .store t x y, ty, ps, af, g⟩ w (fun _ w' => Wrote w b cs' T w') := by
  obtain ⟨ii, hii, hss⟩ : ∃ ii, P.info? t = some ii ∧ ii.size = v.cells.size := by
    cases hh : P.info? t with
    | none => rw [hh] at hs; cases hs
    | some ii => rw [hh] at hs; exact ⟨ii, rfl, by simpa using hs⟩
  obtain ⟨w', h2, h3, h4⟩ := storeCells_run (P := P) v.cells.toList w b o 0 cs T hb (by simpa using hl) h1
  rw [Nat.add_zero, hcs] at h3
  intro a K Q ha hK
  unfold Oper.wp
  have hr : (execOp a.eval ⟨d, .store t x y, ty, ps, af, g⟩).run P w = .ok .skip w' := by
    simp only [execOp, ha x _ hx, ha y _ hy, Instr.storeAt, Instr.sureAddr]
    simp [storeVar, sizeOf, typeInfo, hii, hss, h2]
  rw [hr]
  exact hK undef w' ⟨h3, h4⟩

theorem d_bslice {t e : TypeId} {n : Nat} {parts : Array (Nat × Operand)} {vs : List (Nat × Value)} {cs : Array Value} {z : Value} {sz : Nat} (hv : parts.toList.map (fun p => (p.1, evO L p.2)) = vs.map (fun p => (p.1, some p.2))) (ht : P.underlying t = some (.slice e)) (hi : (P.info? e).map (fun i => (i.zero, i.size)) = some (some z, sz))
    (hn : (Nat.ble (n * sz) 16777216 && Nat.blt 0 (n * sz)) = true) (hf : Instr.fill (fun i => some (i * sz, sz)) ((Array.range (n * sz)).map (z.cells[· % z.cells.size]!)) vs = some cs) :
    Does P L ⟨d, .buildSlice t n parts, ty, ps, af, g⟩ w (fun v w' => ∃ b, v = .slice (some ⟨b, 0, none⟩) n n ∧ Fresh w cs e b w') := by
  obtain ⟨ie, hie, hz, hs⟩ : ∃ ie, P.info? e = some ie ∧ ie.zero = some z ∧ ie.size = sz := by
    cases hh : P.info? e with
    | none => rw [hh] at hi; cases hi
    | some ie => rw [hh] at hi; simp at hi; exact ⟨ie, rfl, hi.1, hi.2⟩
  subst hs
  simp only [Bool.and_eq_true, Nat.ble_eq, Nat.blt_eq] at hn
  refine Runs.does (v := .slice (some ⟨w.heap.size, 0, none⟩) n n) (w' := w.alloc (.cells cs e)) (fun ρ hρ => ?_) ⟨_, rfl, fresh_alloc _ _ _⟩
  have he : (parts.map fun (i, x) => (i, ρ x)).toList = vs := by
    simp only [Array.toList_map]
    have : ∀ (l : List (Nat × Operand)) (us : List (Nat × Value)), l.map (fun p => (p.1, evO L p.2)) = us.map (fun p => (p.1, some p.2)) → l.map (fun (i, x) => (i, ρ x)) = us := by
      intro l
      induction l with
      | nil => intro us h; cases us with | nil => rfl | cons u us => simp at h
      | cons x l ih =>
        intro us h
        cases us with
        | nil => simp at h
        | cons u us =>
          simp only [List.map_cons, List.cons.injEq, Prod.mk.injEq] at h ⊢
          exact ⟨by rw [hρ x.2 u.2 h.1.2, h.1.1], ih us h.2⟩
    exact this _ _ hv
  have hr := run_buildSlice (P := P) w t e n (parts.map fun (i, x) => (i, ρ x)) cs ie z ht hie hz (by omega) (by omega) (by rw [he]; exact hf)
  simp only [execOp]
  simp [hr]

theorem r_build {t : TypeId} {parts : Array (Nat × Operand)} {vs : List (Nat × Value)} {cs : Array Value} (hv : parts.toList.map (fun p => (p.1, evO L p.2)) = vs.map (fun p => (p.1, some p.2))) (hr : ∀ w, (Instr.build t vs.toArray).run P w = .ok (.agg cs) w) :
    Runs P L ⟨d, .build t parts, ty, ps, af, g⟩ w (.agg cs) w := by
  intro ρ hρ
  have he : (parts.map fun (i, x) => (i, ρ x)) = vs.toArray := by
    apply Array.ext'
    simp only [Array.toList_map]
    have : ∀ (l : List (Nat × Operand)) (us : List (Nat × Value)), l.map (fun p => (p.1, evO L p.2)) = us.map (fun p => (p.1, some p.2)) → l.map (fun (i, x) => (i, ρ x)) = us := by
      intro l
      induction l with
      | nil => intro us h; cases us with | nil => rfl | cons u us => simp at h
      | cons x l ih =>
        intro us h
        cases us with
        | nil => simp at h
        | cons u us =>
          simp only [List.map_cons, List.cons.injEq, Prod.mk.injEq] at h ⊢
          exact ⟨by rw [hρ x.2 u.2 h.1.2, h.1.1], ih us h.2⟩
    exact this _ _ hv
  simp only [execOp, he]
  simp [hr]

theorem r_field {t : TypeId} {x : Operand} {f : Nat} {cs : Array Value} {v : Value} (hx : evO L x = some (.agg cs)) (hr : ∀ w, (Instr.field t (.agg cs) f).run P w = .ok v w) : Runs P L ⟨d, .field t x f, ty, ps, af, g⟩ w v w := by
  intro ρ hρ; simp only [execOp, hρ x _ hx]; simp [hr]

theorem callee_ok {f : FuncId} {fn : Func} (hf : P.funcs[f]? = some fn) (hb : fn.body.isNone = false) (hn : (fn.name == "runtime.NumGoroutine") = false) (args : Array Value) : (callFunc f args).run P w = .ok (.enter f args) w := by
  have h1 : ¬ fn.name = "runtime.NumGoroutine" := by simpa using hn
  have h2 : ¬ fn.body = none := by cases h : fn.body <;> simp_all
  simp [callFunc, hf, h1, h2]

theorem d_call {f : FuncId} {xs : Array Operand} {tys : Array TypeId} {vs : List Value} {R : Value → World → Prop} {fn : Func} (hv : xs.toList.map (evO L) = vs.map some) (hf : P.funcs[f]? = some fn) (hb : fn.body.isNone = false) (hn : (fn.name == "runtime.NumGoroutine") = false)
    (hc : Calls P f vs.toArray w (fun e w' => ∃ v, e = .returned v ∧ R v w')) : Does P L ⟨d, .call { callee := .value (.func f), args := xs, argTypes := tys }, ty, ps, af, g⟩ w R := by
  intro a K Q ha hK
  unfold Oper.wp
  have he : xs.map a.eval = vs.toArray := by
    apply Array.ext'
    simp only [Array.toList_map]
    have : ∀ (l : List Operand) (us : List Value), l.map (evO L) = us.map some → l.map a.eval = us := by
      intro l
      induction l with
      | nil => intro us h; cases us with | nil => rfl | cons u us => simp at h
      | cons x l ih =>
        intro us h
        cases us with
        | nil => simp at h
        | cons u us =>
          simp only [List.map_cons, List.cons.injEq] at h ⊢
          exact ⟨ha x u h.1, ih us h.2⟩
    exact this _ _ hv
  have hr : (execOp a.eval ⟨d, .call { callee := .value (.func f), args := xs, argTypes := tys }, ty, ps, af, g⟩).run P w = .ok (.enter f vs.toArray) w := by
    have h3 := ha (.func f) _ rfl
    simp only [execOp, resolve, he, h3, Deferred.ofValue]
    simp [invoke, callee_ok hf hb hn]
  rw [hr]
  simp only [Oper.upon]
  refine Calls.mono hc fun e w' he => ?_
  obtain ⟨v, rfl, h⟩ := he
  exact hK v w' h

section
variable {f : FuncId} {xs : Array Operand} {tys : Array TypeId} {vs : List Value} {fn : Func} {v : Value}
theorem d_callX {R : Value → World → Prop} (hv : xs.toList.map (evO L) = vs.map some) (hf : P.funcs[f]? = some fn) (hb : fn.body.isNone = false) (hn : (fn.name == "runtime.NumGoroutine") = false)
    (hc : Calls P f vs.toArray w (fun e w' => ∃ v, e = .returned v ∧ R v w')) : Does P L ⟨d, .call { callee := .value (.func f), args := xs, argTypes := tys }, ty, ps, af, g⟩ w R := d_call hv hf hb hn hc
theorem d_callS (hv : xs.toList.map (evO L) = vs.map some) (hf : P.funcs[f]? = some fn) (hb : fn.body.isNone = false) (hn : (fn.name == "runtime.NumGoroutine") = false)
    (hc : Calls P f vs.toArray w (fun e w' => e = .returned v ∧ w = w')) : Does P L ⟨d, .call { callee := .value (.func f), args := xs, argTypes := tys }, ty, ps, af, g⟩ w (fun u w' => u = v ∧ w = w') :=
  d_call hv hf hb hn (Calls.mono hc fun e w' h => ⟨v, h.1, rfl, h.2⟩)
theorem d_callB (hv : xs.toList.map (evO L) = vs.map some) (hf : P.funcs[f]? = some fn) (hb : fn.body.isNone = false) (hn : (fn.name == "runtime.NumGoroutine") = false)
    (hc : Calls P f vs.toArray w (fun e w' => e = .returned v ∧ Below w.heap.size w w')) : Does P L ⟨d, .call { callee := .value (.func f), args := xs, argTypes := tys }, ty, ps, af, g⟩ w (fun u w' => u = v ∧ Below w.heap.size w w') :=
  d_call hv hf hb hn (Calls.mono hc fun e w' h => ⟨v, h.1, rfl, h.2⟩)
end
end
end Go.Proofs.Ytbllifhcfgjdlaa
