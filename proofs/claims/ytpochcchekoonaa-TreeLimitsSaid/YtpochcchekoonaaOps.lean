/-
  One rule for each kind of operation, over the frames of the engine. It speaks of no program.
-/
import Derived.Test.YtpochcchekoonaaMem
namespace Go.Rf
set_option linter.unusedVariables false
set_option linter.unusedSimpArgs false
open Go.RowKit

class IntT (P : Program) (t : Nat) (k : outParam IntKind) : Prop where u : P.underlying t = some (.int k)
class StrT (P : Program) (t : Nat) : Prop where u : P.underlying t = some .string
class SliceT (P : Program) (t : Nat) (e : outParam Nat) : Prop where u : P.underlying t = some (.slice e)
def aggD : TypeDesc → Bool | .struct _ => true | .array _ _ => true | _ => false
class OneT (P : Program) (t : Nat) : Prop where
  agg : ∃ d, P.underlying t = some d ∧ aggD d = false
  size : ∃ i, P.info? t = some i ∧ i.size = 1
class AggT (P : Program) (t : Nat) (n : outParam Nat) : Prop where
  agg : ∃ d, P.underlying t = some d ∧ aggD d = true
  size : ∃ i, P.info? t = some i ∧ i.size = n
class ZeroT (P : Program) (t : Nat) (z : outParam Value) : Prop where z : ∃ i, P.info? t = some i ∧ i.zero = some z
class FieldT (P : Program) (s i : Nat) (off : outParam Nat) : Prop where
  f : ∃ fs fd j, P.underlying s = some (.struct fs) ∧ fs[i]? = some fd ∧ fd.offset = off ∧ P.info? fd.type = some j ∧ j.size ≠ 0
class FnT (P : Program) (k : Nat) : Prop where
  f : ∃ fn, P.funcs[k]? = some fn ∧ (fn.name == "runtime.NumGoroutine") = false ∧ fn.body.isNone = false

theorem beq_dec (a b : List UInt8) : (a == b) = decide (a = b) := by
  by_cases h : a = b
  · simp [h]
  · simp [h]
theorem run_isAgg {P : Program} {t : Nat} {d : TypeDesc} (h : P.underlying t = some d) (w : World) : (isAgg t).run P w = .ok (aggD d) w := by
  simp only [isAgg, Sem.run_bind, run_underlying h, Result.andThen_ok]
  cases d <;> rfl
theorem OneT.load {P : Program} {t : Nat} [o : OneT P t] (a : Addr) {w : World} {v : Value} (hc : w.cell? a = some v) : (loadVar t a).run P w = .ok v w := by
  obtain ⟨d, hd, ha⟩ := o.agg
  simp only [loadVar, Sem.run_bind, run_isAgg hd, ha, Result.andThen_ok, if_false, Bool.false_eq_true]
  simp [load, Sem.run, hc]
theorem AggT.load {P : Program} {t n : Nat} [o : AggT P t n] (a : Addr) {w : World} (l : List Value) (hl : l.length = n) (hc : ∀ j u, l[j]? = some u → w.cell? (a.add j) = some u) : (loadVar t a).run P w = .ok (.agg l.toArray) w := by
  obtain ⟨d, hd, ha⟩ := o.agg
  obtain ⟨i, hi, hs⟩ := o.size
  have := run_loadCells_list (P := P) w a l hc
  simp [loadVar, run_isAgg hd, ha, sizeOf, typeInfo, hi, hs, ← hl, this]

section
variable {D : Dfs}
variable {P : Program} {ops : Array Oper} {Q : Exit → Act → World → Prop} {rest : List Oper} {n : Nat} {f : Env} {w : World}
variable {d : Nat} {ty : TypeId} {ps : String} {af : Array Edge} {x y : Operand} {t t2 : Nat}

theorem s_move (h : wpList P ops Q rest (A n (upd f d (ev n f x))) w) : wpList P ops Q (⟨some d, .move x, ty, ps, af, none⟩ :: rest) (A n f) w := s_run (by simp [execOp]) h
theorem s_assign (h : wpList P ops Q rest (A n (upd f d (ev n f x))) w) : wpList P ops Q (⟨some d, .assign x, ty, ps, af, none⟩ :: rest) (A n f) w := s_run (by simp [execOp]) h
theorem s_moveV {v : Value} (hx : ev n f x = v) (h : wpList P ops Q rest (A n (upd f d v)) w) : wpList P ops Q (⟨some d, .move x, ty, ps, af, none⟩ :: rest) (A n f) w := s_run (by simp [execOp, hx]) h
theorem s_assignV {v : Value} (hx : ev n f x = v) (h : wpList P ops Q rest (A n (upd f d v)) w) : wpList P ops Q (⟨some d, .assign x, ty, ps, af, none⟩ :: rest) (A n f) w := s_run (by simp [execOp, hx]) h
theorem s_pickV {c : Operand} {b : Bool} {v : Value} (hc : ev n f c = .bool b) (hv : ev n f (cond b x y) = v) (h : wpList P ops Q rest (A n (upd f d v)) w) : wpList P ops Q (⟨some d, .pick c x y, ty, ps, af, none⟩ :: rest) (A n f) w :=
  s_run (v := v) (by cases b <;> simp_all [execOp, asBool]) h
theorem s_pick {c : Operand} {b : Bool} (hc : ev n f c = .bool b) (h : wpList P ops Q rest (A n (upd f d (ev n f (cond b x y)))) w) : wpList P ops Q (⟨some d, .pick c x y, ty, ps, af, none⟩ :: rest) (A n f) w :=
  s_run (v := ev n f (cond b x y)) (by cases b <;> simp [execOp, hc, asBool]) h
theorem s_nilCheck {a : Addr} (hx : ev n f x = .pointer (some a)) (h : wpList P ops Q rest (A n (upd f d (.pointer (some a)))) w) : wpList P ops Q (⟨some d, .nilCheck x, ty, ps, af, none⟩ :: rest) (A n f) w :=
  s_run (by simp [execOp, hx]) h
theorem s_fieldAddr {s i off : Nat} {a : Addr} [F : FieldT P s i off] (hx : ev n f x = .pointer (some a)) (h : wpList P ops Q rest (A n (upd f d (.pointer (some (a.add off))))) w) :
    wpList P ops Q (⟨some d, .fieldAddr s x i, ty, ps, af, none⟩ :: rest) (A n f) w := by
  obtain ⟨fs, fd, j, h1, h2, h3, h4, h5⟩ := F.f
  exact s_run (by simp [execOp, hx, Instr.fieldAt, run_underlying h1, h2, Instr.sureAddr, fieldPlace, sizeOf, typeInfo, h4, h5, h3]) h
theorem s_fieldB {s i off b o : Nat} [F : FieldT P s i off] (hx : ev n f x = .pointer (some ⟨b, o, none⟩)) (h : wpList P ops Q rest (A n (upd f d (.pointer (some ⟨b, o + off, none⟩)))) w) :
    wpList P ops Q (⟨some d, .fieldAddr s x i, ty, ps, af, none⟩ :: rest) (A n f) w := by
  refine s_fieldAddr hx ?_
  rw [add_lit]; exact h
theorem s_field0 {s i off b : Nat} [F : FieldT P s i off] (hx : ev n f x = .pointer (some ⟨b, 0, none⟩)) (h : wpList P ops Q rest (A n (upd f d (.pointer (some ⟨b, off, none⟩)))) w) :
    wpList P ops Q (⟨some d, .fieldAddr s x i, ty, ps, af, none⟩ :: rest) (A n f) w := by
  refine s_fieldB hx ?_
  rw [Nat.zero_add]; exact h

/-! arithmetic: the result's equation 'hr' takes the wrap away where the bounds are known -/
theorem s_add {k : IntKind} {a b r : Int} (hx : ev n f x = .int k a) (hy : ev n f y = .int k b) (hr : k.wrap (a + b) = r) (h : wpList P ops Q rest (A n (upd f d (.int k r))) w) :
    wpList P ops Q (⟨some d, .binOp .add t x y t2, ty, ps, af, none⟩ :: rest) (A n f) w := s_run (by simp [execOp, eqGuard, binOp, Op.intArith, hx, hy, hr]) h
theorem s_sub {k : IntKind} {a b r : Int} (hx : ev n f x = .int k a) (hy : ev n f y = .int k b) (hr : k.wrap (a - b) = r) (h : wpList P ops Q rest (A n (upd f d (.int k r))) w) :
    wpList P ops Q (⟨some d, .binOp .sub t x y t2, ty, ps, af, none⟩ :: rest) (A n f) w := s_run (by simp [execOp, eqGuard, binOp, Op.intArith, hx, hy, hr]) h
theorem s_mul {k : IntKind} {a b r : Int} (hx : ev n f x = .int k a) (hy : ev n f y = .int k b) (hr : k.wrap (a * b) = r) (h : wpList P ops Q rest (A n (upd f d (.int k r))) w) :
    wpList P ops Q (⟨some d, .binOp .mul t x y t2, ty, ps, af, none⟩ :: rest) (A n f) w := s_run (by simp [execOp, eqGuard, binOp, Op.intArith, hx, hy, hr]) h
theorem s_quo {k : IntKind} {a b r : Int} (hx : ev n f x = .int k a) (hy : ev n f y = .int k b) (h0 : ¬ b = 0) (hr : k.wrap (a.tdiv b) = r) (h : wpList P ops Q rest (A n (upd f d (.int k r))) w) :
    wpList P ops Q (⟨some d, .binOp .quo t x y t2, ty, ps, af, none⟩ :: rest) (A n f) w := s_run (by simp [execOp, eqGuard, binOp, Op.intDiv, hx, hy, h0, hr]) h
theorem s_rem {k : IntKind} {a b r : Int} (hx : ev n f x = .int k a) (hy : ev n f y = .int k b) (h0 : ¬ b = 0) (hr : a.tmod b = r) (h : wpList P ops Q rest (A n (upd f d (.int k r))) w) :
    wpList P ops Q (⟨some d, .binOp .rem t x y t2, ty, ps, af, none⟩ :: rest) (A n f) w := s_run (by simp [execOp, eqGuard, binOp, Op.intDiv, hx, hy, h0, hr]) h
theorem s_and {k : IntKind} {a b r : Int} (hx : ev n f x = .int k a) (hy : ev n f y = .int k b) (hr : k.wrap ((BitVec.ofInt k.bits a &&& BitVec.ofInt k.bits b).toNat : Int) = r) (h : wpList P ops Q rest (A n (upd f d (.int k r))) w) :
    wpList P ops Q (⟨some d, .binOp .and t x y t2, ty, ps, af, none⟩ :: rest) (A n f) w := s_run (by simp only [execOp, eqGuard, binOp, Op.intBits, hx, hy, hr]; simp) h
theorem s_or {k : IntKind} {a b r : Int} (hx : ev n f x = .int k a) (hy : ev n f y = .int k b) (hr : k.wrap ((BitVec.ofInt k.bits a ||| BitVec.ofInt k.bits b).toNat : Int) = r) (h : wpList P ops Q rest (A n (upd f d (.int k r))) w) :
    wpList P ops Q (⟨some d, .binOp .or t x y t2, ty, ps, af, none⟩ :: rest) (A n f) w := s_run (by simp only [execOp, eqGuard, binOp, Op.intBits, hx, hy, hr]; simp) h
theorem s_xor {k : IntKind} {a b r : Int} (hx : ev n f x = .int k a) (hy : ev n f y = .int k b) (hr : k.wrap ((BitVec.ofInt k.bits a ^^^ BitVec.ofInt k.bits b).toNat : Int) = r) (h : wpList P ops Q rest (A n (upd f d (.int k r))) w) :
    wpList P ops Q (⟨some d, .binOp .xor t x y t2, ty, ps, af, none⟩ :: rest) (A n f) w := s_run (by simp only [execOp, eqGuard, binOp, Op.intBits, hx, hy, hr]; simp) h
theorem s_shl {k k2 : IntKind} {a b r : Int} (hx : ev n f x = .int k a) (hy : ev n f y = .int k2 b) (h0 : ¬ b < 0) (hr : k.wrap (a * 2 ^ (min b.toNat k.bits)) = r) (h : wpList P ops Q rest (A n (upd f d (.int k r))) w) :
    wpList P ops Q (⟨some d, .binOp .shl t x y t2, ty, ps, af, none⟩ :: rest) (A n f) w := s_run (by simp [execOp, eqGuard, binOp, Op.shift, hx, hy, h0, hr]) h
theorem s_shr {k k2 : IntKind} {a b r : Int} (hx : ev n f x = .int k a) (hy : ev n f y = .int k2 b) (h0 : ¬ b < 0) (hr : a.fdiv (2 ^ (min b.toNat k.bits)) = r) (h : wpList P ops Q rest (A n (upd f d (.int k r))) w) :
    wpList P ops Q (⟨some d, .binOp .shr t x y t2, ty, ps, af, none⟩ :: rest) (A n f) w := s_run (by simp [execOp, eqGuard, binOp, Op.shift, hx, hy, h0, hr]) h
theorem s_neg {k : IntKind} {a r : Int} (hx : ev n f x = .int k a) (hr : k.wrap (0 - a) = r) (h : wpList P ops Q rest (A n (upd f d (.int k r))) w) :
    wpList P ops Q (⟨some d, .unOp .neg t x, ty, ps, af, none⟩ :: rest) (A n f) w := s_run (by simp only [execOp, Op.unary, Op.intArith, hx, hr]; simp) h
theorem s_not {b : Bool} (hx : ev n f x = .bool b) (h : wpList P ops Q rest (A n (upd f d (.bool (!b)))) w) :
    wpList P ops Q (⟨some d, .unOp .not t x, ty, ps, af, none⟩ :: rest) (A n f) w := s_run (by simp [execOp, Op.unary, hx]) h
theorem s_conv {k k0 : IntKind} {a r : Int} {src dst : Nat} [S : IntT P src k0] [D : IntT P dst k] (hx : ev n f x = .int k0 a) (hr : k.wrap a = r) (h : wpList P ops Q rest (A n (upd f d (.int k r))) w) :
    wpList P ops Q (⟨some d, .convert src dst x, ty, ps, af, none⟩ :: rest) (A n f) w := s_run (by simp [execOp, convert, run_underlying S.u, run_underlying D.u, Conv.intToInt, hx, hr]) h

/-! comparisons: parted where they stand -/
theorem s_cmp {op : BinOp} {v v' : Value} {p : Prop} [Decidable p] (hx : ev n f x = v) (hy : ev n f y = v') (hr : (do eqGuard op t x y v v'; binOp op t v v' : Sem Value).run P w = .ok (.bool (decide p)) w)
    (ht : p → wpList P ops Q rest (A n (upd f d (.bool true))) w) (hf : ¬ p → wpList P ops Q rest (A n (upd f d (.bool false))) w) :
    wpList P ops Q (⟨some d, .binOp op t x y t2, ty, ps, af, none⟩ :: rest) (A n f) w := by
  by_cases hp : p
  · refine s_run (v := .bool true) ?_ (ht hp)
    simp only [execOp, hx, hy]
    rw [Sem.run_bind, hr]; simp [hp]
  · refine s_run (v := .bool false) ?_ (hf hp)
    simp only [execOp, hx, hy]
    rw [Sem.run_bind, hr]; simp [hp]
theorem s_eql {k : IntKind} {a b : Int} (hx : ev n f x = .int k a) (hy : ev n f y = .int k b) (ht : a = b → wpList P ops Q rest (A n (upd f d (.bool true))) w) (hf : ¬ a = b → wpList P ops Q rest (A n (upd f d (.bool false))) w) :
    wpList P ops Q (⟨some d, .binOp .eql t x y t2, ty, ps, af, none⟩ :: rest) (A n f) w := s_cmp hx hy (by simp [eqGuard, binOp, Op.intCmp]; rfl) ht hf
theorem s_neq {k : IntKind} {a b : Int} (hx : ev n f x = .int k a) (hy : ev n f y = .int k b) (ht : ¬ a = b → wpList P ops Q rest (A n (upd f d (.bool true))) w) (hf : a = b → wpList P ops Q rest (A n (upd f d (.bool false))) w) :
    wpList P ops Q (⟨some d, .binOp .neq t x y t2, ty, ps, af, none⟩ :: rest) (A n f) w :=
  s_cmp (p := ¬ a = b) hx hy (by simp [eqGuard, binOp, Op.intCmp, bne]; rfl) ht (fun h => hf (Decidable.byContradiction h))
theorem s_lss {k : IntKind} {a b : Int} (hx : ev n f x = .int k a) (hy : ev n f y = .int k b) (ht : a < b → wpList P ops Q rest (A n (upd f d (.bool true))) w) (hf : ¬ a < b → wpList P ops Q rest (A n (upd f d (.bool false))) w) :
    wpList P ops Q (⟨some d, .binOp .lss t x y t2, ty, ps, af, none⟩ :: rest) (A n f) w := s_cmp hx hy (by simp [eqGuard, binOp, Op.intCmp]) ht hf
theorem s_leq {k : IntKind} {a b : Int} (hx : ev n f x = .int k a) (hy : ev n f y = .int k b) (ht : a ≤ b → wpList P ops Q rest (A n (upd f d (.bool true))) w) (hf : ¬ a ≤ b → wpList P ops Q rest (A n (upd f d (.bool false))) w) :
    wpList P ops Q (⟨some d, .binOp .leq t x y t2, ty, ps, af, none⟩ :: rest) (A n f) w := s_cmp hx hy (by simp [eqGuard, binOp, Op.intCmp]) ht hf
theorem s_gtr {k : IntKind} {a b : Int} (hx : ev n f x = .int k a) (hy : ev n f y = .int k b) (ht : b < a → wpList P ops Q rest (A n (upd f d (.bool true))) w) (hf : ¬ b < a → wpList P ops Q rest (A n (upd f d (.bool false))) w) :
    wpList P ops Q (⟨some d, .binOp .gtr t x y t2, ty, ps, af, none⟩ :: rest) (A n f) w := s_cmp hx hy (by simp [eqGuard, binOp, Op.intCmp]) ht hf
theorem s_geq {k : IntKind} {a b : Int} (hx : ev n f x = .int k a) (hy : ev n f y = .int k b) (ht : b ≤ a → wpList P ops Q rest (A n (upd f d (.bool true))) w) (hf : ¬ b ≤ a → wpList P ops Q rest (A n (upd f d (.bool false))) w) :
    wpList P ops Q (⟨some d, .binOp .geq t x y t2, ty, ps, af, none⟩ :: rest) (A n f) w := s_cmp hx hy (by simp [eqGuard, binOp, Op.intCmp]) ht hf
theorem s_eqlS {a b : ByteArray} (hx : ev n f x = .string a) (hy : ev n f y = .string b) (ht : a.toList = b.toList → wpList P ops Q rest (A n (upd f d (.bool true))) w) (hf : ¬ a.toList = b.toList → wpList P ops Q rest (A n (upd f d (.bool false))) w) :
    wpList P ops Q (⟨some d, .binOp .eql t x y t2, ty, ps, af, none⟩ :: rest) (A n f) w := s_cmp hx hy (by simp [eqGuard, binOp, Op.stringOp, beq_dec]) ht hf
theorem s_neqS {a b : ByteArray} (hx : ev n f x = .string a) (hy : ev n f y = .string b) (ht : ¬ a.toList = b.toList → wpList P ops Q rest (A n (upd f d (.bool true))) w) (hf : a.toList = b.toList → wpList P ops Q rest (A n (upd f d (.bool false))) w) :
    wpList P ops Q (⟨some d, .binOp .neq t x y t2, ty, ps, af, none⟩ :: rest) (A n f) w :=
  s_cmp (p := ¬ a.toList = b.toList) hx hy (by simp [eqGuard, binOp, Op.stringOp, beq_dec]) ht (fun h => hf (Decidable.byContradiction h))

/-! slices, lengths -/
theorem s_len {ao : Option Addr} {l c e : Nat} [S : SliceT P t e] (hx : ev n f x = .slice ao l c) (h : wpList P ops Q rest (A n (upd f d (.int .i64 l))) w) :
    wpList P ops Q (⟨some d, .call { callee := .builtin .len, args := #[x], argTypes := #[t] }, ty, ps, af, none⟩ :: rest) (A n f) w :=
  s_run (by simp [execOp, resolve, invoke, builtin, Builtin.len_, run_underlying S.u, hx, goInt]) h
theorem s_lenS {s : ByteArray} [S : StrT P t] (hx : ev n f x = .string s) (h : wpList P ops Q rest (A n (upd f d (.int .i64 s.size))) w) :
    wpList P ops Q (⟨some d, .call { callee := .builtin .len, args := #[x], argTypes := #[t] }, ty, ps, af, none⟩ :: rest) (A n f) w :=
  s_run (by simp [execOp, resolve, invoke, builtin, Builtin.len_, run_underlying S.u, hx, goInt]) h
theorem s_min {k : IntKind} {a b r : Int} {at_ : Array TypeId} (hx : ev n f x = .int k a) (hy : ev n f y = .int k b) (hr : (if b < a then b else a) = r) (h : wpList P ops Q rest (A n (upd f d (.int k r))) w) :
    wpList P ops Q (⟨some d, .call { callee := .builtin .min, args := #[x, y], argTypes := at_ }, ty, ps, af, none⟩ :: rest) (A n f) w :=
  s_run (by simp [execOp, resolve, invoke, builtin, Builtin.min_, Builtin.min2, hx, hy, hr]) h
theorem s_indexAddr {ao : Option Addr} {a : Addr} {l c e size by_ : Nat} {k : IntKind} {i : Int} {j : Nat} [R : RowT P t e size by_] (hx : ev n f x = .slice ao l c) (hy : ev n f y = .int k i) (hi : i = (j : Int)) (hlt : j < l) (ha : ao = some a)
    (h : wpList P ops Q rest (A n (upd f d (.pointer (some (a.add (j * size)))))) w) : wpList P ops Q (⟨some d, .indexAddr t x y, ty, ps, af, none⟩ :: rest) (A n f) w := by
  obtain ⟨i0, z, hi0, hz, hs, hb, hzs⟩ := R.inf
  subst hi ha
  have h2 : (j : Int) < (l : Int) := by omega
  exact s_run (by simp [execOp, Instr.indexAt, hx, hy, asIntOf, run_underlying R.und, hlt, sizeOf, typeInfo, hi0, hs]) h
theorem s_slice {ao : Option Addr} {l c e size by_ : Nat} {lo hi : Option Operand} {j k : Nat} [R : RowT P t e size by_] (hx : ev n f x = .slice ao l c)
    (hlo : match lo with | some o => ∃ kk, ev n f o = .int kk (j : Int) | none => j = 0) (hhi : match hi with | some o => ∃ kk, ev n f o = .int kk (k : Int) | none => k = l) (h1 : j ≤ k) (h2 : k ≤ c) (h3 : l ≤ c)
    (h : wpList P ops Q rest (A n (upd f d (.slice (if c = j then ao else ao.map (·.add (j * size))) (k - j) (c - j)))) w) : wpList P ops Q (⟨some d, .slice t x lo hi none, ty, ps, af, none⟩ :: rest) (A n f) w := by
  obtain ⟨i0, z, hi0, hz, hs, hb, hzs⟩ := R.inf
  refine s_run (v := .slice (if c = j then ao else ao.map (·.add (j * size))) (k - j) (c - j)) (w' := w) ?_ h
  have e1 : (j : Int) ≤ (k : Int) := by omega
  cases lo with
  | none =>
    simp only at hlo; subst hlo
    cases hi with
    | none => simp only at hhi; subst hhi; simp [execOp, hx, Instr.sliceAt, Instr.slice, run_underlying R.und, Instr.sliceBounds, sizeOf, typeInfo, hi0, hs]
    | some o => obtain ⟨kk, hk⟩ := hhi; simp [execOp, hx, hk, Instr.sliceAt, Instr.slice, run_underlying R.und, Instr.sliceBounds, Instr.sliceBound, asIntOf, sizeOf, typeInfo, hi0, hs, h2]
  | some o' =>
    obtain ⟨kk', hk'⟩ := hlo
    cases hi with
    | none => simp only at hhi; subst hhi; simp [execOp, hx, hk', Instr.sliceAt, Instr.slice, run_underlying R.und, Instr.sliceBounds, Instr.sliceBound, asIntOf, sizeOf, typeInfo, hi0, hs, h1]
    | some o => obtain ⟨kk, hk⟩ := hhi; simp [execOp, hx, hk, hk', Instr.sliceAt, Instr.slice, run_underlying R.und, Instr.sliceBounds, Instr.sliceBound, asIntOf, sizeOf, typeInfo, hi0, hs, h1, h2]

/-- 's[j:k]' of a slice that can be read -/
theorem s_cut {ao : Option Addr} {l c e size by_ : Nat} {lo hi : Option Operand} {ys : List Value} (j k : Nat) [R : RowT P t e size by_] (hsrc : Src w (.slice ao l c) l ys) (hx : ev n f x = .slice ao l c) (hl : ys.length = l * size)
    (hlo : match lo with | some o => ∃ kk, ev n f o = .int kk (j : Int) | none => j = 0) (hhi : match hi with | some o => ∃ kk, ev n f o = .int kk (k : Int) | none => k = l) (h1 : j ≤ k) (h2 : k ≤ l)
    (h : ∀ ao' c', Src w (.slice ao' (k - j) c') (k - j) ((ys.take (k * size)).drop (j * size)) → (∀ ad', ao' = some ad' → ∃ ad, ao = some ad ∧ ad'.block = ad.block) → k - j ≤ c' → wpList P ops Q rest (A n (upd f d (.slice ao' (k - j) c'))) w) :
    wpList P ops Q (⟨some d, .slice t x lo hi none, ty, ps, af, none⟩ :: rest) (A n f) w := by
  have hlc : l ≤ c := by
    obtain ⟨ao', c', e, hm, _⟩ := hsrc
    simp only [Value.slice.injEq] at e
    omega
  refine s_slice hx hlo hhi h1 (by omega) hlc (h _ _ (hsrc.cut hl h1 h2) ?_ (by omega))
  intro ad' e
  split at e
  · exact ⟨ad', e, rfl⟩
  · obtain ⟨a0, ha0, hadd⟩ := Option.map_eq_some_iff.1 e
    subst hadd
    exact ⟨a0, ha0, add_block _ _⟩

/-! memory -/
theorem s_load {a : Addr} {v : Value} [O : OneT P t] (hx : ev n f x = .pointer (some a)) (hc : w.cell? a = some v) (h : wpList P ops Q rest (A n (upd f d v)) w) :
    wpList P ops Q (⟨some d, .load t x, ty, ps, af, none⟩ :: rest) (A n f) w := s_run (by simp [execOp, hx, Instr.loadAt, Instr.sureAddr, O.load a hc]) h
theorem s_loadB {b o tb : Nat} {l : List Value} {v : Value} [O : OneT P t] (hx : ev n f x = .pointer (some ⟨b, o, none⟩)) (hb : Blk w b l tb) (ho : l[o]? = some v) (h : wpList P ops Q rest (A n (upd f d v)) w) :
    wpList P ops Q (⟨some d, .load t x, ty, ps, af, none⟩ :: rest) (A n f) w := s_load hx (hb.cell ho) h
theorem s_loadAgg {a : Addr} {m : Nat} (l : List Value) [G : AggT P t m] (hx : ev n f x = .pointer (some a)) (hl : l.length = m) (hc : ∀ j u, l[j]? = some u → w.cell? (a.add j) = some u) (h : wpList P ops Q rest (A n (upd f d (.agg l.toArray))) w) :
    wpList P ops Q (⟨some d, .load t x, ty, ps, af, none⟩ :: rest) (A n f) w := s_run (by simp [execOp, hx, Instr.loadAt, Instr.sureAddr, G.load a l hl hc]) h
theorem s_loadAggB {b m tb : Nat} {l : List Value} [G : AggT P t m] (hx : ev n f x = .pointer (some ⟨b, 0, none⟩)) (hb : Blk w b l tb) (hl : l.length = m) (h : wpList P ops Q rest (A n (upd f d (.agg l.toArray))) w) :
    wpList P ops Q (⟨some d, .load t x, ty, ps, af, none⟩ :: rest) (A n f) w := s_loadAgg l hx hl (fun j u hu => by rw [add_lit]; exact hb.cell (by simpa using hu)) h
theorem s_storeB {b o tb : Nat} {l : List Value} {v : Value} [O : OneT P t] (hx : ev n f x = .pointer (some ⟨b, o, none⟩)) (hv : ev n f y = v) (h1 : v.oneCell' = true) (hb : Blk w b l tb) (ho_ : Nat.blt o l.length = true)
    (h : ∀ w', Blk w' b (l.set o v) tb → Fr [b] w w' → w'.heap.size = w.heap.size → wpList P ops Q rest (A n f) w') : wpList P ops Q (⟨none, .store t x y, ty, ps, af, none⟩ :: rest) (A n f) w := by
  obtain ⟨i, hi, hs⟩ := O.size
  have ho : o < l.length := Nat.le_of_ble_eq_true ho_
  have hcs : v.cells = #[v] := by cases v <;> simp_all [Value.cells, Value.oneCell']
  have hcell : w.cell? ⟨b, o, none⟩ = some l[o] := hb.cell (by simp [ho])
  have hfr : w.frozen? ⟨b, o, none⟩ = false := hb.free
  refine s_skip (w' := w.setCell ⟨b, o, none⟩ v) ?_ (h _ hb.set (Fr.setCell w ⟨b, o, none⟩ v) (by simp [World.setCell]))
  have hst := run_store P w ⟨b, o, none⟩ v .plain h1
  simp only [hcell, hfr] at hst
  simp [execOp, hx, hv, Instr.storeAt, Instr.sureAddr, storeVar, sizeOf, typeInfo, hi, hs, hcs, storeCells, add0, hst]
/-- a whole struct into its own block -/
theorem s_storeAggB {b tb m : Nat} {l cs : List Value} [G : AggT P t m] (hx : ev n f x = .pointer (some ⟨b, 0, none⟩)) (hv : ev n f y = .agg cs.toArray) (hb : Blk w b l tb) (h1 : ∀ c ∈ cs, c.oneCell' = true) (hl : l.length = m) (hc : cs.length = m)
    (h : ∀ w', Blk w' b cs tb → Fr [b] w w' → w'.heap.size = w.heap.size → wpList P ops Q rest (A n f) w') : wpList P ops Q (⟨none, .store t x y, ty, ps, af, none⟩ :: rest) (A n f) w := by
  obtain ⟨i, hi, hs⟩ := G.size
  have hst := run_storeCells_at P b 0 tb cs 0 l.toArray w hb (by simp [hl, hc]) h1
  simp only [Nat.add_zero, List.take_zero, List.nil_append] at hst
  have e : (cs ++ l.toArray.toList.drop (0 + cs.length)).toArray = cs.toArray := by
    simp [hl, hc, List.drop_of_length_le]
  rw [e] at hst
  refine s_skip (w' := w.setRow b cs.toArray) ?_ (h _ (setRow_heap w b l.toArray _ tb _ hb) ⟨rfl, rfl, rfl, by simp, fun k _ hk => setRow_other w b k _ (by simpa using hk)⟩ (by simp))
  simp [execOp, hx, hv, Instr.storeAt, Instr.sureAddr, storeVar, sizeOf, typeInfo, hi, hs, Value.cells, hc, hst]
/-- 'xs[j] = u' in a slice that is owned, elements of one cell -/
theorem s_storeOwn {e k j : Nat} {u : Value} {xs : List Value} {ao : Option Addr} {a : Addr} {c : Nat} [O : OneT P t] (hown : Own w e 1 (.slice ao k c) k xs) (hao : ao = some a) (hj : j < k) (hx : ev n f x = .pointer (some (a.add j))) (hv : ev n f y = u) (h1 : u.oneCell' = true)
    (h : ∀ w', Own w' e 1 (.slice ao k c) k (xs.set j u) → Fr (blks (.slice ao k c)) w w' → w'.heap.size = w.heap.size → wpList P ops Q rest (A n f) w') : wpList P ops Q (⟨none, .store t x y, ty, ps, af, none⟩ :: rest) (A n f) w := by
  obtain ⟨i, hi, hs⟩ := O.size
  have hcs : u.cells = #[u] := by cases u <;> simp_all [Value.cells, Value.oneCell']
  subst hao
  obtain ⟨hl, hh⟩ := id hown
  rcases hh with ⟨h0, _⟩ | ⟨g, cap, cur, hv', hb, hg, hnc, hcm, hcs', htk⟩
  · cases h0
  · simp only [Value.slice.injEq, Option.some.injEq] at hv'
    obtain ⟨rfl, _, rfl⟩ := hv'
    rw [add_lit, Nat.zero_add] at hx
    rw [Nat.mul_one] at hcs' hl htk
    have hblk : Blk w g cur.toList e := by unfold Blk; simpa using hg
    have hjl : j < cur.toList.length := by simp; omega
    have hcell : w.cell? ⟨g, j, none⟩ = some cur.toList[j] := hblk.cell (by simp [hjl])
    have hfr : w.frozen? ⟨g, j, none⟩ = false := hblk.free
    have hset : Blk (w.setCell ⟨g, j, none⟩ u) g (cur.toList.set j u) e := hblk.set
    refine s_skip (w' := w.setCell ⟨g, j, none⟩ u) ?_ (h _ ⟨by simp [hl], .inr ⟨g, c, (cur.toList.set j u).toArray, rfl, hb, hset, hnc, hcm, by simp [hcs'], ?_⟩⟩ (Fr.setCell w ⟨g, j, none⟩ u |>.mono (by simp [blks, Value.ownBlock])) (by simp [World.setCell]))
    · have hst := run_store P w ⟨g, j, none⟩ u .plain h1
      simp only [hcell, hfr] at hst
      simp [execOp, hx, hv, Instr.storeAt, Instr.sureAddr, storeVar, sizeOf, typeInfo, hi, hs, hcs, storeCells, add0, hst]
    · rw [Nat.mul_one, ← htk]
      simp [List.take_set]
theorem s_alloc {e : Nat} {z : Value} {l : List Value} [Z : ZeroT P e z] (hz : z.cells = l.toArray) (h : ∀ w', Blk w' w.heap.size l e → Fr [] w w' → w'.heap.size = w.heap.size + 1 → wpList P ops Q rest (A n (upd f d (.pointer (some ⟨w.heap.size, 0, none⟩)))) w') :
    wpList P ops Q (⟨some d, .alloc e, ty, ps, af, none⟩ :: rest) (A n f) w := by
  obtain ⟨i, hi, hzz⟩ := Z.z
  refine s_run (w' := w.alloc (.cells l.toArray e)) ?_ (h _ (Blk.new w l e) (Fr.alloc _ _ _) (by simp))
  simp [execOp, Instr.alloc, zeroValue, typeInfo, hi, hzz, newVar, newRow, hz]
theorem s_box {e : Nat} {v : Value} {l : List Value} (hx : ev n f x = v) (hv : v.cells = l.toArray) (h : ∀ w', Blk w' w.heap.size l e → Fr [] w w' → w'.heap.size = w.heap.size + 1 → wpList P ops Q rest (A n (upd f d (.pointer (some ⟨w.heap.size, 0, none⟩)))) w') :
    wpList P ops Q (⟨some d, .box e x, ty, ps, af, none⟩ :: rest) (A n f) w := by
  refine s_run (w' := w.alloc (.cells l.toArray e)) ?_ (h _ (Blk.new w l e) (Fr.alloc _ _ _) (by simp))
  simp [execOp, Instr.box, hx, newVar, newRow, hv]
/-- '[]T{}' -/
theorem s_build0 {e size by_ : Nat} [R : RowT P t e size by_] (h : ∀ w', Own w' e size (.slice (some ⟨w.heap.size, 0, none⟩) 0 0) 0 [] → Fr [] w w' → w'.heap.size = w.heap.size + 1 → wpList P ops Q rest (A n (upd f d (.slice (some ⟨w.heap.size, 0, none⟩) 0 0))) w') :
    wpList P ops Q (⟨some d, .buildSlice t 0 #[], ty, ps, af, none⟩ :: rest) (A n f) w := by
  obtain ⟨i0, z, hi0, hz, hs, hb, hzs⟩ := R.inf
  refine s_run (w' := w.alloc (.cells #[] e)) ?_ (h _ ⟨by simp, .inr ⟨w.heap.size, 0, #[], rfl, Nat.zero_le _, heap_alloc_new w _, Nat.le_refl _, Nat.zero_le _, by simp, by simp⟩⟩ (Fr.alloc _ _ _) (by simp))
  have e0 : Array.range 0 = #[] := rfl
  simp [execOp, Instr.buildSlice, run_underlying R.und, sizeOf, typeInfo, hi0, Instr.fill, newRow, e0]
/-- '[]T{x}' and what 'append(l, x)' makes of x: T of one cell -/
theorem s_build1 {e by_ : Nat} {v : Value} [R : RowT P t e 1 by_] (hx : ev n f x = v) (h1 : v.oneCell' = true) (h : ∀ w', Own w' e 1 (.slice (some ⟨w.heap.size, 0, none⟩) 1 1) 1 [v] → Fr [] w w' → w'.heap.size = w.heap.size + 1 → wpList P ops Q rest (A n (upd f d (.slice (some ⟨w.heap.size, 0, none⟩) 1 1))) w') :
    wpList P ops Q (⟨some d, .buildSlice t 1 #[(0, x)], ty, ps, af, none⟩ :: rest) (A n f) w := by
  obtain ⟨i0, z, hi0, hz, hs, hb, hzs⟩ := R.inf
  have hcs : v.cells = #[v] := by cases v <;> simp_all [Value.cells, Value.oneCell']
  refine s_run (w' := w.alloc (.cells #[v] e)) ?_ (h _ ⟨by simp, .inr ⟨w.heap.size, 1, #[v], rfl, Nat.zero_le _, heap_alloc_new w _, Nat.le_refl _, (by simp [maxLen]), by simp, by simp⟩⟩ (Fr.alloc _ _ _) (by simp))
  obtain ⟨zc, hzc⟩ : ∃ zc, z.cells = #[zc] := by
    have := hzs
    rcases hh : z.cells with ⟨l⟩
    rw [hh] at this
    match l, this with
    | [zc], _ => exact ⟨zc, rfl⟩
  have e1 : Array.range 1 = #[0] := rfl
  simp [execOp, Instr.buildSlice, run_underlying R.und, sizeOf, typeInfo, zeroValue, hi0, hz, hs, Instr.fill, newRow, hx, hcs, hzc, e1]
theorem s_append {s : Operand} {e size by_ : Nat} {v xv : Value} {k m : Nat} {xs ys : List Value} [R : RowT P t e size by_] (hown : Own w e size v k xs) (hs : ev n f s = v) (hsrc : Src w xv m ys) (hx : ev n f x = xv) (hl : ys.length = m * size) (h1 : ∀ u ∈ ys, u.oneCell' = true)
    (h63 : k + m ≤ maxLen) (hb : (k + m) * by_ ≤ 140737488355328)
    (h : ∀ v' w', Own w' e size v' (k + m) (xs ++ ys) → Fr (blks v) w w' → (∀ b ∈ blks v', b ∈ blks v ∨ w.heap.size ≤ b) → (v' = .slice none 0 0 ↔ v = .slice none 0 0 ∧ m = 0) → wpList P ops Q rest (A n (upd f d v')) w') :
    wpList P ops Q (⟨some d, .call { callee := .builtin .append, args := #[s, x], argTypes := #[t, t] }, ty, ps, af, none⟩ :: rest) (A n f) w := by
  obtain ⟨v', w', hr, a1, a2, a3, a4⟩ := run_app (P := P) (t := t) (xt := t) (ty := ty) (.inl ⟨e, R.und⟩) hown (hsrc.gives (P := P) hl h1) h63 hb
  exact s_run (by simp [execOp, resolve, invoke, builtin, hs, hx, hr]) (h v' w' a1 a2 a3 a4)
theorem s_appendS {s : Operand} {e by_ xt : Nat} {v : Value} {k : Nat} {xs : List Value} {str : ByteArray} [R : RowT P t e 1 by_] [X : StrT P xt] (hown : Own w e 1 v k xs) (hs : ev n f s = v) (hx : ev n f x = .string str)
    (h63 : k + str.size ≤ maxLen) (hb : (k + str.size) * by_ ≤ 140737488355328)
    (h : ∀ v' w', Own w' e 1 v' (k + str.size) (xs ++ str.data.toList.map fun c => .int .u8 c.toNat) → Fr (blks v) w w' → (∀ b ∈ blks v', b ∈ blks v ∨ w.heap.size ≤ b) → (v' = .slice none 0 0 ↔ v = .slice none 0 0 ∧ str.size = 0) → wpList P ops Q rest (A n (upd f d v')) w') :
    wpList P ops Q (⟨some d, .call { callee := .builtin .append, args := #[s, x], argTypes := #[t, xt] }, ty, ps, af, none⟩ :: rest) (A n f) w := by
  have hg : Gives P w 1 (.string str) str.size (str.data.toList.map fun c => .int .u8 c.toNat) :=
    ⟨by simp, fun u => by simp [Builtin.lenOf], fun u _ => by
      have : str.extract 0 str.size = str := by simp
      simp only [Builtin.firstCells, this, Sem.run_pure]
      congr 1
      apply Array.ext'
      simp
      , fun y hy => by obtain ⟨c, _, rfl⟩ := List.mem_map.1 hy; rfl⟩
  obtain ⟨v', w', hr, a1, a2, a3, a4⟩ := run_app (P := P) (t := t) (xt := xt) (ty := ty) (.inr X.u) hown hg h63 hb
  exact s_run (by simp [execOp, resolve, invoke, builtin, hs, hx, hr]) (h v' w' a1 a2 a3 a4)

/-! calls -/
theorem s_call {k : Nat} {l : List Operand} {vs : List Value} {at_ : Array TypeId} {R : Ending → World → Prop} [F : FnT P k] (hc : Calls P k vs.toArray w R) (ha : evs n f l = vs)
    (h : ∀ e w', R e w' → ∃ v, e = .returned v ∧ wpList P ops Q rest (A n (upd f d v)) w') : wpList P ops Q (⟨some d, .call { callee := .value (.func k), args := l.toArray, argTypes := at_ }, ty, ps, af, none⟩ :: rest) (A n f) w := by
  obtain ⟨fn, hf, hn, hb⟩ := F.f
  refine wpList_plain rfl fun K hK => ?_
  unfold Oper.wp
  rw [A_eval]
  have hr : (execOp (ev n f) ⟨some d, .call { callee := .value (.func k), args := l.toArray, argTypes := at_ }, ty, ps, af, none⟩).run P w = .ok (.enter k vs.toArray) w := by
    simp only [execOp, resolve, invoke, callFunc, ev, Deferred.ofValue, List.map_toArray, evs_map, ha]
    have hn' : ¬ fn.name = "runtime.NumGoroutine" := by simpa using hn
    have hb' : ¬ fn.body = none := by intro e; rw [e] at hb; cases hb
    simp [hf, hn', hb']
  rw [hr]
  show Calls P k vs.toArray w _
  refine hc.mono fun e w' hR => ?_
  obtain ⟨v, rfl, hw⟩ := h e w' hR
  show K _ _
  rw [A_put]
  exact hK _ _ hw
end
end Go.Rf
namespace Go.Rf
theorem info_parts_z {P : Program} {e size bytes : Nat} {z : Value} (h : (P.info? e).map (fun i => (i.zero, i.size, i.bytes)) = some (some z, size, bytes)) (hz : z.cells.size = size) :
    ∃ i z, P.info? e = some i ∧ i.zero = some z ∧ i.size = size ∧ i.bytes = bytes ∧ z.cells.size = size := by
  obtain ⟨i, hi, he⟩ := Option.map_eq_some_iff.1 h
  simp only [Prod.mk.injEq] at he
  exact ⟨i, z, hi, he.1, he.2.1, he.2.2, hz⟩
theorem info_size {P : Program} {t n : Nat} (h : (P.info? t).map (·.size) = some n) : ∃ i, P.info? t = some i ∧ i.size = n := Option.map_eq_some_iff.1 h
theorem info_zero {P : Program} {t : Nat} {z : Value} (h : (P.info? t).map (·.zero) = some (some z)) : ∃ i, P.info? t = some i ∧ i.zero = some z := Option.map_eq_some_iff.1 h
theorem field_of {P : Program} {s i off n : Nat} {fs : Array Field} {fd : Field} (hu : P.underlying s = some (.struct fs)) (hf : fs[i]? = some fd) (ho : fd.offset = off)
    (hi : (P.info? fd.type).map (·.size) = some n) (hn : n ≠ 0) : ∃ fs fd j, P.underlying s = some (.struct fs) ∧ fs[i]? = some fd ∧ fd.offset = off ∧ P.info? fd.type = some j ∧ j.size ≠ 0 := by
  obtain ⟨j, hj, he⟩ := Option.map_eq_some_iff.1 hi
  exact ⟨fs, fd, j, hu, hf, ho, hj, by rw [he]; exact hn⟩
end Go.Rf
