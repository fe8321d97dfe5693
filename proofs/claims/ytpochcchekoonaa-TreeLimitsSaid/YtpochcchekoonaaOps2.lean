/-
  More rules: composite literals, strings and bytes, function values. It speaks of no program.
-/
import Derived.Test.YtpochcchekoonaaDraw
import Derived.Laws.IdiomStrings
import Derived.Laws.BytesArg
import Derived.KernelRfl
namespace Go.Rf
open Go.RowKit
set_option linter.unusedVariables false
set_option linter.unusedSimpArgs false

/-! ### composite literals -/
def fillL (place : Nat → Option (Nat × Nat)) : List Value → List (Nat × Value) → Option (List Value)
  | cs, [] => some cs
  | cs, (i, v) :: r =>
    match place i with
    | none => none
    | some (off, size) => match v.cells.toList with
      | vc => cond (Nat.beq vc.length size && Nat.ble (off + vc.length) cs.length) (fillL place (cs.take off ++ vc ++ cs.drop (off + vc.length)) r) none
theorem foldl_set (vc : List Value) : ∀ (cs : List Value) (off k : Nat), off + k + vc.length ≤ cs.length →
    (vc.zipIdx k).foldl (fun (a : Array Value) (p : Value × Nat) => a.setIfInBounds (off + p.2) p.1) cs.toArray = (cs.take (off + k) ++ vc ++ cs.drop (off + k + vc.length)).toArray := by
  induction vc with
  | nil => intro cs off k _; simp
  | cons v vc ih =>
    intro cs off k h
    simp only [List.length_cons] at h
    rw [List.zipIdx_cons, List.foldl_cons]
    simp only [List.setIfInBounds_toArray]
    rw [ih _ off (k + 1) (by simp; omega)]
    congr 1
    rw [List.take_set, List.drop_set]
    have e1 : off + (k + 1) = off + k + 1 := by omega
    rw [e1]
    have hlt : off + k < cs.length := by omega
    rw [List.take_succ_eq_append_getElem hlt]
    simp only [List.length_cons]
    rw [if_pos (by omega)]
    have e2 : off + k + 1 + vc.length = off + k + (vc.length + 1) := by omega
    rw [e2]
    have e3 : (cs.take (off + k) ++ [cs[off + k]]).set (off + k) v = cs.take (off + k) ++ [v] := by
      rw [List.set_append_right _ _ (by simp; omega)]
      simp [Nat.min_eq_left (Nat.le_of_lt hlt)]
    rw [e3]
    simp
theorem fill_list (place : Nat → Option (Nat × Nat)) : ∀ (parts : List (Nat × Value)) (cs cells : List Value), fillL place cs parts = some cells → Instr.fill place cs.toArray parts = some cells.toArray := by
  intro parts
  induction parts with
  | nil => intro cs cells h; simp only [fillL, Option.some.injEq] at h; subst h; rfl
  | cons p r ih =>
    obtain ⟨i, v⟩ := p
    intro cs cells h
    unfold fillL at h
    unfold Instr.fill
    cases hp : place i with
    | none => rw [hp] at h; cases h
    | some os =>
      obtain ⟨off, size⟩ := os
      rw [hp] at h
      simp only at h ⊢
      cases hb : (Nat.beq v.cells.toList.length size && Nat.ble (off + v.cells.toList.length) cs.length) with
      | false => rw [hb] at h; cases h
      | true =>
        rw [hb] at h
        simp only [cond_true] at h
        simp only [Bool.and_eq_true] at hb
        have h1 := Nat.eq_of_beq_eq_true hb.1
        have h2 := Nat.le_of_ble_eq_true hb.2
        rw [Array.length_toList] at h1 h2
        rw [if_neg (by simp [h1]; omega)]
        have e : v.cells.zipIdx.foldl (fun (a : Array Value) (p : Value × Nat) => a.setIfInBounds (off + p.2) p.1) cs.toArray = (cs.take off ++ v.cells.toList ++ cs.drop (off + v.cells.toList.length)).toArray := by
          have := foldl_set v.cells.toList cs off 0 (by rw [Array.length_toList]; omega)
          rw [Nat.add_zero] at this
          rw [← this, ← Array.foldl_toList, Array.toList_zipIdx]
        rw [e]
        exact ih _ _ h
/-- a struct type: its zero cells, each field's place and size -/
class BuildT (P : Program) (t : Nat) (z : outParam (List Value)) (pl : outParam (List (Nat × Nat))) : Prop where
  z : ∃ i v, P.info? t = some i ∧ i.zero = some v ∧ v.cells = z.toArray
  pl : ∃ fs, P.underlying t = some (.struct fs) ∧ ∀ w, (fs.mapM (m := Sem) fun f => do pure (f.offset, ← sizeOf f.type)).run P w = .ok pl.toArray w
def zipP (n : Nat) (f : Env) : List (Nat × Operand) → List (Nat × Value)
  | [] => []
  | (i, x) :: l => (i, ev n f x) :: zipP n f l
theorem zipP_map (n : Nat) (f : Env) (l : List (Nat × Operand)) : l.map (fun p => (p.1, ev n f p.2)) = zipP n f l := by
  induction l with
  | nil => rfl
  | cons x l ih => obtain ⟨i, x⟩ := x; simp [zipP, ih]

section
variable {D : Dfs}
variable {P : Program} {ops : Array Oper} {Q : Exit → Act → World → Prop} {rest : List Oper} {n : Nat} {f : Env} {w : World}
variable {d : Nat} {ty : TypeId} {ps : String} {af : Array Edge} {x y : Operand} {t t2 : Nat} {gd : Option (Nat × Bool)}
theorem r_build {z : List Value} {pl : List (Nat × Nat)} {parts : List (Nat × Operand)} (cells : List Value) [B : BuildT P t z pl] (h : fillL (pl[·]?) z (zipP n f parts) = some cells) :
    (execOp (ev n f) ⟨some d, .build t parts.toArray, ty, ps, af, gd⟩).run P w = .ok (.value (.agg cells.toArray)) w := by
  obtain ⟨i, v, hi, hz, hc⟩ := B.z
  obtain ⟨fs, hu, hm⟩ := B.pl
  have hf := fill_list _ _ _ _ h
  simp only [execOp, Instr.build, List.map_toArray, zipP_map]
  have hm2 : (Array.mapM (fun f => Prod.mk f.offset <$> sizeOf f.type) fs).run P w = .ok pl.toArray w := by
    have := hm w
    simpa using this
  simp [zeroValue, typeInfo, hi, hz, hc, run_underlying hu, hm2, hf]
theorem s_build {z : List Value} {pl : List (Nat × Nat)} {parts : List (Nat × Operand)} (cells : List Value) [B : BuildT P t z pl] (h : fillL (pl[·]?) z (zipP n f parts) = some cells)
    (hk : wpList P ops Q rest (A n (upd f d (.agg cells.toArray))) w) : wpList P ops Q (⟨some d, .build t parts.toArray, ty, ps, af, none⟩ :: rest) (A n f) w := s_run (r_build cells h) hk
def zeros (z : List Value) : Nat → List Value
  | 0 => []
  | k + 1 => z ++ zeros z k
theorem zeros_len (z : List Value) (k : Nat) : (zeros z k).length = k * z.length := by
  induction k with
  | zero => simp [zeros]
  | succ k ih => simp [zeros, ih, Nat.succ_mul]; omega
theorem zeros_get (z : List Value) (hz : 0 < z.length) : ∀ (k i : Nat), i < k * z.length → (zeros z k)[i]? = z[i % z.length]? := by
  intro k
  induction k with
  | zero => intro i h; omega
  | succ k ih =>
    intro i h
    simp only [zeros]
    by_cases hi : i < z.length
    · rw [List.getElem?_append_left hi, Nat.mod_eq_of_lt hi]
    · rw [List.getElem?_append_right (by omega), ih _ (by rw [Nat.succ_mul] at h; omega)]
      congr 1
      rw [← Nat.mod_eq_sub_mod (by omega)]
/-- a slice type, with the zero cells of an element -/
class RowZ (P : Program) (t : Nat) (e size by_ : outParam Nat) (z : outParam (List Value)) : Prop where
  row : RowT P t e size by_
  z : ∃ i v, P.info? e = some i ∧ i.zero = some v ∧ v.cells = z.toArray ∧ z.length = size
theorem s_buildS {e size by_ len : Nat} {z : List Value} {parts : List (Nat × Operand)} (cells : List Value) [R : RowZ P t e size by_ z] (hlen : Nat.ble (len * size) 16777216 = true) (hpos : Nat.blt 0 len = true)
    (h : fillL (fun i => some (i * size, size)) (zeros z len) (zipP n f parts) = some cells) (hcl : cells.length = len * size)
    (hk : ∀ w', Own w' e size (.slice (some ⟨w.heap.size, 0, none⟩) len len) len cells → Fr [] w w' → w'.heap.size = w.heap.size + 1 → wpList P ops Q rest (A n (upd f d (.slice (some ⟨w.heap.size, 0, none⟩) len len))) w') :
    wpList P ops Q (⟨some d, .buildSlice t len parts.toArray, ty, ps, af, none⟩ :: rest) (A n f) w := by
  have Rr := R.row
  obtain ⟨i0, z0, hi0, hz0, hs, hb, hzs⟩ := Rr.inf
  obtain ⟨i, v, hi, hz, hc, hzl⟩ := R.z
  rw [hi0] at hi
  simp only [Option.some.injEq] at hi
  subst hi
  have hlen' := Nat.le_of_ble_eq_true hlen
  have hpos' : 0 < len := Nat.le_of_ble_eq_true hpos
  have hsz := Rr.pos
  have hne : ¬ (len * size = 0) := by
    have := Nat.mul_pos hpos' hsz
    omega
  have hzr : (Array.range (len * size)).map (fun i => z.toArray[i % z.toArray.size]!) = (zeros z len).toArray := by
    apply Array.ext_getElem?
    intro j
    rw [Array.getElem?_map]
    by_cases hj : j < len * size
    · simp only [Array.getElem?_range, hj]
      have := zeros_get z (by omega) len j (by rw [hzl]; exact hj)
      have hm : j % z.length < z.length := Nat.mod_lt _ (by omega)
      simp [this, hm, hj]
    · have : (zeros z len).length ≤ j := by rw [zeros_len, hzl]; omega
      simp [hj, this]
  have hf := fill_list _ _ _ _ h
  refine s_run (w' := w.alloc (.cells cells.toArray e)) ?_ (hk _ ⟨hcl, .inr ⟨w.heap.size, len, cells.toArray, rfl, Nat.zero_le _, heap_alloc_new w _, Nat.le_refl _, ?_, by simpa using hcl, by simp [← hcl]⟩⟩ (Fr.alloc _ _ _) (by simp))
  · simp only [execOp, Instr.buildSlice, List.map_toArray, zipP_map]
    have hgt : ¬ (16777216 < len * size) := by omega
    simp only [Sem.run_bind, run_underlying Rr.und, Result.andThen_ok, sizeOf, typeInfo, zeroValue]
    simp [hi0, hs, hgt, hne, hz, hc]
    simp at hzr
    rw [hzr, hf]
    simp [newRow]
  · have : len ≤ len * size := Nat.le_mul_of_pos_right _ hsz
    unfold maxLen; omega

/-! ### strings and bytes -/
def strOf (zs : List Int) : ByteArray := ⟨(zs.map fun z => UInt8.ofNat z.toNat).toArray⟩
class U8T (P : Program) (t : Nat) : Prop where e : ∃ e, P.underlying t = some (.slice e) ∧ P.underlying e = some (.int .u8)
theorem foldl_push (l : List Int) : ∀ r : ByteArray, l.foldl (fun r z => r.push (UInt8.ofNat z.toNat)) r = ⟨r.data ++ (l.map fun z => UInt8.ofNat z.toNat).toArray⟩ := by
  induction l with
  | nil => intro r; simp
  | cons b l ih =>
    intro r
    simp only [List.map_cons, List.foldl_cons]
    rw [ih]
    simp [ByteArray.push]
theorem r_toStr {ao : Option Addr} {m c dst : Nat} {zs : List Int} [U : U8T P t] [S : StrT P dst] (hx : ev n f x = .slice ao m c) (hsrc : Src w (.slice ao m c) m (zs.map (.int .u8))) (hl : zs.length = m) :
    (execOp (ev n f) ⟨some d, .convert t dst x, ty, ps, af, gd⟩).run P w = .ok (.value (.string (strOf zs))) w := by
  obtain ⟨e, hu, he⟩ := U.e
  obtain ⟨ao', c', eq, _, hn, hc⟩ := hsrc
  simp only [Value.slice.injEq] at eq
  obtain ⟨rfl, _, rfl⟩ := eq
  simp only [execOp, hx]
  cases ao with
  | none =>
    obtain ⟨rfl, rfl, h0⟩ := hn rfl
    have : zs = [] := by simpa using h0
    subst this
    simp [run_convert_bytes_nil w t e hu he 0 0 dst S.u, strOf, ByteArray.empty, ByteArray.emptyWithCapacity]
    rfl
  | some a =>
    have h1 := run_loadCells_list (P := P) w a (zs.map (.int .u8)) (hc a rfl)
    rw [List.length_map, hl] at h1
    simp only [Sem.run_bind]
    rw [run_convert_bytes_string w t dst e (some a) m c hu he S.u, run_bytesToString w a m c zs h1, foldl_push]
    simp [strOf, ByteArray.empty, ByteArray.emptyWithCapacity]
    rfl
theorem s_toStr {ao : Option Addr} {m c dst : Nat} {zs : List Int} [U : U8T P t] [S : StrT P dst] (hsrc : Src w (.slice ao m c) m (zs.map (.int .u8))) (hx : ev n f x = .slice ao m c) (hl : zs.length = m)
    (h : wpList P ops Q rest (A n (upd f d (.string (strOf zs)))) w) : wpList P ops Q (⟨some d, .convert t dst x, ty, ps, af, none⟩ :: rest) (A n f) w := s_run (r_toStr hx hsrc hl) h
theorem s_fromStr {src : Nat} {s : ByteArray} [U : U8T P t] [S : StrT P src] (hx : ev n f x = .string s)
    (h : ∀ c w', s.size ≤ c → Src w' (.slice (some ⟨w.heap.size, 0, none⟩) s.size c) s.size (s.data.toList.map fun b => .int .u8 b.toNat) → Fr [] w w' → wpList P ops Q rest (A n (upd f d (.slice (some ⟨w.heap.size, 0, none⟩) s.size c))) w') :
    wpList P ops Q (⟨some d, .convert src t x, ty, ps, af, none⟩ :: rest) (A n f) w := by
  obtain ⟨e, hu, he⟩ := U.e
  have hr := run_bytes_of_string w src t e s S.u hu he
  have hge := grownCap_ge w s.size 0 e
  refine s_run (by simp only [execOp, hx, Sem.run_bind, hr]; rfl) (h _ _ hge ⟨_, _, rfl, hge, fun e => (by cases e), ?_⟩ ?_)
  · intro ad ha j u hu
    simp only [Option.some.injEq] at ha
    subst ha
    rw [add_lit]
    simp only [World.cell?]
    rw [show ((0 : Nat) + j) = j by omega]
    have hb : (w.drew.alloc (.cells (bytesRow s (grownCap w s.size 0 e)) e ((bytesRow s (grownCap w s.size 0 e)).size, (bytesRow s (grownCap w s.size 0 e)).size + 1))).heap[w.heap.size]? = some (.cells (bytesRow s (grownCap w s.size 0 e)) e ((bytesRow s (grownCap w s.size 0 e)).size, (bytesRow s (grownCap w s.size 0 e)).size + 1)) := heap_alloc_new w.drew _
    rw [hb]
    simp only [Option.isSome_none, Bool.false_eq_true, if_false]
    have hj : j < s.data.size := by
      have := (List.getElem?_eq_some_iff.1 hu).1
      simpa using this
    have h2 : (s.data.map fun b => Value.int .u8 (b.toNat : Int))[j]? = some u := by
      rw [← Array.getElem?_toList, Array.toList_map]; exact hu
    show (bytesRow s (grownCap w s.size 0 e))[j]? = some u
    unfold bytesRow
    rw [Array.getElem?_append_left (by simpa using hj)]
    exact h2
  · exact (Fr.drew _ w).trans0 (Fr.alloc [] _ _)

/-! ### pointers against nil -/
class PtrT (P : Program) (t : Nat) : Prop where u : ∃ e, P.underlying t = some (.pointer e)
theorem equalIn_ptrNil (dd : Nat) {a : Addr} {e : Nat} (hu : P.underlying t = some (.pointer e)) : (Op.equalIn (dd + 1) t (.pointer (some a)) (.pointer none)).run P w = .ok false w := by
  simp [Op.equalIn, run_underlying hu]
theorem equal_ptrNil {a : Addr} {e : Nat} (hu : P.underlying t = some (.pointer e)) : (Op.equal t (.pointer (some a)) (.pointer none)).run P w = .ok false w := equalIn_ptrNil 9999 hu
theorem s_ptrNil {a : Addr} [T : PtrT P t] (hx : ev n f x = .pointer (some a)) (hy : ev n f y = .pointer none) (h : wpList P ops Q rest (A n (upd f d (.bool false))) w) :
    wpList P ops Q (⟨some d, .binOp .eql t x y t2, ty, ps, af, none⟩ :: rest) (A n f) w := by
  obtain ⟨e, hu⟩ := T.u
  have := equal_ptrNil (P := P) (w := w) (a := a) hu
  exact s_run (by simp [execOp, eqGuard, binOp, hx, hy, this]) h
theorem s_ptrNotNil {a : Addr} [T : PtrT P t] (hx : ev n f x = .pointer (some a)) (hy : ev n f y = .pointer none) (h : wpList P ops Q rest (A n (upd f d (.bool true))) w) :
    wpList P ops Q (⟨some d, .binOp .neq t x y t2, ty, ps, af, none⟩ :: rest) (A n f) w := by
  obtain ⟨e, hu⟩ := T.u
  have := equal_ptrNil (P := P) (w := w) (a := a) hu
  exact s_run (by simp [execOp, eqGuard, binOp, hx, hy, this]) h

/-! ### function values -/
theorem s_makeFunc {fn : Fn} {first captured : List Operand} {a b : List Value} (h1 : evs n f first = a) (h2 : evs n f captured = b) (h : wpList P ops Q rest (A n (upd f d (.func fn a.toArray b.toArray))) w) :
    wpList P ops Q (⟨some d, .makeFunc fn first.toArray captured.toArray, ty, ps, af, none⟩ :: rest) (A n f) w :=
  s_run (by simp only [execOp, Instr.makeFunc, List.map_toArray, evs_map, h1, h2]; simp) h
theorem s_callV {k : Nat} {g : Nat} {l : List Operand} {first cap vs all : List Value} {at_ : Array TypeId} {R : Ending → World → Prop} [F : FnT P k] (hc : Calls P k all.toArray w R) (hg : ev n f (.tmp g) = .func (.func k) first.toArray cap.toArray) (ha : evs n f l = vs)
    (hall : first ++ vs ++ cap = all) (h : ∀ e w', R e w' → ∃ v, e = .returned v ∧ wpList P ops Q rest (A n (upd f d v)) w') :
    wpList P ops Q (⟨some d, .call { callee := .value (.tmp g), args := l.toArray, argTypes := at_ }, ty, ps, af, none⟩ :: rest) (A n f) w := by
  obtain ⟨fn, hf, hn, hb⟩ := F.f
  subst hall
  refine wpList_plain rfl fun K hK => ?_
  unfold Oper.wp
  rw [A_eval]
  have hr : (execOp (ev n f) ⟨some d, .call { callee := .value (.tmp g), args := l.toArray, argTypes := at_ }, ty, ps, af, none⟩).run P w = .ok (.enter k (first ++ vs ++ cap).toArray) w := by
    simp only [execOp, resolve, invoke, callFunc, hg, Deferred.ofValue, List.map_toArray, evs_map, ha]
    have hn' : ¬ fn.name = "runtime.NumGoroutine" := by simpa using hn
    have hb' : ¬ fn.body = none := by intro e; rw [e] at hb; cases hb
    simp [hf, hn', hb']
  rw [hr]
  show Calls P k (first ++ vs ++ cap).toArray w _
  refine hc.mono fun e w' hR => ?_
  obtain ⟨v, rfl, hw⟩ := h e w' hR
  show K _ _
  rw [A_put]
  exact hK _ _ hw
end
end Go.Rf
namespace Go.Rf
theorem rowz_of {P : Program} {e size : Nat} {v : Value} {z : List Value} (h : (P.info? e).map (·.zero) = some (some v)) (hc : v.cells = z.toArray) (hl : z.length = size) : ∃ i v, P.info? e = some i ∧ i.zero = some v ∧ v.cells = z.toArray ∧ z.length = size := by
  obtain ⟨i, hi, he⟩ := Option.map_eq_some_iff.1 h
  exact ⟨i, v, hi, he, hc, hl⟩
theorem build_of {P : Program} {t : Nat} {v : Value} {z : List Value} (h : (P.info? t).map (·.zero) = some (some v)) (hc : v.cells = z.toArray) : ∃ i v, P.info? t = some i ∧ i.zero = some v ∧ v.cells = z.toArray := by
  obtain ⟨i, hi, he⟩ := Option.map_eq_some_iff.1 h
  exact ⟨i, v, hi, he, hc⟩
end Go.Rf
namespace Go.Rf
open Go.RowKit
/-- a stretch of decided steps -/
structure Got (G : Prop) : Prop where k : G
theorem rn {G G' : Prop} (k : G') (h : Got G' → G := by (intro h; (repeat (first | with_reducible refine wp_seq ?_ | with_reducible refine c_region ?_ | with_reducible refine wp_block ?_ | with_reducible refine wpList_nil ?_ | with_reducible refine wp_skip ?_ | with_reducible refine wp_exit ?_ | with_reducible refine wp_ret ?_ | with_reducible refine q_then ?_ | with_reducible refine q_then_exit ?_ | with_reducible refine q_then_ret ?_ | with_reducible refine q_blk ?_ | with_reducible refine q_blk_ret ?_ | with_reducible refine q_blk_eq ?_ | refine q_blk_ne rfl ?_ | refine c_true rfl ?_ | refine c_false rfl ?_ | ((with_reducible apply s_moveV); conv => lhs; whnf) | ((with_reducible apply s_assignV); conv => lhs; whnf) | refine g_yes rfl ?_ | refine g_no rfl ?_ | ((with_reducible apply s_pickV); exact rfl; conv => lhs; whnf) | refine s_nilCheck rfl ?_ | refine s_field0 rfl ?_ | refine s_fieldAddr rfl ?_ | refine s_len rfl ?_ | refine s_lenS rfl ?_ | refine s_not rfl ?_ | refine s_loadB rfl (by assumption) rfl ?_ | refine s_ptrNil rfl rfl ?_ | refine s_ptrNotNil rfl rfl ?_ | refine s_add rfl rfl (IntWalk.i64_in _ (by omega)) ?_ | refine s_sub rfl rfl (IntWalk.i64_in _ (by omega)) ?_ | refine s_mul rfl rfl (IntWalk.i64_in _ (by omega)) ?_ | refine s_neg rfl (IntWalk.i64_in _ (by omega)) ?_ | refine s_conv rfl (IntWalk.i64_in _ (by omega)) ?_ | refine s_quo rfl rfl (by omega) (IntWalk.i64_quo _ _ (by omega)) ?_ | refine s_rem rfl rfl (by omega) (Int.tmod_eq_emod_of_nonneg (by omega)) ?_ | refine s_add rfl rfl (IntWalk.u64_in _ (by omega)) ?_ | refine s_sub rfl rfl (IntWalk.u64_in _ (by omega)) ?_ | refine s_mul rfl rfl (IntWalk.u64_in _ (by omega)) ?_ | refine s_conv rfl (IntWalk.u64_in _ (by omega)) ?_ | refine s_conv rfl (IntWalk.u8_in _ (by omega)) ?_ | refine s_quo rfl rfl (by omega) (IntWalk.u64_quo _ _ (by omega)) ?_ | refine s_add rfl rfl (IntWalk.u8_in _ (by omega)) ?_ | refine s_sub rfl rfl (IntWalk.u8_in _ (by omega)) ?_ | refine s_lss rfl rfl (fun _ => ?_) (fun h => absurd h (by omega)) | refine s_lss rfl rfl (fun h => absurd h (by omega)) (fun _ => ?_) | refine s_leq rfl rfl (fun _ => ?_) (fun h => absurd h (by omega)) | refine s_leq rfl rfl (fun h => absurd h (by omega)) (fun _ => ?_) | refine s_gtr rfl rfl (fun _ => ?_) (fun h => absurd h (by omega)) | refine s_gtr rfl rfl (fun h => absurd h (by omega)) (fun _ => ?_) | refine s_geq rfl rfl (fun _ => ?_) (fun h => absurd h (by omega)) | refine s_geq rfl rfl (fun h => absurd h (by omega)) (fun _ => ?_) | refine s_eql rfl rfl (fun _ => ?_) (fun h => absurd h (by omega)) | refine s_eql rfl rfl (fun h => absurd h (by omega)) (fun _ => ?_) | refine s_neq rfl rfl (fun _ => ?_) (fun h => absurd h (by omega)) | refine s_neq rfl rfl (fun h => absurd h (by omega)) (fun _ => ?_))); exact h.k)) : G := h ⟨k⟩
theorem rnc {G G' : Prop} (k : G') (h : Got G' → G := by (intro h; (repeat (first | with_reducible refine wp_seq ?_ | with_reducible refine c_region ?_ | with_reducible refine wp_block ?_ | with_reducible refine wpList_nil ?_ | with_reducible refine wp_skip ?_ | with_reducible refine wp_exit ?_ | with_reducible refine wp_ret ?_ | with_reducible refine q_then ?_ | with_reducible refine q_then_exit ?_ | with_reducible refine q_then_ret ?_ | with_reducible refine q_blk ?_ | with_reducible refine q_blk_ret ?_ | with_reducible refine q_blk_eq ?_ | refine q_blk_ne rfl ?_ | refine c_true rfl ?_ | refine c_false rfl ?_ | ((with_reducible apply s_moveV); conv => lhs; whnf) | ((with_reducible apply s_assignV); conv => lhs; whnf) | refine g_yes rfl ?_ | refine g_no rfl ?_ | ((with_reducible apply s_pickV); exact rfl; conv => lhs; whnf) | refine s_nilCheck rfl ?_ | refine s_field0 rfl ?_ | refine s_fieldAddr rfl ?_ | refine s_len rfl ?_ | refine s_lenS rfl ?_ | refine s_not rfl ?_ | refine s_loadB rfl (by assumption) rfl ?_ | refine s_ptrNil rfl rfl ?_ | refine s_ptrNotNil rfl rfl ?_ | refine s_add rfl rfl (IntWalk.i64_in _ (by omega)) ?_ | refine s_sub rfl rfl (IntWalk.i64_in _ (by omega)) ?_ | refine s_mul rfl rfl (IntWalk.i64_in _ (by omega)) ?_ | refine s_neg rfl (IntWalk.i64_in _ (by omega)) ?_ | refine s_conv rfl (IntWalk.i64_in _ (by omega)) ?_ | refine s_quo rfl rfl (by omega) (IntWalk.i64_quo _ _ (by omega)) ?_ | refine s_rem rfl rfl (by omega) (Int.tmod_eq_emod_of_nonneg (by omega)) ?_ | refine s_add rfl rfl (IntWalk.u64_in _ (by omega)) ?_ | refine s_sub rfl rfl (IntWalk.u64_in _ (by omega)) ?_ | refine s_mul rfl rfl (IntWalk.u64_in _ (by omega)) ?_ | refine s_conv rfl (IntWalk.u64_in _ (by omega)) ?_ | refine s_conv rfl (IntWalk.u8_in _ (by omega)) ?_ | refine s_quo rfl rfl (by omega) (IntWalk.u64_quo _ _ (by omega)) ?_ | refine s_add rfl rfl (IntWalk.u8_in _ (by omega)) ?_ | refine s_sub rfl rfl (IntWalk.u8_in _ (by omega)) ?_)); exact h.k)) : G := h ⟨k⟩
theorem d_tk {D : Dfs} {P : Program} {Q : Exit → Act → World → Prop} {S : World → Prop} {n : Nat} {f : Env} {w : World} {l : List Oper} {fuel : Nat} {listed : Array Bool} {d : Nat} {op : Op} {ty : TypeId} {ps : String} {af : Array Edge} {v : Value} [hQ : PanicOk Q] (i : Nat) (hS : S w)
    (h : wpAnyH P .any l.toArray Q S fuel (listed.setIfInBounds i true) (A n (upd f d v)) w)
    (hi : l[i]? = some ⟨some d, op, ty, ps, af, none⟩ := by exact rfl)
    (hs : Region.noSelect l.toArray = true := by kernel_rfl) (hf : Region.free .any l.toArray listed i = true := by kernel_rfl) (hr : (Region.ready .any l.toArray listed).contains i = true := by kernel_rfl)
    (hrun : ∀ u, S u → (execOp (ev n f) ⟨some d, op, ty, ps, af, none⟩).run P u = .ok (.value v) u := by (intro u hu; (first | (apply r_move; conv => lhs; whnf) | exact r_nilCheck rfl | exact r_field0 rfl | exact r_len rfl | exact r_not rfl | exact r_add rfl rfl (IntWalk.i64_in _ (by omega)) | exact r_sub rfl rfl (IntWalk.i64_in _ (by omega)) | exact r_conv rfl (IntWalk.u64_in _ (by omega)) | exact r_conv rfl (IntWalk.i64_in _ (by omega)) | exact r_lss rfl rfl (decide_eq_true (by omega)) | exact r_lss rfl rfl (decide_eq_false (by omega)) | exact r_eql rfl rfl (decide_eq_true (by omega)) | exact r_eql rfl rfl (decide_eq_false (by omega)) | exact r_neq rfl rfl (decide_eq_true (by omega)) | exact r_neq rfl rfl (decide_eq_false (by omega)) | exact r_gtr rfl rfl (decide_eq_true (by omega)) | exact r_gtr rfl rfl (decide_eq_false (by omega)) | exact r_geq rfl rfl (decide_eq_true (by omega)) | exact r_geq rfl rfl (decide_eq_false (by omega)) | exact r_leq rfl rfl (decide_eq_true (by omega)) | exact r_leq rfl rfl (decide_eq_false (by omega)) | (apply r_pick; exact rfl; conv => lhs; whnf)))) : wpAnyH P .any l.toArray Q S (fuel + 1) listed (A n f) w := d_take hi hs hf hr hrun hS h
end Go.Rf
