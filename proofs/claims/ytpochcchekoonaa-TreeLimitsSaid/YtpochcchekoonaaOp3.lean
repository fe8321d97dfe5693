/-
  More rules: tuples, arrays, the bytes of strings, made slices, stores into owned slices of any element; cells that are known; the run of decided steps with these. It speaks of no program.
-/
import Derived.Test.YtpochcchekoonaaOps2
import Derived.Laws.OwnMore
namespace Go.Rf
open Go.RowKit
set_option linter.unusedVariables false
set_option linter.unusedSimpArgs false

/-! ### a loop within a loop -/
def keepB (S : List Nat) (nl2 : Nat) (S2 : List Nat) : Nat → Bool
  | 0 => true
  | k + 1 => (elemB S k || (Nat.blt k nl2 && !elemB S2 k)) && keepB S nl2 S2 k
theorem Keep.inn {nl nl2 : Nat} {S S2 : List Nat} {f h g : Env} (hc : keepB S nl2 S2 nl = true) (hk : Keep nl S f h) : Keep nl S f (Go.Rf.mrg nl2 S2 h g) := by
  have key : ∀ k s, keepB S nl2 S2 k = true → s < k → elemB S s = false → Nat.blt s nl2 = true ∧ elemB S2 s = false := by
    intro k
    induction k with
    | zero => intro s _ h; omega
    | succ k ih =>
      intro s hb hs he
      simp only [keepB, Bool.and_eq_true] at hb
      by_cases e : s = k
      · subst e
        rw [he] at hb
        simpa using hb.1
      · exact ih s hb.2 (by omega) he
  intro s h1 h2
  obtain ⟨h3, h4⟩ := key nl s hc h1 h2
  simp only [Go.Rf.mrg, h3, h4, cond_true, cond_false]
  exact hk s h1 h2

/-! ### cells that are known -/
def Cells (w : World) (a : Addr) (l : List Value) : Prop := ∀ j u, l[j]? = some u → w.cell? (a.add j) = some u
theorem Cells.get {w : World} {a : Addr} {l : List Value} {j : Nat} {u : Value} (h : Cells w a l) (e : l[j]? = some u) : w.cell? (a.add j) = some u := h j u e
theorem Cells.tr {S : List Nat} {w w' : World} {a : Addr} {l : List Value} (h : Cells w a l) (hf : Fr S w w') (hS : a.block ∉ S) : Cells w' a l := by
  intro j u hu
  have h0 := h j u hu
  rw [hf.cell (World.block_lt_of_cell? w _ h0) (by rw [add_block]; exact hS)]
  exact h0
theorem Cells.tr0 {w w' : World} {a : Addr} {l : List Value} (h : Cells w a l) (hf : Fr [] w w') : Cells w' a l := h.tr hf (by simp)
theorem Cells.sub {w : World} {a : Addr} {l : List Value} (h : Cells w a l) (o m : Nat) : Cells w (a.add o) ((l.drop o).take m) := by
  intro j u hu
  rw [List.getElem?_take] at hu
  split at hu
  · rw [List.getElem?_drop] at hu
    rw [add_add]; exact h _ _ hu
  · cases hu
theorem Cells.ofSrc {w : World} {ad : Addr} {m c : Nat} {ys : List Value} (h : Src w (.slice (some ad) m c) m ys) : Cells w ad ys := by
  intro j u hu
  obtain ⟨ao', c', e, _, _, hc⟩ := h
  simp only [Value.slice.injEq] at e
  exact hc ad e.1.symm j u hu
theorem Cells.ofBlk {w : World} {b t : Nat} {l : List Value} (h : Blk w b l t) : Cells w ⟨b, 0, none⟩ l := by
  intro j u hu
  rw [add_lit, Nat.zero_add]; exact h.cell hu

section
variable {D : Dfs}
variable {P : Program} {ops : Array Oper} {Q : Exit → Act → World → Prop} {rest : List Oper} {n : Nat} {f : Env} {w : World}
variable {d : Nat} {ty : TypeId} {ps : String} {af : Array Edge} {x y : Operand} {t t2 : Nat} {gd : Option (Nat × Bool)}
theorem s_loadC {a : Addr} {j : Nat} {l : List Value} {v : Value} [O : OneT P t] (hx : ev n f x = .pointer (some (a.add j))) (hc : Cells w a l) (ho : l[j]? = some v) (h : wpList P ops Q rest (A n (upd f d v)) w) :
    wpList P ops Q (⟨some d, .load t x, ty, ps, af, none⟩ :: rest) (A n f) w := s_load hx (hc.get ho) h
theorem s_loadAggC {a : Addr} {m : Nat} {l : List Value} [G : AggT P t m] (hx : ev n f x = .pointer (some a)) (hc : Cells w a l) (hl : l.length = m) (h : wpList P ops Q rest (A n (upd f d (.agg l.toArray))) w) :
    wpList P ops Q (⟨some d, .load t x, ty, ps, af, none⟩ :: rest) (A n f) w := s_loadAgg l hx hl hc h
theorem s_loadSub {a : Addr} {m o : Nat} {l : List Value} [G : AggT P t m] (hx : ev n f x = .pointer (some (a.add o))) (hc : Cells w a l) (hl : ((l.drop o).take m).length = m) (h : wpList P ops Q rest (A n (upd f d (.agg ((l.drop o).take m).toArray))) w) :
    wpList P ops Q (⟨some d, .load t x, ty, ps, af, none⟩ :: rest) (A n f) w := s_loadAgg _ hx hl (hc.sub o m) h
theorem s_loadSubB {b m o tb : Nat} {l : List Value} [G : AggT P t m] (hx : ev n f x = .pointer (some ⟨b, o, none⟩)) (hb : Blk w b l tb) (hl : ((l.drop o).take m).length = m) (h : wpList P ops Q rest (A n (upd f d (.agg ((l.drop o).take m).toArray))) w) :
    wpList P ops Q (⟨some d, .load t x, ty, ps, af, none⟩ :: rest) (A n f) w :=
  s_loadAgg _ hx hl (fun j u hu => by have := (Cells.ofBlk hb).sub o m j u hu; rwa [add_lit, Nat.zero_add] at this) h

theorem r_loadC {a : Addr} {m : Nat} {l : List Value} [G : AggT P t m] (hx : ev n f x = .pointer (some a)) (hc : Cells w a l) (hl : l.length = m) : (execOp (ev n f) ⟨some d, .load t x, ty, ps, af, gd⟩).run P w = .ok (.value (.agg l.toArray)) w := r_loadAgg l hx hl hc
theorem r_loadSub {a : Addr} {m o : Nat} {l : List Value} [G : AggT P t m] (hx : ev n f x = .pointer (some (a.add o))) (hc : Cells w a l) (hl : ((l.drop o).take m).length = m) : (execOp (ev n f) ⟨some d, .load t x, ty, ps, af, gd⟩).run P w = .ok (.value (.agg ((l.drop o).take m).toArray)) w := r_loadAgg _ hx hl (hc.sub o m)
theorem r_loadSubB {b m o tb : Nat} {l : List Value} [G : AggT P t m] (hx : ev n f x = .pointer (some ⟨b, o, none⟩)) (hb : Blk w b l tb) (hl : ((l.drop o).take m).length = m) : (execOp (ev n f) ⟨some d, .load t x, ty, ps, af, gd⟩).run P w = .ok (.value (.agg ((l.drop o).take m).toArray)) w :=
  r_loadAgg _ hx hl (fun j u hu => by have := (Cells.ofBlk hb).sub o m j u hu; rwa [add_lit, Nat.zero_add] at this)

/-! ### tuples -/
theorem r_extract {vs : List Value} {i : Nat} {v : Value} (hx : ev n f x = .tuple vs.toArray) (hv : vs[i]? = some v) : (execOp (ev n f) ⟨some d, .extract x i, ty, ps, af, gd⟩).run P w = .ok (.value v) w := by
  simp [execOp, Instr.extract, hx, hv]
theorem s_extract {vs : List Value} {i : Nat} {v : Value} (hx : ev n f x = .tuple vs.toArray) (hv : vs[i]? = some v) (h : wpList P ops Q rest (A n (upd f d v)) w) :
    wpList P ops Q (⟨some d, .extract x i, ty, ps, af, none⟩ :: rest) (A n f) w := s_run (r_extract hx hv) h

/-! ### arrays -/
class ArrT (P : Program) (t : Nat) (k e size : outParam Nat) : Prop where
  u : P.underlying t = some (.array k e)
  inf : ∃ i, P.info? e = some i ∧ i.size = size
theorem r_indexArr {k e : Nat} {cs : List Value} {kk : IntKind} {j : Nat} {v : Value} [R : ArrT P t k e 1] [O : OneT P e] (hx : ev n f x = .agg cs.toArray) (hy : ev n f y = .int kk (j : Int)) (hj : j < k) (hv : cs[j]? = some v) :
    (execOp (ev n f) ⟨some d, .index t x y, ty, ps, af, gd⟩).run P w = .ok (.value v) w := by
  obtain ⟨i, hi, hs⟩ := R.inf
  obtain ⟨dd, hd, ha⟩ := O.agg
  have h2 : (j : Int) < (k : Int) := by omega
  simp [execOp, Instr.index, hx, hy, asIntOf, run_underlying R.u, hj, sizeOf, typeInfo, hi, hs, part, run_isAgg hd, ha, hv]
theorem s_indexArr {k e : Nat} {cs : List Value} {kk : IntKind} {j : Nat} {v : Value} [R : ArrT P t k e 1] [O : OneT P e] (hx : ev n f x = .agg cs.toArray) (hy : ev n f y = .int kk (j : Int)) (hj : j < k) (hv : cs[j]? = some v) (h : wpList P ops Q rest (A n (upd f d v)) w) :
    wpList P ops Q (⟨some d, .index t x y, ty, ps, af, none⟩ :: rest) (A n f) w := s_run (r_indexArr hx hy hj hv) h
theorem r_addrArr {k e size : Nat} {a : Addr} {kk : IntKind} {j : Nat} [R : ArrT P t k e size] (hx : ev n f x = .pointer (some a)) (hy : ev n f y = .int kk (j : Int)) (hj : j < k) :
    (execOp (ev n f) ⟨some d, .indexAddr t x y, ty, ps, af, gd⟩).run P w = .ok (.value (.pointer (some (a.add (j * size))))) w := by
  obtain ⟨i, hi, hs⟩ := R.inf
  have h2 : (j : Int) < (k : Int) := by omega
  simp [execOp, Instr.indexAt, hx, hy, asIntOf, run_underlying R.u, hj, sizeOf, typeInfo, hi, hs, Instr.sureAddr]
theorem s_addrArr1 {k e b : Nat} {kk : IntKind} {j : Nat} [R : ArrT P t k e 1] (hx : ev n f x = .pointer (some ⟨b, 0, none⟩)) (hy : ev n f y = .int kk (j : Int)) (hj : j < k) (h : wpList P ops Q rest (A n (upd f d (.pointer (some ⟨b, j, none⟩)))) w) :
    wpList P ops Q (⟨some d, .indexAddr t x y, ty, ps, af, none⟩ :: rest) (A n f) w := by
  refine s_run (r_addrArr hx hy hj) ?_
  rw [Nat.mul_one, add_lit, Nat.zero_add]; exact h
theorem s_storeBj {b o tb : Nat} {l : List Value} {v : Value} [O : OneT P t] (hx : ev n f x = .pointer (some ⟨b, o, none⟩)) (hv : ev n f y = v) (h1 : v.oneCell' = true) (hb : Blk w b l tb) (ho : o < l.length)
    (h : ∀ w', Blk w' b (l.set o v) tb → Fr [b] w w' → w'.heap.size = w.heap.size → wpList P ops Q rest (A n f) w') : wpList P ops Q (⟨none, .store t x y, ty, ps, af, none⟩ :: rest) (A n f) w :=
  s_storeB hx hv h1 hb (blt_yes ho) h

theorem r_buildA {k e size : Nat} {z : List Value} {parts : List (Nat × Operand)} (cells : List Value) [R : ArrT P t k e size] [Z : ZeroT P t (.agg z.toArray)] (h : fillL (fun i => some (i * size, size)) z (zipP n f parts) = some cells) :
    (execOp (ev n f) ⟨some d, .build t parts.toArray, ty, ps, af, gd⟩).run P w = .ok (.value (.agg cells.toArray)) w := by
  obtain ⟨i, hi, hz⟩ := Z.z
  obtain ⟨j, hj, hs⟩ := R.inf
  have hf := fill_list _ _ _ _ h
  simp only [execOp, Instr.build, List.map_toArray, zipP_map]
  simp [zeroValue, typeInfo, hi, hz, Value.cells, run_underlying R.u, sizeOf, hj, hs, hf]
theorem s_buildA {k e size : Nat} {z : List Value} {parts : List (Nat × Operand)} (cells : List Value) [R : ArrT P t k e size] [Z : ZeroT P t (.agg z.toArray)] (h : fillL (fun i => some (i * size, size)) z (zipP n f parts) = some cells)
    (hk : wpList P ops Q rest (A n (upd f d (.agg cells.toArray))) w) : wpList P ops Q (⟨some d, .build t parts.toArray, ty, ps, af, none⟩ :: rest) (A n f) w := s_run (r_buildA cells h) hk

/-! ### strings -/
theorem r_indexStr {s : ByteArray} {kk : IntKind} {j : Nat} {b : UInt8} [S : StrT P t] (hx : ev n f x = .string s) (hy : ev n f y = .int kk (j : Int)) (hb : s.data.toList[j]? = some b) :
    (execOp (ev n f) ⟨some d, .index t x y, ty, ps, af, gd⟩).run P w = .ok (.value (.int .u8 b.toNat)) w := by
  have hj : s[j]? = some b := by
    have hlt := (List.getElem?_eq_some_iff.1 hb).1
    have hlt' : j < s.size := by simpa using hlt
    rw [getElem?_pos s j hlt']
    simp at hb
    obtain ⟨h1, h2⟩ := Array.getElem?_eq_some_iff.1 hb
    simp only [Option.some.injEq]
    exact h2
  have h0 : (0 : Int) ≤ (j : Int) := by omega
  simp [execOp, Instr.index, hx, hy, asIntOf, run_underlying S.u, hj]
theorem s_indexStr {s : ByteArray} {kk : IntKind} {j : Nat} {b : UInt8} [S : StrT P t] (hx : ev n f x = .string s) (hy : ev n f y = .int kk (j : Int)) (hb : s.data.toList[j]? = some b) (h : wpList P ops Q rest (A n (upd f d (.int .u8 b.toNat))) w) :
    wpList P ops Q (⟨some d, .index t x y, ty, ps, af, none⟩ :: rest) (A n f) w := s_run (r_indexStr hx hy hb) h
theorem toList_inj {a b : ByteArray} : a.toList = b.toList ↔ a = b := by
  constructor
  · intro h
    rw [ByteArray.toList_eq, ByteArray.toList_eq] at h
    cases a; cases b
    congr 1
    exact Array.toList_inj.1 h
  · intro h; rw [h]
theorem s_eqlE {a b : ByteArray} (hx : ev n f x = .string a) (hy : ev n f y = .string b) (ht : a = b → wpList P ops Q rest (A n (upd f d (.bool true))) w) (hf : ¬ a = b → wpList P ops Q rest (A n (upd f d (.bool false))) w) :
    wpList P ops Q (⟨some d, .binOp .eql t x y t2, ty, ps, af, none⟩ :: rest) (A n f) w := s_eqlS hx hy (fun h => ht (toList_inj.1 h)) (fun h => hf (fun e => h (toList_inj.2 e)))
theorem s_neqE {a b : ByteArray} (hx : ev n f x = .string a) (hy : ev n f y = .string b) (ht : ¬ a = b → wpList P ops Q rest (A n (upd f d (.bool true))) w) (hf : a = b → wpList P ops Q rest (A n (upd f d (.bool false))) w) :
    wpList P ops Q (⟨some d, .binOp .neq t x y t2, ty, ps, af, none⟩ :: rest) (A n f) w := s_neqS hx hy (fun h => ht (fun e => h (toList_inj.2 e))) (fun h => hf (toList_inj.1 h))
theorem r_eqlE {a b : ByteArray} {p : Bool} (hx : ev n f x = .string a) (hy : ev n f y = .string b) (hp : decide (a = b) = p) : (execOp (ev n f) ⟨some d, .binOp .eql t x y t2, ty, ps, af, gd⟩).run P w = .ok (.value (.bool p)) w := by
  subst hp
  have e : (a.toList == b.toList) = decide (a = b) := by rw [beq_dec]; simp [toList_inj]
  simp [execOp, eqGuard, binOp, Op.stringOp, hx, hy, e]
theorem r_neqE {a b : ByteArray} {p : Bool} (hx : ev n f x = .string a) (hy : ev n f y = .string b) (hp : decide (¬ a = b) = p) : (execOp (ev n f) ⟨some d, .binOp .neq t x y t2, ty, ps, af, gd⟩).run P w = .ok (.value (.bool p)) w := by
  subst hp
  have e : (a.toList == b.toList) = decide (a = b) := by rw [beq_dec]; simp [toList_inj]
  simp [execOp, eqGuard, binOp, Op.stringOp, hx, hy, e]
theorem s_lssS {a b : ByteArray} (hx : ev n f x = .string a) (hy : ev n f y = .string b) (ht : Op.bytesLess a.toList b.toList = true → wpList P ops Q rest (A n (upd f d (.bool true))) w) (hf : ¬ Op.bytesLess a.toList b.toList = true → wpList P ops Q rest (A n (upd f d (.bool false))) w) :
    wpList P ops Q (⟨some d, .binOp .lss t x y t2, ty, ps, af, none⟩ :: rest) (A n f) w := s_cmp hx hy (by simp [eqGuard, binOp, Op.stringOp]) ht hf
theorem s_gtrS {a b : ByteArray} (hx : ev n f x = .string a) (hy : ev n f y = .string b) (ht : ¬ (Op.bytesLess a.toList b.toList = true ∨ a = b) → wpList P ops Q rest (A n (upd f d (.bool true))) w)
    (hf : (Op.bytesLess a.toList b.toList = true ∨ a = b) → wpList P ops Q rest (A n (upd f d (.bool false))) w) :
    wpList P ops Q (⟨some d, .binOp .gtr t x y t2, ty, ps, af, none⟩ :: rest) (A n f) w :=
  s_cmp (p := ¬ (Op.bytesLess a.toList b.toList = true ∨ a = b)) hx hy (by simp [eqGuard, binOp, Op.stringOp, beq_dec, toList_inj]) ht (fun h => hf (Decidable.byContradiction h))

/-! ### made slices -/
theorem madeCells_zeros {z : List Value} (hz : 0 < z.length) (k : Nat) : (madeCells z.toArray (k * z.length)).toList = zeros z k := by
  apply List.ext_getElem?
  intro i
  unfold madeCells
  by_cases hi : i < k * z.length
  · rw [zeros_get z hz k i hi]
    have hm : i % z.length < z.length := Nat.mod_lt _ hz
    simp [hi, hm]
  · have h1 : (zeros z k).length ≤ i := by rw [zeros_len]; omega
    rw [List.getElem?_eq_none h1]
    simp
    omega
theorem s_makeS {e size by_ k : Nat} {z : List Value} {kl kc : IntKind} [R : RowZ P t e size by_ z] (hx : ev n f x = .int kl (k : Int)) (hy : ev n f y = .int kc (k : Int)) (hb : by_ * k ≤ 281474976710656) (h63 : k ≤ maxLen)
    (h : ∀ w', Own w' e size (.slice (some ⟨w.heap.size, 0, none⟩) k k) k (zeros z k) → Fr [] w w' → w'.heap.size = w.heap.size + 1 → wpList P ops Q rest (A n (upd f d (.slice (some ⟨w.heap.size, 0, none⟩) k k))) w') :
    wpList P ops Q (⟨some d, .makeSlice t x y, ty, ps, af, none⟩ :: rest) (A n f) w := by
  have Rr := R.row
  obtain ⟨i0, z0, hi0, hz0, hs, hbb, hzs⟩ := Rr.inf
  obtain ⟨i, v, hi, hz, hc, hzl⟩ := R.z
  rw [hi0] at hi
  simp only [Option.some.injEq] at hi
  subst hi
  have h63' : (k : Int) ≤ 9223372036854775807 := by
    have h := h63
    simp [maxLen] at h
    omega
  have hb' : (i0.bytes : Int) * (k : Int) ≤ 281474976710656 := by
    have h : ((i0.bytes * k : Nat) : Int) ≤ 281474976710656 := by rw [hbb]; omega
    rwa [Int.natCast_mul] at h
  have hr := run_make (P := P) w t e i0 v Rr.und hi0 hz kl kc k k (by omega) (Int.le_refl _) hb' h63'
  simp only [Int.toNat_natCast] at hr
  have hm := madeCells_zeros (z := z) (by rw [hzl]; exact Rr.pos) k
  rw [hzl] at hm
  rw [hc, hs] at hr
  refine s_run (by simp only [execOp, hx, hy]; rw [Sem.run_bind, hr]; rfl) (h _ ?_ (Fr.alloc _ _ _) (by simp))
  have ho : Own (w.alloc (.cells (madeCells z.toArray (k * size)) e)) e size (.slice (some ⟨w.heap.size, 0, none⟩) k k) k (madeCells z.toArray (k * size)).toList := by
    refine World.ownsRow_lit w _ k (Nat.zero_le _) h63 ?_
    simp [madeCells]
  rw [hm] at ho
  exact ho

/-! ### stores into owned slices -/
theorem own_setRow {e size k c q : Nat} {xs cs : List Value} {ao : Option Addr} {a : Addr} (hown : Own w e size (.slice ao k c) k xs) (hao : ao = some a) (hq : q + cs.length ≤ k * size) (h1 : ∀ u ∈ cs, u.oneCell' = true) :
    ∃ w', (storeCells (a.add q) cs).run P w = .ok () w' ∧ Own w' e size (.slice ao k c) k (xs.take q ++ cs ++ xs.drop (q + cs.length)) ∧ Fr (blks (.slice ao k c)) w w' ∧ w'.heap.size = w.heap.size := by
  subst hao
  obtain ⟨hl, hh⟩ := id hown
  rcases hh with ⟨h0, _⟩ | ⟨g, cap, cur, hv', hb, hg, hnc, hcm, hcs', htk⟩
  · cases h0
  · simp only [Value.slice.injEq, Option.some.injEq] at hv'
    obtain ⟨rfl, _, rfl⟩ := hv'
    have hkc : k * size ≤ cur.size := by
      have := Nat.mul_le_mul_right size hnc
      omega
    have hst := run_storeCells_at P g q e cs 0 cur w hg (by omega) h1
    simp only [Nat.add_zero] at hst
    refine ⟨w.setRow g (cur.toList.take q ++ cs ++ cur.toList.drop (q + cs.length)).toArray, ?_, ⟨?_, .inr ⟨g, c, _, rfl, hb, setRow_heap w g cur _ e _ hg, hnc, hcm, ?_, ?_⟩⟩, ⟨rfl, rfl, rfl, by simp, fun j _ hk => setRow_other w g j _ (fun e => hk (by simp [blks, Value.ownBlock, e]))⟩, by simp⟩
    · rw [add_lit, Nat.zero_add]; exact hst
    · have : q + cs.length ≤ xs.length := by rw [hl]; exact hq
      simp only [List.length_append, List.length_take, List.length_drop]
      rw [← hl]; omega
    · simp only [List.size_toArray, List.length_append, List.length_take, List.length_drop, Array.length_toList]
      omega
    · simp only
      rw [← htk]
      apply List.ext_getElem?
      intro j
      simp only [List.getElem?_take, List.getElem?_append, List.length_append, List.length_take, List.getElem?_drop, Array.length_toList, List.take_take]
      have e1 : min q cur.size = q := by omega
      have e2 : min q (k * size) = q := by omega
      have e3 : min (min q (k * size)) cur.size = q := by omega
      have e4 : min q (min (k * size) cur.size) = q := by omega
      by_cases hj : j < k * size
      · rw [if_pos hj]
        simp only [e1, e2, e3, e4]
        by_cases h5 : j < q
        · have h8 : j < min q (min (k * size) cur.size) := by omega
          have h9 : j < q + cs.length := by omega
          simp [h5, h8, h9]
        · by_cases h6 : j < q + cs.length
          · simp [h5, h6]
          · simp [h5, h6]
            intro h7; omega
      · rw [if_neg hj]
        simp only [e1, e2, e3, e4]
        have h5 : ¬ j < q := by omega
        have h6 : ¬ j < q + cs.length := by omega
        simp [h5, h6]
        intro h7; omega
theorem s_storeRow1 {e size k c q : Nat} {u : Value} {xs : List Value} {ao : Option Addr} {a b : Addr} [O : OneT P t] (hown : Own w e size (.slice ao k c) k xs) (hao : ao = some a) (hx : ev n f x = .pointer (some b)) (hb : b = a.add q) (hv : ev n f y = u) (h1 : u.oneCell' = true) (hq : q < k * size)
    (h : ∀ w', Own w' e size (.slice ao k c) k (xs.take q ++ [u] ++ xs.drop (q + 1)) → Fr (blks (.slice ao k c)) w w' → w'.heap.size = w.heap.size → wpList P ops Q rest (A n f) w') : wpList P ops Q (⟨none, .store t x y, ty, ps, af, none⟩ :: rest) (A n f) w := by
  obtain ⟨i, hi, hs⟩ := O.size
  have hcs : u.cells = #[u] := by cases u <;> simp_all [Value.cells, Value.oneCell']
  obtain ⟨w', hr, ho, hf, hz⟩ := own_setRow (P := P) (cs := [u]) (q := q) hown hao (by simp; omega) (by simpa using h1)
  subst hb
  refine s_skip (w' := w') ?_ (h w' ho hf hz)
  simp [execOp, hx, hv, Instr.storeAt, Instr.sureAddr, storeVar, sizeOf, typeInfo, hi, hs, hcs, hr]
theorem s_storeRowA {e size k c q m : Nat} {xs cs : List Value} {ao : Option Addr} {a b : Addr} [O : AggT P t m] (hown : Own w e size (.slice ao k c) k xs) (hao : ao = some a) (hx : ev n f x = .pointer (some b)) (hb : b = a.add q) (hv : ev n f y = .agg cs.toArray) (hm : cs.length = m) (h1 : ∀ u ∈ cs, u.oneCell' = true) (hq : q + m ≤ k * size)
    (h : ∀ w', Own w' e size (.slice ao k c) k (xs.take q ++ cs ++ xs.drop (q + m)) → Fr (blks (.slice ao k c)) w w' → w'.heap.size = w.heap.size → wpList P ops Q rest (A n f) w') : wpList P ops Q (⟨none, .store t x y, ty, ps, af, none⟩ :: rest) (A n f) w := by
  obtain ⟨i, hi, hs⟩ := O.size
  subst hm
  obtain ⟨w', hr, ho, hf, hz⟩ := own_setRow (P := P) (cs := cs) hown hao hq h1
  subst hb
  refine s_skip (w' := w') ?_ (h w' ho hf hz)
  simp [execOp, hx, hv, Instr.storeAt, Instr.sureAddr, storeVar, sizeOf, typeInfo, hi, hs, Value.cells, hr]
/-- a struct's part, in its own block -/
theorem s_storeSubB {b tb m o : Nat} {l cs : List Value} [G : AggT P t m] (hx : ev n f x = .pointer (some ⟨b, o, none⟩)) (hv : ev n f y = .agg cs.toArray) (hb : Blk w b l tb) (h1 : ∀ c ∈ cs, c.oneCell' = true) (hl : o + m ≤ l.length) (hc : cs.length = m)
    (h : ∀ w', Blk w' b (l.take o ++ cs ++ l.drop (o + m)) tb → Fr [b] w w' → w'.heap.size = w.heap.size → wpList P ops Q rest (A n f) w') : wpList P ops Q (⟨none, .store t x y, ty, ps, af, none⟩ :: rest) (A n f) w := by
  obtain ⟨i, hi, hs⟩ := G.size
  have hst := run_storeCells_at P b o tb cs 0 l.toArray w hb (by simpa [hc] using hl) h1
  simp only [Nat.add_zero] at hst
  refine s_skip (w' := w.setRow b (l.take o ++ cs ++ l.drop (o + cs.length)).toArray) ?_ (h _ (by rw [← hc]; exact setRow_heap w b l.toArray _ tb _ hb) ⟨rfl, rfl, rfl, by simp, fun k _ hk => setRow_other w b k _ (by simpa using hk)⟩ (by simp))
  rw [hc] at hst ⊢
  have hst' : (storeCells ⟨b, o, none⟩ cs).run P w = .ok () (w.setRow b (l.take o ++ cs ++ l.drop (o + m)).toArray) := by simpa using hst
  simp [execOp, hx, hv, Instr.storeAt, Instr.sureAddr, storeVar, sizeOf, typeInfo, hi, hs, Value.cells, hc, hst']
end
end Go.Rf
namespace Go.Rf
open Go.RowKit
theorem rx {G G' : Prop} (k : G') (h : Got G' → G := by (intro h; (repeat (first | with_reducible refine wp_seq ?_ | with_reducible refine c_region ?_ | with_reducible refine wp_block ?_ | with_reducible refine wpList_nil ?_ | with_reducible refine wp_skip ?_ | with_reducible refine wp_exit ?_ | with_reducible refine wp_ret ?_ | with_reducible refine q_then ?_ | with_reducible refine q_then_exit ?_ | with_reducible refine q_then_ret ?_ | with_reducible refine q_blk ?_ | with_reducible refine q_blk_ret ?_ | with_reducible refine q_blk_eq ?_ | refine q_blk_ne rfl ?_ | refine c_true rfl ?_ | refine c_false rfl ?_ | ((with_reducible apply s_moveV); conv => lhs; whnf) | ((with_reducible apply s_assignV); conv => lhs; whnf) | refine g_yes rfl ?_ | refine g_no rfl ?_ | ((with_reducible apply s_pickV); exact rfl; conv => lhs; whnf) | refine s_nilCheck rfl ?_ | refine s_field0 rfl ?_ | refine s_fieldAddr rfl ?_ | refine s_len rfl ?_ | refine s_lenS rfl ?_ | refine s_not rfl ?_ | refine s_loadB rfl (by assumption) rfl ?_ | refine s_ptrNil rfl rfl ?_ | refine s_ptrNotNil rfl rfl ?_ | refine s_extract rfl rfl ?_ | refine s_indexAddr rfl rfl rfl (by omega) rfl ?_ | refine s_addrArr1 rfl rfl (by omega) ?_ | refine s_loadC rfl (by assumption) rfl ?_ | refine s_loadAggC rfl (by assumption) (by rfl) ?_ | refine s_loadAggB rfl (by assumption) (by rfl) ?_ | refine s_loadSub rfl (by assumption) (by rfl) ?_ | refine s_loadSubB rfl (by assumption) (by rfl) ?_ | refine s_eqlE rfl rfl (fun _ => ?_) (fun h => absurd (by assumption) h) | refine s_eqlE rfl rfl (fun h => absurd h (by assumption)) (fun _ => ?_) | refine s_neqE rfl rfl (fun _ => ?_) (fun h => absurd h (by assumption)) | refine s_neqE rfl rfl (fun h => absurd (by assumption) h) (fun _ => ?_) | refine s_lssS rfl rfl (fun _ => ?_) (fun h => absurd (by assumption) h) | refine s_lssS rfl rfl (fun h => absurd h (by assumption)) (fun _ => ?_) | refine s_gtrS rfl rfl (fun _ => ?_) (fun h => absurd h (by assumption)) | refine s_gtrS rfl rfl (fun h => absurd (by assumption) h) (fun _ => ?_) | refine s_add rfl rfl (IntWalk.i64_in _ (by omega)) ?_ | refine s_sub rfl rfl (IntWalk.i64_in _ (by omega)) ?_ | refine s_mul rfl rfl (IntWalk.i64_in _ (by omega)) ?_ | refine s_neg rfl (IntWalk.i64_in _ (by omega)) ?_ | refine s_conv rfl (IntWalk.i64_in _ (by omega)) ?_ | refine s_quo rfl rfl (by omega) (IntWalk.i64_quo _ _ (by omega)) ?_ | refine s_rem rfl rfl (by omega) (Int.tmod_eq_emod_of_nonneg (by omega)) ?_ | refine s_add rfl rfl (IntWalk.u64_in _ (by omega)) ?_ | refine s_sub rfl rfl (IntWalk.u64_in _ (by omega)) ?_ | refine s_mul rfl rfl (IntWalk.u64_in _ (by omega)) ?_ | refine s_conv rfl (IntWalk.u64_in _ (by omega)) ?_ | refine s_conv rfl (IntWalk.u8_in _ (by omega)) ?_ | refine s_quo rfl rfl (by omega) (IntWalk.u64_quo _ _ (by omega)) ?_ | refine s_add rfl rfl (IntWalk.u8_in _ (by omega)) ?_ | refine s_sub rfl rfl (IntWalk.u8_in _ (by omega)) ?_ | refine s_lss rfl rfl (fun _ => ?_) (fun h => absurd h (by omega)) | refine s_lss rfl rfl (fun h => absurd h (by omega)) (fun _ => ?_) | refine s_leq rfl rfl (fun _ => ?_) (fun h => absurd h (by omega)) | refine s_leq rfl rfl (fun h => absurd h (by omega)) (fun _ => ?_) | refine s_gtr rfl rfl (fun _ => ?_) (fun h => absurd h (by omega)) | refine s_gtr rfl rfl (fun h => absurd h (by omega)) (fun _ => ?_) | refine s_geq rfl rfl (fun _ => ?_) (fun h => absurd h (by omega)) | refine s_geq rfl rfl (fun h => absurd h (by omega)) (fun _ => ?_) | refine s_eql rfl rfl (fun _ => ?_) (fun h => absurd h (by omega)) | refine s_eql rfl rfl (fun h => absurd h (by omega)) (fun _ => ?_) | refine s_neq rfl rfl (fun _ => ?_) (fun h => absurd h (by omega)) | refine s_neq rfl rfl (fun h => absurd h (by omega)) (fun _ => ?_))); exact h.k)) : G := h ⟨k⟩
theorem rr {G G' : Prop} (k : G') (h : Got G' → G := by (intro h; (repeat (first | ((with_reducible apply s_moveV); conv => lhs; whnf) | ((with_reducible apply s_assignV); conv => lhs; whnf) | refine g_yes rfl ?_ | refine g_no rfl ?_ | ((with_reducible apply s_pickV); exact rfl; conv => lhs; whnf) | refine s_nilCheck rfl ?_ | refine s_field0 rfl ?_ | refine s_fieldAddr rfl ?_ | refine s_len rfl ?_ | refine s_lenS rfl ?_ | refine s_not rfl ?_ | refine s_loadB rfl (by assumption) rfl ?_ | refine s_ptrNil rfl rfl ?_ | refine s_ptrNotNil rfl rfl ?_ | refine s_extract rfl rfl ?_ | refine s_indexAddr rfl rfl rfl (by omega) rfl ?_ | refine s_addrArr1 rfl rfl (by omega) ?_ | refine s_loadC rfl (by assumption) rfl ?_ | refine s_loadAggC rfl (by assumption) (by rfl) ?_ | refine s_loadAggB rfl (by assumption) (by rfl) ?_ | refine s_loadSub rfl (by assumption) (by rfl) ?_ | refine s_loadSubB rfl (by assumption) (by rfl) ?_ | refine s_eqlE rfl rfl (fun _ => ?_) (fun h => absurd (by assumption) h) | refine s_eqlE rfl rfl (fun h => absurd h (by assumption)) (fun _ => ?_) | refine s_neqE rfl rfl (fun _ => ?_) (fun h => absurd h (by assumption)) | refine s_neqE rfl rfl (fun h => absurd (by assumption) h) (fun _ => ?_) | refine s_lssS rfl rfl (fun _ => ?_) (fun h => absurd (by assumption) h) | refine s_lssS rfl rfl (fun h => absurd h (by assumption)) (fun _ => ?_) | refine s_gtrS rfl rfl (fun _ => ?_) (fun h => absurd h (by assumption)) | refine s_gtrS rfl rfl (fun h => absurd (by assumption) h) (fun _ => ?_) | refine s_add rfl rfl (IntWalk.i64_in _ (by omega)) ?_ | refine s_sub rfl rfl (IntWalk.i64_in _ (by omega)) ?_ | refine s_mul rfl rfl (IntWalk.i64_in _ (by omega)) ?_ | refine s_neg rfl (IntWalk.i64_in _ (by omega)) ?_ | refine s_conv rfl (IntWalk.i64_in _ (by omega)) ?_ | refine s_quo rfl rfl (by omega) (IntWalk.i64_quo _ _ (by omega)) ?_ | refine s_rem rfl rfl (by omega) (Int.tmod_eq_emod_of_nonneg (by omega)) ?_ | refine s_add rfl rfl (IntWalk.u64_in _ (by omega)) ?_ | refine s_sub rfl rfl (IntWalk.u64_in _ (by omega)) ?_ | refine s_mul rfl rfl (IntWalk.u64_in _ (by omega)) ?_ | refine s_conv rfl (IntWalk.u64_in _ (by omega)) ?_ | refine s_conv rfl (IntWalk.u8_in _ (by omega)) ?_ | refine s_quo rfl rfl (by omega) (IntWalk.u64_quo _ _ (by omega)) ?_ | refine s_add rfl rfl (IntWalk.u8_in _ (by omega)) ?_ | refine s_sub rfl rfl (IntWalk.u8_in _ (by omega)) ?_ | refine s_lss rfl rfl (fun _ => ?_) (fun h => absurd h (by omega)) | refine s_lss rfl rfl (fun h => absurd h (by omega)) (fun _ => ?_) | refine s_leq rfl rfl (fun _ => ?_) (fun h => absurd h (by omega)) | refine s_leq rfl rfl (fun h => absurd h (by omega)) (fun _ => ?_) | refine s_gtr rfl rfl (fun _ => ?_) (fun h => absurd h (by omega)) | refine s_gtr rfl rfl (fun h => absurd h (by omega)) (fun _ => ?_) | refine s_geq rfl rfl (fun _ => ?_) (fun h => absurd h (by omega)) | refine s_geq rfl rfl (fun h => absurd h (by omega)) (fun _ => ?_) | refine s_eql rfl rfl (fun _ => ?_) (fun h => absurd h (by omega)) | refine s_eql rfl rfl (fun h => absurd h (by omega)) (fun _ => ?_) | refine s_neq rfl rfl (fun _ => ?_) (fun h => absurd h (by omega)) | refine s_neq rfl rfl (fun h => absurd h (by omega)) (fun _ => ?_))); exact h.k)) : G := h ⟨k⟩
theorem d_tx {D : Dfs} {P : Program} {Q : Exit → Act → World → Prop} {S : World → Prop} {n : Nat} {f : Env} {w : World} {l : List Oper} {fuel : Nat} {listed : Array Bool} {d : Nat} {op : Op} {ty : TypeId} {ps : String} {af : Array Edge} {v : Value} [hQ : PanicOk Q] (i : Nat) (hS : S w)
    (h : wpAnyH P .any l.toArray Q S fuel (listed.setIfInBounds i true) (A n (upd f d v)) w)
    (hi : l[i]? = some ⟨some d, op, ty, ps, af, none⟩ := by exact rfl)
    (hs : Region.noSelect l.toArray = true := by kernel_rfl) (hf : Region.free .any l.toArray listed i = true := by kernel_rfl) (hr : (Region.ready .any l.toArray listed).contains i = true := by kernel_rfl)
    (hrun : ∀ u, S u → (execOp (ev n f) ⟨some d, op, ty, ps, af, none⟩).run P u = .ok (.value v) u := by (intro u hu; (first | (apply r_move; conv => lhs; whnf) | exact r_nilCheck rfl | exact r_field0 rfl | exact r_len rfl | exact r_not rfl | exact r_add rfl rfl (IntWalk.i64_in _ (by omega)) | exact r_sub rfl rfl (IntWalk.i64_in _ (by omega)) | exact r_conv rfl (IntWalk.u64_in _ (by omega)) | exact r_conv rfl (IntWalk.i64_in _ (by omega)) | exact r_lss rfl rfl (decide_eq_true (by omega)) | exact r_lss rfl rfl (decide_eq_false (by omega)) | exact r_eql rfl rfl (decide_eq_true (by omega)) | exact r_eql rfl rfl (decide_eq_false (by omega)) | exact r_neq rfl rfl (decide_eq_true (by omega)) | exact r_neq rfl rfl (decide_eq_false (by omega)) | exact r_gtr rfl rfl (decide_eq_true (by omega)) | exact r_gtr rfl rfl (decide_eq_false (by omega)) | exact r_geq rfl rfl (decide_eq_true (by omega)) | exact r_geq rfl rfl (decide_eq_false (by omega)) | exact r_leq rfl rfl (decide_eq_true (by omega)) | exact r_leq rfl rfl (decide_eq_false (by omega)) | (apply r_pick; exact rfl; conv => lhs; whnf) | exact r_extract rfl rfl | exact r_indexAddr rfl rfl rfl (by omega) rfl | exact r_fieldAddr rfl | exact r_load rfl (Blk.cell (Blk.tr0 (by assumption) hu) rfl) | exact r_load rfl (Cells.get (Cells.tr0 (by assumption) hu) rfl) | exact r_loadC rfl (Cells.tr0 (by assumption) hu) (by rfl) | exact r_loadC rfl (Cells.ofBlk (Blk.tr0 (by assumption) hu)) (by rfl) | exact r_loadSub rfl (Cells.tr0 (by assumption) hu) (by rfl) | exact r_loadSubB rfl (Blk.tr0 (by assumption) hu) (by rfl) | exact r_load rfl (Cells.get hu rfl) | exact r_loadC rfl hu (by rfl) | exact r_loadSub rfl hu (by rfl) | exact r_load rfl (Cells.get hu.1 rfl) | exact r_loadC rfl hu.1 (by rfl) | exact r_loadSub rfl hu.1 (by rfl) | exact r_load rfl (Cells.get hu.2 rfl) | exact r_loadC rfl hu.2 (by rfl) | exact r_loadSub rfl hu.2 (by rfl) | exact r_load rfl (Blk.cell hu.2 rfl) | exact r_loadC rfl (Cells.ofBlk hu.2) (by rfl) | exact r_loadSubB rfl hu.2 (by rfl)))) : wpAnyH P .any l.toArray Q S (fuel + 1) listed (A n f) w := d_take hi hs hf hr hrun hS h
theorem d_ty {D : Dfs} {P : Program} {Q : Exit → Act → World → Prop} {S : World → Prop} {n : Nat} {f : Env} {w : World} {l : List Oper} {fuel : Nat} {listed : Array Bool} {d j : Nat} {b : Bool} {op : Op} {ty : TypeId} {ps : String} {af : Array Edge} {v : Value} [hQ : PanicOk Q] (i : Nat) (hS : S w)
    (h : wpAnyH P .any l.toArray Q S fuel (listed.setIfInBounds i true) (A n (upd f d v)) w)
    (hi : l[i]? = some ⟨some d, op, ty, ps, af, some (j, b)⟩ := by exact rfl) (hy : yld l n f j = some b := by exact rfl)
    (hs : Region.noSelect l.toArray = true := by kernel_rfl) (hf : Region.free .any l.toArray listed i = true := by kernel_rfl) (hr : (Region.ready .any l.toArray listed).contains i = true := by kernel_rfl)
    (hrun : ∀ u, S u → (execOp (ev n f) ⟨some d, op, ty, ps, af, none⟩).run P u = .ok (.value v) u := by (intro u hu; (first | (apply r_move; conv => lhs; whnf) | exact r_nilCheck rfl | exact r_field0 rfl | exact r_len rfl | exact r_not rfl | exact r_add rfl rfl (IntWalk.i64_in _ (by omega)) | exact r_sub rfl rfl (IntWalk.i64_in _ (by omega)) | exact r_conv rfl (IntWalk.u64_in _ (by omega)) | exact r_conv rfl (IntWalk.i64_in _ (by omega)) | exact r_lss rfl rfl (decide_eq_true (by omega)) | exact r_lss rfl rfl (decide_eq_false (by omega)) | exact r_eql rfl rfl (decide_eq_true (by omega)) | exact r_eql rfl rfl (decide_eq_false (by omega)) | exact r_neq rfl rfl (decide_eq_true (by omega)) | exact r_neq rfl rfl (decide_eq_false (by omega)) | exact r_gtr rfl rfl (decide_eq_true (by omega)) | exact r_gtr rfl rfl (decide_eq_false (by omega)) | exact r_geq rfl rfl (decide_eq_true (by omega)) | exact r_geq rfl rfl (decide_eq_false (by omega)) | exact r_leq rfl rfl (decide_eq_true (by omega)) | exact r_leq rfl rfl (decide_eq_false (by omega)) | (apply r_pick; exact rfl; conv => lhs; whnf) | exact r_extract rfl rfl | exact r_indexAddr rfl rfl rfl (by omega) rfl | exact r_fieldAddr rfl | exact r_load rfl (Blk.cell (Blk.tr0 (by assumption) hu) rfl) | exact r_load rfl (Cells.get (Cells.tr0 (by assumption) hu) rfl) | exact r_loadC rfl (Cells.tr0 (by assumption) hu) (by rfl) | exact r_loadC rfl (Cells.ofBlk (Blk.tr0 (by assumption) hu)) (by rfl) | exact r_loadSub rfl (Cells.tr0 (by assumption) hu) (by rfl) | exact r_loadSubB rfl (Blk.tr0 (by assumption) hu) (by rfl) | exact r_load rfl (Cells.get hu rfl) | exact r_loadC rfl hu (by rfl) | exact r_loadSub rfl hu (by rfl) | exact r_load rfl (Cells.get hu.1 rfl) | exact r_loadC rfl hu.1 (by rfl) | exact r_loadSub rfl hu.1 (by rfl) | exact r_load rfl (Cells.get hu.2 rfl) | exact r_loadC rfl hu.2 (by rfl) | exact r_loadSub rfl hu.2 (by rfl) | exact r_load rfl (Blk.cell hu.2 rfl) | exact r_loadC rfl (Cells.ofBlk hu.2) (by rfl) | exact r_loadSubB rfl hu.2 (by rfl)))) : wpAnyH P .any l.toArray Q S (fuel + 1) listed (A n f) w := d_yes hi hy hs hf hr hrun hS h
theorem d_tn {D : Dfs} {P : Program} {Q : Exit → Act → World → Prop} {S : World → Prop} {n : Nat} {f : Env} {w : World} {l : List Oper} {fuel : Nat} {listed : Array Bool} {d j : Nat} {b : Bool} {op : Op} {ty : TypeId} {ps : String} {af : Array Edge} [hQ : PanicOk Q] (i : Nat) (hS : S w)
    (h : wpAnyH P .any l.toArray Q S fuel (listed.setIfInBounds i true) (A n (upd f d undef)) w)
    (hi : l[i]? = some ⟨some d, op, ty, ps, af, some (j, b)⟩ := by exact rfl) (hy : (yld l n f j == some b) = false := by exact rfl)
    (hs : Region.noSelect l.toArray = true := by kernel_rfl) (hf : Region.free .any l.toArray listed i = true := by kernel_rfl) (hr : (Region.ready .any l.toArray listed).contains i = true := by kernel_rfl) : wpAnyH P .any l.toArray Q S (fuel + 1) listed (A n f) w := d_no hi hy hs hf hr hS h
end Go.Rf
