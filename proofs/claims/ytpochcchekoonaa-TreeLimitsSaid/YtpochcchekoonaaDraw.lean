/-
  Regions that draw their order: quiet operations are taken first (the kit's 'wpAnyH_take'), the others where nothing else can come up. It speaks of no program.
-/
import Derived.Test.YtpochcchekoonaaOps
import Derived.OrdersHeld
namespace Go.Rf
open Go.RowKit
set_option linter.unusedVariables false
set_option linter.unusedSimpArgs false

/-- where a panic leads does not look into the frame -/
class PanicOk (Q : Exit → Act → World → Prop) : Prop where ok : ∀ c a w d v, Q (.panic c) (Act.put a d v) w → Q (.panic c) a w
instance {K : Act → World → Prop} {Q : Exit → Act → World → Prop} [h : PanicOk Q] : PanicOk (Exit.then K Q) := ⟨fun c a w d v k => h.ok c a w d v k⟩
instance {i : Nat} {Q : Exit → Act → World → Prop} [h : PanicOk Q] : PanicOk (Exit.inBlock i Q) := ⟨fun c a w d v k => h.ok c a w d v k⟩
instance {P : Program} {fn : Func} {R : Ending → World → Prop} : PanicOk (bodyPost P fn R) := ⟨fun c a w d v k => by
  obtain ⟨h1, h2⟩ := k
  refine ⟨?_, h2⟩
  cases d <;> exact h1⟩

section
variable {D : Dfs}
variable {P : Program} {Q : Exit → Act → World → Prop} {S : World → Prop} {n : Nat} {f : Env} {w : World} {l : List Oper} {fuel : Nat} {listed : Array Bool}
theorem d_begin {id m : Nat} (S : World → Prop) (hm : P.follows .mixedOrders = true) (hl : l.length = m) (h : wpAnyH P .any l.toArray Q S m (Array.replicate m false) (A n f) w.drew) : (Code.region id l.toArray true).wp P Q (A n f) w := by
  subst hl
  exact wp_region_held (S := S) hm (by simpa using h)
theorem d_take {i d : Nat} {op : Op} {ty : TypeId} {ps : String} {af : Array Edge} {v : Value} [hQ : PanicOk Q] (hi : l[i]? = some ⟨some d, op, ty, ps, af, none⟩)
    (hs : Region.noSelect l.toArray = true) (hf : Region.free .any l.toArray listed i = true) (hr : (Region.ready .any l.toArray listed).contains i = true)
    (hrun : ∀ u, S u → (execOp (ev n f) ⟨some d, op, ty, ps, af, none⟩).run P u = .ok (.value v) u) (hS : S w)
    (h : wpAnyH P .any l.toArray Q S fuel (listed.setIfInBounds i true) (A n (upd f d v)) w) : wpAnyH P .any l.toArray Q S (fuel + 1) listed (A n f) w := by
  refine wpAnyH_take (i := i) (v := v) (by simpa using hi) hs hf hr (fun c a w => hQ.ok c a w (some d) v) ?_ hS ?_
  · exact .inl ⟨rfl, fun u hu => by rw [A_eval]; exact hrun u hu⟩
  · rw [A_put]; exact h
/-- one whose guard says no -/
theorem d_no {i d j : Nat} {b : Bool} {op : Op} {ty : TypeId} {ps : String} {af : Array Edge} [hQ : PanicOk Q] (hi : l[i]? = some ⟨some d, op, ty, ps, af, some (j, b)⟩)
    (hy : (yld l n f j == some b) = false)
    (hs : Region.noSelect l.toArray = true) (hf : Region.free .any l.toArray listed i = true) (hr : (Region.ready .any l.toArray listed).contains i = true) (hS : S w)
    (h : wpAnyH P .any l.toArray Q S fuel (listed.setIfInBounds i true) (A n (upd f d undef)) w) : wpAnyH P .any l.toArray Q S (fuel + 1) listed (A n f) w := by
  refine wpAnyH_take (i := i) (v := undef) (by simpa using hi) hs hf hr (fun c a w => hQ.ok c a w (some d) undef) ?_ hS ?_
  · exact .inr ⟨by simp only [Region.wanted, yld_eq]; exact hy, rfl⟩
  · rw [A_put]; exact h
theorem d_yes {i d j : Nat} {b : Bool} {op : Op} {ty : TypeId} {ps : String} {af : Array Edge} {v : Value} [hQ : PanicOk Q] (hi : l[i]? = some ⟨some d, op, ty, ps, af, some (j, b)⟩)
    (hy : yld l n f j = some b)
    (hs : Region.noSelect l.toArray = true) (hf : Region.free .any l.toArray listed i = true) (hr : (Region.ready .any l.toArray listed).contains i = true)
    (hrun : ∀ u, S u → (execOp (ev n f) ⟨some d, op, ty, ps, af, none⟩).run P u = .ok (.value v) u) (hS : S w)
    (h : wpAnyH P .any l.toArray Q S fuel (listed.setIfInBounds i true) (A n (upd f d v)) w) : wpAnyH P .any l.toArray Q S (fuel + 1) listed (A n f) w := by
  refine wpAnyH_take (i := i) (v := v) (by simpa using hi) hs hf hr (fun c a w => hQ.ok c a w (some d) v) ?_ hS ?_
  · exact .inl ⟨by simp [Region.wanted, yld_eq, hy], fun u hu => by rw [A_eval]; exact hrun u hu⟩
  · rw [A_put]; exact h
/-- the only one that can come up -/
theorem d_one {i : Nat} {o : Oper} (hi : l[i]? = some o) (hr : Region.ready .any l.toArray listed = [i])
    (h : wpList P l.toArray (Exit.then (fun a' w' => S w' ∧ wpAnyH P .any l.toArray Q S fuel (listed.setIfInBounds i true) a' w') Q) [o] (A n f) w) : wpAnyH P .any l.toArray Q S (fuel + 1) listed (A n f) w := by
  refine wpAnyH_all hr (by simp) fun j hj => ?_
  simp only [List.mem_singleton] at hj
  subst hj
  unfold wpOp
  have hi' : l.toArray[j]? = some o := by simpa using hi
  simp only [hi']
  unfold wpList at h
  split
  · rename_i hw
    rw [if_pos hw] at h
    rcases h with h | ⟨h1, a, w', h2⟩
    · refine .inl ?_
      unfold Oper.wp at h ⊢
      generalize (execOp (A n f).eval o).run P w = r at h ⊢
      cases r with
      | ok x w' =>
        cases x <;> simp only [Oper.upon] at h ⊢ <;> first | exact h | (refine Calls.mono h fun e w'' he => ?_; cases e <;> exact he) | exact Rows.mono h (fun _ _ he => he)
      | halt x w' => cases x <;> simp only [Oper.upon] at h ⊢ <;> exact h
    · exact .inr ⟨h1, a, w', h2⟩
  · rename_i hw
    rw [if_neg hw] at h
    exact h
theorem wpOp_of_list {i : Nat} {o : Oper} {K : Act → World → Prop} (hi : l[i]? = some o) (h : wpList P l.toArray (Exit.then K Q) [o] (A n f) w) : wpOp P l.toArray Q i K (A n f) w := by
  unfold wpOp
  have hi' : l.toArray[i]? = some o := by simpa using hi
  simp only [hi']
  unfold wpList at h
  split
  · rename_i hw
    rw [if_pos hw] at h
    rcases h with h | ⟨h1, a, w', h2⟩
    · refine .inl ?_
      unfold Oper.wp at h ⊢
      generalize (execOp (A n f).eval o).run P w = r at h ⊢
      cases r with
      | ok x w' =>
        cases x <;> simp only [Oper.upon] at h ⊢ <;> first | exact h | (refine Calls.mono h fun e w'' he => ?_; cases e <;> exact he) | exact Rows.mono h (fun _ _ he => he)
      | halt x w' => cases x <;> simp only [Oper.upon] at h ⊢ <;> exact h
    · exact .inr ⟨h1, a, w', h2⟩
  · rename_i hw
    rw [if_neg hw] at h
    exact h
/-- two can come up -/
theorem d_two {i j : Nat} {o o' : Oper} (hi : l[i]? = some o) (hj : l[j]? = some o') (hr : Region.ready .any l.toArray listed = [i, j])
    (h1 : wpList P l.toArray (Exit.then (fun a' w' => S w' ∧ wpAnyH P .any l.toArray Q S fuel (listed.setIfInBounds i true) a' w') Q) [o] (A n f) w)
    (h2 : wpList P l.toArray (Exit.then (fun a' w' => S w' ∧ wpAnyH P .any l.toArray Q S fuel (listed.setIfInBounds j true) a' w') Q) [o'] (A n f) w) : wpAnyH P .any l.toArray Q S (fuel + 1) listed (A n f) w := by
  refine wpAnyH_all hr (by simp) fun k hk => ?_
  simp only [List.mem_cons, List.not_mem_nil, or_false] at hk
  rcases hk with rfl | rfl
  · exact wpOp_of_list hi h1
  · exact wpOp_of_list hj h2
theorem q_held {K : Act → World → Prop} {S : World → Prop} {a : Act} {w : World} (hS : S w) (h : K a w) : Exit.then (fun a' w' => S w' ∧ K a' w') Q .normal a w := ⟨hS, h⟩
theorem d_done (hr : Region.ready .any l.toArray listed = []) (h : Q .normal (A n f) w) : wpAnyH P .any l.toArray Q S fuel listed (A n f) w := wpAnyH_done hr h fuel
end

/-! ### where ways meet again, inside a region -/
theorem wpList_mono {P : Program} {ops : Array Oper} {Q Q' : Exit → Act → World → Prop} (hq : ∀ e a w, Q e a w → Q' e a w) : ∀ (l : List Oper) (a : Act) (w : World), wpList P ops Q l a w → wpList P ops Q' l a w
  | [], a, w, h => hq _ _ _ h
  | o :: l, a, w, h => by
    unfold wpList at h ⊢
    split
    · rename_i hw
      rw [if_pos hw] at h
      rcases h with h | ⟨h1, a', w', h2⟩
      · refine .inl ?_
        unfold Oper.wp at h ⊢
        generalize (execOp a.eval o).run P w = r at h ⊢
        cases r with
        | ok x w' =>
          cases x <;> simp only [Oper.upon] at h ⊢ <;> first
            | exact wpList_mono hq l _ _ h
            | (refine Calls.mono h fun e w'' he => ?_; cases e <;> first | exact wpList_mono hq l _ _ he | exact hq _ _ _ he | (obtain ⟨a1, w1, h1⟩ := he; exact ⟨a1, w1, hq _ _ _ h1⟩))
            | exact Rows.mono h (fun _ _ he => wpList_mono hq l _ _ he)
        | halt x w' => cases x <;> simp only [Oper.upon] at h ⊢ <;> exact hq _ _ _ h
      · exact .inr ⟨h1, a', w', hq _ _ _ h2⟩
    · rename_i hw
      rw [if_neg hw] at h
      exact wpList_mono hq l _ _ h
theorem w_cut {P : Program} {ops : Array Oper} {Q : Exit → Act → World → Prop} {K : Act → World → Prop} {l : List Oper} {n : Nat} {f : Env} {w : World} (R : Env → World → Prop)
    (h1 : wpList P ops (Exit.then (fun a w => ∃ g, a = A n g ∧ R g w) Q) l (A n f) w) (h2 : ∀ g w, R g w → K (A n g) w) : wpList P ops (Exit.then K Q) l (A n f) w :=
  wpList_mono (fun e a w h => by
    cases e with
    | normal => obtain ⟨g, rfl, hR⟩ := h; exact h2 g w hR
    | _ => exact h) l _ w h1

/-! ### the runs of quiet operations -/
section
variable {D : Dfs}
variable {P : Program} {n : Nat} {f : Env} {w : World}
variable {d : Nat} {ty : TypeId} {ps : String} {af : Array Edge} {x y : Operand} {t t2 : Nat} {gd : Option (Nat × Bool)}
theorem r_move {v : Value} (hx : ev n f x = v) : (execOp (ev n f) ⟨some d, .move x, ty, ps, af, gd⟩).run P w = .ok (.value v) w := by simp [execOp, hx]
theorem r_pick {c : Operand} {b : Bool} {v : Value} (hc : ev n f c = .bool b) (hv : ev n f (cond b x y) = v) : (execOp (ev n f) ⟨some d, .pick c x y, ty, ps, af, gd⟩).run P w = .ok (.value v) w := by cases b <;> simp_all [execOp, asBool]
theorem r_nilCheck {a : Addr} (hx : ev n f x = .pointer (some a)) : (execOp (ev n f) ⟨some d, .nilCheck x, ty, ps, af, gd⟩).run P w = .ok (.value (.pointer (some a))) w := by simp [execOp, hx]
theorem r_fieldAddr {s i off : Nat} {a : Addr} [F : FieldT P s i off] (hx : ev n f x = .pointer (some a)) : (execOp (ev n f) ⟨some d, .fieldAddr s x i, ty, ps, af, gd⟩).run P w = .ok (.value (.pointer (some (a.add off)))) w := by
  obtain ⟨fs, fd, j, h1, h2, h3, h4, h5⟩ := F.f
  simp [execOp, hx, Instr.fieldAt, run_underlying h1, h2, Instr.sureAddr, fieldPlace, sizeOf, typeInfo, h4, h5, h3]
theorem r_field0 {s i off b : Nat} [F : FieldT P s i off] (hx : ev n f x = .pointer (some ⟨b, 0, none⟩)) : (execOp (ev n f) ⟨some d, .fieldAddr s x i, ty, ps, af, gd⟩).run P w = .ok (.value (.pointer (some ⟨b, off, none⟩))) w := by
  have := r_fieldAddr (P := P) (w := w) (d := d) (ty := ty) (ps := ps) (af := af) (gd := gd) (s := s) (i := i) (off := off) hx
  rw [add_lit, Nat.zero_add] at this; exact this
theorem r_add {k : IntKind} {a b r : Int} (hx : ev n f x = .int k a) (hy : ev n f y = .int k b) (hr : k.wrap (a + b) = r) : (execOp (ev n f) ⟨some d, .binOp .add t x y t2, ty, ps, af, gd⟩).run P w = .ok (.value (.int k r)) w := by simp [execOp, eqGuard, binOp, Op.intArith, hx, hy, hr]
theorem r_sub {k : IntKind} {a b r : Int} (hx : ev n f x = .int k a) (hy : ev n f y = .int k b) (hr : k.wrap (a - b) = r) : (execOp (ev n f) ⟨some d, .binOp .sub t x y t2, ty, ps, af, gd⟩).run P w = .ok (.value (.int k r)) w := by simp [execOp, eqGuard, binOp, Op.intArith, hx, hy, hr]
theorem r_mul {k : IntKind} {a b r : Int} (hx : ev n f x = .int k a) (hy : ev n f y = .int k b) (hr : k.wrap (a * b) = r) : (execOp (ev n f) ⟨some d, .binOp .mul t x y t2, ty, ps, af, gd⟩).run P w = .ok (.value (.int k r)) w := by simp [execOp, eqGuard, binOp, Op.intArith, hx, hy, hr]
theorem r_quo {k : IntKind} {a b r : Int} (hx : ev n f x = .int k a) (hy : ev n f y = .int k b) (h0 : ¬ b = 0) (hr : k.wrap (a.tdiv b) = r) : (execOp (ev n f) ⟨some d, .binOp .quo t x y t2, ty, ps, af, gd⟩).run P w = .ok (.value (.int k r)) w := by simp [execOp, eqGuard, binOp, Op.intDiv, hx, hy, h0, hr]
theorem r_rem {k : IntKind} {a b r : Int} (hx : ev n f x = .int k a) (hy : ev n f y = .int k b) (h0 : ¬ b = 0) (hr : a.tmod b = r) : (execOp (ev n f) ⟨some d, .binOp .rem t x y t2, ty, ps, af, gd⟩).run P w = .ok (.value (.int k r)) w := by simp [execOp, eqGuard, binOp, Op.intDiv, hx, hy, h0, hr]
theorem r_shr {k k2 : IntKind} {a b r : Int} (hx : ev n f x = .int k a) (hy : ev n f y = .int k2 b) (h0 : ¬ b < 0) (hr : a.fdiv (2 ^ (min b.toNat k.bits)) = r) : (execOp (ev n f) ⟨some d, .binOp .shr t x y t2, ty, ps, af, gd⟩).run P w = .ok (.value (.int k r)) w := by simp [execOp, eqGuard, binOp, Op.shift, hx, hy, h0, hr]
theorem r_neg {k : IntKind} {a r : Int} (hx : ev n f x = .int k a) (hr : k.wrap (0 - a) = r) : (execOp (ev n f) ⟨some d, .unOp .neg t x, ty, ps, af, gd⟩).run P w = .ok (.value (.int k r)) w := by simp only [execOp, Op.unary, Op.intArith, hx, hr]; simp
theorem r_not {b : Bool} (hx : ev n f x = .bool b) : (execOp (ev n f) ⟨some d, .unOp .not t x, ty, ps, af, gd⟩).run P w = .ok (.value (.bool (!b))) w := by simp [execOp, Op.unary, hx]
theorem r_conv {k k0 : IntKind} {a r : Int} {src dst : Nat} [S : IntT P src k0] [D : IntT P dst k] (hx : ev n f x = .int k0 a) (hr : k.wrap a = r) : (execOp (ev n f) ⟨some d, .convert src dst x, ty, ps, af, gd⟩).run P w = .ok (.value (.int k r)) w := by
  simp [execOp, convert, run_underlying S.u, run_underlying D.u, Conv.intToInt, hx, hr]
theorem r_len {ao : Option Addr} {l c e : Nat} [S : SliceT P t e] (hx : ev n f x = .slice ao l c) : (execOp (ev n f) ⟨some d, .call { callee := .builtin .len, args := #[x], argTypes := #[t] }, ty, ps, af, gd⟩).run P w = .ok (.value (.int .i64 l)) w := by
  simp [execOp, resolve, invoke, builtin, Builtin.len_, run_underlying S.u, hx, goInt]
theorem r_eql {k : IntKind} {a b : Int} {p : Bool} (hx : ev n f x = .int k a) (hy : ev n f y = .int k b) (hp : decide (a = b) = p) : (execOp (ev n f) ⟨some d, .binOp .eql t x y t2, ty, ps, af, gd⟩).run P w = .ok (.value (.bool p)) w := by
  subst hp; simp [execOp, eqGuard, binOp, Op.intCmp, hx, hy]; rfl
theorem r_neq {k : IntKind} {a b : Int} {p : Bool} (hx : ev n f x = .int k a) (hy : ev n f y = .int k b) (hp : decide (¬ a = b) = p) : (execOp (ev n f) ⟨some d, .binOp .neq t x y t2, ty, ps, af, gd⟩).run P w = .ok (.value (.bool p)) w := by
  subst hp; simp [execOp, eqGuard, binOp, Op.intCmp, hx, hy, bne]; rfl
theorem r_lss {k : IntKind} {a b : Int} {p : Bool} (hx : ev n f x = .int k a) (hy : ev n f y = .int k b) (hp : decide (a < b) = p) : (execOp (ev n f) ⟨some d, .binOp .lss t x y t2, ty, ps, af, gd⟩).run P w = .ok (.value (.bool p)) w := by
  subst hp; simp [execOp, eqGuard, binOp, Op.intCmp, hx, hy]
theorem r_leq {k : IntKind} {a b : Int} {p : Bool} (hx : ev n f x = .int k a) (hy : ev n f y = .int k b) (hp : decide (a ≤ b) = p) : (execOp (ev n f) ⟨some d, .binOp .leq t x y t2, ty, ps, af, gd⟩).run P w = .ok (.value (.bool p)) w := by
  subst hp; simp [execOp, eqGuard, binOp, Op.intCmp, hx, hy]
theorem r_gtr {k : IntKind} {a b : Int} {p : Bool} (hx : ev n f x = .int k a) (hy : ev n f y = .int k b) (hp : decide (b < a) = p) : (execOp (ev n f) ⟨some d, .binOp .gtr t x y t2, ty, ps, af, gd⟩).run P w = .ok (.value (.bool p)) w := by
  subst hp; simp [execOp, eqGuard, binOp, Op.intCmp, hx, hy]
theorem r_geq {k : IntKind} {a b : Int} {p : Bool} (hx : ev n f x = .int k a) (hy : ev n f y = .int k b) (hp : decide (b ≤ a) = p) : (execOp (ev n f) ⟨some d, .binOp .geq t x y t2, ty, ps, af, gd⟩).run P w = .ok (.value (.bool p)) w := by
  subst hp; simp [execOp, eqGuard, binOp, Op.intCmp, hx, hy]
theorem r_indexAddr {ao : Option Addr} {a : Addr} {l c e size by_ : Nat} {k : IntKind} {i : Int} {j : Nat} [R : RowT P t e size by_] (hx : ev n f x = .slice ao l c) (hy : ev n f y = .int k i) (hi : i = (j : Int)) (hlt : j < l) (ha : ao = some a) :
    (execOp (ev n f) ⟨some d, .indexAddr t x y, ty, ps, af, gd⟩).run P w = .ok (.value (.pointer (some (a.add (j * size))))) w := by
  obtain ⟨i0, z, hi0, hz, hs, hb, hzs⟩ := R.inf
  subst hi ha
  have h2 : (j : Int) < (l : Int) := by omega
  simp [execOp, Instr.indexAt, hx, hy, asIntOf, run_underlying R.und, hlt, sizeOf, typeInfo, hi0, hs]
theorem r_index1 {ao : Option Addr} {a : Addr} {l c e by_ : Nat} {k : IntKind} {i : Int} {j : Nat} [R : RowT P t e 1 by_] (hx : ev n f x = .slice ao l c) (hy : ev n f y = .int k i) (hi : i = (j : Int)) (hlt : j < l) (ha : ao = some a) :
    (execOp (ev n f) ⟨some d, .indexAddr t x y, ty, ps, af, gd⟩).run P w = .ok (.value (.pointer (some (a.add j)))) w := by
  have := r_indexAddr (P := P) (w := w) (d := d) (ty := ty) (ps := ps) (af := af) (gd := gd) (t := t) hx hy hi hlt ha
  rw [Nat.mul_one] at this; exact this
theorem r_sliceTo {ao : Option Addr} {l c e size by_ k : Nat} {kk : IntKind} {o : Operand} [R : RowT P t e size by_] (hx : ev n f x = .slice ao l c) (ho : ev n f o = .int kk (k : Int)) (hk : k ≤ c) :
    (execOp (ev n f) ⟨some d, .slice t x none (some o) none, ty, ps, af, gd⟩).run P w = .ok (.value (.slice ao k c)) w := by
  obtain ⟨i0, z, hi0, hz, hs, hb, hzs⟩ := R.inf
  have e : (if c = 0 then ao else ao.map (·.add (0 * i0.size))) = ao := by
    split
    · rfl
    · cases ao <;> simp [add0]
  simp only [Nat.zero_mul] at e
  simp [execOp, hx, ho, Instr.sliceAt, Instr.slice, run_underlying R.und, Instr.sliceBounds, Instr.sliceBound, asIntOf, sizeOf, typeInfo, hi0, hk, e]
theorem r_load {a : Addr} {v : Value} [O : OneT P t] (hx : ev n f x = .pointer (some a)) (hc : w.cell? a = some v) : (execOp (ev n f) ⟨some d, .load t x, ty, ps, af, gd⟩).run P w = .ok (.value v) w := by
  simp [execOp, hx, Instr.loadAt, Instr.sureAddr, O.load a hc]
theorem r_loadAgg {a : Addr} {m : Nat} (l : List Value) [G : AggT P t m] (hx : ev n f x = .pointer (some a)) (hl : l.length = m) (hc : ∀ j u, l[j]? = some u → w.cell? (a.add j) = some u) : (execOp (ev n f) ⟨some d, .load t x, ty, ps, af, gd⟩).run P w = .ok (.value (.agg l.toArray)) w := by
  simp [execOp, hx, Instr.loadAt, Instr.sureAddr, G.load a l hl hc]
end
theorem Src.to {w : World} {ao : Option Addr} {m c k size : Nat} {ys : List Value} (h : Src w (.slice ao m c) m ys) (hk : k ≤ m) : Src w (.slice ao k c) k (ys.take (k * size)) := by
  obtain ⟨ao', c', e, hm, hn, hc⟩ := h
  simp only [Value.slice.injEq] at e
  obtain ⟨rfl, _, rfl⟩ := e
  refine ⟨ao, c, rfl, by omega, fun e => ?_, fun ad ha j u hu => ?_⟩
  · obtain ⟨h1, h2, h3⟩ := hn e
    subst h3
    exact ⟨by omega, h2, by simp⟩
  · rw [List.getElem?_take] at hu
    split at hu
    · exact hc ad ha j u hu
    · cases hu
theorem s_index1 {D : Dfs} {P : Program} {ops : Array Oper} {Q : Exit → Act → World → Prop} {rest : List Oper} {n : Nat} {f : Env} {w : World} {d : Nat} {ty : TypeId} {ps : String} {af : Array Edge} {x y : Operand} {t : Nat}
    {ao : Option Addr} {a : Addr} {l c e by_ : Nat} {k : IntKind} {i : Int} {j : Nat} [R : RowT P t e 1 by_] (hx : ev n f x = .slice ao l c) (hy : ev n f y = .int k i) (hi : i = (j : Int)) (hlt : j < l) (ha : ao = some a)
    (h : wpList P ops Q rest (A n (upd f d (.pointer (some (a.add j))))) w) : wpList P ops Q (⟨some d, .indexAddr t x y, ty, ps, af, none⟩ :: rest) (A n f) w := s_run (r_index1 hx hy hi hlt ha) h
end Go.Rf
