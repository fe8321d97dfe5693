/-
  The reference of values: Find, Sort; of trees: SameValues, node. The reference of values: Sort; of trees: node.
-/
import Derived.Test.YtpochcchekoonaaGreatTc
namespace Go.Rf
open Go.RowKit
set_option linter.unusedVariables false
theorem r_sliceFrom {P : Program} {n : Nat} {f : Env} {w : World} {d : Nat} {ty : TypeId} {ps : String} {af : Array Edge} {gd : Option (Nat × Bool)} {x o : Operand} {t : Nat} {ao : Option Addr} {l c e size by_ j : Nat} {kk : IntKind} [R : RowT P t e size by_] (hx : ev n f x = .slice ao l c) (ho : ev n f o = .int kk (j : Int)) (hj : j ≤ l) (hl : l ≤ c) :
    (execOp (ev n f) ⟨some d, .slice t x (some o) none none, ty, ps, af, gd⟩).run P w = .ok (.value (.slice (if c = j then ao else ao.map (·.add (j * size))) (l - j) (c - j))) w := by
  obtain ⟨i0, z, hi0, hz, hs, hb, hzs⟩ := R.inf
  simp [execOp, hx, ho, Instr.sliceAt, Instr.slice, run_underlying R.und, Instr.sliceBounds, Instr.sliceBound, asIntOf, sizeOf, typeInfo, hi0, hs, hj]
theorem s_max {D : Dfs} {P : Program} {ops : Array Oper} {Q : Exit → Act → World → Prop} {rest : List Oper} {n : Nat} {f : Env} {w : World} {d : Nat} {ty : TypeId} {ps : String} {af : Array Edge} {x y : Operand}
    {k : IntKind} {a b r : Int} {at_ : Array TypeId} (hx : ev n f x = .int k a) (hy : ev n f y = .int k b) (hr : (if a < b then b else a) = r) (h : wpList P ops Q rest (A n (upd f d (.int k r))) w) :
    wpList P ops Q (⟨some d, .call { callee := .builtin .max, args := #[x, y], argTypes := at_ }, ty, ps, af, none⟩ :: rest) (A n f) w := by
  refine s_run (v := .int k r) (w' := w) ?_ h
  subst hr
  by_cases hlt : a < b <;> simp [execOp, resolve, invoke, builtin, Builtin.max_, Builtin.max2, hx, hy, hlt]
end Go.Rf
namespace Go.Proofs.YtpochcchekoonaaGreat
open Go.Rf Go.RowKit
set_option linter.unusedVariables false
set_option linter.unusedSimpArgs false
attribute [local irreducible] Code.wp wpList Exit.then Exit.inBlock bodyPost A Calls execOp Addr.add

def fndV : List V → V → Nat × Bool
  | [], _ => (0, false)
  | a :: l, v => if 0 ≤ cmpV a v then (0, decide (cmpV a v = 0)) else ((fndV l v).1 + 1, (fndV l v).2)
def insV (l : List V) (v : V) : List V := if (fndV l v).2 = true then l else l.take (fndV l v).1 ++ [v] ++ l.drop (fndV l v).1
def srtV (l : List V) : List V := l.foldl insV []
theorem fndV_le (l : List V) (v : V) : (fndV l v).1 ≤ l.length := by
  induction l with
  | nil => simp [fndV]
  | cons a l ih => unfold fndV; split <;> simp; omega
theorem insV_len (l : List V) (v : V) : (insV l v).length ≤ l.length + 1 := by
  unfold insV
  have := fndV_le l v
  split <;> simp
  omega
theorem foldl_ins_len (l : List V) : ∀ o : List V, (l.foldl insV o).length ≤ o.length + l.length := by
  induction l with
  | nil => simp
  | cons a l ih => intro o; have h1 := ih (insV o a); have h2 := insV_len o a; simp only [List.foldl_cons, List.length_cons]; omega
theorem srtV_len (l : List V) : (srtV l).length ≤ l.length := by have := foldl_ins_len l []; simpa [srtV] using this
theorem srtV_take {l : List V} {i : Nat} (h : i < l.length) : srtV (l.take (i + 1)) = insV (srtV (l.take i)) l[i] := by
  rw [List.take_succ_eq_append_getElem h, srtV, List.foldl_append]; rfl

set_option maxHeartbeats 4000000 in
theorem findR (l : List V) (v : V) (sl sx : Value) (w : World) (hl : VS w [] l sl) (hx : VS w [] v.kids sx) :
    Calls Tryz.prog 150 #[sl, .agg (vc v sx).toArray] w fun e w' => e = .returned (.tuple #[.int .i64 ((fndV l v).1 : Nat), .bool (fndV l v).2]) ∧ Fr [] w w' := by
  obtain ⟨al, cl, rfl, _⟩ := hl.slice
  obtain ⟨ax, cx, rfl, _⟩ := hx.slice
  have hlen := hl.bound
  refine enter Tryz.func150 rfl Tryz.ntmps150 rfl ?_
  refine rx ?_
  refine s_box rfl rfl (fun w1 hb1 hf1 hs1 => ?_)
  refine rx ?_
  refine c_loopK 8 [6, 7] (σ := Nat) (fun i g u => g 6 = .int .i64 i ∧ i ≤ l.length ∧ fndV l v = (i + (fndV (l.drop i) v).1, (fndV (l.drop i) v).2) ∧ Fr [] w1 u) (fun i => l.length - i) 0 ⟨rfl, Nat.zero_le _, by simp, Fr.refl _ _⟩ ?_
  rintro i g u ⟨h6, hi, hc, hfu⟩
  rw [eq_upd h6]
  have hb2 := hb1.tr0 hfu
  have hF := hf1.trans0 hfu
  have hl2 := hl.tr0 hF
  have hx2 := hx.tr0 hF
  by_cases hlt : i < l.length
  case neg =>
    refine rx ?_
    (apply ret2; exact rfl; (conv => lhs; whnf); (conv => lhs; whnf))
    refine ⟨?_, hF⟩
    have hil : i = l.length := by omega
    rw [hc, List.drop_eq_nil_of_le (by omega), fndV, hil]
    rfl
  obtain ⟨ad, cs1, rfl, ⟨sx1, rfl, hx1⟩, hcell1⟩ := Sl.at hl2.sl VR.len hlt
  rw [List.drop_eq_getElem_cons hlt, fndV] at hc
  refine rx ?_
  (refine d_begin (fun y => Fr [] u y) (by kernel_rfl) rfl ?_)
  have hS : Fr [] u u.drew := Fr.drew _ _
  ((first | refine d_tx 0 hS ?_ | refine d_ty 0 hS ?_ | refine d_tn 0 hS ?_); (first | refine d_tx 1 hS ?_ | refine d_ty 1 hS ?_ | refine d_tn 1 hS ?_); (first | refine d_tx 2 hS ?_ | refine d_ty 2 hS ?_ | refine d_tn 2 hS ?_); (first | refine d_tx 3 hS ?_ | refine d_ty 3 hS ?_ | refine d_tn 3 hS ?_); (first | refine d_tx 4 hS ?_ | refine d_ty 4 hS ?_ | refine d_tn 4 hS ?_))
  refine d_one (i := 5) rfl (by kernel_rfl) ?_
  refine s_call (compareR l[i] v sx1 (.slice ax v.kids.length cx) _ (hx1.tr0 hS) (hx2.tr0 hS)) rfl ?_
  rintro _ u1 ⟨rfl, hf2⟩
  refine ⟨_, rfl, ?_⟩
  have hT := hS.trans0 hf2
  refine wpList_nil (q_held hT ?_)
  (refine d_one (i := 6) rfl (by kernel_rfl) ?_; refine rx ?_; refine q_held hT ?_)
  (refine d_done (by kernel_rfl) ?_)
  by_cases hge : 0 ≤ cmpV l[i] v
  · rw [if_pos hge] at hc
    by_cases he : cmpV l[i] v = 0
    all_goals
      refine rx ?_
      (apply ret2; exact rfl; (conv => lhs; whnf); (conv => lhs; whnf))
      refine ⟨?_, hF.trans0 hT⟩
      rw [hc]
    · rw [decide_eq_true he]; rfl
    · rw [decide_eq_false he]; rfl
  · rw [if_neg hge] at hc
    refine rx ?_
    exact q_roundK (i + 1) (by (repeat (first | exact Keep.mrg _ _ _ _ | (refine Keep.hi rfl ?_) | (refine Keep.one rfl ?_) | exact Keep.all rfl | (refine Keep.inn rfl ?_) | (refine Keep.set rfl ?_)))) ⟨rfl, by omega, (by rw [hc]; simp only [Prod.mk.injEq, and_true]; omega), hfu.trans0 hT⟩ (by omega)

def sameVs : List V → List V → Bool
  | [], [] => true
  | a :: l, b :: m => decide (cmpV a b = 0) && sameVs l m
  | _, _ => false
theorem sameVs_len {a b : List V} (h : a.length ≠ b.length) : sameVs a b = false := by
  induction a generalizing b with
  | nil => cases b with
    | nil => simp at h
    | cons => rfl
  | cons x a ih => cases b with
    | nil => rfl
    | cons y b => unfold sameVs; rw [ih (by simpa using h)]; simp
theorem sameVs_drop {a b : List V} {i : Nat} (h : i < a.length) (h' : i < b.length) : sameVs (a.drop i) (b.drop i) = (decide (cmpV a[i] b[i] = 0) && sameVs (a.drop (i + 1)) (b.drop (i + 1))) := by
  rw [List.drop_eq_getElem_cons h, List.drop_eq_getElem_cons h', sameVs]

set_option maxHeartbeats 4000000 in
theorem sameValuesC (a b : List V) (sa sb : Value) (w : World) (ha : VS w [] a sa) (hb : VS w [] b sb) :
    Calls Tryz.prog 74 #[sa, sb] w fun e w' => e = .returned (.bool (sameVs a b)) ∧ Fr [] w w' := by
  obtain ⟨aa, ca, rfl, _⟩ := ha.slice
  obtain ⟨ab, cb, rfl, _⟩ := hb.slice
  have hlen := ha.bound
  have hlen2 := hb.bound
  refine enter Tryz.func74 rfl Tryz.ntmps74 rfl ?_
  by_cases hne : a.length = b.length
  case neg =>
    refine rx ?_
    (apply ret1; exact rfl; (conv => lhs; whnf))
    exact ⟨by rw [sameVs_len hne], Fr.refl _ _⟩
  refine rx ?_
  refine c_loopK 6 [5] (σ := Nat) (fun i g u => g 5 = .int .i64 i ∧ i ≤ a.length ∧ sameVs a b = sameVs (a.drop i) (b.drop i) ∧ Fr [] w u) (fun i => a.length - i) 0 ⟨rfl, Nat.zero_le _, by simp, Fr.refl _ _⟩ ?_
  rintro i g u ⟨h5, hi, hc, hfu⟩
  rw [eq_upd h5]
  have ha2 := ha.tr0 hfu
  have hb2 := hb.tr0 hfu
  by_cases hlt : i < a.length
  case neg =>
    refine rx ?_
    (apply ret1; exact rfl; (conv => lhs; whnf))
    refine ⟨?_, hfu⟩
    rw [hc, List.drop_eq_nil_of_le (by omega), List.drop_eq_nil_of_le (by omega), sameVs]
  have hlt' : i < b.length := by omega
  obtain ⟨ad, cs1, rfl, ⟨sx1, rfl, hx1⟩, hcell1⟩ := Sl.at ha2.sl VR.len hlt
  obtain ⟨ad2, cs2, rfl, ⟨sx2, rfl, hx2⟩, hcell2⟩ := Sl.at hb2.sl VR.len hlt'
  rw [sameVs_drop hlt hlt'] at hc
  refine rx ?_
  (refine d_begin (fun y => Fr [] u y) (by kernel_rfl) rfl ?_)
  have hS : Fr [] u u.drew := Fr.drew _ _
  ((first | refine d_tx 0 hS ?_ | refine d_ty 0 hS ?_ | refine d_tn 0 hS ?_); (first | refine d_tx 1 hS ?_ | refine d_ty 1 hS ?_ | refine d_tn 1 hS ?_); (first | refine d_tx 2 hS ?_ | refine d_ty 2 hS ?_ | refine d_tn 2 hS ?_); (first | refine d_tx 3 hS ?_ | refine d_ty 3 hS ?_ | refine d_tn 3 hS ?_); (first | refine d_tx 4 hS ?_ | refine d_ty 4 hS ?_ | refine d_tn 4 hS ?_); (first | refine d_tx 5 hS ?_ | refine d_ty 5 hS ?_ | refine d_tn 5 hS ?_); (first | refine d_tx 6 hS ?_ | refine d_ty 6 hS ?_ | refine d_tn 6 hS ?_); (first | refine d_tx 7 hS ?_ | refine d_ty 7 hS ?_ | refine d_tn 7 hS ?_))
  refine d_one (i := 8) rfl (by kernel_rfl) ?_
  refine s_call (compareR a[i] b[i] sx1 sx2 _ (hx1.tr0 hS) (hx2.tr0 hS)) rfl ?_
  rintro _ u1 ⟨rfl, hf2⟩
  refine ⟨_, rfl, ?_⟩
  have hT := hS.trans0 hf2
  refine wpList_nil (q_held hT ?_)
  by_cases he : cmpV a[i] b[i] = 0
  all_goals
    refine d_one (i := 9) rfl (by kernel_rfl) ?_
    refine rx ?_
    refine q_held hT ?_
    (refine d_done (by kernel_rfl) ?_)
    refine rx ?_
  · exact q_roundK (i + 1) (by (repeat (first | exact Keep.mrg _ _ _ _ | (refine Keep.hi rfl ?_) | (refine Keep.one rfl ?_) | exact Keep.all rfl | (refine Keep.inn rfl ?_) | (refine Keep.set rfl ?_)))) ⟨rfl, by omega, (by rw [hc, decide_eq_true he]; simp), hfu.trans0 hT⟩ (by omega)
  · (apply ret1; exact rfl; (conv => lhs; whnf))
    exact ⟨by rw [hc, decide_eq_false he]; rfl, hfu.trans0 hT⟩
end Go.Proofs.YtpochcchekoonaaGreat
namespace Go.Proofs.YtpochcchekoonaaGreat
open Go.Rf Go.RowKit
set_option linter.unusedVariables false
set_option linter.unusedSimpArgs false
attribute [local irreducible] Code.wp wpList Exit.then Exit.inBlock bodyPost A Calls execOp Addr.add
theorem blks_nil : blks (.slice none 0 0) = [] := rfl
theorem fresh0 {b N : Nat} (h : b ∈ blks (.slice none 0 0)) : N ≤ b := by simp [blks, Value.ownBlock] at h
theorem Fr.ofNil {w w' : World} (h : Fr (blks (.slice none 0 0)) w w') : Fr [] w w' := h
/-- rows whose parts lay there in the world W0, apart from S0 -/
def oldR {α : Type} (R : World → List Nat → α → List Value → Prop) (W0 : World) (S0 : List Nat) : World → List Nat → α → List Value → Prop :=
  fun w S x cs => (∀ b ∈ S, b ∈ S0 ∨ W0.heap.size ≤ b) ∧ R W0 S0 x cs ∧ Fr S0 W0 w
section
variable {α : Type} {R : World → List Nat → α → List Value → Prop} {W0 : World} {S0 : List Nat} {k : Nat}
theorem oldStab (h : Stab R k) : Stab (oldR R W0 S0) k where
  tr := fun ⟨h1, h2, h3⟩ hf => ⟨h1, h2, h3.trans hf h1⟩
  mono := fun ⟨h1, h2, h3⟩ hT => ⟨fun b hb => by
    rcases hT b hb with h | h
    · exact h1 b h
    · right; have := h3.size; omega, h2, h3⟩
  len := fun ⟨_, h2, _⟩ => h.len h2
  one := fun ⟨_, h2, _⟩ => h.one h2
theorem oldR.get (h : Stab R k) {w : World} {S T : List Nat} {x : α} {cs : List Value} (hr : oldR R W0 S0 w S x cs) (hT : ∀ b ∈ T, b ∈ S0 ∨ W0.heap.size ≤ b) : R w T x cs := h.turn hr.2.1 hr.2.2 hT
theorem oldR.any (h : Stab R k) {w : World} {S : List Nat} {x : α} {cs : List Value} (hr : oldR R W0 S0 w S x cs) : R w S x cs := hr.get h hr.1
end
theorem OwnR.vsO {w W0 : World} {e : Nat} {S0 S : List Nat} {l : List V} {v : Value} (h : OwnR w e 4 (oldR VR W0 S0) l v) (hl : l.length ≤ 1000000000000) (hS : ∀ b ∈ blks v, b ∉ S) (hT : ∀ b ∈ S, b ∈ S0 ∨ W0.heap.size ≤ b) : VS w S l v := by
  obtain ⟨ys, h1, h2⟩ := h
  refine VS.of hl h1.src (fun ad n c e hp hm => ?_) (h2.imp fun x cs _ hr => hr.get vrStab hT)
  refine hS ad.block ?_ hm
  rcases h1.2 with ⟨hv, h0⟩ | ⟨g, cap, cur, hv, _⟩
  · rw [hv] at e; cases e
  · subst hv
    simp only [Value.slice.injEq, Option.some.injEq] at e
    rw [← e.1]; simp [blks, Value.ownBlock]
theorem OwnR.vsO0 {w W0 : World} {e : Nat} {S0 : List Nat} {l : List V} {v : Value} (h : OwnR w e 4 (oldR VR W0 S0) l v) (hl : l.length ≤ 1000000000000) : VS w [] l v := OwnR.vsO h hl (by simp) (by simp)
/-- what is new lies apart from what was there -/
theorem OwnR.vsN {w W0 : World} {e : Nat} {S0 : List Nat} {l : List V} {v : Value} (h : OwnR w e 4 (oldR VR W0 S0) l v) (hl : l.length ≤ 1000000000000) (hk : ∀ b ∈ blks v, W0.heap.size ≤ b) (hS0 : ∀ b ∈ S0, b < W0.heap.size) : VS w S0 l v :=
  OwnR.vsO h hl (fun b hb hm => by have := hk b hb; have := hS0 b hm; omega) (fun b hb => .inl hb)
theorem OwnR.imp {α : Type} {R R' : World → List Nat → α → List Value → Prop} {w : World} {e k : Nat} {l : List α} {v : Value} (h : OwnR w e k R l v) (hi : ∀ x cs, x ∈ l → R w (blks v) x cs → R' w (blks v) x cs) : OwnR w e k R' l v := by
  obtain ⟨ys, h1, h2⟩ := h
  exact ⟨ys, h1, h2.imp hi⟩
theorem OwnR.vs0 {w : World} {e : Nat} {l : List V} {v : Value} (h : OwnR w e 4 VR l v) (hl : l.length ≤ 1000000000000) : VS w [] l v := VS.ofSl hl (h.sl vrStab)

set_option maxHeartbeats 8000000 in
theorem sortR (l : List V) (sl : Value) (w : World) (S : List Nat) (hl : VS w S l sl) (hlb : l.length ≤ 100000000000) :
    Calls Tryz.prog 144 #[sl] w fun e w' => ∃ v, e = .returned v ∧ OwnR w' 33 4 (oldR VR w S) (srtV l) v ∧ (∀ b ∈ blks v, w.heap.size ≤ b) ∧ Fr [] w w' := by
  obtain ⟨al, cl, rfl, _⟩ := hl.slice
  refine enter Tryz.func144 rfl Tryz.ntmps144 rfl ?_
  refine rx ?_
  refine c_loopK 8 [3, 4, 5, 6, 7] (σ := Nat × Value) (fun s g u => g 4 = .int .i64 (s.1 : Nat) ∧ g 3 = s.2 ∧ s.1 ≤ l.length ∧ OwnR u 33 4 (oldR VR w S) (srtV (l.take s.1)) s.2 ∧ (∀ b ∈ blks s.2, w.heap.size ≤ b) ∧ Fr [] w u) (fun s => l.length - s.1) (0, .slice none 0 0) ⟨rfl, rfl, Nat.zero_le _, OwnR.nil _ _ _ _, fun b hb => fresh0 hb, Fr.refl _ _⟩ ?_
  rintro ⟨i, v⟩ g u ⟨h4, h3, hi, ho, hk, hfu⟩
  simp only at h4 h3 hi ho hk
  obtain ⟨av, cv, rfl⟩ := ho.slice
  rw [eq_upd h3, eq_upd h4]
  have hl2 := hl.tr0 hfu
  have st := oldStab (W0 := w) (S0 := S) vrStab
  by_cases hlt : i < l.length
  case neg =>
    refine rx ?_
    (apply ret1; exact rfl; (conv => lhs; whnf))
    have e : l.take i = l := List.take_of_length_le (by omega)
    rw [e] at ho
    exact ⟨_, rfl, by rw [e]; exact ho, hk, hfu⟩
  obtain ⟨ad, cs1, rfl, ⟨sx1, rfl, hx1⟩, hcell1⟩ := Sl.at hl2.sl VR.len hlt
  have hx1o : VR w S l[i] (vc l[i] sx1) := by
    obtain ⟨ad', cs1', e', ⟨sx1', rfl, hx1'⟩, hcell1'⟩ := Sl.at hl.sl VR.len hlt
    cases e'
    have hc' := hcell1'.tr0 hfu
    have e3 : sx1' = sx1 := by
      have a := hcell1.get (j := 3) rfl
      have b := hc'.get (j := 3) rfl
      rw [a] at b
      injection b with b
      exact b.symm
    subst e3
    exact ⟨_, rfl, hx1'⟩
  have hlen : (srtV (l.take i)).length ≤ i := Nat.le_trans (srtV_len _) (by simp; omega)
  generalize hout : srtV (l.take i) = out at ho hk hlen
  have hvs : VS u [] out (.slice av out.length cv) := OwnR.vsO0 ho (by omega)
  have hcap : out.length ≤ cv := by
    obtain ⟨ao', c', e, h⟩ := hvs.slice
    simp only [Value.slice.injEq] at e
    omega
  have hx1u := hx1
  refine rx ?_
  refine s_call (findR out l[i] (.slice av out.length cv) sx1 u hvs hx1.any) rfl ?_
  rintro _ u1 ⟨rfl, hf1⟩
  refine ⟨_, rfl, ?_⟩
  have hfk := fndV_le out l[i]
  have hnext := srtV_take hlt
  rw [hout] at hnext
  unfold insV at hnext
  generalize fndV out l[i] = kb at hfk hnext
  obtain ⟨k, b⟩ := kb
  simp only at hfk hnext
  have hfu1 := hfu.trans0 hf1
  have ho1 := ho.tr0 st hf1
  cases b with
  | true =>
    rw [if_pos rfl] at hnext
    refine rx ?_
    exact q_roundK (i + 1, .slice av out.length cv) (by (repeat (first | exact Keep.mrg _ _ _ _ | (refine Keep.hi rfl ?_) | (refine Keep.one rfl ?_) | exact Keep.all rfl | (refine Keep.inn rfl ?_) | (refine Keep.set rfl ?_)))) ⟨rfl, rfl, by simp only; omega, by simp only; rw [hnext]; exact ho1, hk, hfu1⟩ (by simp only; omega)
  | false =>
  rw [if_neg (by simp)] at hnext
  have hvs1 := hvs.tr0 hf1
  have hcell := hcell1.tr0 hf1
  obtain ⟨ys, hown1, hrws⟩ := ho1
  have hsrc := hown1.src
  have hyl := Rws.len (k := 4) (fun x cs h => st.len h) hrws
  have hsT := Src.to (size := 4) (k := k) hsrc hfk
  have hrT := Rws.take (fun x cs h => st.len h) hrws k
  have hsD := Src.cut (size := 4) hsrc hyl hfk (Nat.le_refl _)
  have hrD := Rws.drop (fun x cs h => st.len h) hrws k
  rw [List.take_of_length_le (show ys.length ≤ out.length * 4 by omega)] at hsD
  refine rx ?_
  (refine d_begin (fun y => Fr [] u1 y) (by kernel_rfl) rfl ?_)
  have hS : Fr [] u1 u1.drew := Fr.drew _ _
  ((first | refine d_tx 0 hS ?_ | refine d_ty 0 hS ?_ | refine d_tn 0 hS ?_); (first | refine d_tx 1 hS ?_ | refine d_ty 1 hS ?_ | refine d_tn 1 hS ?_); (first | refine d_tx 2 hS ?_ | refine d_ty 2 hS ?_ | refine d_tn 2 hS ?_))
  (apply d_take (i := 3); exact rfl; kernel_rfl; kernel_rfl; kernel_rfl; (intro u hu; exact (r_sliceTo (k := k) rfl rfl (by omega))); exact hS)
  ((first | refine d_tx 5 hS ?_ | refine d_ty 5 hS ?_ | refine d_tn 5 hS ?_); (first | refine d_tx 6 hS ?_ | refine d_ty 6 hS ?_ | refine d_tn 6 hS ?_); (first | refine d_tx 7 hS ?_ | refine d_ty 7 hS ?_ | refine d_tn 7 hS ?_); (first | refine d_tx 8 hS ?_ | refine d_ty 8 hS ?_ | refine d_tn 8 hS ?_))
  ((first | refine d_tx 11 hS ?_ | refine d_ty 11 hS ?_ | refine d_tn 11 hS ?_); (first | refine d_tx 12 hS ?_ | refine d_ty 12 hS ?_ | refine d_tn 12 hS ?_))
  (apply d_take (i := 13); exact rfl; kernel_rfl; kernel_rfl; kernel_rfl; (intro u hu; exact (r_sliceFrom (j := k) rfl rfl hfk hcap)); exact hS)
  generalize hdv : (if cv = k then av else Option.map (fun x => x.add (k * 4)) av) = dv at hsD
  refine d_two (i := 4) (j := 9) rfl rfl (by kernel_rfl) ?wa ?wb
  case' wa =>
    refine s_appR (R := oldR VR w S) (l := []) (al := out.take k) (OwnR.nil _ _ _ _) st rfl rfl (hsT.tr0 hS) (hrT.imp fun x cs _ h => by rw [blks_nil]; exact st.old (st.any h) hS (by simp)) (by simp; omega) (by unfold maxLen; simp; omega) (by simp; omega) (fun v1 u2 ho2 hf2 hk2 _ => ?_)
    refine wpList_nil (q_held (hS.trans0 (Fr.ofNil hf2)) ?_)
    refine d_one (i := 9) rfl (by kernel_rfl) ?_
    refine s_buildS (vc l[i] sx1) rfl rfl rfl rfl (fun u3 ho3 hf3 hs3 => ?_)
    have hF3 : Fr [] u1 u3 := (hS.trans0 (Fr.ofNil hf2)).trans0 hf3
    have ho2' := ho2.tr0 st hf3
    have hsz3 := hF3.size
    have hk2' : ∀ b ∈ blks v1, u1.heap.size ≤ b := fun b hb => by
      rcases hk2 b hb with h | h
      · exact fresh0 h
      · exact h
  case' wb =>
    refine s_buildS (vc l[i] sx1) rfl rfl rfl rfl (fun u2 ho3 hf2 hs2 => ?_)
    refine wpList_nil (q_held (hS.trans0 hf2) ?_)
    refine d_one (i := 4) rfl (by kernel_rfl) ?_
    have hF2 := hS.trans0 hf2
    refine s_appR (R := oldR VR w S) (l := []) (al := out.take k) (OwnR.nil _ _ _ _) st rfl rfl (hsT.tr0 hF2) (hrT.imp fun x cs _ h => by rw [blks_nil]; exact st.old (st.any h) hF2 (by simp)) (by simp; omega) (by unfold maxLen; simp; omega) (by simp; omega) (fun v1 u3 ho2' hf3 hk2 _ => ?_)
    have hF3 : Fr [] u1 u3 := hF2.trans0 (Fr.ofNil hf3)
    have hsz3 := hF3.size
    replace ho3 := ho3.tr0 (Fr.ofNil hf3)
    have hk2' : ∀ b ∈ blks v1, u1.heap.size ≤ b := fun b hb => by
      rcases hk2 b hb with h | h
      · exact fresh0 h
      · have := hF2.size; omega
  all_goals
    refine wpList_nil (q_held hF3 ?_)
    refine d_one (i := 10) rfl (by kernel_rfl) ?_
    have hrow : oldR VR w S u3 (blks v1) l[i] (vc l[i] sx1) := ⟨fun b hb => .inr (by have := hk2' b hb; have := hfu1.size; omega), hx1o, ((hfu1.trans0 hF3).mono (by simp))⟩
    refine s_appR (R := oldR VR w S) (al := [l[i]]) ho2' st rfl rfl ho3.src (Rws.one hrow) rfl (by unfold maxLen; simp; omega) (by simp; omega) (fun v2 u4 ho4 hf4 hk4 _ => ?_)
    have hF4 : Fr [] u1 u4 := hF3.trans hf4 (fun b hb => .inr (hk2' b hb))
    have hk4' : ∀ b ∈ blks v2, u1.heap.size ≤ b := fun b hb => by
      rcases hk4 b hb with h | h
      · exact hk2' b h
      · omega
    refine wpList_nil (q_held hF4 ?_)
    refine d_one (i := 14) rfl (by kernel_rfl) ?_
    refine s_appR (R := oldR VR w S) (al := out.drop k) ho4 st rfl rfl (hsD.tr0 hF4) (hrD.imp fun x cs _ h => st.old (st.mono (st.any h) (fun b hb => .inr (hk4' b hb))) hF4 (by simp)) (by simp) (by unfold maxLen; simp; omega) (by simp; omega) (fun v3 u5 ho5 hf5 hk5 _ => ?_)
    have hF5 : Fr [] u1 u5 := hF4.trans hf5 (fun b hb => .inr (hk4' b hb))
    have hsz4 := hF4.size
    have hk5' : ∀ b ∈ blks v3, w.heap.size ≤ b := fun b hb => by
      have := hfu1.size
      rcases hk5 b hb with h | h
      · have := hk4' b h; omega
      · omega
    refine wpList_nil (q_held hF5 ?_)
    (refine d_one (i := 15) rfl (by kernel_rfl) ?_; refine rx ?_; refine q_held hF5 ?_)
    (refine d_done (by kernel_rfl) ?_)
    refine rx ?_
    exact q_roundK (i + 1, v3) (by (repeat (first | exact Keep.mrg _ _ _ _ | (refine Keep.hi rfl ?_) | (refine Keep.one rfl ?_) | exact Keep.all rfl | (refine Keep.inn rfl ?_) | (refine Keep.set rfl ?_)))) ⟨rfl, rfl, by simp only; omega, by simp only; rw [hnext]; simpa using ho5, hk5', hfu1.trans0 hF5⟩ (by simp only; omega)
end Go.Proofs.YtpochcchekoonaaGreat
