/-
  Contracts of package values: Compare; of the reference's Compare.
-/
import Derived.Test.YtpochcchekoonaaVm
import Derived.Test.YtpochcchekoonaaInst
namespace Go.Proofs.Ytpochcchekoonaa
open Go.Rf Go.RowKit
set_option linter.unusedVariables false
attribute [local irreducible] Code.wp wpList Exit.then Exit.inBlock bodyPost A Calls execOp Addr.add

def cmpI (a b : Int) : Int := if a < b then -1 else if b < a then 1 else 0
def cmpS (a b : ByteArray) : Int := if Op.bytesLess a.toList b.toList = true then -1 else if a = b then 0 else 1
mutual
def cmpV : V → V → Int
  | ⟨k, n, s, ks⟩, ⟨k', n', s', ks'⟩ => if cmpI k k' ≠ 0 then cmpI k k' else if cmpI n n' ≠ 0 then cmpI n n' else if cmpS s s' ≠ 0 then cmpS s s' else cmpVs ks ks'
def cmpVs : List V → List V → Int
  | [], [] => 0
  | [], _ :: _ => -1
  | _ :: _, [] => 1
  | a :: l, b :: m => if cmpV a b ≠ 0 then cmpV a b else cmpVs l m
end
theorem cmpV_eq (a b : V) : cmpV a b = if cmpI a.kind b.kind ≠ 0 then cmpI a.kind b.kind else if cmpI a.n b.n ≠ 0 then cmpI a.n b.n else if cmpS a.s b.s ≠ 0 then cmpS a.s b.s else cmpVs a.kids b.kids := by
  cases a; cases b; simp only [cmpV]

theorem isNaNI (a : Int) (w : World) : Calls Try.prog 102 #[.int .i64 a] w fun e w' => e = .returned (.bool false) ∧ w = w' := by
  refine enter Try.func102 rfl Try.ntmps102 rfl ?_
  refine rx ?_
  (apply ret1; exact rfl; (conv => lhs; whnf))
  exact ⟨rfl, rfl⟩
theorem isNaNS (a : ByteArray) (w : World) : Calls Try.prog 103 #[.string a] w fun e w' => e = .returned (.bool false) ∧ w = w' := by
  refine enter Try.func103 rfl Try.ntmps103 rfl ?_
  have : a = a := rfl
  refine rx ?_
  (apply ret1; exact rfl; (conv => lhs; whnf))
  exact ⟨rfl, rfl⟩
theorem compareI (a b : Int) (w : World) : Calls Try.prog 88 #[.int .i64 a, .int .i64 b] w fun e w' => e = .returned (.int .i64 (cmpI a b)) ∧ w = w' := by
  refine enter Try.func88 rfl Try.ntmps88 rfl ?_
  refine rx ?_
  refine s_call (isNaNI a w) rfl ?_
  rintro _ _ ⟨rfl, rfl⟩
  refine ⟨_, rfl, ?_⟩
  refine rx ?_
  refine s_call (isNaNI b w) rfl ?_
  rintro _ _ ⟨rfl, rfl⟩
  refine ⟨_, rfl, ?_⟩
  (refine rx ?_; repeat' ((first | refine s_eql rfl rfl (fun h => ?_) (fun h => ?_) | refine s_neq rfl rfl (fun h => ?_) (fun h => ?_) | refine s_lss rfl rfl (fun h => ?_) (fun h => ?_) | refine s_leq rfl rfl (fun h => ?_) (fun h => ?_) | refine s_gtr rfl rfl (fun h => ?_) (fun h => ?_) | refine s_geq rfl rfl (fun h => ?_) (fun h => ?_) | refine s_eqlE rfl rfl (fun h => ?_) (fun h => ?_) | refine s_neqE rfl rfl (fun h => ?_) (fun h => ?_) | refine s_lssS rfl rfl (fun h => ?_) (fun h => ?_) | refine s_gtrS rfl rfl (fun h => ?_) (fun h => ?_)) <;> refine rx ?_))
  all_goals
    (apply ret1; exact rfl; (conv => lhs; whnf))
    refine ⟨?_, rfl⟩
    unfold cmpI
    (repeat' split) <;> first | rfl | (exfalso; omega)
theorem compareS (a b : ByteArray) (w : World) : Calls Try.prog 89 #[.string a, .string b] w fun e w' => e = .returned (.int .i64 (cmpS a b)) ∧ w = w' := by
  refine enter Try.func89 rfl Try.ntmps89 rfl ?_
  refine rx ?_
  refine s_call (isNaNS a w) rfl ?_
  rintro _ _ ⟨rfl, rfl⟩
  refine ⟨_, rfl, ?_⟩
  refine rx ?_
  refine s_call (isNaNS b w) rfl ?_
  rintro _ _ ⟨rfl, rfl⟩
  refine ⟨_, rfl, ?_⟩
  (refine rx ?_; repeat' ((first | refine s_eql rfl rfl (fun h => ?_) (fun h => ?_) | refine s_neq rfl rfl (fun h => ?_) (fun h => ?_) | refine s_lss rfl rfl (fun h => ?_) (fun h => ?_) | refine s_leq rfl rfl (fun h => ?_) (fun h => ?_) | refine s_gtr rfl rfl (fun h => ?_) (fun h => ?_) | refine s_geq rfl rfl (fun h => ?_) (fun h => ?_) | refine s_eqlE rfl rfl (fun h => ?_) (fun h => ?_) | refine s_neqE rfl rfl (fun h => ?_) (fun h => ?_) | refine s_lssS rfl rfl (fun h => ?_) (fun h => ?_) | refine s_gtrS rfl rfl (fun h => ?_) (fun h => ?_)) <;> refine rx ?_))
  all_goals
    (apply ret1; exact rfl; (conv => lhs; whnf))
    refine ⟨?_, rfl⟩
    simp_all [cmpS]

theorem compareFunc (a b : List V) (sa sb : Value) (w : World) (ha : VS w [] a sa) (hb : VS w [] b sb)
    (H : ∀ x ∈ a, ∀ (y : V) (sx sy : Value) (u : World), VS u [] x.kids sx → VS u [] y.kids sy → Calls Try.prog 62 #[.agg (vc x sx).toArray, .agg (vc y sy).toArray] u fun e u' => e = .returned (.int .i64 (cmpV x y)) ∧ Fr [] u u') :
    Calls Try.prog 90 #[sa, sb, .func (.func 62) #[] #[]] w fun e w' => e = .returned (.int .i64 (cmpVs a b)) ∧ Fr [] w w' := by
  obtain ⟨aa, ca, rfl, hca⟩ := ha.slice
  obtain ⟨ab, cb, rfl, hcb⟩ := hb.slice
  have la := ha.bound
  have lb := hb.bound
  refine enter Try.func90 rfl Try.ntmps90 rfl ?_
  refine rx ?_
  refine c_loopK 11 [7, 8, 9, 10] (σ := Nat) (fun i g u => g 11 = .slice aa a.length ca ∧ g 12 = .int .i64 a.length ∧ g 13 = .int .i64 i ∧ i ≤ a.length ∧ i ≤ b.length ∧ cmpVs a b = cmpVs (a.drop i) (b.drop i) ∧ Fr [] w u)
    (fun i => a.length - i) 0 ⟨rfl, rfl, rfl, Nat.zero_le _, Nat.zero_le _, rfl, Fr.refl _ _⟩ ?_
  rintro i g u ⟨h11, h12, h13, hi, hib, hc, hf⟩
  rw [eq_upd h11, eq_upd h12, eq_upd h13]
  by_cases hlt : i < a.length
  case neg =>
    have e1 : a.drop i = [] := List.drop_eq_nil_of_le (by omega)
    refine rx ?_
    refine s_lss rfl rfl (fun h => ?_) (fun h => ?_)
    · refine rx ?_
      (apply ret1; exact rfl; (conv => lhs; whnf))
      refine ⟨?_, hf⟩
      have : i < b.length := by omega
      rw [hc, e1, List.drop_eq_getElem_cons this]; rfl
    · refine rx ?_
      (apply ret1; exact rfl; (conv => lhs; whnf))
      refine ⟨?_, hf⟩
      have e2 : b.drop i = [] := List.drop_eq_nil_of_le (by omega)
      rw [hc, e1, e2]; rfl
  obtain ⟨ad, cs, rfl, ⟨sx, rfl, hx⟩, hcx⟩ := (ha.tr0 hf).sl.at VR.len hlt
  refine rx ?_
  refine s_alloc rfl (fun u1 hb1 hf1 hs1 => ?_)
  refine rx ?_
  refine s_storeAggB rfl rfl hb1 (VR.mem1 a[i] _ ⟨sx, rfl, hx⟩) rfl rfl (fun u2 hb2 hf2 hs2 => ?_)
  have hF2 : Fr [] u u2 := hf1.trans hf2 (by simp)
  by_cases hltb : i < b.length
  case neg =>
    refine rx ?_
    (apply ret1; exact rfl; (conv => lhs; whnf))
    refine ⟨?_, hf.trans0 hF2⟩
    rw [hc, List.drop_eq_getElem_cons hlt, List.drop_eq_nil_of_le (by omega : b.length ≤ i)]; rfl
  obtain ⟨bd, cs, rfl, ⟨sy, rfl, hy⟩, hcy⟩ := (hb.tr0 (hf.trans0 hF2)).sl.at VR.len hltb
  refine rx ?_
  refine s_alloc rfl (fun u3 hb3 hf3 hs3 => ?_)
  refine rx ?_
  refine s_storeAggB rfl rfl hb3 (VR.mem1 b[i] _ ⟨sy, rfl, hy⟩) rfl rfl (fun u4 hb4 hf4 hs4 => ?_)
  have hF4 : Fr [] u2 u4 := hf3.trans hf4 (by simp)
  have hb5 : Blk u4 u.heap.size (vc a[i] sx) 37 := hb2.old hf3 (by simp) |>.tr hf4 (by simp; have := hf1.size; omega)
  refine rx ?_
  refine s_callV (first := []) (cap := []) (H a[i] (by simp) b[i] sx sy u4 (hx.tr0 (hF2.trans0 hF4)) (hy.tr0 hF4)) rfl rfl rfl ?_
  rintro _ u5 ⟨rfl, hf5⟩
  refine ⟨_, rfl, ?_⟩
  have hF : Fr [] w u5 := ((hf.trans0 hF2).trans0 hF4).trans0 hf5
  have ec : cmpVs a b = if cmpV a[i] b[i] ≠ 0 then cmpV a[i] b[i] else cmpVs (a.drop (i + 1)) (b.drop (i + 1)) := by
    rw [hc, List.drop_eq_getElem_cons hlt, List.drop_eq_getElem_cons hltb, cmpVs]
  refine rx ?_
  refine s_neq rfl rfl (fun h => ?_) (fun h => ?_)
  · refine rx ?_
    (apply ret1; exact rfl; (conv => lhs; whnf))
    exact ⟨by rw [ec, if_pos h], hF⟩
  · refine rx ?_
    exact q_roundK (i + 1) (by (repeat (first | exact Keep.mrg _ _ _ _ | (refine Keep.hi rfl ?_) | (refine Keep.one rfl ?_) | exact Keep.all rfl | (refine Keep.inn rfl ?_) | (refine Keep.set rfl ?_)))) ⟨rfl, rfl, rfl, by omega, by omega, by rw [ec, if_neg (by simpa using h)], hF⟩ (by omega)

theorem compareV (a b : V) (sa sb : Value) (w : World) (ha : VS w [] a.kids sa) (hb : VS w [] b.kids sb) :
    Calls Try.prog 62 #[.agg (vc a sa).toArray, .agg (vc b sb).toArray] w fun e w' => e = .returned (.int .i64 (cmpV a b)) ∧ Fr [] w w' := by
  refine enter Try.func62 rfl Try.ntmps62 rfl ?_
  refine rx ?_
  refine s_box rfl rfl (fun w1 hb1 hf1 hs1 => ?_)
  refine s_box rfl rfl (fun w2 hb2 hf2 hs2 => ?_)
  have hb1' := hb1.tr0 hf2
  have hF := hf1.trans0 hf2
  refine rx ?_
  refine s_call (compareI a.kind b.kind w2) rfl ?_
  rintro _ _ ⟨rfl, rfl⟩
  refine ⟨_, rfl, ?_⟩
  rw [cmpV_eq]
  refine rx ?_
  refine s_neq rfl rfl (fun h => ?_) (fun h => ?_)
  · refine rx ?_
    (apply ret1; exact rfl; (conv => lhs; whnf))
    exact ⟨by rw [if_pos h], hF⟩
  rw [if_neg (by simpa using h)]
  refine rx ?_
  refine s_call (compareI a.n b.n w2) rfl ?_
  rintro _ _ ⟨rfl, rfl⟩
  refine ⟨_, rfl, ?_⟩
  refine rx ?_
  refine s_neq rfl rfl (fun h => ?_) (fun h => ?_)
  · refine rx ?_
    (apply ret1; exact rfl; (conv => lhs; whnf))
    exact ⟨by rw [if_pos h], hF⟩
  rw [if_neg (by simpa using h)]
  refine rx ?_
  refine s_call (compareS a.s b.s w2) rfl ?_
  rintro _ _ ⟨rfl, rfl⟩
  refine ⟨_, rfl, ?_⟩
  refine rx ?_
  refine s_neq rfl rfl (fun h => ?_) (fun h => ?_)
  · refine rx ?_
    (apply ret1; exact rfl; (conv => lhs; whnf))
    exact ⟨by rw [if_pos h], hF⟩
  rw [if_neg (by simpa using h)]
  refine rx ?_
  refine s_call (compareFunc a.kids b.kids sa sb w2 (ha.tr0 hF) (hb.tr0 hF) (fun x hx y sx sy u h1 h2 => compareV x y sx sy u h1 h2)) rfl ?_
  rintro _ w3 ⟨rfl, hf3⟩
  refine ⟨_, rfl, ?_⟩
  refine rx ?_
  (apply ret1; exact rfl; (conv => lhs; whnf))
  exact ⟨rfl, hF.trans0 hf3⟩
termination_by SizeOf.sizeOf a
decreasing_by
  have h1 := List.sizeOf_lt_of_mem hx
  have h2 : SizeOf.sizeOf a.kids < SizeOf.sizeOf a := by cases a; simp; omega
  omega
end Go.Proofs.Ytpochcchekoonaa
