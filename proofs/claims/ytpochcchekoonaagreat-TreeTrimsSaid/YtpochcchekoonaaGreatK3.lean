/-
  Contracts of package values: Compare; of the reference's Compare. Contracts of the reference's Compare (refuterref10). Contracts of package values: Valid; of the reference's Valid. Contracts of package values: visit, Valid; of the reference's Valid. Contracts of package values: Valid; of the reference's Valid. Contracts of the reference's Valid (refuterref10) and Zero (refuterref28). Contracts of package clone: Value, Values; of the reference's Zero.
-/
import Derived.Test.YtpochcchekoonaaGreatK2
import Derived.Test.YtpochcchekoonaaGreatInst
namespace Go.Proofs.YtpochcchekoonaaGreat
open Go.Rf Go.RowKit
set_option linter.unusedVariables false
attribute [local irreducible] Code.wp wpList Exit.then Exit.inBlock bodyPost A Calls execOp Addr.add

def cmpI (a b : Int) : Int := if a < b then -1 else if b < a then 1 else 0
def cmpS (a b : ByteArray) : Int := if Op.bytesLess a.toList b.toList = true then -1 else if a = b then 0 else 1
mutual
def cmpV : V → V → Int
  | ⟨k, n, s, ks⟩, ⟨k', n', s', ks'⟩ => if cmpI k k' ≠ 0 then cmpI k k' else if cmpI n n' ≠ 0 then cmpI n n' else if cmpS s s' ≠ 0 then cmpS s s' else cmpVs ks ks'
def cmpVs : List V → List V → Int
  | [], [] => 0
  | [], _ :: _ => -1
  | _ :: _, [] => 1
  | a :: l, b :: m => if cmpV a b ≠ 0 then cmpV a b else cmpVs l m
end
theorem cmpV_eq (a b : V) : cmpV a b = if cmpI a.kind b.kind ≠ 0 then cmpI a.kind b.kind else if cmpI a.n b.n ≠ 0 then cmpI a.n b.n else if cmpS a.s b.s ≠ 0 then cmpS a.s b.s else cmpVs a.kids b.kids := by
  cases a; cases b; simp only [cmpV]

theorem isNaNI (a : Int) (w : World) : Calls Tryz.prog 136 #[.int .i64 a] w fun e w' => e = .returned (.bool false) ∧ w = w' := by
  refine enter Tryz.func136 rfl Tryz.ntmps136 rfl ?_
  refine rx ?_
  (apply ret1; exact rfl; (conv => lhs; whnf))
  exact ⟨rfl, rfl⟩
theorem isNaNS (a : ByteArray) (w : World) : Calls Tryz.prog 137 #[.string a] w fun e w' => e = .returned (.bool false) ∧ w = w' := by
  refine enter Tryz.func137 rfl Tryz.ntmps137 rfl ?_
  have : a = a := rfl
  refine rx ?_
  (apply ret1; exact rfl; (conv => lhs; whnf))
  exact ⟨rfl, rfl⟩
theorem compareI (a b : Int) (w : World) : Calls Tryz.prog 112 #[.int .i64 a, .int .i64 b] w fun e w' => e = .returned (.int .i64 (cmpI a b)) ∧ w = w' := by
  refine enter Tryz.func112 rfl Tryz.ntmps112 rfl ?_
  refine rx ?_
  refine s_call (isNaNI a w) rfl ?_
  rintro _ _ ⟨rfl, rfl⟩
  refine ⟨_, rfl, ?_⟩
  refine rx ?_
  refine s_call (isNaNI b w) rfl ?_
  rintro _ _ ⟨rfl, rfl⟩
  refine ⟨_, rfl, ?_⟩
  (refine rx ?_; repeat' ((first | refine s_eql rfl rfl (fun h => ?_) (fun h => ?_) | refine s_neq rfl rfl (fun h => ?_) (fun h => ?_) | refine s_lss rfl rfl (fun h => ?_) (fun h => ?_) | refine s_leq rfl rfl (fun h => ?_) (fun h => ?_) | refine s_gtr rfl rfl (fun h => ?_) (fun h => ?_) | refine s_geq rfl rfl (fun h => ?_) (fun h => ?_) | refine s_eqlE rfl rfl (fun h => ?_) (fun h => ?_) | refine s_neqE rfl rfl (fun h => ?_) (fun h => ?_) | refine s_lssS rfl rfl (fun h => ?_) (fun h => ?_) | refine s_gtrS rfl rfl (fun h => ?_) (fun h => ?_)) <;> refine rx ?_))
  all_goals
    (apply ret1; exact rfl; (conv => lhs; whnf))
    refine ⟨?_, rfl⟩
    unfold cmpI
    (repeat' split) <;> first | rfl | (exfalso; omega)
theorem compareS (a b : ByteArray) (w : World) : Calls Tryz.prog 113 #[.string a, .string b] w fun e w' => e = .returned (.int .i64 (cmpS a b)) ∧ w = w' := by
  refine enter Tryz.func113 rfl Tryz.ntmps113 rfl ?_
  refine rx ?_
  refine s_call (isNaNS a w) rfl ?_
  rintro _ _ ⟨rfl, rfl⟩
  refine ⟨_, rfl, ?_⟩
  refine rx ?_
  refine s_call (isNaNS b w) rfl ?_
  rintro _ _ ⟨rfl, rfl⟩
  refine ⟨_, rfl, ?_⟩
  (refine rx ?_; repeat' ((first | refine s_eql rfl rfl (fun h => ?_) (fun h => ?_) | refine s_neq rfl rfl (fun h => ?_) (fun h => ?_) | refine s_lss rfl rfl (fun h => ?_) (fun h => ?_) | refine s_leq rfl rfl (fun h => ?_) (fun h => ?_) | refine s_gtr rfl rfl (fun h => ?_) (fun h => ?_) | refine s_geq rfl rfl (fun h => ?_) (fun h => ?_) | refine s_eqlE rfl rfl (fun h => ?_) (fun h => ?_) | refine s_neqE rfl rfl (fun h => ?_) (fun h => ?_) | refine s_lssS rfl rfl (fun h => ?_) (fun h => ?_) | refine s_gtrS rfl rfl (fun h => ?_) (fun h => ?_)) <;> refine rx ?_))
  all_goals
    (apply ret1; exact rfl; (conv => lhs; whnf))
    refine ⟨?_, rfl⟩
    simp_all [cmpS]

theorem compareFunc (a b : List V) (sa sb : Value) (w : World) (ha : VS w [] a sa) (hb : VS w [] b sb)
    (H : ∀ x ∈ a, ∀ (y : V) (sx sy : Value) (u : World), VS u [] x.kids sx → VS u [] y.kids sy → Calls Tryz.prog 76 #[.agg (vc x sx).toArray, .agg (vc y sy).toArray] u fun e u' => e = .returned (.int .i64 (cmpV x y)) ∧ Fr [] u u') :
    Calls Tryz.prog 114 #[sa, sb, .func (.func 76) #[] #[]] w fun e w' => e = .returned (.int .i64 (cmpVs a b)) ∧ Fr [] w w' := by
  obtain ⟨aa, ca, rfl, hca⟩ := ha.slice
  obtain ⟨ab, cb, rfl, hcb⟩ := hb.slice
  have la := ha.bound
  have lb := hb.bound
  refine enter Tryz.func114 rfl Tryz.ntmps114 rfl ?_
  refine rx ?_
  refine c_loopK 11 [7, 8, 9, 10] (σ := Nat) (fun i g u => g 11 = .slice aa a.length ca ∧ g 12 = .int .i64 a.length ∧ g 13 = .int .i64 i ∧ i ≤ a.length ∧ i ≤ b.length ∧ cmpVs a b = cmpVs (a.drop i) (b.drop i) ∧ Fr [] w u)
    (fun i => a.length - i) 0 ⟨rfl, rfl, rfl, Nat.zero_le _, Nat.zero_le _, rfl, Fr.refl _ _⟩ ?_
  rintro i g u ⟨h11, h12, h13, hi, hib, hc, hf⟩
  rw [eq_upd h11, eq_upd h12, eq_upd h13]
  by_cases hlt : i < a.length
  case neg =>
    have e1 : a.drop i = [] := List.drop_eq_nil_of_le (by omega)
    refine rx ?_
    refine s_lss rfl rfl (fun h => ?_) (fun h => ?_)
    · refine rx ?_
      (apply ret1; exact rfl; (conv => lhs; whnf))
      refine ⟨?_, hf⟩
      have : i < b.length := by omega
      rw [hc, e1, List.drop_eq_getElem_cons this]; rfl
    · refine rx ?_
      (apply ret1; exact rfl; (conv => lhs; whnf))
      refine ⟨?_, hf⟩
      have e2 : b.drop i = [] := List.drop_eq_nil_of_le (by omega)
      rw [hc, e1, e2]; rfl
  obtain ⟨ad, cs, rfl, ⟨sx, rfl, hx⟩, hcx⟩ := (ha.tr0 hf).sl.at VR.len hlt
  refine rx ?_
  refine s_alloc rfl (fun u1 hb1 hf1 hs1 => ?_)
  refine rx ?_
  refine s_storeAggB rfl rfl hb1 (VR.mem1 a[i] _ ⟨sx, rfl, hx⟩) rfl rfl (fun u2 hb2 hf2 hs2 => ?_)
  have hF2 : Fr [] u u2 := hf1.trans hf2 (by simp)
  by_cases hltb : i < b.length
  case neg =>
    refine rx ?_
    (apply ret1; exact rfl; (conv => lhs; whnf))
    refine ⟨?_, hf.trans0 hF2⟩
    rw [hc, List.drop_eq_getElem_cons hlt, List.drop_eq_nil_of_le (by omega : b.length ≤ i)]; rfl
  obtain ⟨bd, cs, rfl, ⟨sy, rfl, hy⟩, hcy⟩ := (hb.tr0 (hf.trans0 hF2)).sl.at VR.len hltb
  refine rx ?_
  refine s_alloc rfl (fun u3 hb3 hf3 hs3 => ?_)
  refine rx ?_
  refine s_storeAggB rfl rfl hb3 (VR.mem1 b[i] _ ⟨sy, rfl, hy⟩) rfl rfl (fun u4 hb4 hf4 hs4 => ?_)
  have hF4 : Fr [] u2 u4 := hf3.trans hf4 (by simp)
  have hb5 : Blk u4 u.heap.size (vc a[i] sx) 33 := hb2.old hf3 (by simp) |>.tr hf4 (by simp; have := hf1.size; omega)
  refine rx ?_
  refine s_callV (first := []) (cap := []) (H a[i] (by simp) b[i] sx sy u4 (hx.tr0 (hF2.trans0 hF4)) (hy.tr0 hF4)) rfl rfl rfl ?_
  rintro _ u5 ⟨rfl, hf5⟩
  refine ⟨_, rfl, ?_⟩
  have hF : Fr [] w u5 := ((hf.trans0 hF2).trans0 hF4).trans0 hf5
  have ec : cmpVs a b = if cmpV a[i] b[i] ≠ 0 then cmpV a[i] b[i] else cmpVs (a.drop (i + 1)) (b.drop (i + 1)) := by
    rw [hc, List.drop_eq_getElem_cons hlt, List.drop_eq_getElem_cons hltb, cmpVs]
  refine rx ?_
  refine s_neq rfl rfl (fun h => ?_) (fun h => ?_)
  · refine rx ?_
    (apply ret1; exact rfl; (conv => lhs; whnf))
    exact ⟨by rw [ec, if_pos h], hF⟩
  · refine rx ?_
    exact q_roundK (i + 1) (by (repeat (first | exact Keep.mrg _ _ _ _ | (refine Keep.hi rfl ?_) | (refine Keep.one rfl ?_) | exact Keep.all rfl | (refine Keep.inn rfl ?_) | (refine Keep.set rfl ?_)))) ⟨rfl, rfl, rfl, by omega, by omega, by rw [ec, if_neg (by simpa using h)], hF⟩ (by omega)

theorem compareV (a b : V) (sa sb : Value) (w : World) (ha : VS w [] a.kids sa) (hb : VS w [] b.kids sb) :
    Calls Tryz.prog 76 #[.agg (vc a sa).toArray, .agg (vc b sb).toArray] w fun e w' => e = .returned (.int .i64 (cmpV a b)) ∧ Fr [] w w' := by
  refine enter Tryz.func76 rfl Tryz.ntmps76 rfl ?_
  refine rx ?_
  refine s_box rfl rfl (fun w1 hb1 hf1 hs1 => ?_)
  refine s_box rfl rfl (fun w2 hb2 hf2 hs2 => ?_)
  have hb1' := hb1.tr0 hf2
  have hF := hf1.trans0 hf2
  refine rx ?_
  refine s_call (compareI a.kind b.kind w2) rfl ?_
  rintro _ _ ⟨rfl, rfl⟩
  refine ⟨_, rfl, ?_⟩
  rw [cmpV_eq]
  refine rx ?_
  refine s_neq rfl rfl (fun h => ?_) (fun h => ?_)
  · refine rx ?_
    (apply ret1; exact rfl; (conv => lhs; whnf))
    exact ⟨by rw [if_pos h], hF⟩
  rw [if_neg (by simpa using h)]
  refine rx ?_
  refine s_call (compareI a.n b.n w2) rfl ?_
  rintro _ _ ⟨rfl, rfl⟩
  refine ⟨_, rfl, ?_⟩
  refine rx ?_
  refine s_neq rfl rfl (fun h => ?_) (fun h => ?_)
  · refine rx ?_
    (apply ret1; exact rfl; (conv => lhs; whnf))
    exact ⟨by rw [if_pos h], hF⟩
  rw [if_neg (by simpa using h)]
  refine rx ?_
  refine s_call (compareS a.s b.s w2) rfl ?_
  rintro _ _ ⟨rfl, rfl⟩
  refine ⟨_, rfl, ?_⟩
  refine rx ?_
  refine s_neq rfl rfl (fun h => ?_) (fun h => ?_)
  · refine rx ?_
    (apply ret1; exact rfl; (conv => lhs; whnf))
    exact ⟨by rw [if_pos h], hF⟩
  rw [if_neg (by simpa using h)]
  refine rx ?_
  refine s_call (compareFunc a.kids b.kids sa sb w2 (ha.tr0 hF) (hb.tr0 hF) (fun x hx y sx sy u h1 h2 => compareV x y sx sy u h1 h2)) rfl ?_
  rintro _ w3 ⟨rfl, hf3⟩
  refine ⟨_, rfl, ?_⟩
  refine rx ?_
  (apply ret1; exact rfl; (conv => lhs; whnf))
  exact ⟨rfl, hF.trans0 hf3⟩
termination_by SizeOf.sizeOf a
decreasing_by
  have h1 := List.sizeOf_lt_of_mem hx
  have h2 : SizeOf.sizeOf a.kids < SizeOf.sizeOf a := by cases a; simp; omega
  omega
end Go.Proofs.YtpochcchekoonaaGreat
namespace Go.Proofs.YtpochcchekoonaaGreat
open Go.Rf Go.RowKit
set_option linter.unusedVariables false
attribute [local irreducible] Code.wp wpList Exit.then Exit.inBlock bodyPost A Calls execOp Addr.add

theorem signC (b : Bool) (w : World) : Calls Tryz.prog 44 #[.bool b] w fun e w' => e = .returned (.int .i64 (if b then -1 else 1)) ∧ w = w' := by
  refine enter Tryz.func44 rfl Tryz.ntmps44 rfl ?_
  cases b
  all_goals
    refine rx ?_
    (apply ret1; exact rfl; (conv => lhs; whnf))
    exact ⟨rfl, rfl⟩

theorem compareR (a b : V) (sa sb : Value) (w : World) (ha : VS w [] a.kids sa) (hb : VS w [] b.kids sb) :
    Calls Tryz.prog 16 #[.agg (vc a sa).toArray, .agg (vc b sb).toArray] w fun e w' => e = .returned (.int .i64 (cmpV a b)) ∧ Fr [] w w' := by
  obtain ⟨aa, ca, rfl, hca⟩ := ha.slice
  obtain ⟨ab, cb, rfl, hcb⟩ := hb.slice
  have la := ha.bound
  have lb := hb.bound
  refine enter Tryz.func16 rfl Tryz.ntmps16 rfl ?_
  refine rx ?_
  refine s_box rfl rfl (fun w1 hb1 hf1 hs1 => ?_)
  refine s_box rfl rfl (fun w2 hb2 hf2 hs2 => ?_)
  have hb1' := hb1.tr0 hf2
  have hF := hf1.trans0 hf2
  rw [cmpV_eq]
  refine rx ?_
  refine s_neq rfl rfl (fun h => ?_) (fun h => ?_)
  · refine rx ?_
    refine s_run (r_lss rfl rfl rfl) ?_
    refine s_call (signC _ w2) rfl ?_
    rintro _ _ ⟨rfl, rfl⟩
    refine ⟨_, rfl, ?_⟩
    refine rx ?_
    (apply ret1; exact rfl; (conv => lhs; whnf))
    refine ⟨?_, hF⟩
    have e : cmpI a.kind b.kind = if decide (a.kind < b.kind) = true then -1 else 1 := by
      simp only [cmpI, decide_eq_true_eq]
      split <;> first | rfl | (split <;> first | rfl | (exfalso; omega))
    rw [← e, if_pos]
    rw [e]; split <;> decide
  have e0 : cmpI a.kind b.kind = 0 := by simp [cmpI, h]
  rw [if_neg (by simp [e0])]
  refine rx ?_
  refine s_neq rfl rfl (fun h => ?_) (fun h => ?_)
  · refine rx ?_
    refine s_run (r_lss rfl rfl rfl) ?_
    refine s_call (signC _ w2) rfl ?_
    rintro _ _ ⟨rfl, rfl⟩
    refine ⟨_, rfl, ?_⟩
    refine rx ?_
    (apply ret1; exact rfl; (conv => lhs; whnf))
    refine ⟨?_, hF⟩
    have e : cmpI a.n b.n = if decide (a.n < b.n) = true then -1 else 1 := by
      simp only [cmpI, decide_eq_true_eq]
      split <;> first | rfl | (split <;> first | rfl | (exfalso; omega))
    rw [← e, if_pos]
    rw [e]; split <;> decide
  have e1 : cmpI a.n b.n = 0 := by simp [cmpI, h]
  rw [if_neg (by simp [e1])]
  refine rx ?_
  refine s_neqE rfl rfl (fun h => ?_) (fun h => ?_)
  · refine rx ?_
    refine s_lssS rfl rfl (fun h2 => ?_) (fun h2 => ?_)
    · refine s_call (signC _ w2) rfl ?_
      rintro _ _ ⟨rfl, rfl⟩
      refine ⟨_, rfl, ?_⟩
      refine rx ?_
      (apply ret1; exact rfl; (conv => lhs; whnf))
      refine ⟨?_, hF⟩
      simp [cmpS, h2]
    · refine s_call (signC _ w2) rfl ?_
      rintro _ _ ⟨rfl, rfl⟩
      refine ⟨_, rfl, ?_⟩
      refine rx ?_
      (apply ret1; exact rfl; (conv => lhs; whnf))
      refine ⟨?_, hF⟩
      simp [cmpS, h2, h]
  have e2 : cmpS a.s b.s = 0 := by
    have : ¬ Op.bytesLess a.s.toList b.s.toList = true := by
      rw [h]
      have irr : ∀ l : List UInt8, Op.bytesLess l l = false := by
        intro l
        induction l with
        | nil => rfl
        | cons x l ih => simp [Op.bytesLess, ih]
      simp [irr]
    simp only [cmpS, if_neg this, if_pos h]
  rw [if_neg (by simp [e2])]
  refine rx ?_
  refine c_loopK 7 [5, 6] (σ := Nat) (fun i g u => g 5 = .int .i64 i ∧ i ≤ a.kids.length ∧ i ≤ b.kids.length ∧ cmpVs a.kids b.kids = cmpVs (a.kids.drop i) (b.kids.drop i) ∧ Fr [] w2 u)
    (fun i => a.kids.length - i) 0 ⟨rfl, Nat.zero_le _, Nat.zero_le _, rfl, Fr.refl _ _⟩ ?_
  rintro i g u ⟨h5, hi, hib, hc, hf⟩
  rw [eq_upd h5]
  have hbu1 := hb1'.tr0 hf
  have hbu2 := hb2.tr0 hf
  by_cases hlt : i < a.kids.length
  case neg =>
    have e1 : a.kids.drop i = [] := List.drop_eq_nil_of_le (by omega)
    by_cases hltb : i < b.kids.length
    · refine rx ?_
      refine s_call (signC _ u) rfl ?_
      rintro _ _ ⟨rfl, rfl⟩
      refine ⟨_, rfl, ?_⟩
      refine rx ?_
      (apply ret1; exact rfl; (conv => lhs; whnf))
      refine ⟨?_, hF.trans0 hf⟩
      rw [hc, e1, List.drop_eq_getElem_cons hltb]; rfl
    · refine rx ?_
      (apply ret1; exact rfl; (conv => lhs; whnf))
      refine ⟨?_, hF.trans0 hf⟩
      rw [hc, e1, List.drop_eq_nil_of_le (by omega : b.kids.length ≤ i)]; rfl
  by_cases hltb : i < b.kids.length
  case neg =>
    refine rx ?_
    refine s_call (signC _ u) rfl ?_
    rintro _ _ ⟨rfl, rfl⟩
    refine ⟨_, rfl, ?_⟩
    refine rx ?_
    (apply ret1; exact rfl; (conv => lhs; whnf))
    refine ⟨?_, hF.trans0 hf⟩
    rw [hc, List.drop_eq_getElem_cons hlt, List.drop_eq_nil_of_le (by omega : b.kids.length ≤ i)]; rfl
  obtain ⟨ad, cs, rfl, ⟨sx, rfl, hx⟩, hcx⟩ := (ha.tr0 (hF.trans0 hf)).sl.at VR.len hlt
  obtain ⟨bd, cs, rfl, ⟨sy, rfl, hy⟩, hcy⟩ := (hb.tr0 (hF.trans0 hf)).sl.at VR.len hltb
  refine rx ?_
  (refine d_begin (fun z => Fr [] u z) (by kernel_rfl) rfl ?_)
  have hS : Fr [] u u.drew := Fr.drew _ _
  ((first | refine d_tx 0 hS ?_ | refine d_ty 0 hS ?_ | refine d_tn 0 hS ?_); (first | refine d_tx 1 hS ?_ | refine d_ty 1 hS ?_ | refine d_tn 1 hS ?_); (first | refine d_tx 2 hS ?_ | refine d_ty 2 hS ?_ | refine d_tn 2 hS ?_); (first | refine d_tx 3 hS ?_ | refine d_ty 3 hS ?_ | refine d_tn 3 hS ?_); (first | refine d_tx 4 hS ?_ | refine d_ty 4 hS ?_ | refine d_tn 4 hS ?_); (first | refine d_tx 5 hS ?_ | refine d_ty 5 hS ?_ | refine d_tn 5 hS ?_); (first | refine d_tx 6 hS ?_ | refine d_ty 6 hS ?_ | refine d_tn 6 hS ?_); (first | refine d_tx 7 hS ?_ | refine d_ty 7 hS ?_ | refine d_tn 7 hS ?_); (first | refine d_tx 8 hS ?_ | refine d_ty 8 hS ?_ | refine d_tn 8 hS ?_); (first | refine d_tx 9 hS ?_ | refine d_ty 9 hS ?_ | refine d_tn 9 hS ?_))
  refine d_one (i := 10) rfl (by kernel_rfl) ?_
  refine s_call (compareR a.kids[i] b.kids[i] sx sy _ (hx.tr0 hS) (hy.tr0 hS)) rfl ?_
  rintro _ u1 ⟨rfl, hf1⟩
  refine ⟨_, rfl, ?_⟩
  refine wpList_nil (q_held (hS.trans0 hf1) ?_)
  refine d_one (i := 11) rfl (by kernel_rfl) ?_
  refine rx ?_
  refine q_held (hS.trans0 hf1) ?_
  (refine d_done (by kernel_rfl) ?_)
  have hF2 : Fr [] w u1 := (hF.trans0 hf).trans0 (hS.trans0 hf1)
  have ec : cmpVs a.kids b.kids = if cmpV a.kids[i] b.kids[i] ≠ 0 then cmpV a.kids[i] b.kids[i] else cmpVs (a.kids.drop (i + 1)) (b.kids.drop (i + 1)) := by
    rw [hc, List.drop_eq_getElem_cons hlt, List.drop_eq_getElem_cons hltb, cmpVs]
  refine rx ?_
  refine s_neq rfl rfl (fun h => ?_) (fun h => ?_)
  · refine rx ?_
    (apply ret1; exact rfl; (conv => lhs; whnf))
    exact ⟨by rw [ec, if_pos h], hF2⟩
  · refine rx ?_
    exact q_roundK (i + 1) (by (repeat (first | exact Keep.mrg _ _ _ _ | (refine Keep.hi rfl ?_) | (refine Keep.one rfl ?_) | exact Keep.all rfl | (refine Keep.inn rfl ?_) | (refine Keep.set rfl ?_)))) ⟨rfl, by omega, by omega, by rw [ec, if_neg (by simpa using h)], hf.trans0 (hS.trans0 hf1)⟩ (by omega)
termination_by SizeOf.sizeOf a
decreasing_by
  have h1 : SizeOf.sizeOf a.kids[i] < SizeOf.sizeOf a.kids := List.sizeOf_get _ ⟨i, hlt⟩
  have h2 : SizeOf.sizeOf a.kids < SizeOf.sizeOf a := by cases a; simp; omega
  omega
end Go.Proofs.YtpochcchekoonaaGreat
namespace Go.Proofs.YtpochcchekoonaaGreat
open Go.Rf Go.RowKit
set_option linter.unusedVariables false
attribute [local irreducible] Code.wp wpList Exit.then Exit.inBlock bodyPost A Calls execOp Addr.add

def inNm (c : UInt8) : Bool := decide (97 ≤ c.toNat ∧ c.toNat ≤ 122 ∨ 65 ≤ c.toNat ∧ c.toNat ≤ 90 ∨ 48 ≤ c.toNat ∧ c.toNat ≤ 57 ∨ c.toNat = 95)
def capB : List UInt8 → Bool
  | [] => false
  | c :: r => decide (r.length ≤ 15) && decide (65 ≤ c.toNat) && decide (c.toNat ≤ 90) && r.all inNm
def fmd (v : V) : Bool :=
  if v.kind = 0 then decide (v.s = ⟨#[]⟩ ∧ v.kids.length = 0) else if v.kind = 1 then decide ((v.n = 0 ∨ v.n = 1) ∧ v.s = ⟨#[]⟩ ∧ v.kids.length = 0)
  else if v.kind = 2 then decide (v.n = 0 ∧ v.s = ⟨#[]⟩) else if v.kind = 3 then decide (v.n = 0) && capB v.s.data.toList else false
def fts (v : V) : Bool := decide (v.kids.length ≤ 256 ∧ (v.kind ≠ 3 ∨ v.kids.length ≤ 16))

theorem inName (c : UInt8) (w : World) : Calls Tryz.prog 147 #[.int .u8 c.toNat] w fun e w' => e = .returned (.bool (inNm c)) ∧ w = w' := by
  refine enter Tryz.func147 rfl Tryz.ntmps147 rfl ?_
  (refine rx ?_; repeat' ((first | refine s_eql rfl rfl (fun h => ?_) (fun h => ?_) | refine s_neq rfl rfl (fun h => ?_) (fun h => ?_) | refine s_lss rfl rfl (fun h => ?_) (fun h => ?_) | refine s_leq rfl rfl (fun h => ?_) (fun h => ?_) | refine s_gtr rfl rfl (fun h => ?_) (fun h => ?_) | refine s_geq rfl rfl (fun h => ?_) (fun h => ?_) | refine s_eqlE rfl rfl (fun h => ?_) (fun h => ?_) | refine s_neqE rfl rfl (fun h => ?_) (fun h => ?_) | refine s_lssS rfl rfl (fun h => ?_) (fun h => ?_) | refine s_gtrS rfl rfl (fun h => ?_) (fun h => ?_)) <;> refine rx ?_))
  all_goals
    (apply ret1; exact rfl; (conv => lhs; whnf))
    refine ⟨?_, rfl⟩
    simp only [inNm, Ending.returned.injEq, Value.bool.injEq]
    first | exact (decide_eq_true (by omega)).symm | exact (decide_eq_false (by omega)).symm

theorem all_drop {l : List UInt8} {i : Nat} (h : i < l.length) : (l.drop i).all inNm = (inNm l[i] && (l.drop (i + 1)).all inNm) := by rw [List.drop_eq_getElem_cons h]; rfl

theorem capital (s : ByteArray) (w : World) (hs : s.size ≤ 1000000000000) : Calls Tryz.prog 140 #[.string s] w fun e w' => e = .returned (.bool (capB s.data.toList)) ∧ w = w' := by
  refine enter Tryz.func140 rfl Tryz.ntmps140 rfl ?_
  have hlen : s.data.toList.length = s.size := by simp
  rcases hl : s.data.toList with _ | ⟨c, r⟩
  · have e : s = ⟨#[]⟩ := by cases s; simp at hl; rw [hl]
    subst e
    refine rx ?_
    refine s_eqlE rfl rfl (fun _ => ?_) (fun h => absurd rfl h)
    refine rx ?_
    (apply ret1; exact rfl; (conv => lhs; whnf))
    exact ⟨rfl, rfl⟩
  have hsz : s.size = r.length + 1 := by rw [← hlen, hl]; simp
  have e : ¬ s = ⟨#[]⟩ := by intro h; rw [h] at hl; simp at hl
  have h0 : s.data.toList[0]? = some c := by rw [hl]; rfl
  refine rx ?_
  refine s_gtr rfl rfl (fun h => ?_) (fun h => ?_)
  · refine rx ?_
    (apply ret1; exact rfl; (conv => lhs; whnf))
    refine ⟨?_, rfl⟩
    have : ¬ r.length ≤ 15 := by omega
    simp [capB, this]
  have h15 : r.length ≤ 15 := by omega
  refine rx ?_
  refine s_indexStr (j := 0) rfl rfl h0 ?_
  refine rx ?_
  refine s_lss rfl rfl (fun h => ?_) (fun h => ?_)
  · refine rx ?_
    (apply ret1; exact rfl; (conv => lhs; whnf))
    refine ⟨?_, rfl⟩
    have : ¬ 65 ≤ c.toNat := by omega
    simp [capB, this]
  have h65 : 65 ≤ c.toNat := by omega
  refine rx ?_
  refine s_indexStr (j := 0) rfl rfl h0 ?_
  refine rx ?_
  refine s_gtr rfl rfl (fun h => ?_) (fun h => ?_)
  · refine rx ?_
    (apply ret1; exact rfl; (conv => lhs; whnf))
    refine ⟨?_, rfl⟩
    have : ¬ c.toNat ≤ 90 := by omega
    simp [capB, this]
  have h90 : c.toNat ≤ 90 := by omega
  refine rx ?_
  have hc0 : capB (c :: r) = (s.data.toList.drop 1).all inNm := by rw [hl]; simp [capB, h15, h65, h90]
  refine c_loopK 4 [3] (σ := Nat) (fun i g u => g 3 = .int .i64 i ∧ i ≤ s.size ∧ 1 ≤ i ∧ capB (c :: r) = (s.data.toList.drop i).all inNm ∧ w = u) (fun i => s.size - i) 1 ⟨rfl, by omega, by omega, hc0, rfl⟩ ?_
  rintro i g u ⟨h3, hi, hi1, hc, rfl⟩
  rw [eq_upd h3]
  by_cases hlt : i < s.size
  case neg =>
    refine rx ?_
    (apply ret1; exact rfl; (conv => lhs; whnf))
    refine ⟨?_, rfl⟩
    rw [hc, List.drop_eq_nil_of_le (by rw [hlen]; omega)]; rfl
  have hlt' : i < s.data.toList.length := by rw [hlen]; exact hlt
  refine rx ?_
  refine s_indexStr (j := i) (b := s.data.toList[i]) rfl rfl (by rw [List.getElem?_eq_getElem hlt']) ?_
  refine s_call (inName _ w) rfl ?_
  rintro _ _ ⟨rfl, rfl⟩
  refine ⟨_, rfl, ?_⟩
  rw [all_drop hlt'] at hc
  rcases hq : inNm s.data.toList[i] with _ | _
  · refine rx ?_
    (apply ret1; exact rfl; (conv => lhs; whnf))
    refine ⟨?_, rfl⟩
    rw [hc, hq]; rfl
  · refine rx ?_
    refine q_roundK (i + 1) (by (repeat (first | exact Keep.mrg _ _ _ _ | (refine Keep.hi rfl ?_) | (refine Keep.one rfl ?_) | exact Keep.all rfl | (refine Keep.inn rfl ?_) | (refine Keep.set rfl ?_)))) ⟨rfl, by omega, by omega, ?_, rfl⟩ (by omega)
    rw [hc, hq]; simp

theorem formedP (v : V) (sl : Value) (w : World) (h : VS w [] v.kids sl) (hs : v.s.size ≤ 1000000000000) : Calls Tryz.prog 124 #[.agg (vc v sl).toArray] w fun e w' => e = .returned (.bool (fmd v)) ∧ Fr [] w w' := by
  obtain ⟨ao, c, rfl, _⟩ := h.slice
  refine enter Tryz.func124 rfl Tryz.ntmps124 rfl ?_
  refine rx ?_
  refine s_box rfl rfl (fun w1 hb1 hf1 hs1 => ?_)
  by_cases k3 : v.kind = 3
  · by_cases n0 : v.n = 0
    · refine rx ?_
      refine s_call (capital v.s w1 hs) rfl ?_
      rintro _ _ ⟨rfl, rfl⟩
      refine ⟨_, rfl, ?_⟩
      refine rx ?_
      (apply ret1; exact rfl; (conv => lhs; whnf))
      exact ⟨by simp [fmd, k3, n0], hf1⟩
    · refine rx ?_
      (apply ret1; exact rfl; (conv => lhs; whnf))
      exact ⟨by simp [fmd, k3, n0], hf1⟩
  (refine rx ?_; repeat' ((first | refine s_eql rfl rfl (fun h => ?_) (fun h => ?_) | refine s_neq rfl rfl (fun h => ?_) (fun h => ?_) | refine s_lss rfl rfl (fun h => ?_) (fun h => ?_) | refine s_leq rfl rfl (fun h => ?_) (fun h => ?_) | refine s_gtr rfl rfl (fun h => ?_) (fun h => ?_) | refine s_geq rfl rfl (fun h => ?_) (fun h => ?_) | refine s_eqlE rfl rfl (fun h => ?_) (fun h => ?_) | refine s_neqE rfl rfl (fun h => ?_) (fun h => ?_) | refine s_lssS rfl rfl (fun h => ?_) (fun h => ?_) | refine s_gtrS rfl rfl (fun h => ?_) (fun h => ?_)) <;> refine rx ?_))
  all_goals
    (apply ret1; exact rfl; (conv => lhs; whnf))
    refine ⟨?_, hf1⟩
    simp_all [fmd]

theorem fitsP (v : V) (sl : Value) (w : World) (h : VS w [] v.kids sl) : Calls Tryz.prog 125 #[.agg (vc v sl).toArray] w fun e w' => e = .returned (.bool (fts v)) ∧ Fr [] w w' := by
  obtain ⟨ao, c, rfl, _⟩ := h.slice
  refine enter Tryz.func125 rfl Tryz.ntmps125 rfl ?_
  refine rx ?_
  refine s_box rfl rfl (fun w1 hb1 hf1 hs1 => ?_)
  (refine rx ?_; repeat' ((first | refine s_eql rfl rfl (fun h => ?_) (fun h => ?_) | refine s_neq rfl rfl (fun h => ?_) (fun h => ?_) | refine s_lss rfl rfl (fun h => ?_) (fun h => ?_) | refine s_leq rfl rfl (fun h => ?_) (fun h => ?_) | refine s_gtr rfl rfl (fun h => ?_) (fun h => ?_) | refine s_geq rfl rfl (fun h => ?_) (fun h => ?_) | refine s_eqlE rfl rfl (fun h => ?_) (fun h => ?_) | refine s_neqE rfl rfl (fun h => ?_) (fun h => ?_) | refine s_lssS rfl rfl (fun h => ?_) (fun h => ?_) | refine s_gtrS rfl rfl (fun h => ?_) (fun h => ?_)) <;> refine rx ?_))
  all_goals
    (apply ret1; exact rfl; (conv => lhs; whnf))
    refine ⟨?_, hf1⟩
    simp only [fts, Ending.returned.injEq, Value.bool.injEq]
    first | exact (decide_eq_true (by omega)).symm | exact (decide_eq_false (by omega)).symm
end Go.Proofs.YtpochcchekoonaaGreat
namespace Go.Proofs.YtpochcchekoonaaGreat
open Go.Rf Go.RowKit
set_option linter.unusedVariables false
attribute [local irreducible] Code.wp wpList Exit.then Exit.inBlock bodyPost A Calls execOp Addr.add

mutual
def vsz : V → Nat
  | ⟨_, _, _, ks⟩ => 1 + vszs ks
def vszs : List V → Nat
  | [] => 0
  | v :: l => vsz v + vszs l
end
theorem vsz_eq (v : V) : vsz v = 1 + vszs v.kids := by cases v; rfl
theorem vszs_mem {v : V} {l : List V} (h : v ∈ l) : vsz v ≤ vszs l := by
  induction l with
  | nil => simp at h
  | cons x l ih =>
    simp only [vszs]
    rcases List.mem_cons.1 h with rfl | h
    · omega
    · have := ih h; omega
/-- the names in a value are short enough -/
inductive VNm : V → Prop
  | mk {v : V} : v.s.size ≤ 1000000000000 → (∀ x ∈ v.kids, VNm x) → VNm v
theorem VNm.s {v : V} (h : VNm v) : v.s.size ≤ 1000000000000 := by cases h; assumption
theorem VNm.kids {v : V} (h : VNm v) : ∀ x ∈ v.kids, VNm x := by cases h; assumption

section
variable {σ : Type} (f : σ → V → Int → σ × Bool)
mutual
def walkV : σ → V → Int → σ × Bool
  | s, ⟨k, n, t, ks⟩, d => match f s ⟨k, n, t, ks⟩ d with
    | (s1, true) => walkVs s1 ks (d + 1)
    | (s1, false) => (s1, false)
def walkVs : σ → List V → Int → σ × Bool
  | s, [], _ => (s, true)
  | s, v :: l, d => match walkV s v d with
    | (s1, true) => walkVs s1 l d
    | (s1, false) => (s1, false)
end
theorem walkV_eq (s : σ) (v : V) (d : Int) : walkV f s v d = match f s v d with
    | (s1, true) => walkVs f s1 v.kids (d + 1)
    | (s1, false) => (s1, false) := by cases v; simp only [walkV]
end

theorem visit1 {σ : Type} (f : σ → V → Int → σ × Bool) (S : List Nat) (K : World → σ → Prop) (kf : Nat) (cap : List Value) [FnT Tryz.prog kf]
    (hK : ∀ u u' s, K u s → Fr [] u u' → K u' s) (hKS : ∀ u s, K u s → ∀ k ∈ S, k < u.heap.size)
    (H : ∀ v sl d u s, K u s → VS u S v.kids sl → VNm v → Calls Tryz.prog kf ([Value.agg (vc v sl).toArray, Value.int .i64 d] ++ cap).toArray u fun e u' => e = .returned (.bool (f s v d).2) ∧ K u' (f s v d).1 ∧ Fr S u u')
    (b2 b3 : Nat) (h2S : b2 ∉ S) (h3S : b3 ∉ S)
    (v : V) (sl : Value) (d : Int) (s : σ) (w : World) (hv : VS w S v.kids sl) (hn : VNm v) (hk : K w s) (hd : 0 ≤ d) (hd2 : d + vsz v ≤ 1000000000000000)
    (hb2 : Blk w b2 [.func (.func kf) #[] cap.toArray] 173) (hb3 : Blk w b3 [.func (.func 139) #[] #[.pointer (some ⟨b2, 0, none⟩), .pointer (some ⟨b3, 0, none⟩)]] 173) :
    Calls Tryz.prog 139 #[.agg (vc v sl).toArray, .int .i64 d, .pointer (some ⟨b2, 0, none⟩), .pointer (some ⟨b3, 0, none⟩)] w fun e w' => e = .returned (.bool (walkV f s v d).2) ∧ K w' (walkV f s v d).1 ∧ Fr S w w' := by
  obtain ⟨ao, c, rfl, hc⟩ := hv.slice
  have hbd := hv.bound
  have hsz := vsz_eq v
  refine enter Tryz.func139 rfl Tryz.ntmps139 rfl ?_
  refine rx ?_
  refine s_box rfl rfl (fun w1 hb1 hf1 hs1 => ?_)
  have hk1 := hK _ _ _ hk hf1
  have hKw := hKS _ _ hk
  have hb2' := hb2.tr0 hf1
  have hb3' := hb3.tr0 hf1
  have hNS : w.heap.size ∉ S := fun h => by have := hKw _ h; omega
  refine rx ?_
  refine s_callV (first := []) (cap := cap) (H v _ d w1 s hk1 (hv.tr0 hf1) hn) rfl rfl rfl ?_
  rintro _ w2 ⟨rfl, hk2, hf2⟩
  refine ⟨_, rfl, ?_⟩
  rw [walkV_eq]
  rcases hq : f s v d with ⟨s1, _ | _⟩
  · rw [hq] at hk2
    refine rx ?_
    (apply ret1; exact rfl; (conv => lhs; whnf))
    exact ⟨rfl, hk2, (hf1.mono (by simp)).trans hf2 (fun k h => .inl h)⟩
  rw [hq] at hk2
  simp only at hk2 ⊢
  have hb1'' := hb1.tr hf2 hNS
  have hb2'' := hb2'.tr hf2 h2S
  have hb3'' := hb3'.tr hf2 h3S
  have hF2 : Fr S w w2 := (hf1.mono (by simp)).trans hf2 (fun k h => .inl h)
  have hv2 : VS w2 S v.kids (.slice ao v.kids.length c) := (hv.tr0 hf1).tr hf2
  refine rx ?_
  refine c_loopK 9 [8] (σ := Nat × σ) (fun st g u => g 15 = .slice ao v.kids.length c ∧ g 16 = .int .i64 v.kids.length ∧ g 17 = .int .i64 st.1 ∧ st.1 ≤ v.kids.length ∧ walkVs f s1 v.kids (d + 1) = walkVs f st.2 (v.kids.drop st.1) (d + 1) ∧ K u st.2 ∧ Fr S w2 u)
    (fun st => v.kids.length - st.1) (0, s1) ⟨rfl, rfl, rfl, Nat.zero_le _, rfl, hk2, Fr.refl _ _⟩ ?_
  rintro ⟨i, s2⟩ g u ⟨h15, h16, h17, hi, hw, hku, hfu⟩
  simp only at h17 hi hw hku
  rw [eq_upd h15, eq_upd h16, eq_upd h17]
  by_cases hlt : i < v.kids.length
  case neg =>
    refine rx ?_
    (apply ret1; exact rfl; (conv => lhs; whnf))
    rw [hw, List.drop_eq_nil_of_le (by omega)]
    exact ⟨rfl, hku, hF2.trans hfu (fun k h => .inl h)⟩
  have hvu := hv2.tr hfu
  obtain ⟨ad, cs, rfl, ⟨sx, rfl, hx⟩, hcx⟩ := hvu.sl.at VR.len hlt
  have hbu2 := hb2''.tr hfu h2S
  have hbu3 := hb3''.tr hfu h3S
  refine rx ?_
  refine s_alloc rfl (fun u1 hb1 hf1' hs1' => ?_)
  refine s_storeAggB rfl rfl hb1 (VR.mem1 v.kids[i] _ ⟨sx, rfl, hx⟩) rfl rfl (fun u2 hbx hf2' hs2' => ?_)
  have hFu : Fr [] u u2 := hf1'.trans hf2' (by simp)
  have hku2 := hK _ _ _ hku hFu
  have hbu2' := hbu2.tr0 hFu
  have hbu3' := hbu3.tr0 hFu
  have hmem : v.kids[i] ∈ v.kids := by simp
  have hle := vszs_mem hmem
  refine rx ?_
  refine s_callV (first := []) (cap := [.pointer (some ⟨b2, 0, none⟩), .pointer (some ⟨b3, 0, none⟩)]) (visit1 f S K kf cap hK hKS H b2 b3 h2S h3S v.kids[i] sx (d + 1) s2 u2 (hx.tr0 hFu) (hn.kids _ hmem) hku2 (by omega) (by omega) hbu2' hbu3') rfl rfl rfl ?_
  rintro _ u3 ⟨rfl, hk3, hf3⟩
  refine ⟨_, rfl, ?_⟩
  rw [List.drop_eq_getElem_cons hlt, walkVs] at hw
  have hF3 : Fr S w2 u3 := (hfu.trans (hFu.mono (by simp)) (fun k h => .inl h)).trans hf3 (fun k h => .inl h)
  rcases hq3 : walkV f s2 v.kids[i] (d + 1) with ⟨s3, _ | _⟩
  · rw [hq3] at hk3 hw
    refine rx ?_
    (apply ret1; exact rfl; (conv => lhs; whnf))
    rw [hw]
    exact ⟨rfl, hk3, hF2.trans hF3 (fun k h => .inl h)⟩
  · rw [hq3] at hk3 hw
    refine rx ?_
    exact q_roundK (i + 1, s3) (by (repeat (first | exact Keep.mrg _ _ _ _ | (refine Keep.hi rfl ?_) | (refine Keep.one rfl ?_) | exact Keep.all rfl | (refine Keep.inn rfl ?_) | (refine Keep.set rfl ?_)))) ⟨rfl, rfl, rfl, by simp only; omega, hw, hk3, hF3⟩ (by simp only; omega)
termination_by SizeOf.sizeOf v
decreasing_by
  have h1 : SizeOf.sizeOf v.kids[i] < SizeOf.sizeOf v.kids := List.sizeOf_get _ ⟨i, hlt⟩
  have h2 : SizeOf.sizeOf v.kids < SizeOf.sizeOf v := by cases v; simp; omega
  omega

theorem visit {σ : Type} (f : σ → V → Int → σ × Bool) (S : List Nat) (K : World → σ → Prop) (kf : Nat) (cap : List Value) [FnT Tryz.prog kf]
    (hK : ∀ u u' s, K u s → Fr [] u u' → K u' s) (hKS : ∀ u s, K u s → ∀ k ∈ S, k < u.heap.size)
    (H : ∀ v sl d u s, K u s → VS u S v.kids sl → VNm v → Calls Tryz.prog kf ([Value.agg (vc v sl).toArray, Value.int .i64 d] ++ cap).toArray u fun e u' => e = .returned (.bool (f s v d).2) ∧ K u' (f s v d).1 ∧ Fr S u u')
    (v : V) (sl : Value) (s : σ) (w : World) (hv : VS w S v.kids sl) (hn : VNm v) (hk : K w s) (hd2 : vsz v ≤ 10000000000000) :
    Calls Tryz.prog 122 #[.agg (vc v sl).toArray, .func (.func kf) #[] cap.toArray] w fun e w' => e = .returned (.tuple #[]) ∧ K w' (walkV f s v 1).1 ∧ Fr S w w' := by
  refine enter Tryz.func122 rfl Tryz.ntmps122 rfl ?_
  refine rx ?_
  refine s_box rfl rfl (fun w1 hb1 hf1 hs1 => ?_)
  refine s_box (l := [.func (.func kf) #[] cap.toArray]) rfl rfl (fun w2 hb2 hf2 hs2 => ?_)
  refine rx ?_
  refine s_alloc rfl (fun w3 hb3 hf3 hs3 => ?_)
  refine rx ?_
  refine s_makeFunc (a := []) (b := [.pointer (some ⟨w1.heap.size, 0, none⟩), .pointer (some ⟨w2.heap.size, 0, none⟩)]) rfl rfl ?_
  ((with_reducible apply s_storeB); exact rfl; (conv => lhs; whnf); exact rfl; exact hb3; exact rfl)
  intro w4 hb4 hf4 hs4
  have hF : Fr [] w w4 := ((hf1.trans0 hf2).trans0 hf3).trans hf4 (by simp; omega)
  have hKw := hKS _ _ hk
  have hb1' : Blk w4 w.heap.size (vc v sl) 33 := ((hb1.tr0 hf2).tr0 hf3).tr hf4 (by simp; omega)
  have hb2' : Blk w4 w1.heap.size [.func (.func kf) #[] cap.toArray] 173 := (hb2.tr0 hf3).tr hf4 (by simp; omega)
  refine rx ?_
  refine s_callV (first := []) (cap := [.pointer (some ⟨w1.heap.size, 0, none⟩), .pointer (some ⟨w2.heap.size, 0, none⟩)]) (visit1 f S K kf cap hK hKS H w1.heap.size w2.heap.size (fun h => by have := hKw _ h; omega) (fun h => by have := hKw _ h; omega) v sl 1 s w4 (hv.tr0 hF) hn (hK _ _ _ hk hF) (by omega) (by omega) hb2' hb4) rfl rfl rfl ?_
  rintro _ w5 ⟨rfl, hk5, hf5⟩
  refine ⟨_, rfl, ?_⟩
  refine rx ?_
  exact end0 rfl ⟨rfl, hk5, (hF.mono (by simp)).trans hf5 (fun k h => .inl h)⟩
end Go.Proofs.YtpochcchekoonaaGreat
namespace Go.Proofs.YtpochcchekoonaaGreat
open Go.Rf Go.RowKit
set_option linter.unusedVariables false
attribute [local irreducible] Code.wp wpList Exit.then Exit.inBlock bodyPost A Calls execOp Addr.add

mutual
def allF : V → Bool
  | ⟨k, n, s, ks⟩ => fmd ⟨k, n, s, ks⟩ && allFs ks
def allFs : List V → Bool
  | [] => true
  | v :: l => allF v && allFs l
end
mutual
def allT : V → Bool
  | ⟨k, n, s, ks⟩ => fts ⟨k, n, s, ks⟩ && allTs ks
def allTs : List V → Bool
  | [] => true
  | v :: l => allT v && allTs l
end
theorem allF_eq (v : V) : allF v = (fmd v && allFs v.kids) := by cases v; simp only [allF]
theorem allT_eq (v : V) : allT v = (fts v && allTs v.kids) := by cases v; simp only [allT]
/-- what Valid returns -/
def valV (v : V) : Int := if allF v = true then (if allT v = true ∧ vsz v ≤ 1024 then 0 else 4) else 1

def vstep (s : Int × Bool × Bool) (v : V) (d : Int) : (Int × Bool × Bool) × Bool := ((IntKind.i64.wrap (s.1 + 1), s.2.1 && fmd v, s.2.2 && fts v), s.2.1 && fmd v)
mutual
theorem walk_valid : ∀ (v : V) (n : Int) (m : Bool) (d : Int), 0 ≤ n → n + vsz v ≤ 1000000000000000 →
    (allF v = true → walkV vstep (n, true, m) v d = ((n + vsz v, true, m && allT v), true)) ∧ (allF v = false → ∃ x, walkV vstep (n, true, m) v d = (x, false) ∧ x.2.1 = false)
  | ⟨k, t, s, ks⟩, n, m, d, h0, h1 => by
    rw [walkV_eq, allF_eq, allT_eq]
    have hs := vsz_eq ⟨k, t, s, ks⟩
    have hw : IntKind.i64.wrap (n + 1) = n + 1 := IntWalk.i64_in _ (by omega)
    simp only [vstep, Bool.true_and, hw]
    rcases hq : fmd ⟨k, t, s, ks⟩ with _ | _
    · simp
    · simp only [Bool.true_and]
      obtain ⟨h2, h3⟩ := walks_valid ks (n + 1) (m && fts ⟨k, t, s, ks⟩) (d + 1) (by omega) (by simp only at hs; omega)
      refine ⟨fun h => ?_, fun h => ?_⟩
      · rw [h2 h, hs]
        simp only [Prod.mk.injEq, and_true, Bool.and_assoc]
        omega
      · exact h3 h
theorem walks_valid : ∀ (l : List V) (n : Int) (m : Bool) (d : Int), 0 ≤ n → n + vszs l ≤ 1000000000000000 →
    (allFs l = true → walkVs vstep (n, true, m) l d = ((n + vszs l, true, m && allTs l), true)) ∧ (allFs l = false → ∃ x, walkVs vstep (n, true, m) l d = (x, false) ∧ x.2.1 = false)
  | [], n, m, d, h0, h1 => by simp [allFs, walkVs, allTs, vszs]
  | v :: l, n, m, d, h0, h1 => by
    simp only [vszs] at h1
    obtain ⟨h2, h3⟩ := walk_valid v n m d h0 (by omega)
    simp only [allFs, walkVs, allTs, vszs]
    rcases hq : allF v with _ | _
    · obtain ⟨x, hx, hx2⟩ := h3 hq
      simp [hx, hx2]
    · rw [h2 hq]
      simp only
      obtain ⟨h4, h5⟩ := walks_valid l (n + vsz v) (m && allT v) d (by omega) (by omega)
      refine ⟨fun h => ?_, fun h => ?_⟩
      · rw [h4 (by simpa using h)]
        simp only [Prod.mk.injEq, and_true, Bool.and_assoc]
        omega
      · exact h5 (by simpa using h)
end

def VK (bn bg bs : Nat) (u : World) (s : Int × Bool × Bool) : Prop := Blk u bn [.int .i64 s.1] 3 ∧ Blk u bg [.bool s.2.1] 4 ∧ Blk u bs [.bool s.2.2] 4

theorem valid1 (bn bg bs : Nat) (h12 : bn ≠ bg) (h13 : bn ≠ bs) (h23 : bg ≠ bs) (v : V) (sl : Value) (d : Int) (w : World) (s : Int × Bool × Bool) (hk : VK bn bg bs w s) (hv : VS w [bn, bg, bs] v.kids sl) (hn : VNm v) :
    Calls Tryz.prog 123 #[.agg (vc v sl).toArray, .int .i64 d, .pointer (some ⟨bn, 0, none⟩), .pointer (some ⟨bg, 0, none⟩), .pointer (some ⟨bs, 0, none⟩)] w fun e w' => e = .returned (.bool (vstep s v d).2) ∧ VK bn bg bs w' (vstep s v d).1 ∧ Fr [bn, bg, bs] w w' := by
  obtain ⟨n, g, m⟩ := s
  obtain ⟨hb1, hb2, hb3⟩ := hk
  simp only at hb1 hb2 hb3
  have l1 := hb1.lt
  have l2 := hb2.lt
  have l3 := hb3.lt
  refine enter Tryz.func123 rfl Tryz.ntmps123 rfl ?_
  refine rx ?_
  refine s_box rfl rfl (fun w1 hbv hf1 hs1 => ?_)
  have hb1' := hb1.tr0 hf1
  have hb2' := hb2.tr0 hf1
  have hb3' := hb3.tr0 hf1
  refine rx ?_
  refine s_add rfl rfl rfl ?_
  ((with_reducible apply s_storeB); exact rfl; (conv => lhs; whnf); exact rfl; exact hb1'; exact rfl)
  intro w2 hb1'' hf2 hs2
  have hbv2 := hbv.tr hf2 (by simp; omega)
  have hb2'' := hb2'.tr hf2 (by simp; omega)
  have hb3'' := hb3'.tr hf2 (by simp; omega)
  have hF2 : Fr [bn, bg, bs] w w2 := (hf1.mono (by simp)).trans hf2 (by simp)
  have hv2 := hv.tr hF2
  have key : ∀ (g' : Bool) (w3 : World), Fr [bn, bg, bs] w w3 → Blk w3 bn [.int .i64 (IntKind.i64.wrap (n + 1))] 3 → Blk w3 bg [.bool g'] 4 → Blk w3 bs [.bool (m && fts v)] 4 → g' = (g && fmd v) →
      VK bn bg bs w3 (vstep (n, g, m) v d).1 ∧ Fr [bn, bg, bs] w w3 := fun g' w3 h1 h2 h3 h4 h5 => ⟨⟨h2, by rw [h5] at h3; exact h3, h4⟩, h1⟩
  refine wpList_nil ?_
  refine q_then ?_
  refine wp_seq ?_
  refine c_cut (fun g1 u => g1 3 = .pointer (some ⟨bg, 0, none⟩) ∧ g1 4 = .pointer (some ⟨bs, 0, none⟩) ∧ g1 5 = .pointer (some ⟨w.heap.size, 0, none⟩) ∧ Fr [bn, bg, bs] w u ∧ Blk u bn [.int .i64 (IntKind.i64.wrap (n + 1))] 3 ∧ Blk u bg [.bool (g && fmd v)] 4 ∧ Blk u bs [.bool m] 4 ∧ Blk u w.heap.size (vc v sl) 33) ?_ ?_
  · cases g
    · refine rx ?_
      ((with_reducible apply s_storeB); exact rfl; (conv => lhs; whnf); exact rfl; exact hb2''; exact rfl)
      intro w4 hbg hf4 hs4
      refine rx ?_
      exact q_cut ⟨rfl, rfl, rfl, hF2.trans hf4 (by simp), hb1''.tr hf4 (by simp; omega), hbg, hb3''.tr hf4 (by simp; omega), hbv2.tr hf4 (by simp; omega)⟩
    · refine rx ?_
      refine s_call (formedP v sl w2 hv2.any hn.s) rfl ?_
      rintro _ w3 ⟨rfl, hf3⟩
      refine ⟨_, rfl, ?_⟩
      refine rx ?_
      ((with_reducible apply s_storeB); exact rfl; (conv => lhs; whnf); exact rfl; exact (hb2''.tr0 hf3); exact rfl)
      intro w4 hbg hf4 hs4
      refine rx ?_
      exact q_cut ⟨rfl, rfl, rfl, (hF2.trans0 hf3).trans hf4 (by simp), (hb1''.tr0 hf3).tr hf4 (by simp; omega), hbg, (hb3''.tr0 hf3).tr hf4 (by simp; omega), (hbv2.tr0 hf3).tr hf4 (by simp; have := hf2.size; have := hf3.size; omega)⟩
  rintro g1 u ⟨q3, q4, q5, hFu, hn1, hg1, hm1, hbv3⟩
  rw [eq_upd q3, eq_upd q4, eq_upd q5]
  have hvu := hv.tr hFu
  have hlu := hFu.size
  refine wp_seq ?_
  refine c_cut (fun g2 u' => g2 3 = .pointer (some ⟨bg, 0, none⟩) ∧ Fr [bn, bg, bs] w u' ∧ Blk u' bn [.int .i64 (IntKind.i64.wrap (n + 1))] 3 ∧ Blk u' bg [.bool (g && fmd v)] 4 ∧ Blk u' bs [.bool (m && fts v)] 4) ?_ ?_
  · cases m
    · refine rx ?_
      ((with_reducible apply s_storeB); exact rfl; (conv => lhs; whnf); exact rfl; exact hm1; exact rfl)
      intro w4 hbg hf4 hs4
      refine rx ?_
      exact q_cut ⟨rfl, hFu.trans hf4 (by simp), hn1.tr hf4 (by simp; omega), hg1.tr hf4 (by simp; omega), hbg⟩
    · refine rx ?_
      refine s_call (fitsP v sl u hvu.any) rfl ?_
      rintro _ w3 ⟨rfl, hf3⟩
      refine ⟨_, rfl, ?_⟩
      refine rx ?_
      ((with_reducible apply s_storeB); exact rfl; (conv => lhs; whnf); exact rfl; exact (hm1.tr0 hf3); exact rfl)
      intro w4 hbg hf4 hs4
      refine rx ?_
      exact q_cut ⟨rfl, (hFu.trans0 hf3).trans hf4 (by simp), (hn1.tr0 hf3).tr hf4 (by simp; omega), (hg1.tr0 hf3).tr hf4 (by simp; omega), hbg⟩
  rintro g2 u' ⟨q3, hFu', hn2, hg2, hm2⟩
  rw [eq_upd q3]
  refine rx ?_
  (apply ret1; exact rfl; (conv => lhs; whnf))
  exact ⟨rfl, ⟨hn2, hg2, hm2⟩, hFu'⟩

theorem validP (v : V) (sl : Value) (w : World) (hv : VS w [] v.kids sl) (hn : VNm v) (hz : vsz v ≤ 10000000000000) :
    Calls Tryz.prog 89 #[.agg (vc v sl).toArray] w fun e w' => e = .returned (.int .i64 (valV v)) ∧ Fr [] w w' := by
  refine enter Tryz.func89 rfl Tryz.ntmps89 rfl ?_
  refine rx ?_
  refine s_box rfl rfl (fun w1 hbv hf1 hs1 => ?_)
  refine rx ?_
  refine s_alloc rfl (fun w2 hb2 hf2 hs2 => ?_)
  refine s_alloc rfl (fun w3 hb3 hf3 hs3 => ?_)
  refine s_alloc rfl (fun w4 hb4 hf4 hs4 => ?_)
  obtain ⟨N, hN⟩ : ∃ N, w.heap.size = N := ⟨_, rfl⟩
  have e1 : w1.heap.size = N + 1 := by omega
  have e2 : w2.heap.size = N + 2 := by omega
  have e3 : w3.heap.size = N + 3 := by omega
  have e4 : w4.heap.size = N + 4 := by omega
  rw [hN] at hbv
  rw [e1] at hb2
  rw [e2] at hb3
  rw [e3] at hb4
  rw [hN, e1, e2, e3]
  have hb2' := (hb2.tr0 hf3).tr0 hf4
  have hb3' := hb3.tr0 hf4
  ((with_reducible apply s_storeB); exact rfl; (conv => lhs; whnf); exact rfl; exact hb2'; exact rfl)
  intro w5 hb5 hf5 hs5
  ((with_reducible apply s_storeB); exact rfl; (conv => lhs; whnf); exact rfl; exact (hb3'.tr hf5 (by simp)); exact rfl)
  intro w6 hb6 hf6 hs6
  ((with_reducible apply s_storeB); exact rfl; (conv => lhs; whnf); exact rfl; exact ((hb4.tr hf5 (by simp)).tr hf6 (by simp)); exact rfl)
  intro w7 hb7 hf7 hs7
  have hF : Fr [] w w7 := ((((((hf1.trans0 hf2).trans0 hf3).trans0 hf4).trans hf5 (by simp; omega)).trans hf6 (by simp; omega)).trans hf7 (by simp; omega))
  have hbv' := (((((hbv.tr0 hf2).tr0 hf3).tr0 hf4).tr hf5 (by simp)).tr hf6 (by simp)).tr hf7 (by simp)
  have hk : VK (N + 1) (N + 2) (N + 3) w7 (0, true, true) := ⟨(hb5.tr hf6 (by simp)).tr hf7 (by simp), hb6.tr hf7 (by simp), hb7⟩
  refine rx ?_
  refine s_makeFunc (a := []) (b := [.pointer (some ⟨N + 1, 0, none⟩), .pointer (some ⟨N + 2, 0, none⟩), .pointer (some ⟨N + 3, 0, none⟩)]) rfl rfl ?_
  refine s_call (visit vstep [N + 1, N + 2, N + 3] (VK (N + 1) (N + 2) (N + 3)) 123 [.pointer (some ⟨N + 1, 0, none⟩), .pointer (some ⟨N + 2, 0, none⟩), .pointer (some ⟨N + 3, 0, none⟩)]
    (fun u u' s h hf => ⟨h.1.tr0 hf, h.2.1.tr0 hf, h.2.2.tr0 hf⟩) (fun u s h k hk => by have l1 := h.1.lt; have l2 := h.2.1.lt; have l3 := h.2.2.lt; simp at hk; omega)
    (fun v sl d u s hk hv hn => valid1 _ _ _ (by omega) (by omega) (by omega) v sl d u s hk hv hn) v sl (0, true, true) w7 ((hv.off (S := [N + 1, N + 2, N + 3]) (by simp; omega)).tr0 hF) hn hk (by omega)) rfl ?_
  rintro _ w8 ⟨rfl, hk8, hf8⟩
  refine ⟨_, rfl, ?_⟩
  have hFF : Fr [] w w8 := hF.trans hf8 (by simp; omega)
  obtain ⟨h1, h2⟩ := walk_valid v 0 true 1 (by omega) (by omega)
  rcases hq : allF v with _ | _
  · obtain ⟨⟨x1, x2, x3⟩, hx, hx2⟩ := h2 hq
    rw [hx] at hk8
    obtain ⟨hn8, hg8, hm8⟩ := hk8
    simp only at hx2 hn8 hg8 hm8
    subst hx2
    refine rx ?_
    (apply ret1; exact rfl; (conv => lhs; whnf))
    exact ⟨by simp [valV, hq], hFF⟩
  · rw [h1 hq] at hk8
    obtain ⟨hn8, hg8, hm8⟩ := hk8
    simp only [Bool.true_and] at hn8 hg8 hm8
    rcases hq2 : allT v with _ | _
    · rw [hq2] at hm8
      refine rx ?_
      (apply ret1; exact rfl; (conv => lhs; whnf))
      exact ⟨by simp [valV, hq, hq2], hFF⟩
    · rw [hq2] at hm8
      refine rx ?_
      refine s_gtr rfl rfl (fun h => ?_) (fun h => ?_)
      · refine rx ?_
        (apply ret1; exact rfl; (conv => lhs; whnf))
        have : ¬ vsz v ≤ 1024 := by omega
        exact ⟨by simp [valV, hq, hq2, this], hFF⟩
      · refine rx ?_
        (apply ret1; exact rfl; (conv => lhs; whnf))
        have : vsz v ≤ 1024 := by omega
        exact ⟨by simp [valV, hq, hq2, this], hFF⟩
end Go.Proofs.YtpochcchekoonaaGreat
namespace Go.Proofs.YtpochcchekoonaaGreat
open Go.Rf Go.RowKit
set_option linter.unusedVariables false
attribute [local irreducible] Code.wp wpList Exit.then Exit.inBlock bodyPost A Calls execOp Addr.add

set_option maxHeartbeats 4000000 in
theorem capitalR (s : ByteArray) (w : World) (hs : s.size ≤ 1000000000000) : Calls Tryz.prog 145 #[.string s] w fun e w' => e = .returned (.bool (capB s.data.toList)) ∧ w = w' := by
  refine enter Tryz.func145 rfl Tryz.ntmps145 rfl ?_
  have hlen : s.data.toList.length = s.size := by simp
  rcases hl : s.data.toList with _ | ⟨c, r⟩
  · have e : s.size = 0 := by rw [← hlen, hl]; rfl
    refine rx ?_
    (apply ret1; exact rfl; (conv => lhs; whnf))
    exact ⟨rfl, rfl⟩
  have hsz : s.size = r.length + 1 := by rw [← hlen, hl]; simp
  have h0 : s.data.toList[0]? = some c := by rw [hl]; rfl
  refine rx ?_
  refine s_gtr rfl rfl (fun h => ?_) (fun h => ?_)
  · refine rx ?_
    (apply ret1; exact rfl; (conv => lhs; whnf))
    refine ⟨?_, rfl⟩
    have : ¬ r.length ≤ 15 := by omega
    simp [capB, this]
  have h15 : r.length ≤ 15 := by omega
  refine rx ?_
  refine s_indexStr (j := 0) rfl rfl h0 ?_
  refine rx ?_
  refine s_lss rfl rfl (fun h => ?_) (fun h => ?_)
  · refine rx ?_
    (apply ret1; exact rfl; (conv => lhs; whnf))
    refine ⟨?_, rfl⟩
    have : ¬ 65 ≤ c.toNat := by omega
    simp [capB, this]
  have h65 : 65 ≤ c.toNat := by omega
  refine rx ?_
  refine s_indexStr (j := 0) rfl rfl h0 ?_
  refine rx ?_
  refine s_gtr rfl rfl (fun h => ?_) (fun h => ?_)
  · refine rx ?_
    (apply ret1; exact rfl; (conv => lhs; whnf))
    refine ⟨?_, rfl⟩
    have : ¬ c.toNat ≤ 90 := by omega
    simp [capB, this]
  have h90 : c.toNat ≤ 90 := by omega
  refine rx ?_
  have hcin : inNm c = true := by unfold inNm; exact decide_eq_true (by omega)
  have hc0 : capB (c :: r) = (s.data.toList.drop 0).all inNm := by rw [hl]; simp [capB, h15, h65, h90, hcin]
  refine c_loopK 7 [3, 4, 5, 6] (σ := Nat) (fun i g u => g 3 = .int .i64 i ∧ i ≤ s.size ∧ capB (c :: r) = (s.data.toList.drop i).all inNm ∧ w = u) (fun i => s.size - i) 0 ⟨rfl, by omega, hc0, rfl⟩ ?_
  rintro i g u ⟨h3, hi, hc, rfl⟩
  rw [eq_upd h3]
  by_cases hlt : i < s.size
  case neg =>
    refine rx ?_
    (apply ret1; exact rfl; (conv => lhs; whnf))
    refine ⟨?_, rfl⟩
    rw [hc, List.drop_eq_nil_of_le (by rw [hlen]; omega)]; rfl
  have hlt' : i < s.data.toList.length := by rw [hlen]; exact hlt
  rw [all_drop hlt'] at hc
  refine rx ?_
  refine s_indexStr (j := i) (b := s.data.toList[i]) rfl rfl (by rw [List.getElem?_eq_getElem hlt']) ?_
  generalize s.data.toList[i] = b at hc
  rcases hq : inNm b with _ | _
  · have hq' : ¬ (97 ≤ b.toNat ∧ b.toNat ≤ 122 ∨ 65 ≤ b.toNat ∧ b.toNat ≤ 90 ∨ 48 ≤ b.toNat ∧ b.toNat ≤ 57 ∨ b.toNat = 95) := of_decide_eq_false hq
    (refine rx ?_; repeat' ((first | refine s_eql rfl rfl (fun h => ?_) (fun h => ?_) | refine s_neq rfl rfl (fun h => ?_) (fun h => ?_) | refine s_lss rfl rfl (fun h => ?_) (fun h => ?_) | refine s_leq rfl rfl (fun h => ?_) (fun h => ?_) | refine s_gtr rfl rfl (fun h => ?_) (fun h => ?_) | refine s_geq rfl rfl (fun h => ?_) (fun h => ?_) | refine s_eqlE rfl rfl (fun h => ?_) (fun h => ?_) | refine s_neqE rfl rfl (fun h => ?_) (fun h => ?_) | refine s_lssS rfl rfl (fun h => ?_) (fun h => ?_) | refine s_gtrS rfl rfl (fun h => ?_) (fun h => ?_)) <;> refine rx ?_))
    all_goals
      (apply ret1; exact rfl; (conv => lhs; whnf))
      exact ⟨by rw [hc, hq]; rfl, rfl⟩
  · have hq' : 97 ≤ b.toNat ∧ b.toNat ≤ 122 ∨ 65 ≤ b.toNat ∧ b.toNat ≤ 90 ∨ 48 ≤ b.toNat ∧ b.toNat ≤ 57 ∨ b.toNat = 95 := of_decide_eq_true hq
    (refine rx ?_; repeat' ((first | refine s_eql rfl rfl (fun h => ?_) (fun h => ?_) | refine s_neq rfl rfl (fun h => ?_) (fun h => ?_) | refine s_lss rfl rfl (fun h => ?_) (fun h => ?_) | refine s_leq rfl rfl (fun h => ?_) (fun h => ?_) | refine s_gtr rfl rfl (fun h => ?_) (fun h => ?_) | refine s_geq rfl rfl (fun h => ?_) (fun h => ?_) | refine s_eqlE rfl rfl (fun h => ?_) (fun h => ?_) | refine s_neqE rfl rfl (fun h => ?_) (fun h => ?_) | refine s_lssS rfl rfl (fun h => ?_) (fun h => ?_) | refine s_gtrS rfl rfl (fun h => ?_) (fun h => ?_)) <;> refine rx ?_))
    all_goals
      exact q_roundK (i + 1) (by (repeat (first | exact Keep.mrg _ _ _ _ | (refine Keep.hi rfl ?_) | (refine Keep.one rfl ?_) | exact Keep.all rfl | (refine Keep.inn rfl ?_) | (refine Keep.set rfl ?_)))) ⟨rfl, by omega, (by rw [hc, hq]; simp), rfl⟩ (by omega)


set_option maxHeartbeats 4000000 in
theorem formedR (v : V) (sl : Value) (w : World) (hv : VS w [] v.kids sl) (hn : VNm v) : Calls Tryz.prog 134 #[.agg (vc v sl).toArray] w fun e w' => e = .returned (.bool (allF v)) ∧ Fr [] w w' := by
  obtain ⟨ao, c, rfl, _⟩ := hv.slice
  have hbd := hv.bound
  refine enter Tryz.func134 rfl Tryz.ntmps134 rfl ?_
  refine rx ?_
  refine s_box rfl rfl (fun w1 hb1 hf1 hs1 => ?_)
  refine rx ?_
  refine s_call (capitalR v.s w1 hn.s) rfl ?_
  rintro _ _ ⟨rfl, rfl⟩
  refine ⟨_, rfl, ?_⟩
  rw [allF_eq]
  have bad : fmd v = false → (fmd v && allFs v.kids) = false := fun h => by rw [h]; rfl
  (refine rr ?_; refine wpList_nil ?_; refine q_then ?_; refine wp_seq ?_; refine c_cut (fun g u => g 1 = .pointer (some ⟨w.heap.size, 0, none⟩) ∧ g 3 = .bool (capB v.s.data.toList) ∧ w1 = u ∧ (v.kind = 0 → v.s = ⟨#[]⟩ ∧ v.kids.length = 0)) ?_ ?_)
  · (refine rx ?_; repeat' ((first | refine s_eql rfl rfl (fun h => ?_) (fun h => ?_) | refine s_neq rfl rfl (fun h => ?_) (fun h => ?_) | refine s_lss rfl rfl (fun h => ?_) (fun h => ?_) | refine s_leq rfl rfl (fun h => ?_) (fun h => ?_) | refine s_gtr rfl rfl (fun h => ?_) (fun h => ?_) | refine s_geq rfl rfl (fun h => ?_) (fun h => ?_) | refine s_eqlE rfl rfl (fun h => ?_) (fun h => ?_) | refine s_neqE rfl rfl (fun h => ?_) (fun h => ?_) | refine s_lssS rfl rfl (fun h => ?_) (fun h => ?_) | refine s_gtrS rfl rfl (fun h => ?_) (fun h => ?_)) <;> refine rx ?_))
    all_goals
      first
      | ((apply ret1; exact rfl; (conv => lhs; whnf))
         exact ⟨by rw [bad (by unfold fmd; rw [if_pos (by omega)]; exact decide_eq_false (by rintro ⟨a, b⟩; first | omega | contradiction))], hf1⟩)
      | exact q_cut ⟨rfl, rfl, rfl, fun h => by first | (exfalso; omega) | exact ⟨by assumption, by omega⟩⟩
  rintro g w1 ⟨q1, q3, rfl, c0⟩
  rw [eq_upd q1, eq_upd q3]
  (refine wp_seq ?_; refine c_cut (fun g u => g 1 = .pointer (some ⟨w.heap.size, 0, none⟩) ∧ g 3 = .bool (capB v.s.data.toList) ∧ w1 = u ∧ (v.kind = 1 → v.s = ⟨#[]⟩ ∧ v.kids.length = 0 ∧ (v.n = 0 ∨ v.n = 1))) ?_ ?_)
  · (refine rx ?_; repeat' ((first | refine s_eql rfl rfl (fun h => ?_) (fun h => ?_) | refine s_neq rfl rfl (fun h => ?_) (fun h => ?_) | refine s_lss rfl rfl (fun h => ?_) (fun h => ?_) | refine s_leq rfl rfl (fun h => ?_) (fun h => ?_) | refine s_gtr rfl rfl (fun h => ?_) (fun h => ?_) | refine s_geq rfl rfl (fun h => ?_) (fun h => ?_) | refine s_eqlE rfl rfl (fun h => ?_) (fun h => ?_) | refine s_neqE rfl rfl (fun h => ?_) (fun h => ?_) | refine s_lssS rfl rfl (fun h => ?_) (fun h => ?_) | refine s_gtrS rfl rfl (fun h => ?_) (fun h => ?_)) <;> refine rx ?_))
    all_goals
      first
      | ((apply ret1; exact rfl; (conv => lhs; whnf))
         exact ⟨by rw [bad (by unfold fmd; rw [if_neg (by omega), if_pos (by omega)]; exact decide_eq_false (by rintro ⟨a, b, c⟩; first | omega | contradiction))], hf1⟩)
      | exact q_cut ⟨rfl, rfl, rfl, fun h => by first | (exfalso; omega) | exact ⟨by assumption, by omega, by omega⟩⟩
  rintro g w1 ⟨q1, q3, rfl, c1⟩
  rw [eq_upd q1, eq_upd q3]
  (refine wp_seq ?_; refine c_cut (fun g u => g 1 = .pointer (some ⟨w.heap.size, 0, none⟩) ∧ g 3 = .bool (capB v.s.data.toList) ∧ w1 = u ∧ (v.kind = 2 → v.s = ⟨#[]⟩ ∧ v.n = 0)) ?_ ?_)
  · (refine rx ?_; repeat' ((first | refine s_eql rfl rfl (fun h => ?_) (fun h => ?_) | refine s_neq rfl rfl (fun h => ?_) (fun h => ?_) | refine s_lss rfl rfl (fun h => ?_) (fun h => ?_) | refine s_leq rfl rfl (fun h => ?_) (fun h => ?_) | refine s_gtr rfl rfl (fun h => ?_) (fun h => ?_) | refine s_geq rfl rfl (fun h => ?_) (fun h => ?_) | refine s_eqlE rfl rfl (fun h => ?_) (fun h => ?_) | refine s_neqE rfl rfl (fun h => ?_) (fun h => ?_) | refine s_lssS rfl rfl (fun h => ?_) (fun h => ?_) | refine s_gtrS rfl rfl (fun h => ?_) (fun h => ?_)) <;> refine rx ?_))
    all_goals
      first
      | ((apply ret1; exact rfl; (conv => lhs; whnf))
         exact ⟨by rw [bad (by simp_all [fmd])], hf1⟩)
      | exact q_cut ⟨rfl, rfl, rfl, fun h => by first | (exfalso; omega) | exact ⟨by assumption, by omega⟩⟩
  rintro g w1 ⟨q1, q3, rfl, c2⟩
  rw [eq_upd q1, eq_upd q3]
  rcases hcap : capB v.s.data.toList with _ | _
  all_goals
    (refine wp_seq ?_; refine c_cut (fun g u => g 1 = .pointer (some ⟨w.heap.size, 0, none⟩) ∧ w1 = u ∧ (v.kind = 3 → capB v.s.data.toList = true ∧ v.n = 0)) ?_ ?_)
    · (refine rx ?_; repeat' ((first | refine s_eql rfl rfl (fun h => ?_) (fun h => ?_) | refine s_neq rfl rfl (fun h => ?_) (fun h => ?_) | refine s_lss rfl rfl (fun h => ?_) (fun h => ?_) | refine s_leq rfl rfl (fun h => ?_) (fun h => ?_) | refine s_gtr rfl rfl (fun h => ?_) (fun h => ?_) | refine s_geq rfl rfl (fun h => ?_) (fun h => ?_) | refine s_eqlE rfl rfl (fun h => ?_) (fun h => ?_) | refine s_neqE rfl rfl (fun h => ?_) (fun h => ?_) | refine s_lssS rfl rfl (fun h => ?_) (fun h => ?_) | refine s_gtrS rfl rfl (fun h => ?_) (fun h => ?_)) <;> refine rx ?_))
      all_goals
        first
        | ((apply ret1; exact rfl; (conv => lhs; whnf))
           exact ⟨by rw [bad (by simp_all [fmd])], hf1⟩)
        | exact q_cut ⟨rfl, rfl, fun h => by first | (exfalso; omega) | exact ⟨by assumption, by omega⟩⟩
    rintro g w1 ⟨q1, rfl, c3⟩
    rw [eq_upd q1]
    by_cases hk : v.kind < 0 ∨ 3 < v.kind
    · (refine rx ?_; repeat' ((first | refine s_eql rfl rfl (fun h => ?_) (fun h => ?_) | refine s_neq rfl rfl (fun h => ?_) (fun h => ?_) | refine s_lss rfl rfl (fun h => ?_) (fun h => ?_) | refine s_leq rfl rfl (fun h => ?_) (fun h => ?_) | refine s_gtr rfl rfl (fun h => ?_) (fun h => ?_) | refine s_geq rfl rfl (fun h => ?_) (fun h => ?_) | refine s_eqlE rfl rfl (fun h => ?_) (fun h => ?_) | refine s_neqE rfl rfl (fun h => ?_) (fun h => ?_) | refine s_lssS rfl rfl (fun h => ?_) (fun h => ?_) | refine s_gtrS rfl rfl (fun h => ?_) (fun h => ?_)) <;> refine rx ?_))
      all_goals
        (apply ret1; exact rfl; (conv => lhs; whnf))
        refine ⟨?_, hf1⟩
        rw [bad]
        have h0 : ¬ v.kind = 0 := by omega
        have h1 : ¬ v.kind = 1 := by omega
        have h2 : ¬ v.kind = 2 := by omega
        have h3 : ¬ v.kind = 3 := by omega
        simp [fmd, h0, h1, h2, h3]
    have good : fmd v = true := by
      have : v.kind = 0 ∨ v.kind = 1 ∨ v.kind = 2 ∨ v.kind = 3 := by omega
      rcases this with h | h | h | h
      · have := c0 h; simp_all [fmd]
      · have := c1 h; simp_all [fmd]
      · have := c2 h; simp_all [fmd]
      · have := c3 h; simp_all [fmd]
    rw [good]
    simp only [Bool.true_and]
    refine rx ?_
    refine c_loopK 6 [4, 5] (σ := Nat) (fun i g u => g 4 = .int .i64 i ∧ i ≤ v.kids.length ∧ allFs v.kids = allFs (v.kids.drop i) ∧ Fr [] w1 u) (fun i => v.kids.length - i) 0 ⟨rfl, by omega, rfl, Fr.refl _ _⟩ ?_
    rintro i g u ⟨h4, hi, hc, hfu⟩
    rw [eq_upd h4]
    have hbu := hb1.tr0 hfu
    have hFu := hf1.trans0 hfu
    by_cases hlt : i < v.kids.length
    case neg =>
      refine rx ?_
      (apply ret1; exact rfl; (conv => lhs; whnf))
      rw [hc, List.drop_eq_nil_of_le (by omega)]
      exact ⟨rfl, hFu⟩
    obtain ⟨ad, cs, rfl, ⟨sx, rfl, hx⟩, hcx⟩ := (hv.tr0 hFu).sl.at VR.len hlt
    refine rx ?_
    refine s_call (formedR v.kids[i] sx u hx (hn.kids _ (by simp))) rfl ?_
    rintro _ u1 ⟨rfl, hf2⟩
    refine ⟨_, rfl, ?_⟩
    rw [List.drop_eq_getElem_cons hlt, allFs] at hc
    rcases hq : allF v.kids[i] with _ | _
    · refine rx ?_
      (apply ret1; exact rfl; (conv => lhs; whnf))
      rw [hc, hq]
      exact ⟨rfl, hFu.trans0 hf2⟩
    · refine rx ?_
      exact q_roundK (i + 1) (by (repeat (first | exact Keep.mrg _ _ _ _ | (refine Keep.hi rfl ?_) | (refine Keep.one rfl ?_) | exact Keep.all rfl | (refine Keep.inn rfl ?_) | (refine Keep.set rfl ?_)))) ⟨rfl, by omega, by rw [hc, hq]; simp, hfu.trans0 hf2⟩ (by omega)
termination_by SizeOf.sizeOf v
decreasing_by
  all_goals
    have h1 : SizeOf.sizeOf v.kids[i] < SizeOf.sizeOf v.kids := List.sizeOf_get _ ⟨i, hlt⟩
    have h2 : SizeOf.sizeOf v.kids < SizeOf.sizeOf v := by cases v; simp; omega
    omega

mutual
def wdV : V → Bool
  | ⟨k, n, s, ks⟩ => decide (k = 2 ∧ 256 < ks.length ∨ k = 3 ∧ 16 < ks.length) || wdVs ks
def wdVs : List V → Bool
  | [] => false
  | v :: l => wdV v || wdVs l
end
theorem wdV_eq (v : V) : wdV v = (decide (v.kind = 2 ∧ 256 < v.kids.length ∨ v.kind = 3 ∧ 16 < v.kids.length) || wdVs v.kids) := by cases v; simp only [wdV]
mutual
theorem wd_allT : ∀ v : V, allF v = true → wdV v = !allT v
  | ⟨k, n, s, ks⟩, h => by
    rw [allF_eq] at h
    simp only [Bool.and_eq_true] at h
    rw [wdV_eq, allT_eq, wds_allT ks h.2, Bool.not_and]
    congr 1
    have hf := h.1
    simp only [fts, fmd] at hf ⊢
    rw [Bool.eq_iff_iff]
    simp only [decide_eq_true_eq, Bool.not_eq_true', decide_eq_false_iff_not]
    repeat' split at hf
    all_goals simp at hf
    all_goals (first | omega | ((have h9 : ks.length = 0 := by simp [hf]); omega))
theorem wds_allT : ∀ l : List V, allFs l = true → wdVs l = !allTs l
  | [], _ => rfl
  | v :: l, h => by
    simp only [allFs, Bool.and_eq_true] at h
    simp only [wdVs, allTs, wd_allT v h.1, wds_allT l h.2, Bool.not_and]
end

theorem wideR (v : V) (sl : Value) (w : World) (hv : VS w [] v.kids sl) : Calls Tryz.prog 135 #[.agg (vc v sl).toArray] w fun e w' => e = .returned (.bool (wdV v)) ∧ Fr [] w w' := by
  obtain ⟨ao, c, rfl, _⟩ := hv.slice
  have hbd := hv.bound
  refine enter Tryz.func135 rfl Tryz.ntmps135 rfl ?_
  refine rx ?_
  refine s_box rfl rfl (fun w1 hb1 hf1 hs1 => ?_)
  rw [wdV_eq]
  by_cases hk : v.kind = 2 ∧ 256 < v.kids.length ∨ v.kind = 3 ∧ 16 < v.kids.length
  · (refine rx ?_; repeat' ((first | refine s_eql rfl rfl (fun h => ?_) (fun h => ?_) | refine s_neq rfl rfl (fun h => ?_) (fun h => ?_) | refine s_lss rfl rfl (fun h => ?_) (fun h => ?_) | refine s_leq rfl rfl (fun h => ?_) (fun h => ?_) | refine s_gtr rfl rfl (fun h => ?_) (fun h => ?_) | refine s_geq rfl rfl (fun h => ?_) (fun h => ?_) | refine s_eqlE rfl rfl (fun h => ?_) (fun h => ?_) | refine s_neqE rfl rfl (fun h => ?_) (fun h => ?_) | refine s_lssS rfl rfl (fun h => ?_) (fun h => ?_) | refine s_gtrS rfl rfl (fun h => ?_) (fun h => ?_)) <;> refine rx ?_))
    all_goals
      (apply ret1; exact rfl; (conv => lhs; whnf))
      exact ⟨by rw [decide_eq_true hk]; rfl, hf1⟩
  rw [decide_eq_false hk]
  simp only [Bool.false_or]
  (refine rr ?_; refine wpList_nil ?_; refine q_then ?_; refine wp_seq ?_; refine c_cut (fun g u => g 1 = .pointer (some ⟨w.heap.size, 0, none⟩) ∧ w1 = u) ?_ ?_)
  · (refine rx ?_; repeat' ((first | refine s_eql rfl rfl (fun h => ?_) (fun h => ?_) | refine s_neq rfl rfl (fun h => ?_) (fun h => ?_) | refine s_lss rfl rfl (fun h => ?_) (fun h => ?_) | refine s_leq rfl rfl (fun h => ?_) (fun h => ?_) | refine s_gtr rfl rfl (fun h => ?_) (fun h => ?_) | refine s_geq rfl rfl (fun h => ?_) (fun h => ?_) | refine s_eqlE rfl rfl (fun h => ?_) (fun h => ?_) | refine s_neqE rfl rfl (fun h => ?_) (fun h => ?_) | refine s_lssS rfl rfl (fun h => ?_) (fun h => ?_) | refine s_gtrS rfl rfl (fun h => ?_) (fun h => ?_)) <;> refine rx ?_))
    all_goals exact q_cut ⟨rfl, rfl⟩
  rintro g w1 ⟨q1, rfl⟩
  rw [eq_upd q1]
  refine rx ?_
  refine c_loopK 5 [3, 4] (σ := Nat) (fun i g u => g 3 = .int .i64 i ∧ i ≤ v.kids.length ∧ wdVs v.kids = wdVs (v.kids.drop i) ∧ Fr [] w1 u) (fun i => v.kids.length - i) 0 ⟨rfl, by omega, rfl, Fr.refl _ _⟩ ?_
  rintro i g u ⟨h4, hi, hc, hfu⟩
  rw [eq_upd h4]
  have hbu := hb1.tr0 hfu
  have hFu := hf1.trans0 hfu
  by_cases hlt : i < v.kids.length
  case neg =>
    refine rx ?_
    (apply ret1; exact rfl; (conv => lhs; whnf))
    rw [hc, List.drop_eq_nil_of_le (by omega)]
    exact ⟨rfl, hFu⟩
  obtain ⟨ad, cs, rfl, ⟨sx, rfl, hx⟩, hcx⟩ := (hv.tr0 hFu).sl.at VR.len hlt
  refine rx ?_
  refine s_call (wideR v.kids[i] sx u hx) rfl ?_
  rintro _ u1 ⟨rfl, hf2⟩
  refine ⟨_, rfl, ?_⟩
  rw [List.drop_eq_getElem_cons hlt, wdVs] at hc
  rcases hq : wdV v.kids[i] with _ | _
  · refine rx ?_
    exact q_roundK (i + 1) (by (repeat (first | exact Keep.mrg _ _ _ _ | (refine Keep.hi rfl ?_) | (refine Keep.one rfl ?_) | exact Keep.all rfl | (refine Keep.inn rfl ?_) | (refine Keep.set rfl ?_)))) ⟨rfl, by omega, by rw [hc, hq]; simp, hfu.trans0 hf2⟩ (by omega)
  · refine rx ?_
    (apply ret1; exact rfl; (conv => lhs; whnf))
    rw [hc, hq]
    exact ⟨rfl, hFu.trans0 hf2⟩
termination_by SizeOf.sizeOf v
decreasing_by
  have h1 : SizeOf.sizeOf v.kids[i] < SizeOf.sizeOf v.kids := List.sizeOf_get _ ⟨i, hlt⟩
  have h2 : SizeOf.sizeOf v.kids < SizeOf.sizeOf v := by cases v; simp; omega
  omega

theorem vszs_drop {l : List V} {i : Nat} (h : i < l.length) : vszs (l.drop i) = vsz l[i] + vszs (l.drop (i + 1)) := by rw [List.drop_eq_getElem_cons h]; rfl
theorem sizeR (v : V) (sl : Value) (w : World) (hv : VS w [] v.kids sl) (hz : vsz v ≤ 10000000000000) : Calls Tryz.prog 111 #[.agg (vc v sl).toArray] w fun e w' => e = .returned (.int .i64 (vsz v)) ∧ Fr [] w w' := by
  obtain ⟨ao, c, rfl, _⟩ := hv.slice
  have hbd := hv.bound
  have hzz := vsz_eq v
  refine enter Tryz.func111 rfl Tryz.ntmps111 rfl ?_
  refine rx ?_
  refine s_box rfl rfl (fun w1 hb1 hf1 hs1 => ?_)
  refine rx ?_
  refine c_loopK 5 [3, 4] (σ := Nat × Nat) (fun st g u => g 3 = .int .i64 st.2 ∧ g 4 = .int .i64 st.1 ∧ st.1 ≤ v.kids.length ∧ vsz v = st.2 + vszs (v.kids.drop st.1) ∧ Fr [] w1 u) (fun st => v.kids.length - st.1) (0, 1) ⟨rfl, rfl, by omega, hzz, Fr.refl _ _⟩ ?_
  rintro ⟨i, m⟩ g u ⟨h3, h4, hi, hc, hfu⟩
  simp only at h3 h4 hi hc
  rw [eq_upd h3, eq_upd h4]
  have hbu := hb1.tr0 hfu
  have hFu := hf1.trans0 hfu
  by_cases hlt : i < v.kids.length
  case neg =>
    refine rx ?_
    (apply ret1; exact rfl; (conv => lhs; whnf))
    rw [hc, List.drop_eq_nil_of_le (by omega)]
    exact ⟨rfl, hFu⟩
  obtain ⟨ad, cs, rfl, ⟨sx, rfl, hx⟩, hcx⟩ := (hv.tr0 hFu).sl.at VR.len hlt
  rw [vszs_drop hlt] at hc
  refine rx ?_
  refine s_call (sizeR v.kids[i] sx u hx (by omega)) rfl ?_
  rintro _ u1 ⟨rfl, hf2⟩
  refine ⟨_, rfl, ?_⟩
  refine rx ?_
  refine q_roundK (i + 1, m + vsz v.kids[i]) (by (repeat (first | exact Keep.mrg _ _ _ _ | (refine Keep.hi rfl ?_) | (refine Keep.one rfl ?_) | exact Keep.all rfl | (refine Keep.inn rfl ?_) | (refine Keep.set rfl ?_)))) ⟨by simp; rfl, rfl, by simp only; omega, by simp only; omega, hfu.trans0 hf2⟩ (by simp only; omega)
termination_by SizeOf.sizeOf v
decreasing_by
  have h1 : SizeOf.sizeOf v.kids[i] < SizeOf.sizeOf v.kids := List.sizeOf_get _ ⟨i, hlt⟩
  have h2 : SizeOf.sizeOf v.kids < SizeOf.sizeOf v := by cases v; simp; omega
  omega

theorem validR (v : V) (sl : Value) (w : World) (hv : VS w [] v.kids sl) (hn : VNm v) (hz : vsz v ≤ 10000000000000) :
    Calls Tryz.prog 109 #[.agg (vc v sl).toArray] w fun e w' => e = .returned (.int .i64 (valV v)) ∧ Fr [] w w' := by
  refine enter Tryz.func109 rfl Tryz.ntmps109 rfl ?_
  refine rx ?_
  refine s_box rfl rfl (fun w1 hb1 hf1 hs1 => ?_)
  refine rx ?_
  refine s_call (formedR v sl w1 (hv.tr0 hf1) hn) rfl ?_
  rintro _ w2 ⟨rfl, hf2⟩
  refine ⟨_, rfl, ?_⟩
  have hb2 := hb1.tr0 hf2
  have hF2 := hf1.trans0 hf2
  rcases hq : allF v with _ | _
  · refine rx ?_
    (apply ret1; exact rfl; (conv => lhs; whnf))
    exact ⟨by simp [valV, hq], hF2⟩
  refine rx ?_
  refine s_call (wideR v sl w2 (hv.tr0 hF2)) rfl ?_
  rintro _ w3 ⟨rfl, hf3⟩
  refine ⟨_, rfl, ?_⟩
  have hF3 := hF2.trans0 hf3
  have hb3 := hb2.tr0 hf3
  rw [wd_allT v hq]
  rcases hq2 : allT v with _ | _
  · refine rx ?_
    (apply ret1; exact rfl; (conv => lhs; whnf))
    exact ⟨by simp [valV, hq, hq2], hF3⟩
  refine rx ?_
  refine s_call (sizeR v sl w3 (hv.tr0 hF3) hz) rfl ?_
  rintro _ w4 ⟨rfl, hf4⟩
  refine ⟨_, rfl, ?_⟩
  have hF4 := hF3.trans0 hf4
  refine rx ?_
  refine s_gtr rfl rfl (fun h => ?_) (fun h => ?_)
  · refine rx ?_
    (apply ret1; exact rfl; (conv => lhs; whnf))
    have : ¬ vsz v ≤ 1024 := by omega
    exact ⟨by simp [valV, hq, hq2, this], hF4⟩
  · refine rx ?_
    (apply ret1; exact rfl; (conv => lhs; whnf))
    have : vsz v ≤ 1024 := by omega
    exact ⟨by simp [valV, hq, hq2, this], hF4⟩
end Go.Proofs.YtpochcchekoonaaGreat
namespace Go.Proofs.YtpochcchekoonaaGreat
open Go.Rf Go.RowKit
set_option linter.unusedVariables false
attribute [local irreducible] Code.wp wpList Exit.then Exit.inBlock bodyPost A Calls execOp Addr.add

theorem zeros_drop (z : List Value) (k : Nat) : (zeros z (k + 1)).drop z.length = zeros z k := by simp [zeros]
theorem fill_next {ys cs z : List Value} {i n m : Nat} (hy : ys.length = i * m) (hz : z.length = m) (hi : i < n) : (ys ++ zeros z (n - i)).take (i * m) ++ cs ++ (ys ++ zeros z (n - i)).drop (i * m + m) = ys ++ cs ++ zeros z (n - (i + 1)) := by
  have e : n - i = (n - (i + 1)) + 1 := by omega
  rw [← hy, List.take_left, List.drop_append, List.drop_eq_nil_of_le (by omega), e, List.nil_append, Nat.add_sub_cancel_left, ← hz, zeros_drop]

theorem cloneList (l : List V) (sl : Value) (w : World) (hl : VS w [] l sl)
    (H : ∀ x ∈ l, ∀ (sx : Value) (u : World), VS u [] x.kids sx → Calls Tryz.prog 39 #[.agg (vc x sx).toArray] u fun e u' => ∃ sx', e = .returned (.agg (vc x sx').toArray) ∧ (∀ S, (∀ k ∈ S, k < u.heap.size) → VS u' S x.kids sx') ∧ Fr [] u u') :
    Calls Tryz.prog 82 #[sl, .func (.func 39) #[] #[]] w fun e w' => ∃ sl', e = .returned sl' ∧ (∀ S, (∀ k ∈ S, k < w.heap.size) → VS w' S l sl') ∧ Fr [] w w' := by
  obtain ⟨ao, c, rfl, hc⟩ := hl.slice
  have hbd := hl.bound
  refine enter Tryz.func82 rfl Tryz.ntmps82 rfl ?_
  by_cases h0 : l.length = 0
  · refine rx ?_
    (apply ret1; exact rfl; (conv => lhs; whnf))
    have : l = [] := List.eq_nil_of_length_eq_zero h0
    subst this
    exact ⟨_, rfl, fun S _ => VS.nil _ _, Fr.refl _ _⟩
  refine rx ?_
  refine s_makeS (k := l.length) rfl rfl (by omega) (by unfold maxLen; omega) (fun w1 ho1 hf1 hs1 => ?_)
  refine rx ?_
  obtain ⟨N, hN⟩ : ∃ N, w.heap.size = N := ⟨_, rfl⟩
  rw [hN] at ho1 hs1 ⊢
  refine c_loopK 7 [6] (σ := Nat × List Value) (fun st g u => g 13 = .slice ao l.length c ∧ g 14 = .int .i64 l.length ∧ g 15 = .int .i64 st.1 ∧ st.1 ≤ l.length ∧ st.2.length = st.1 * 4 ∧
      Own u 33 4 (.slice (some ⟨N, 0, none⟩) l.length l.length) l.length (st.2 ++ zeros [.int .i64 0, .int .i64 0, .string .empty, .slice none 0 0] (l.length - st.1)) ∧ (∀ S, (∀ k ∈ S, k < N) → Rws (VR u (N :: S)) (l.take st.1) st.2) ∧ Fr [N] w1 u)
    (fun st => l.length - st.1) (0, []) ⟨rfl, rfl, rfl, Nat.zero_le _, rfl, ho1, fun S _ => by simpa using Rws.nil, Fr.refl _ _⟩ ?_
  rintro ⟨i, ys⟩ g u ⟨h13, h14, h15, hi, hys, hou, hru, hfu⟩
  simp only at h15 hi hys hou hru
  rw [eq_upd h13, eq_upd h14, eq_upd h15]
  have hF : Fr [] w u := hf1.trans hfu (by simp; omega)
  by_cases hlt : i < l.length
  case neg =>
    refine rx ?_
    (apply ret1; exact rfl; (conv => lhs; whnf))
    have ei : i = l.length := by omega
    subst ei
    rw [Nat.sub_self, show zeros [.int .i64 0, .int .i64 0, .string .empty, .slice none 0 0] 0 = [] from rfl, List.append_nil] at hou
    refine ⟨_, rfl, fun S hS => VS.of hbd hou.src (fun ad n c e hp hk => ?_) ?_, hF⟩
    · simp only [Value.slice.injEq, Option.some.injEq] at e
      have hb := congrArg Addr.block e.1
      have := hS _ hk
      simp only at hb
      omega
    · have := hru S hS
      rw [List.take_length] at this
      exact this.imp (fun x cs _ h => h.mono (fun k hk => .inl (by simp [hk])))
  obtain ⟨ad, cs, rfl, ⟨sx, rfl, hx⟩, hcx⟩ := (hl.tr0 hF).sl.at VR.len hlt
  refine rx ?_
  refine s_callV (first := []) (cap := []) (H l[i] (by simp) sx u hx) rfl rfl rfl ?_
  rintro _ u1 ⟨sx', rfl, hx', hf1'⟩
  refine ⟨_, rfl, ?_⟩
  have hou1 := hou.tr0 hf1'
  have hszu := hfu.size
  have hx0 : VS u1 [] l[i].kids sx' := hx' [] (by simp)
  refine rx ?_
  refine s_storeRowA (q := i * 4) (m := 4) (cs := vc l[i] sx') hou1 rfl rfl rfl rfl rfl (VR.mem1 l[i] _ ⟨sx', rfl, hx0⟩) (by omega) (fun u2 hou2 hf2 hs2 => ?_)
  rw [fill_next hys rfl hlt] at hou2
  have hblk : blks (.slice (some ⟨N, 0, none⟩) l.length l.length) = [N] := rfl
  rw [hblk] at hf2
  refine rx ?_
  refine q_roundK (i + 1, ys ++ vc l[i] sx') (by (repeat (first | exact Keep.mrg _ _ _ _ | (refine Keep.hi rfl ?_) | (refine Keep.one rfl ?_) | exact Keep.all rfl | (refine Keep.inn rfl ?_) | (refine Keep.set rfl ?_)))) ⟨rfl, rfl, rfl, by simp only; omega, by simp [hys, vc]; omega, hou2, fun S hS => ?_, (hfu.trans0 hf1').trans hf2 (by simp)⟩ (by simp only; omega)
  simp only
  rw [List.take_succ_eq_append_getElem hlt]
  refine Rws.app ((hru S hS).imp (fun x cs _ h => (h.old hf1' (by simp)).tr (hf2.mono (by simp)))) (Rws.one ⟨sx', rfl, ?_⟩)
  refine (hx' (N :: S) ?_).tr (hf2.mono (by simp))
  intro k hk
  rcases List.mem_cons.1 hk with rfl | hk
  · omega
  · have := hS k hk; omega

theorem cloneValue (v : V) (sl : Value) (w : World) (hv : VS w [] v.kids sl) : Calls Tryz.prog 39 #[.agg (vc v sl).toArray] w fun e w' => ∃ sl', e = .returned (.agg (vc v sl').toArray) ∧ (∀ S, (∀ k ∈ S, k < w.heap.size) → VS w' S v.kids sl') ∧ Fr [] w w' := by
  refine enter Tryz.func39 rfl Tryz.ntmps39 rfl ?_
  refine rx ?_
  refine s_box rfl rfl (fun w1 hb1 hf1 hs1 => ?_)
  refine s_alloc rfl (fun w2 hb2 hf2 hs2 => ?_)
  have hb1' := hb1.tr0 hf2
  have hF2 := hf1.trans0 hf2
  refine rx ?_
  refine s_call (cloneList v.kids sl w2 (hv.tr0 hF2) (fun x hx sx u h => cloneValue x sx u h)) rfl ?_
  rintro _ w3 ⟨sl', rfl, hsl, hf3⟩
  refine ⟨_, rfl, ?_⟩
  have hb3 := hb1'.tr0 hf3
  have hb4 := hb2.tr0 hf3
  have h0 : VS w3 [] v.kids sl' := hsl [] (by simp)
  refine rx ?_
  ((with_reducible apply s_storeB); exact rfl; (conv => lhs; whnf); exact h0.one; exact hb3; exact rfl)
  intro w4 hb5 hf4 hs4
  have hb6 := hb4.tr hf4 (by simp; omega)
  refine rx ?_
  refine s_storeAggB rfl rfl hb6 (VR.mem1 v _ ⟨sl', rfl, h0⟩) rfl rfl (fun w5 hb7 hf5 hs5 => ?_)
  have hs3 := hf3.size
  have hb7' : Blk w5 w1.heap.size (vc v sl') 33 := hb7
  refine rx ?_
  refine retc rfl rfl (AggT.load _ (vc v sl') rfl (fun j x hx => by rw [add_lit]; exact hb7'.cell (by simpa using hx))) ⟨sl', rfl, fun S hS => ?_, ?_⟩
  · have h1 := hsl (S ++ [w.heap.size, w1.heap.size]) (by
      intro k hk
      rcases List.mem_append.1 hk with h | h
      · have := hS k h; omega
      · simp at h; omega)
    exact ((h1.tr (hf4.mono (by simp))).tr (hf5.mono (by simp))).mono (fun k hk => .inl (by simp [hk]))
  · exact ((hF2.trans0 hf3).trans hf4 (by simp)).trans hf5 (by simp; omega)
termination_by SizeOf.sizeOf v
decreasing_by
  have h1 := List.sizeOf_lt_of_mem hx
  have h2 : SizeOf.sizeOf v.kids < SizeOf.sizeOf v := by cases v; simp; omega
  omega

theorem cloneValues (l : List V) (sl : Value) (w : World) (hl : VS w [] l sl) :
    Calls Tryz.prog 72 #[sl] w fun e w' => ∃ sl', e = .returned sl' ∧ (∀ S, (∀ k ∈ S, k < w.heap.size) → VS w' S l sl') ∧ Fr [] w w' := by
  refine enter Tryz.func72 rfl Tryz.ntmps72 rfl ?_
  refine rx ?_
  refine s_call (cloneList l sl w hl (fun x hx sx u h => cloneValue x sx u h)) rfl ?_
  rintro _ w3 ⟨sl', rfl, hsl, hf3⟩
  refine ⟨_, rfl, ?_⟩
  refine rx ?_
  (apply ret1; exact rfl; (conv => lhs; whnf))
  exact ⟨_, rfl, hsl, hf3⟩

def zeroV (v : V) : Bool := decide (v.kind = 0 ∧ v.n = 0 ∧ v.s = ⟨#[]⟩ ∧ v.kids.length = 0)
end Go.Proofs.YtpochcchekoonaaGreat
