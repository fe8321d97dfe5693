/-
  Contracts of the reference's Compare (refuterref10).
-/
import Derived.Test.YtpochcchekoonaaVa
namespace Go.Proofs.Ytpochcchekoonaa
open Go.Rf Go.RowKit
set_option linter.unusedVariables false
attribute [local irreducible] Code.wp wpList Exit.then Exit.inBlock bodyPost A Calls execOp Addr.add

theorem signC (b : Bool) (w : World) : Calls Try.prog 56 #[.bool b] w fun e w' => e = .returned (.int .i64 (if b then -1 else 1)) ∧ w = w' := by
  refine enter Try.func56 rfl Try.ntmps56 rfl ?_
  cases b
  all_goals
    refine rx ?_
    (apply ret1; exact rfl; (conv => lhs; whnf))
    exact ⟨rfl, rfl⟩

theorem compareR (a b : V) (sa sb : Value) (w : World) (ha : VS w [] a.kids sa) (hb : VS w [] b.kids sb) :
    Calls Try.prog 30 #[.agg (vc a sa).toArray, .agg (vc b sb).toArray] w fun e w' => e = .returned (.int .i64 (cmpV a b)) ∧ Fr [] w w' := by
  obtain ⟨aa, ca, rfl, hca⟩ := ha.slice
  obtain ⟨ab, cb, rfl, hcb⟩ := hb.slice
  have la := ha.bound
  have lb := hb.bound
  refine enter Try.func30 rfl Try.ntmps30 rfl ?_
  refine rx ?_
  refine s_box rfl rfl (fun w1 hb1 hf1 hs1 => ?_)
  refine s_box rfl rfl (fun w2 hb2 hf2 hs2 => ?_)
  have hb1' := hb1.tr0 hf2
  have hF := hf1.trans0 hf2
  rw [cmpV_eq]
  refine rx ?_
  refine s_neq rfl rfl (fun h => ?_) (fun h => ?_)
  · refine rx ?_
    refine s_run (r_lss rfl rfl rfl) ?_
    refine s_call (signC _ w2) rfl ?_
    rintro _ _ ⟨rfl, rfl⟩
    refine ⟨_, rfl, ?_⟩
    refine rx ?_
    (apply ret1; exact rfl; (conv => lhs; whnf))
    refine ⟨?_, hF⟩
    have e : cmpI a.kind b.kind = if decide (a.kind < b.kind) = true then -1 else 1 := by
      simp only [cmpI, decide_eq_true_eq]
      split <;> first | rfl | (split <;> first | rfl | (exfalso; omega))
    rw [← e, if_pos]
    rw [e]; split <;> decide
  have e0 : cmpI a.kind b.kind = 0 := by simp [cmpI, h]
  rw [if_neg (by simp [e0])]
  refine rx ?_
  refine s_neq rfl rfl (fun h => ?_) (fun h => ?_)
  · refine rx ?_
    refine s_run (r_lss rfl rfl rfl) ?_
    refine s_call (signC _ w2) rfl ?_
    rintro _ _ ⟨rfl, rfl⟩
    refine ⟨_, rfl, ?_⟩
    refine rx ?_
    (apply ret1; exact rfl; (conv => lhs; whnf))
    refine ⟨?_, hF⟩
    have e : cmpI a.n b.n = if decide (a.n < b.n) = true then -1 else 1 := by
      simp only [cmpI, decide_eq_true_eq]
      split <;> first | rfl | (split <;> first | rfl | (exfalso; omega))
    rw [← e, if_pos]
    rw [e]; split <;> decide
  have e1 : cmpI a.n b.n = 0 := by simp [cmpI, h]
  rw [if_neg (by simp [e1])]
  refine rx ?_
  refine s_neqE rfl rfl (fun h => ?_) (fun h => ?_)
  · refine rx ?_
    refine s_lssS rfl rfl (fun h2 => ?_) (fun h2 => ?_)
    · refine s_call (signC _ w2) rfl ?_
      rintro _ _ ⟨rfl, rfl⟩
      refine ⟨_, rfl, ?_⟩
      refine rx ?_
      (apply ret1; exact rfl; (conv => lhs; whnf))
      refine ⟨?_, hF⟩
      simp [cmpS, h2]
    · refine s_call (signC _ w2) rfl ?_
      rintro _ _ ⟨rfl, rfl⟩
      refine ⟨_, rfl, ?_⟩
      refine rx ?_
      (apply ret1; exact rfl; (conv => lhs; whnf))
      refine ⟨?_, hF⟩
      simp [cmpS, h2, h]
  have e2 : cmpS a.s b.s = 0 := by
    have : ¬ Op.bytesLess a.s.toList b.s.toList = true := by
      rw [h]
      have irr : ∀ l : List UInt8, Op.bytesLess l l = false := by
        intro l
        induction l with
        | nil => rfl
        | cons x l ih => simp [Op.bytesLess, ih]
      simp [irr]
    simp only [cmpS, if_neg this, if_pos h]
  rw [if_neg (by simp [e2])]
  refine rx ?_
  refine c_loopK 7 [5, 6] (σ := Nat) (fun i g u => g 5 = .int .i64 i ∧ i ≤ a.kids.length ∧ i ≤ b.kids.length ∧ cmpVs a.kids b.kids = cmpVs (a.kids.drop i) (b.kids.drop i) ∧ Fr [] w2 u)
    (fun i => a.kids.length - i) 0 ⟨rfl, Nat.zero_le _, Nat.zero_le _, rfl, Fr.refl _ _⟩ ?_
  rintro i g u ⟨h5, hi, hib, hc, hf⟩
  rw [eq_upd h5]
  have hbu1 := hb1'.tr0 hf
  have hbu2 := hb2.tr0 hf
  by_cases hlt : i < a.kids.length
  case neg =>
    have e1 : a.kids.drop i = [] := List.drop_eq_nil_of_le (by omega)
    by_cases hltb : i < b.kids.length
    · refine rx ?_
      refine s_call (signC _ u) rfl ?_
      rintro _ _ ⟨rfl, rfl⟩
      refine ⟨_, rfl, ?_⟩
      refine rx ?_
      (apply ret1; exact rfl; (conv => lhs; whnf))
      refine ⟨?_, hF.trans0 hf⟩
      rw [hc, e1, List.drop_eq_getElem_cons hltb]; rfl
    · refine rx ?_
      (apply ret1; exact rfl; (conv => lhs; whnf))
      refine ⟨?_, hF.trans0 hf⟩
      rw [hc, e1, List.drop_eq_nil_of_le (by omega : b.kids.length ≤ i)]; rfl
  by_cases hltb : i < b.kids.length
  case neg =>
    refine rx ?_
    refine s_call (signC _ u) rfl ?_
    rintro _ _ ⟨rfl, rfl⟩
    refine ⟨_, rfl, ?_⟩
    refine rx ?_
    (apply ret1; exact rfl; (conv => lhs; whnf))
    refine ⟨?_, hF.trans0 hf⟩
    rw [hc, List.drop_eq_getElem_cons hlt, List.drop_eq_nil_of_le (by omega : b.kids.length ≤ i)]; rfl
  obtain ⟨ad, cs, rfl, ⟨sx, rfl, hx⟩, hcx⟩ := (ha.tr0 (hF.trans0 hf)).sl.at VR.len hlt
  obtain ⟨bd, cs, rfl, ⟨sy, rfl, hy⟩, hcy⟩ := (hb.tr0 (hF.trans0 hf)).sl.at VR.len hltb
  refine rx ?_
  (refine d_begin (fun z => Fr [] u z) (by kernel_rfl) rfl ?_)
  have hS : Fr [] u u.drew := Fr.drew _ _
  ((first | refine d_tx 0 hS ?_ | refine d_ty 0 hS ?_ | refine d_tn 0 hS ?_); (first | refine d_tx 1 hS ?_ | refine d_ty 1 hS ?_ | refine d_tn 1 hS ?_); (first | refine d_tx 2 hS ?_ | refine d_ty 2 hS ?_ | refine d_tn 2 hS ?_); (first | refine d_tx 3 hS ?_ | refine d_ty 3 hS ?_ | refine d_tn 3 hS ?_); (first | refine d_tx 4 hS ?_ | refine d_ty 4 hS ?_ | refine d_tn 4 hS ?_); (first | refine d_tx 5 hS ?_ | refine d_ty 5 hS ?_ | refine d_tn 5 hS ?_); (first | refine d_tx 6 hS ?_ | refine d_ty 6 hS ?_ | refine d_tn 6 hS ?_); (first | refine d_tx 7 hS ?_ | refine d_ty 7 hS ?_ | refine d_tn 7 hS ?_); (first | refine d_tx 8 hS ?_ | refine d_ty 8 hS ?_ | refine d_tn 8 hS ?_); (first | refine d_tx 9 hS ?_ | refine d_ty 9 hS ?_ | refine d_tn 9 hS ?_))
  refine d_one (i := 10) rfl (by kernel_rfl) ?_
  refine s_call (compareR a.kids[i] b.kids[i] sx sy _ (hx.tr0 hS) (hy.tr0 hS)) rfl ?_
  rintro _ u1 ⟨rfl, hf1⟩
  refine ⟨_, rfl, ?_⟩
  refine wpList_nil (q_held (hS.trans0 hf1) ?_)
  refine d_one (i := 11) rfl (by kernel_rfl) ?_
  refine rx ?_
  refine q_held (hS.trans0 hf1) ?_
  (refine d_done (by kernel_rfl) ?_)
  have hF2 : Fr [] w u1 := (hF.trans0 hf).trans0 (hS.trans0 hf1)
  have ec : cmpVs a.kids b.kids = if cmpV a.kids[i] b.kids[i] ≠ 0 then cmpV a.kids[i] b.kids[i] else cmpVs (a.kids.drop (i + 1)) (b.kids.drop (i + 1)) := by
    rw [hc, List.drop_eq_getElem_cons hlt, List.drop_eq_getElem_cons hltb, cmpVs]
  refine rx ?_
  refine s_neq rfl rfl (fun h => ?_) (fun h => ?_)
  · refine rx ?_
    (apply ret1; exact rfl; (conv => lhs; whnf))
    exact ⟨by rw [ec, if_pos h], hF2⟩
  · refine rx ?_
    exact q_roundK (i + 1) (by (repeat (first | exact Keep.mrg _ _ _ _ | (refine Keep.hi rfl ?_) | (refine Keep.one rfl ?_) | exact Keep.all rfl | (refine Keep.inn rfl ?_) | (refine Keep.set rfl ?_)))) ⟨rfl, by omega, by omega, by rw [ec, if_neg (by simpa using h)], hf.trans0 (hS.trans0 hf1)⟩ (by omega)
termination_by SizeOf.sizeOf a
decreasing_by
  have h1 : SizeOf.sizeOf a.kids[i] < SizeOf.sizeOf a.kids := List.sizeOf_get _ ⟨i, hlt⟩
  have h2 : SizeOf.sizeOf a.kids < SizeOf.sizeOf a := by cases a; simp; omega
  omega
end Go.Proofs.Ytpochcchekoonaa
