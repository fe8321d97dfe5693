/-
  Package tree: shaped, cases.
-/
import Derived.Test.YtpochcchekoonaaGreatTv
namespace Go.Proofs.YtpochcchekoonaaGreat
open Go.Rf Go.RowKit
set_option linter.unusedVariables false
set_option linter.unusedSimpArgs false
attribute [local irreducible] Code.wp wpList Exit.then Exit.inBlock bodyPost A Calls execOp Addr.add
def shapeN (i : Int) (x : Nd) : Bool := (x.kids.all fun k => decide (0 ≤ k ∧ k < i)) &&
  (if x.kind = 2 then decide (1 ≤ x.kids.length ∧ x.kids.length ≤ 256 ∧ x.ws.length = x.kids.length ∧ (x.labs.length = 0 ∨ x.labs.length = x.kids.length))
   else if x.kind = 3 then (if x.name = ⟨#[]⟩ then decide (x.kids.length ≤ 256) else decide (x.kids.length ≤ 16) && capB x.name.data.toList)
   else if x.kind = 4 then incV x.vals && decide (x.kids.length = x.vals.length + 1) else true)
theorem form_eq (i : Int) (x : Nd) : formN i x = (cleanN x && shapeN i x) := by
  unfold formN cleanN shapeN
  rcases hu : unusedN x with _ | _
  · simp
  by_cases hk : 0 ≤ x.kind ∧ x.kind ≤ 4
  case neg => rw [decide_eq_false hk]; simp
  rw [decide_eq_true hk]
  simp only [Bool.true_and]
  congr 1
  unfold unusedN at hu
  have hu' := of_decide_eq_true hu
  by_cases k4 : x.kind = 4
  · simp [k4]
    rw [Bool.and_comm]
  · have hv : x.vals = [] := List.eq_nil_of_length_eq_zero (by omega)
    by_cases k2 : x.kind = 2
    · simp [k2, hv, incV]
    · by_cases k3 : x.kind = 3
      · simp only [k3, hv, incV]
        by_cases hn : x.name = ⟨#[]⟩
        · simp [hn]
        · by_cases h16 : x.kids.length ≤ 16
          · have : x.kids.length ≤ 256 := by omega
            rcases hc : capB x.name.data.toList with _ | _ <;> simp [hn, h16, this]
          · simp [hn, h16]
      · simp [k2, k3, k4, hv, incV]
theorem val_cap (s : ByteArray) : valV ⟨3, 0, s, []⟩ = if capB s.data.toList = true then 0 else 1 := by
  have h1 : allF ⟨3, 0, s, []⟩ = capB s.data.toList := by rw [allF_eq]; simp [fmd, allFs]
  have h2 : allT ⟨3, 0, s, []⟩ = true := by rw [allT_eq]; simp [fts, allTs]
  have h3 : vsz ⟨3, 0, s, []⟩ ≤ 1024 := by rw [vsz_eq]; simp [vszs]
  unfold valV
  rw [h1]
  simp [h2, h3]

set_option maxHeartbeats 8000000 in
theorem shapedP (t : List Nd) (hok : ∀ x ∈ t, NdOk x) (i : Nat) (hi : i < t.length) (sn s1 s2 s3 : Value) (cb : Nat) (w : World) (hb : Blk w cb [sn, s1, s2, s3] 85) (ht : NS w [] t sn) :
    Calls Tryz.prog 47 #[.pointer (some ⟨cb, 0, none⟩), .int .i64 i] w fun e w' => e = .returned (.bool (shapeN i t[i])) ∧ Fr [] w w' := by
  obtain ⟨as_, cs_, rfl, _⟩ := ht.slice
  obtain ⟨ad, rfl, hn⟩ := NS.ptr ht hi
  have hokx := hok t[i] (by simp)
  generalize hX : t[i] = x at *
  generalize hpn : ad.add (i * 12) = pn at *
  have hlw := hokx.lw
  have hll := hokx.ll
  have hlv := hokx.lv
  have hlk := hokx.lk
  obtain ⟨_, _, hc, ⟨sw, sl, sv, sk, sx, rfl, hw, hl, hv, hk, hx⟩⟩ := hn
  obtain ⟨aw, cw, rfl, _⟩ := hw.slice
  obtain ⟨al, cl, rfl, _⟩ := hl.slice
  obtain ⟨av, cv, rfl, _⟩ := hv.slice
  obtain ⟨ak, ck, rfl, _⟩ := hk.slice
  refine enter Tryz.func47 rfl Tryz.ntmps47 rfl ?_
  refine rx ?_
  rw [hpn]
  refine rx ?_
  generalize hR : (if x.kind = 2 then decide (1 ≤ x.kids.length ∧ x.kids.length ≤ 256 ∧ x.ws.length = x.kids.length ∧ (x.labs.length = 0 ∨ x.labs.length = x.kids.length))
   else if x.kind = 3 then (if x.name = ⟨#[]⟩ then decide (x.kids.length ≤ 256) else decide (x.kids.length ≤ 16) && capB x.name.data.toList)
   else if x.kind = 4 then incV x.vals && decide (x.kids.length = x.vals.length + 1) else true) = rst
  have e0 : shapeN i x = (((x.kids.drop 0).all fun k => decide (0 ≤ k ∧ k < (i : Int))) && rst) := by unfold shapeN; rw [hR]; rfl
  refine c_loopK 10 [8] (σ := Nat) (fun j g u => g 24 = .slice ak x.kids.length ck ∧ g 25 = .int .i64 x.kids.length ∧ g 26 = .int .i64 j ∧ j ≤ x.kids.length ∧ shapeN i x = (((x.kids.drop j).all fun k => decide (0 ≤ k ∧ k < (i : Int))) && rst) ∧ w = u) (fun j => x.kids.length - j) 0 ⟨rfl, rfl, rfl, Nat.zero_le _, e0, rfl⟩ ?_
  rintro j g u ⟨h24, h25, h26, hj, hcc, rfl⟩
  rw [eq_upd h24, eq_upd h25, eq_upd h26]
  by_cases hlt : j < x.kids.length
  case pos =>
    obtain ⟨ad, rfl, hcell⟩ := Ls.at hk hlt
    rw [all_dropI hlt] at hcc
    refine rx ?_
    rw [Nat.mul_one]
    refine s_load rfl hcell ?_
    by_cases hr : 0 ≤ x.kids[j] ∧ x.kids[j] < (i : Int)
    · obtain ⟨hr1, hr2⟩ := hr
      refine rx ?_
      exact q_roundK (j + 1) (by (repeat (first | exact Keep.mrg _ _ _ _ | (refine Keep.hi rfl ?_) | (refine Keep.one rfl ?_) | exact Keep.all rfl | (refine Keep.inn rfl ?_) | (refine Keep.set rfl ?_)))) ⟨rfl, rfl, rfl, by omega, (by rw [hcc, decide_eq_true ⟨hr1, hr2⟩]; simp), rfl⟩ (by omega)
    · (refine rx ?_; repeat' ((first | refine s_eql rfl rfl (fun h => ?_) (fun h => ?_) | refine s_neq rfl rfl (fun h => ?_) (fun h => ?_) | refine s_lss rfl rfl (fun h => ?_) (fun h => ?_) | refine s_leq rfl rfl (fun h => ?_) (fun h => ?_) | refine s_gtr rfl rfl (fun h => ?_) (fun h => ?_) | refine s_geq rfl rfl (fun h => ?_) (fun h => ?_) | refine s_eqlE rfl rfl (fun h => ?_) (fun h => ?_) | refine s_neqE rfl rfl (fun h => ?_) (fun h => ?_) | refine s_lssS rfl rfl (fun h => ?_) (fun h => ?_) | refine s_gtrS rfl rfl (fun h => ?_) (fun h => ?_)) <;> refine rx ?_))
      all_goals
        (apply ret1; exact rfl; (conv => lhs; whnf))
        refine ⟨?_, Fr.refl _ _⟩
        rw [hcc, decide_eq_false hr]; rfl
  have hc1 : shapeN i x = rst := by rw [hcc, List.drop_eq_nil_of_le (by omega)]; rfl
  rw [hc1]
  clear hcc e0 hc1
  subst hR
  by_cases k2 : x.kind = 2
  · rw [if_pos k2]
    (refine rx ?_; repeat' ((first | refine s_eql rfl rfl (fun h => ?_) (fun h => ?_) | refine s_neq rfl rfl (fun h => ?_) (fun h => ?_) | refine s_lss rfl rfl (fun h => ?_) (fun h => ?_) | refine s_leq rfl rfl (fun h => ?_) (fun h => ?_) | refine s_gtr rfl rfl (fun h => ?_) (fun h => ?_) | refine s_geq rfl rfl (fun h => ?_) (fun h => ?_) | refine s_eqlE rfl rfl (fun h => ?_) (fun h => ?_) | refine s_neqE rfl rfl (fun h => ?_) (fun h => ?_) | refine s_lssS rfl rfl (fun h => ?_) (fun h => ?_) | refine s_gtrS rfl rfl (fun h => ?_) (fun h => ?_)) <;> refine rx ?_))
    all_goals
      (apply ret1; exact rfl; (conv => lhs; whnf))
      refine ⟨congrArg (fun b => Ending.returned (.bool b)) ?_, Fr.refl _ _⟩
      first
      | exact (decide_eq_true (by omega)).symm
      | exact (decide_eq_false (by omega)).symm
  rw [if_neg k2]
  by_cases k3 : x.kind = 3
  · rw [if_pos k3]
    by_cases hnm : x.name = ⟨#[]⟩
    · rw [if_pos hnm]
      (refine rx ?_; repeat' ((first | refine s_eql rfl rfl (fun h => ?_) (fun h => ?_) | refine s_neq rfl rfl (fun h => ?_) (fun h => ?_) | refine s_lss rfl rfl (fun h => ?_) (fun h => ?_) | refine s_leq rfl rfl (fun h => ?_) (fun h => ?_) | refine s_gtr rfl rfl (fun h => ?_) (fun h => ?_) | refine s_geq rfl rfl (fun h => ?_) (fun h => ?_) | refine s_eqlE rfl rfl (fun h => ?_) (fun h => ?_) | refine s_neqE rfl rfl (fun h => ?_) (fun h => ?_) | refine s_lssS rfl rfl (fun h => ?_) (fun h => ?_) | refine s_gtrS rfl rfl (fun h => ?_) (fun h => ?_)) <;> refine rx ?_))
      all_goals
        (apply ret1; exact rfl; (conv => lhs; whnf))
        refine ⟨congrArg (fun b => Ending.returned (.bool b)) ?_, Fr.refl _ _⟩
        first
        | exact (decide_eq_true (by omega)).symm
        | exact (decide_eq_false (by omega)).symm
    · rw [if_neg hnm]
      by_cases h16 : x.kids.length ≤ 16
      · rw [decide_eq_true h16, Bool.true_and]
        refine rx ?_
        refine s_build (vc ⟨3, 0, x.name, []⟩ (.slice none 0 0)) rfl ?_
        refine rx ?_
        refine s_call (validP ⟨3, 0, x.name, []⟩ (.slice none 0 0) w (VS.nil _ _) (.mk hokx.name (by simp)) (by rw [vsz_eq]; simp [vszs])) rfl ?_
        rintro _ w1 ⟨rfl, hf1⟩
        refine ⟨_, rfl, ?_⟩
        rw [val_cap]
        rcases hcap : capB x.name.data.toList with _ | _
        all_goals
          simp only [if_true, if_false, Bool.false_eq_true]
          refine rx ?_
          (apply ret1; exact rfl; (conv => lhs; whnf))
          exact ⟨rfl, hf1⟩
      · rw [decide_eq_false h16, Bool.false_and]
        refine rx ?_
        (apply ret1; exact rfl; (conv => lhs; whnf))
        exact ⟨rfl, Fr.refl _ _⟩
  rw [if_neg k3]
  by_cases k4 : x.kind = 4
  case neg =>
    rw [if_neg k4]
    refine rx ?_
    (apply ret1; exact rfl; (conv => lhs; whnf))
    exact ⟨rfl, Fr.refl _ _⟩
  rw [if_pos k4]
  refine rx ?_
  refine c_loopK 10 [9] (σ := Nat) (fun j g u => g 9 = .int .i64 ((j : Int) + 1) ∧ j ≤ x.vals.length ∧ incV x.vals = incV (x.vals.drop j) ∧ Fr [] w u) (fun j => x.vals.length - j) 0 ⟨rfl, Nat.zero_le _, rfl, Fr.refl _ _⟩ ?_
  rintro j g u ⟨h9, hj, hcc, hfu⟩
  rw [eq_upd h9]
  have hcu := hc.tr0 hfu
  have hvu := hv.tr0 hfu
  by_cases hlt : j + 1 < x.vals.length
  case neg =>
    have hinc : incV x.vals = true := by rw [hcc]; exact incV_end (by omega)
    rw [hinc, Bool.true_and]
    (refine rx ?_; repeat' ((first | refine s_eql rfl rfl (fun h => ?_) (fun h => ?_) | refine s_neq rfl rfl (fun h => ?_) (fun h => ?_) | refine s_lss rfl rfl (fun h => ?_) (fun h => ?_) | refine s_leq rfl rfl (fun h => ?_) (fun h => ?_) | refine s_gtr rfl rfl (fun h => ?_) (fun h => ?_) | refine s_geq rfl rfl (fun h => ?_) (fun h => ?_) | refine s_eqlE rfl rfl (fun h => ?_) (fun h => ?_) | refine s_neqE rfl rfl (fun h => ?_) (fun h => ?_) | refine s_lssS rfl rfl (fun h => ?_) (fun h => ?_) | refine s_gtrS rfl rfl (fun h => ?_) (fun h => ?_)) <;> refine rx ?_))
    all_goals
      (apply ret1; exact rfl; (conv => lhs; whnf))
      refine ⟨congrArg (fun b => Ending.returned (.bool b)) ?_, hfu⟩
      first
      | exact (decide_eq_true (by omega)).symm
      | exact (decide_eq_false (by omega)).symm
  obtain ⟨ad, cs1, rfl, ⟨sx1, rfl, hx1⟩, hcell1⟩ := Sl.at hvu.sl VR.len (show j < x.vals.length by omega)
  obtain ⟨ad2, cs2, e2, ⟨sx2, rfl, hx2⟩, hcell2⟩ := Sl.at hvu.sl VR.len hlt
  cases e2
  rw [incV_drop hlt] at hcc
  refine rx ?_
  (refine d_begin (fun y => Fr [] u y) (by kernel_rfl) rfl ?_)
  have hS : Fr [] u u.drew := Fr.drew _ _
  ((first | refine d_tx 0 hS ?_ | refine d_ty 0 hS ?_ | refine d_tn 0 hS ?_); (first | refine d_tx 1 hS ?_ | refine d_ty 1 hS ?_ | refine d_tn 1 hS ?_); (first | refine d_tx 2 hS ?_ | refine d_ty 2 hS ?_ | refine d_tn 2 hS ?_); (first | refine d_tx 3 hS ?_ | refine d_ty 3 hS ?_ | refine d_tn 3 hS ?_); (first | refine d_tx 4 hS ?_ | refine d_ty 4 hS ?_ | refine d_tn 4 hS ?_))
  (apply d_take (i := 5); exact rfl; kernel_rfl; kernel_rfl; kernel_rfl; (intro u hu; exact (r_sub (r := (j : Int)) rfl rfl (by rw [IntWalk.i64_in _ (by omega)]; omega))); exact hS)
  (apply d_take (i := 6); exact rfl; kernel_rfl; kernel_rfl; kernel_rfl; (intro u hu; exact (r_indexAddr (j := j) rfl rfl rfl (by omega) rfl)); exact hS)
  (apply d_take (i := 7); exact rfl; kernel_rfl; kernel_rfl; kernel_rfl; (intro u hu; exact (r_loadC rfl (Cells.tr0 hcell1 hu) (by rfl))); exact hS)
  ((first | refine d_tx 8 hS ?_ | refine d_ty 8 hS ?_ | refine d_tn 8 hS ?_); (first | refine d_tx 9 hS ?_ | refine d_ty 9 hS ?_ | refine d_tn 9 hS ?_); (first | refine d_tx 10 hS ?_ | refine d_ty 10 hS ?_ | refine d_tn 10 hS ?_); (first | refine d_tx 11 hS ?_ | refine d_ty 11 hS ?_ | refine d_tn 11 hS ?_); (first | refine d_tx 12 hS ?_ | refine d_ty 12 hS ?_ | refine d_tn 12 hS ?_))
  (apply d_take (i := 13); exact rfl; kernel_rfl; kernel_rfl; kernel_rfl; (intro u hu; exact (r_indexAddr (j := j + 1) rfl rfl (by omega) (by omega) rfl)); exact hS)
  (apply d_take (i := 14); exact rfl; kernel_rfl; kernel_rfl; kernel_rfl; (intro u hu; exact (r_loadC rfl (Cells.tr0 hcell2 hu) (by rfl))); exact hS)
  refine d_one (i := 15) rfl (by kernel_rfl) ?_
  refine s_call (compareV x.vals[j] x.vals[j + 1] sx1 sx2 _ (hx1.tr0 hS) (hx2.tr0 hS)) rfl ?_
  rintro _ u1 ⟨rfl, hf2⟩
  refine ⟨_, rfl, ?_⟩
  have hT := hS.trans0 hf2
  refine wpList_nil (q_held hT ?_)
  by_cases hge : 0 ≤ cmpV x.vals[j] x.vals[j + 1]
  · ((first | refine d_tx 16 hT ?_ | refine d_ty 16 hT ?_ | refine d_tn 16 hT ?_))
    (refine d_done (by kernel_rfl) ?_)
    refine rx ?_
    (apply ret1; exact rfl; (conv => lhs; whnf))
    refine ⟨?_, hfu.trans0 hT⟩
    rw [hcc, decide_eq_false (by omega)]; rfl
  · ((first | refine d_tx 16 hT ?_ | refine d_ty 16 hT ?_ | refine d_tn 16 hT ?_))
    (refine d_done (by kernel_rfl) ?_)
    refine rx ?_
    exact q_roundK (j + 1) (by (repeat (first | exact Keep.mrg _ _ _ _ | (refine Keep.hi rfl ?_) | (refine Keep.one rfl ?_) | exact Keep.all rfl | (refine Keep.inn rfl ?_) | (refine Keep.set rfl ?_)))) ⟨rfl, by omega, (by rw [hcc, decide_eq_true (by omega)]; simp), hfu.trans0 hT⟩ (by omega)

/-! ### cases -/
theorem cases1 (a b : V) (sa sb : Value) (w : World) (ha : VS w [] a.kids sa) (hb : VS w [] b.kids sb) :
    Calls Tryz.prog 93 #[.agg (vc a sa).toArray, .agg (vc b sb).toArray] w fun e w' => e = .returned (.bool (decide (cmpV a b = 0))) ∧ Fr [] w w' := by
  refine enter Tryz.func93 rfl Tryz.ntmps93 rfl ?_
  refine rx ?_
  refine s_box rfl rfl (fun w1 hb1 hf1 hs1 => ?_)
  refine s_box rfl rfl (fun w2 hb2 hf2 hs2 => ?_)
  have hb1' := hb1.tr0 hf2
  have hF := hf1.trans0 hf2
  refine rx ?_
  refine s_call (compareV a b sa sb w2 (ha.tr0 hF) (hb.tr0 hF)) rfl ?_
  rintro _ w3 ⟨rfl, hf3⟩
  refine ⟨_, rfl, ?_⟩
  by_cases h : cmpV a b = 0
  · rw [decide_eq_true h]
    refine rx ?_
    (apply ret1; exact rfl; (conv => lhs; whnf))
    exact ⟨rfl, hF.trans0 hf3⟩
  · rw [decide_eq_false h]
    refine rx ?_
    (apply ret1; exact rfl; (conv => lhs; whnf))
    exact ⟨rfl, hF.trans0 hf3⟩
set_option maxHeartbeats 8000000 in
theorem equalP (a b : List V) (sa sb : Value) (w : World) (ha : VS w [] a sa) (hb : VS w [] b sb) :
    Calls Tryz.prog 92 #[sa, sb, .func (.func 93) #[] #[]] w fun e w' => e = .returned (.bool (sameVs a b)) ∧ Fr [] w w' := by
  obtain ⟨aa, ca, rfl, _⟩ := ha.slice
  obtain ⟨ab, cb, rfl, _⟩ := hb.slice
  have hlen := ha.bound
  have hlen2 := hb.bound
  refine enter Tryz.func92 rfl Tryz.ntmps92 rfl ?_
  by_cases hne : a.length = b.length
  case neg =>
    refine rx ?_
    (apply ret1; exact rfl; (conv => lhs; whnf))
    exact ⟨by rw [sameVs_len hne], Fr.refl _ _⟩
  refine rx ?_
  refine c_loopK 10 [7, 8, 9] (σ := Nat) (fun i g u => g 15 = .slice aa a.length ca ∧ g 16 = .int .i64 a.length ∧ g 17 = .int .i64 i ∧ i ≤ a.length ∧ sameVs a b = sameVs (a.drop i) (b.drop i) ∧ Fr [] w u) (fun i => a.length - i) 0 ⟨rfl, rfl, rfl, Nat.zero_le _, by simp, Fr.refl _ _⟩ ?_
  rintro i g u ⟨h15, h16, h17, hi, hc, hfu⟩
  rw [eq_upd h15, eq_upd h16, eq_upd h17]
  have ha2 := ha.tr0 hfu
  have hb2 := hb.tr0 hfu
  by_cases hlt : i < a.length
  case neg =>
    refine rx ?_
    (apply ret1; exact rfl; (conv => lhs; whnf))
    refine ⟨?_, hfu⟩
    rw [hc, List.drop_eq_nil_of_le (by omega), List.drop_eq_nil_of_le (by omega), sameVs]
  have hlt' : i < b.length := by omega
  obtain ⟨ad, cs1, rfl, ⟨sx1, rfl, hx1⟩, hcell1⟩ := Sl.at ha2.sl VR.len hlt
  obtain ⟨ad2, cs2, rfl, ⟨sx2, rfl, hx2⟩, hcell2⟩ := Sl.at hb2.sl VR.len hlt'
  rw [sameVs_drop hlt hlt'] at hc
  refine rx ?_
  refine s_alloc rfl (fun u1 hb1 hf1 hs1 => ?_)
  refine rx ?_
  refine s_storeAggB rfl rfl hb1 (VR.mem1 a[i] _ ⟨sx1, rfl, hx1⟩) rfl rfl (fun u2 hbb2 hf2 hs2 => ?_)
  have hF2 : Fr [] u u2 := hf1.trans hf2 (by simp)
  have hc2 := hcell2.tr0 hF2
  refine rx ?_
  refine s_alloc rfl (fun u3 hb3 hf3 hs3 => ?_)
  refine s_storeAggB rfl rfl hb3 (VR.mem1 b[i] _ ⟨sx2, rfl, hx2⟩) rfl rfl (fun u4 hb4 hf4 hs4 => ?_)
  have hF4 : Fr [] u2 u4 := hf3.trans hf4 (by simp)
  have hb5 := hbb2.old hf3 (by simp) |>.tr hf4 (by simp; have := hf1.size; omega)
  refine rx ?_
  refine s_callV (first := []) (cap := []) (cases1 a[i] b[i] sx1 sx2 u4 (hx1.tr0 (hF2.trans0 hF4)) (hx2.tr0 (hF2.trans0 hF4))) rfl rfl rfl ?_
  rintro _ u5 ⟨rfl, hf5⟩
  refine ⟨_, rfl, ?_⟩
  have hF : Fr [] w u5 := ((hfu.trans0 hF2).trans0 hF4).trans0 hf5
  by_cases he : cmpV a[i] b[i] = 0
  · rw [decide_eq_true he] at hc ⊢
    refine rx ?_
    exact q_roundK (i + 1) (by (repeat (first | exact Keep.mrg _ _ _ _ | (refine Keep.hi rfl ?_) | (refine Keep.one rfl ?_) | exact Keep.all rfl | (refine Keep.inn rfl ?_) | (refine Keep.set rfl ?_)))) ⟨rfl, rfl, rfl, by omega, (by rw [hc]; simp), hF⟩ (by omega)
  · rw [decide_eq_false he] at hc ⊢
    refine rx ?_
    (apply ret1; exact rfl; (conv => lhs; whnf))
    exact ⟨by rw [hc]; rfl, hF⟩
end Go.Proofs.YtpochcchekoonaaGreat
