/-
  The reference's Ops.
-/
import Derived.Test.YtcogpedfnnfnaaaHr
namespace Go.Proofs.Ytcogpedfnnfnaaa
open Go.Rf Go.RowKit
set_option linter.unusedVariables false
set_option maxHeartbeats 4000000
attribute [local irreducible] Code.wp wpList Exit.then Exit.inBlock bodyPost A Calls execOp Addr.add

theorem opsFrom_drop {l : List Ev} {i : Nat} (h : i < l.length) : opsFrom i (l.drop i) = if l[i].kind = 0 then mkCl i l[i] (findEnd l[i].client (i + 1) (l.drop (i + 1))) :: opsFrom (i + 1) (l.drop (i + 1)) else opsFrom (i + 1) (l.drop (i + 1)) := by
  rw [List.drop_eq_getElem_cons h]; rfl
theorem findEnd_drop {l : List Ev} {c : Int} {i : Nat} (h : i < l.length) : findEnd c i (l.drop i) = if l[i].kind = 2 then (-1, (i : Int), V0) else if l[i].kind = 1 ∧ l[i].client = c then ((i : Int), -1, l[i].res) else findEnd c (i + 1) (l.drop (i + 1)) := by
  rw [List.drop_eq_getElem_cons h]; rfl
theorem opsFrom_len (l : List Ev) : ∀ i, (opsFrom i l).length ≤ l.length := by
  induction l with
  | nil => intro i; simp [opsFrom]
  | cons e l ih => intro i; have := ih (i + 1); simp only [opsFrom]; split <;> simp <;> omega

theorem opsR (l : List Ev) (sl : Value) (w : World) (hl : EvS w l sl) (hok : ∀ e ∈ l, EvOk e) (hb : l.length ≤ 1000000) :
    Calls Try.prog 16 #[sl] w fun r w' => ∃ v', r = .returned (.tuple #[v', .int .i64 (validH l)]) ∧ OwnR w' 57 10 OpR (if validH l = 0 then opsFrom 0 l else []) v' ∧ (∀ k ∈ blks v', w.heap.size ≤ k) ∧ Fr [] w w' := by
  obtain ⟨ao, c, rfl, hc⟩ := Sl.slice hl
  refine enter Try.func16 rfl Try.ntmps16 rfl ?_
  refine rx ?_
  refine s_call (validER l _ w hl hok hb) rfl ?_
  rintro _ w1 ⟨rfl, hf1⟩
  refine ⟨_, rfl, ?_⟩
  refine rx ?_
  refine s_neq rfl rfl (fun h => ?_) (fun h => ?_)
  · refine rx ?_
    (apply ret2; exact rfl; (conv => lhs; whnf); (conv => lhs; whnf))
    rw [if_neg h]
    exact ⟨_, rfl, OwnR.nil _ _ _ _, by simp [blks, Value.ownBlock], hf1⟩
  rw [h, if_pos rfl]
  refine rx ?_
  have hl1 := EvS.tr0 hl hf1
  have hsz1 := hf1.size
  refine c_loopK 9 [5, 6, 7, 8] (σ := Nat × Value × List Cl) (fun st g u => g 5 = st.2.1 ∧ g 6 = .int .i64 st.1 ∧ st.1 ≤ l.length ∧ opsFrom 0 l = st.2.2 ++ opsFrom st.1 (l.drop st.1) ∧ OwnR u 57 10 OpR st.2.2 st.2.1 ∧ (∀ k ∈ blks st.2.1, w1.heap.size ≤ k) ∧ Fr [] w1 u)
    (fun st => l.length - st.1) (0, .slice none 0 0, []) ⟨rfl, rfl, Nat.zero_le _, rfl, OwnR.nil _ _ _ _, by simp [blks, Value.ownBlock], Fr.refl _ _⟩ ?_
  rintro ⟨i, v, out⟩ g u ⟨h5, h6, hi, hops, ho, hk, hfu⟩
  simp only at h5 h6 hi hops ho hk
  rw [eq_upd h5, eq_upd h6]
  have hol : out.length ≤ l.length := by
    have h1 := congrArg List.length hops
    have h2 := opsFrom_len l 0
    simp at h1; omega
  by_cases hlt : i < l.length
  case neg =>
    refine rx ?_
    (apply ret2; exact rfl; (conv => lhs; whnf); (conv => lhs; whnf))
    rw [List.drop_eq_nil_of_le (by omega), opsFrom, List.append_nil] at hops
    rw [hops]
    exact ⟨_, rfl, ho, fun k hm => by have := hk k hm; omega, hf1.trans0 hfu⟩
  obtain ⟨ad, cs, rfl, ⟨sa, sr, rfl, ha, hr⟩, hcell⟩ := Sl.at hl1 evLen hlt
  obtain ⟨aa, ca, hsa, _⟩ := ha.slice
  subst hsa
  have hcu := hcell.tr0 hfu
  rw [opsFrom_drop hlt] at hops
  by_cases k0 : l[i].kind = 0
  case neg =>
    rw [if_neg k0] at hops
    refine rx ?_
    exact q_roundK (i + 1, v, out) (by (repeat (first | exact Keep.mrg _ _ _ _ | (refine Keep.hi rfl ?_) | (refine Keep.one rfl ?_) | exact Keep.all rfl | (refine Keep.inn rfl ?_) | (refine Keep.set rfl ?_)))) ⟨rfl, rfl, by simp only; omega, hops, ho, hk, hfu⟩ (by simp only; omega)
  rw [if_pos k0] at hops
  refine rx ?_
  (refine d_begin (fun z => Fr [] u z) (by kernel_rfl) rfl ?_)
  have hS : Fr [] u u.drew := Fr.drew _ _
  ((first | refine d_tx 0 hS ?_ | refine d_ty 0 hS ?_ | refine d_tn 0 hS ?_); (first | refine d_tx 1 hS ?_ | refine d_ty 1 hS ?_ | refine d_tn 1 hS ?_); (first | refine d_tx 2 hS ?_ | refine d_ty 2 hS ?_ | refine d_tn 2 hS ?_); (first | refine d_tx 3 hS ?_ | refine d_ty 3 hS ?_ | refine d_tn 3 hS ?_); (first | refine d_tx 4 hS ?_ | refine d_ty 4 hS ?_ | refine d_tn 4 hS ?_); (first | refine d_tx 5 hS ?_ | refine d_ty 5 hS ?_ | refine d_tn 5 hS ?_); (first | refine d_tx 6 hS ?_ | refine d_ty 6 hS ?_ | refine d_tn 6 hS ?_); (first | refine d_tx 7 hS ?_ | refine d_ty 7 hS ?_ | refine d_tn 7 hS ?_); (first | refine d_tx 8 hS ?_ | refine d_ty 8 hS ?_ | refine d_tn 8 hS ?_); (first | refine d_tx 9 hS ?_ | refine d_ty 9 hS ?_ | refine d_tn 9 hS ?_); (first | refine d_tx 10 hS ?_ | refine d_ty 10 hS ?_ | refine d_tn 10 hS ?_); (first | refine d_tx 11 hS ?_ | refine d_ty 11 hS ?_ | refine d_tn 11 hS ?_); (first | refine d_tx 12 hS ?_ | refine d_ty 12 hS ?_ | refine d_tn 12 hS ?_); (first | refine d_tx 13 hS ?_ | refine d_ty 13 hS ?_ | refine d_tn 13 hS ?_); (first | refine d_tx 14 hS ?_ | refine d_ty 14 hS ?_ | refine d_tn 14 hS ?_); (first | refine d_tx 15 hS ?_ | refine d_ty 15 hS ?_ | refine d_tn 15 hS ?_))
  (apply d_take (i := 16) (v := .agg (oc (newCl i l[i]) (.slice aa l[i].args.length ca) (.slice none 0 0)).toArray); exact rfl; kernel_rfl; kernel_rfl; kernel_rfl; (intro u hu; exact r_build (oc (newCl i l[i]) (.slice aa l[i].args.length ca) (.slice none 0 0)) (by rfl)); exact hS)
  refine d_one (i := 17) rfl (by kernel_rfl) ?_
  refine s_alloc rfl (fun u1 hb1 hf1' hs1 => ?_)
  refine wpList_nil (q_held (hS.trans0 hf1') ?_)
  refine d_one (i := 18) rfl (by kernel_rfl) ?_
  have hrow0 : OpR w1 [] (newCl i l[i]) (oc (newCl i l[i]) (.slice aa l[i].args.length ca) (.slice none 0 0)) := ⟨_, _, rfl, ha, VS.nil _ _⟩
  refine s_storeAggB rfl rfl hb1 (opStab.one hrow0) rfl rfl (fun u2 hb2 hf2 hs2 => ?_)
  have hF2 : Fr [] u u2 := (hS.trans0 hf1').trans hf2 (by simp)
  refine wpList_nil (q_held hF2 ?_)
  (refine d_done (by kernel_rfl) ?_)
  obtain ⟨N, hN⟩ : ∃ N, u.drew.heap.size = N := ⟨_, rfl⟩
  have hN' : u.heap.size = N := hN
  rw [hN] at hb2 hs1 ⊢
  refine rx ?_
  -- the inner loop
  refine c_loopK 8 [] (σ := Nat × (Int × Int × V) × Value) (fun st g z => g 8 = .int .i64 st.1 ∧ i < st.1 ∧ st.1 ≤ l.length ∧ findEnd l[i].client (i + 1) (l.drop (i + 1)) = (if st.2.1.1 < 0 ∧ st.2.1.2.1 < 0 then findEnd l[i].client st.1 (l.drop st.1) else st.2.1) ∧
      (st.2.1.1 < 0 → st.2.1.1 = -1) ∧ (st.2.1.2.1 < 0 → st.2.1.2.1 = -1) ∧ (st.2.1.1 < 0 ∧ st.2.1.2.1 < 0 → st.2.1.2.2 = V0) ∧ Blk z N (oc (mkCl i l[i] st.2.1) (.slice aa l[i].args.length ca) st.2.2) 57 ∧ VS w1 [] st.2.1.2.2.kids st.2.2 ∧ Fr [N] u2 z)
    (fun st => l.length - st.1) (i + 1, (-1, -1, V0), .slice none 0 0) ⟨rfl, by simp only; omega, by simp only; omega, by simp, by simp, by simp, by simp, hb2, VS.nil _ _, Fr.refl _ _⟩ ?_
  rintro ⟨k, ⟨fi, lo, rv⟩, srv⟩ g' z ⟨q8, hik, hkl, hfe, hfi, hlo, hrv, hbz, hvz, hfz⟩
  simp only at q8 hik hkl hfe hfi hlo hrv hbz hvz
  rw [eq_upd q8]
  have hFz : Fr [] u z := hF2.trans hfz (by simp; omega)
  have hFwz : Fr [] w1 z := hfu.trans0 hFz
  have hcz := (EvS.tr0 hl1 hFwz)
  have fin : findEnd l[i].client (i + 1) (l.drop (i + 1)) = (fi, lo, rv) → opsFrom 0 l = (out ++ [mkCl i l[i] (fi, lo, rv)]) ++ opsFrom (i + 1) (l.drop (i + 1)) := fun h => by rw [hops, h]; simp
  have hrow : OpR z (blks v) (mkCl i l[i] (fi, lo, rv)) (oc (mkCl i l[i] (fi, lo, rv)) (.slice aa l[i].args.length ca) srv) := opStab.old (opStab.mono (S := []) ⟨_, _, rfl, ha, hvz⟩ (fun b hb => .inr (hk b hb))) hFwz (by simp)
  have hszz := hFz.size
  have hszu := hfu.size
  have ef : (mkCl i l[i] (fi, lo, rv)).fin = fi := rfl
  have el : (mkCl i l[i] (fi, lo, rv)).lost = lo := rfl
  have ecl : (mkCl i l[i] (fi, lo, rv)).client = l[i].client := rfl
  by_cases hgo : k < l.length ∧ fi < 0 ∧ lo < 0
  case neg =>
    have hq : findEnd l[i].client (i + 1) (l.drop (i + 1)) = (fi, lo, rv) := by
      by_cases hop : fi < 0 ∧ lo < 0
      · have : ¬ k < l.length := fun h => hgo ⟨h, hop⟩
        rw [hfe, if_pos hop, List.drop_eq_nil_of_le (by omega), findEnd, hfi hop.1, hlo hop.2, hrv hop]
      · rw [hfe, if_neg hop]
    (refine rx ?_; repeat' ((first | refine s_eql rfl rfl (fun h => ?_) (fun h => ?_) | refine s_neq rfl rfl (fun h => ?_) (fun h => ?_) | refine s_lss rfl rfl (fun h => ?_) (fun h => ?_) | refine s_leq rfl rfl (fun h => ?_) (fun h => ?_) | refine s_gtr rfl rfl (fun h => ?_) (fun h => ?_) | refine s_geq rfl rfl (fun h => ?_) (fun h => ?_) | refine s_eqlE rfl rfl (fun h => ?_) (fun h => ?_) | refine s_neqE rfl rfl (fun h => ?_) (fun h => ?_) | refine s_lssS rfl rfl (fun h => ?_) (fun h => ?_) | refine s_gtrS rfl rfl (fun h => ?_) (fun h => ?_)) <;> refine rx ?_))
    all_goals
      first
      | (exfalso; omega)
      | (refine s_pushA (a := mkCl i l[i] (fi, lo, rv)) (cs := oc (mkCl i l[i] (fi, lo, rv)) (.slice aa l[i].args.length ca) srv) (ho.tr0 opStab hFz) opStab rfl rfl rfl hrow rfl rfl rfl (by unfold maxLen; omega) (by omega) (fun v' u' ho' hf' hk' => ?_)
         refine rx ?_
         refine q_roundK (i + 1, v', out ++ [mkCl i l[i] (fi, lo, rv)]) (by (repeat (first | exact Keep.mrg _ _ _ _ | (refine Keep.hi rfl ?_) | (refine Keep.one rfl ?_) | exact Keep.all rfl | (refine Keep.inn rfl ?_) | (refine Keep.set rfl ?_)))) ⟨rfl, rfl, by simp only; omega, fin hq, ho', fun b hb => ?_, (hfu.trans0 hFz).trans hf' (fun b hb => .inr (hk b hb))⟩ (by simp only; omega)
         rcases hk' b hb with h | h
         · exact hk b h
         · omega)
  obtain ⟨g1, g2, g3⟩ := hgo
  rw [if_pos ⟨g2, g3⟩, findEnd_drop g1] at hfe
  obtain ⟨ad2, cs, e2, ⟨sa2, sr2, rfl, ha2, hr2⟩, hcell2w⟩ := Sl.at hl1 evLen g1
  have hcell2 := hcell2w.tr0 hFwz
  simp only [Option.some.injEq] at e2
  subst e2
  have hfi' := hfi g2
  have hlo' := hlo g3
  have hrv' := hrv ⟨g2, g3⟩
  have hb0 := hbz
  by_cases k2 : l[k].kind = 2
  · rw [if_pos k2] at hfe
    refine rx ?_
    ((with_reducible apply s_storeB); exact rfl; (conv => lhs; whnf); exact rfl; exact hbz; exact rfl)
    intro z1 hbz1 hfz1 hsz1'
    have hbz1' : Blk z1 N (oc (mkCl i l[i] (fi, (k : Int), rv)) (.slice aa l[i].args.length ca) srv) 57 := hbz1
    have hc1 := hcell2.tr hfz1 (by
      have := World.block_lt_of_cell? w1 _ (hcell 0 _ rfl)
      rw [add_block] at this ⊢
      simp only [add_block] at this
      simp; omega)
    clear hbz hb0 hbz1
    refine rx ?_
    (refine d_begin (fun q => Fr [] z1 q) (by kernel_rfl) rfl ?_)
    have hS1 : Fr [] z1 z1.drew := Fr.drew _ _
    ((first | refine d_tx 0 hS1 ?_ | refine d_ty 0 hS1 ?_ | refine d_tn 0 hS1 ?_); (first | refine d_tx 1 hS1 ?_ | refine d_ty 1 hS1 ?_ | refine d_tn 1 hS1 ?_); (first | refine d_tx 2 hS1 ?_ | refine d_ty 2 hS1 ?_ | refine d_tn 2 hS1 ?_); (first | refine d_tx 3 hS1 ?_ | refine d_ty 3 hS1 ?_ | refine d_tn 3 hS1 ?_); (first | refine d_tx 4 hS1 ?_ | refine d_ty 4 hS1 ?_ | refine d_tn 4 hS1 ?_); (first | refine d_tx 5 hS1 ?_ | refine d_ty 5 hS1 ?_ | refine d_tn 5 hS1 ?_); (first | refine d_tx 6 hS1 ?_ | refine d_ty 6 hS1 ?_ | refine d_tn 6 hS1 ?_); (first | refine d_tx 7 hS1 ?_ | refine d_ty 7 hS1 ?_ | refine d_tn 7 hS1 ?_); (first | refine d_tx 8 hS1 ?_ | refine d_ty 8 hS1 ?_ | refine d_tn 8 hS1 ?_); (first | refine d_tx 9 hS1 ?_ | refine d_ty 9 hS1 ?_ | refine d_tn 9 hS1 ?_); (first | refine d_tx 10 hS1 ?_ | refine d_ty 10 hS1 ?_ | refine d_tn 10 hS1 ?_); (first | refine d_tx 11 hS1 ?_ | refine d_ty 11 hS1 ?_ | refine d_tn 11 hS1 ?_); (first | refine d_tx 12 hS1 ?_ | refine d_ty 12 hS1 ?_ | refine d_tn 12 hS1 ?_); (first | refine d_tx 13 hS1 ?_ | refine d_ty 13 hS1 ?_ | refine d_tn 13 hS1 ?_); (first | refine d_tx 14 hS1 ?_ | refine d_ty 14 hS1 ?_ | refine d_tn 14 hS1 ?_); (first | refine d_tx 15 hS1 ?_ | refine d_ty 15 hS1 ?_ | refine d_tn 15 hS1 ?_))
    (refine d_done (by kernel_rfl) ?_)
    refine rx ?_
    refine q_roundK (k + 1, (fi, (k : Int), rv), srv) (by (repeat (first | exact Keep.mrg _ _ _ _ | (refine Keep.hi rfl ?_) | (refine Keep.one rfl ?_) | exact Keep.all rfl | (refine Keep.inn rfl ?_) | (refine Keep.set rfl ?_)))) ⟨rfl, by simp only; omega, by simp only; omega, ?_, by simpa using hfi, by simp only; omega, by simp only; omega, hbz1'.tr0 hS1, hvz, (hfz.trans hfz1 (by simp)).trans0 hS1⟩ (by simp only; omega)
    simp only
    rw [if_neg (by omega), hfe, hfi', hrv']
  rw [if_neg k2] at hfe
  by_cases k1 : l[k].kind = 1 ∧ l[k].client = l[i].client
  · rw [if_pos k1] at hfe
    obtain ⟨k1, k1'⟩ := k1
    have ecl' : (mkCl i l[i] (fi, lo, rv)).client = l[k].client := by rw [ecl, k1']
    refine rx ?_
    (refine d_begin (fun q => Fr [] z q) (by kernel_rfl) rfl ?_)
    have hS1 : Fr [] z z.drew := Fr.drew _ _
    ((first | refine d_tx 0 hS1 ?_ | refine d_ty 0 hS1 ?_ | refine d_tn 0 hS1 ?_); (first | refine d_tx 1 hS1 ?_ | refine d_ty 1 hS1 ?_ | refine d_tn 1 hS1 ?_); (first | refine d_tx 2 hS1 ?_ | refine d_ty 2 hS1 ?_ | refine d_tn 2 hS1 ?_); (first | refine d_tx 3 hS1 ?_ | refine d_ty 3 hS1 ?_ | refine d_tn 3 hS1 ?_); (first | refine d_tx 4 hS1 ?_ | refine d_ty 4 hS1 ?_ | refine d_tn 4 hS1 ?_); (first | refine d_tx 5 hS1 ?_ | refine d_ty 5 hS1 ?_ | refine d_tn 5 hS1 ?_); (first | refine d_tx 6 hS1 ?_ | refine d_ty 6 hS1 ?_ | refine d_tn 6 hS1 ?_); (first | refine d_tx 7 hS1 ?_ | refine d_ty 7 hS1 ?_ | refine d_tn 7 hS1 ?_); (first | refine d_tx 8 hS1 ?_ | refine d_ty 8 hS1 ?_ | refine d_tn 8 hS1 ?_); (first | refine d_tx 9 hS1 ?_ | refine d_ty 9 hS1 ?_ | refine d_tn 9 hS1 ?_); (first | refine d_tx 10 hS1 ?_ | refine d_ty 10 hS1 ?_ | refine d_tn 10 hS1 ?_); (first | refine d_tx 11 hS1 ?_ | refine d_ty 11 hS1 ?_ | refine d_tn 11 hS1 ?_); (first | refine d_tx 12 hS1 ?_ | refine d_ty 12 hS1 ?_ | refine d_tn 12 hS1 ?_); (first | refine d_tx 13 hS1 ?_ | refine d_ty 13 hS1 ?_ | refine d_tn 13 hS1 ?_); (first | refine d_tx 14 hS1 ?_ | refine d_ty 14 hS1 ?_ | refine d_tn 14 hS1 ?_); (first | refine d_tx 15 hS1 ?_ | refine d_ty 15 hS1 ?_ | refine d_tn 15 hS1 ?_))
    (refine d_done (by kernel_rfl) ?_)
    have hbd := hbz.tr0 hS1
    clear hbz hb0
    refine rx ?_
    ((with_reducible apply s_storeB); exact rfl; (conv => lhs; whnf); exact rfl; exact hbd; exact rfl)
    intro z1 hbz1 hfz1 hsz1'
    have hc1 := (hcell2.tr0 hS1).tr hfz1 (by
      have := World.block_lt_of_cell? w1 _ (hcell 0 _ rfl)
      rw [add_block] at this ⊢
      simp only [add_block] at this
      simp; omega)
    obtain ⟨as2, cs2, hsr2, _⟩ := hr2.slice
    subst hsr2
    refine rx ?_
    refine s_storeSubB (m := 4) (cs := vc l[k].res (.slice as2 l[k].res.kids.length cs2)) rfl rfl hbz1 (VR.mem1 l[k].res _ ⟨_, rfl, hr2⟩) (by simp [oc]) rfl (fun z2 hbz2 hfz2 hsz2' => ?_)
    have hbz2' : Blk z2 N (oc (mkCl i l[i] ((k : Int), lo, l[k].res)) (.slice aa l[i].args.length ca) (.slice as2 l[k].res.kids.length cs2)) 57 := hbz2
    refine rx ?_
    refine q_roundK (k + 1, ((k : Int), lo, l[k].res), .slice as2 l[k].res.kids.length cs2) (by (repeat (first | exact Keep.mrg _ _ _ _ | (refine Keep.hi rfl ?_) | (refine Keep.one rfl ?_) | exact Keep.all rfl | (refine Keep.inn rfl ?_) | (refine Keep.set rfl ?_)))) ⟨rfl, by simp only; omega, by simp only; omega, ?_, by simp only; omega, by simpa using hlo, by simp only; omega, hbz2', hr2, ((hfz.trans0 hS1).trans hfz1 (by simp)).trans hfz2 (by simp)⟩ (by simp only; omega)
    simp only
    rw [if_neg (by omega), hfe, hlo']
  · rw [if_neg k1] at hfe
    by_cases k1a : l[k].kind = 1
    all_goals
      refine rx ?_
      (refine d_begin (fun q => Fr [] z q) (by kernel_rfl) rfl ?_)
      have hS1 : Fr [] z z.drew := Fr.drew _ _
      ((first | refine d_tx 0 hS1 ?_ | refine d_ty 0 hS1 ?_ | refine d_tn 0 hS1 ?_); (first | refine d_tx 1 hS1 ?_ | refine d_ty 1 hS1 ?_ | refine d_tn 1 hS1 ?_); (first | refine d_tx 2 hS1 ?_ | refine d_ty 2 hS1 ?_ | refine d_tn 2 hS1 ?_); (first | refine d_tx 3 hS1 ?_ | refine d_ty 3 hS1 ?_ | refine d_tn 3 hS1 ?_); (first | refine d_tx 4 hS1 ?_ | refine d_ty 4 hS1 ?_ | refine d_tn 4 hS1 ?_); (first | refine d_tx 5 hS1 ?_ | refine d_ty 5 hS1 ?_ | refine d_tn 5 hS1 ?_); (first | refine d_tx 6 hS1 ?_ | refine d_ty 6 hS1 ?_ | refine d_tn 6 hS1 ?_); (first | refine d_tx 7 hS1 ?_ | refine d_ty 7 hS1 ?_ | refine d_tn 7 hS1 ?_); (first | refine d_tx 8 hS1 ?_ | refine d_ty 8 hS1 ?_ | refine d_tn 8 hS1 ?_); (first | refine d_tx 9 hS1 ?_ | refine d_ty 9 hS1 ?_ | refine d_tn 9 hS1 ?_); (first | refine d_tx 10 hS1 ?_ | refine d_ty 10 hS1 ?_ | refine d_tn 10 hS1 ?_); (first | refine d_tx 11 hS1 ?_ | refine d_ty 11 hS1 ?_ | refine d_tn 11 hS1 ?_); (first | refine d_tx 12 hS1 ?_ | refine d_ty 12 hS1 ?_ | refine d_tn 12 hS1 ?_); (first | refine d_tx 13 hS1 ?_ | refine d_ty 13 hS1 ?_ | refine d_tn 13 hS1 ?_); (first | refine d_tx 14 hS1 ?_ | refine d_ty 14 hS1 ?_ | refine d_tn 14 hS1 ?_); (first | refine d_tx 15 hS1 ?_ | refine d_ty 15 hS1 ?_ | refine d_tn 15 hS1 ?_))
      (refine d_done (by kernel_rfl) ?_)
      refine rx ?_
      refine q_roundK (k + 1, (fi, lo, rv), srv) (by (repeat (first | exact Keep.mrg _ _ _ _ | (refine Keep.hi rfl ?_) | (refine Keep.one rfl ?_) | exact Keep.all rfl | (refine Keep.inn rfl ?_) | (refine Keep.set rfl ?_)))) ⟨rfl, by simp only; omega, by simp only; omega, ?_, by simpa using hfi, by simpa using hlo, by simpa using hrv, hbz.tr0 hS1, hvz, hfz.trans0 hS1⟩ (by simp only; omega)
      simp only
      rw [if_pos ⟨g2, g3⟩, hfe]
end Go.Proofs.Ytcogpedfnnfnaaa
