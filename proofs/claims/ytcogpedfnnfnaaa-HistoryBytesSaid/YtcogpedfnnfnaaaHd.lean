/-
  Same and SameOps of the reference, at equal lists.
-/
import Derived.Test.YtcogpedfnnfnaaaHc
namespace Go.Proofs.Ytcogpedfnnfnaaa
open Go.Rf Go.RowKit
set_option linter.unusedVariables false
set_option maxHeartbeats 4000000
attribute [local irreducible] Code.wp wpList Exit.then Exit.inBlock bodyPost A Calls execOp Addr.add

theorem cmpI_self (a : Int) : cmpI a a = 0 := by simp [cmpI]
theorem bytesLess_self : ∀ l : List UInt8, Op.bytesLess l l = false := by
  intro l
  induction l with
  | nil => rfl
  | cons x l ih => simp [Op.bytesLess, ih]
theorem cmpS_self (a : ByteArray) : cmpS a a = 0 := by simp [cmpS, bytesLess_self]
mutual
theorem cmpV_self : ∀ v : V, cmpV v v = 0
  | ⟨k, n, s, l⟩ => by rw [cmpV_eq]; simp [cmpI_self, cmpS_self, cmpVs_self l]
theorem cmpVs_self : ∀ l : List V, cmpVs l l = 0
  | [] => by simp [cmpVs]
  | v :: l => by simp [cmpVs, cmpV_self v, cmpVs_self l]
end

set_option maxRecDepth 4000 in
theorem sameC (l : List Ev) (sx sy : Value) (w : World) (hx : EvS w l sx) (hy : EvS w l sy) (hb : l.length ≤ 1000000) :
    Calls Try.prog 39 #[sx, sy] w fun r w' => r = .returned (.bool true) ∧ Fr [] w w' := by
  obtain ⟨ax, cx, rfl, _⟩ := Sl.slice hx
  obtain ⟨ay, cy, rfl, _⟩ := Sl.slice hy
  refine enter Try.func39 rfl Try.ntmps39 rfl ?_
  refine rx ?_
  refine c_loopK 7 [5, 6] (σ := Nat) (fun i g u => g 5 = .int .i64 i ∧ i ≤ l.length ∧ Fr [] w u) (fun i => l.length - i) 0 ⟨rfl, Nat.zero_le _, Fr.refl _ _⟩ ?_
  rintro i g u ⟨h5, hi, hf⟩
  rw [eq_upd h5]
  by_cases hlt : i < l.length
  case neg =>
    refine rx ?_
    (apply ret1; exact rfl; (conv => lhs; whnf))
    exact ⟨rfl, hf⟩
  obtain ⟨ad, cs, rfl, ⟨sa, sr, rfl, ha, hr⟩, hcell⟩ := Sl.at (EvS.tr0 hx hf) evLen hlt
  obtain ⟨ad', cs, rfl, ⟨sa', sr', rfl, ha', hr'⟩, hcell'⟩ := Sl.at (EvS.tr0 hy hf) evLen hlt
  obtain ⟨aa, ca, rfl, _⟩ := ha.slice
  obtain ⟨aa', ca', rfl, _⟩ := ha'.slice
  have hbd := ha.bound
  refine rx ?_
  (refine d_begin (fun z => Fr [] u z) (by kernel_rfl) rfl ?_)
  have hS : Fr [] u u.drew := Fr.drew _ _
  ((first | refine d_tx 0 hS ?_ | refine d_ty 0 hS ?_ | refine d_tn 0 hS ?_); (first | refine d_tx 1 hS ?_ | refine d_ty 1 hS ?_ | refine d_tn 1 hS ?_); (first | refine d_tx 2 hS ?_ | refine d_ty 2 hS ?_ | refine d_tn 2 hS ?_); (first | refine d_tx 3 hS ?_ | refine d_ty 3 hS ?_ | refine d_tn 3 hS ?_); (first | refine d_tx 4 hS ?_ | refine d_ty 4 hS ?_ | refine d_tn 4 hS ?_); (first | refine d_tx 5 hS ?_ | refine d_ty 5 hS ?_ | refine d_tn 5 hS ?_); (first | refine d_tx 6 hS ?_ | refine d_ty 6 hS ?_ | refine d_tn 6 hS ?_); (first | refine d_tx 7 hS ?_ | refine d_ty 7 hS ?_ | refine d_tn 7 hS ?_); (first | refine d_tx 8 hS ?_ | refine d_ty 8 hS ?_ | refine d_tn 8 hS ?_); (first | refine d_tx 9 hS ?_ | refine d_ty 9 hS ?_ | refine d_tn 9 hS ?_); (first | refine d_tx 10 hS ?_ | refine d_ty 10 hS ?_ | refine d_tn 10 hS ?_); (first | refine d_tx 11 hS ?_ | refine d_ty 11 hS ?_ | refine d_tn 11 hS ?_); (first | refine d_tx 12 hS ?_ | refine d_ty 12 hS ?_ | refine d_tn 12 hS ?_); (first | refine d_tx 13 hS ?_ | refine d_ty 13 hS ?_ | refine d_tn 13 hS ?_); (first | refine d_tx 14 hS ?_ | refine d_ty 14 hS ?_ | refine d_tn 14 hS ?_); (first | refine d_tx 15 hS ?_ | refine d_ty 15 hS ?_ | refine d_tn 15 hS ?_); (first | refine d_tx 16 hS ?_ | refine d_ty 16 hS ?_ | refine d_tn 16 hS ?_); (first | refine d_tx 17 hS ?_ | refine d_ty 17 hS ?_ | refine d_tn 17 hS ?_); (first | refine d_tx 18 hS ?_ | refine d_ty 18 hS ?_ | refine d_tn 18 hS ?_); (first | refine d_tx 19 hS ?_ | refine d_ty 19 hS ?_ | refine d_tn 19 hS ?_); (first | refine d_tx 20 hS ?_ | refine d_ty 20 hS ?_ | refine d_tn 20 hS ?_); (first | refine d_tx 21 hS ?_ | refine d_ty 21 hS ?_ | refine d_tn 21 hS ?_); (first | refine d_tx 22 hS ?_ | refine d_ty 22 hS ?_ | refine d_tn 22 hS ?_); (first | refine d_tx 23 hS ?_ | refine d_ty 23 hS ?_ | refine d_tn 23 hS ?_); (first | refine d_tx 24 hS ?_ | refine d_ty 24 hS ?_ | refine d_tn 24 hS ?_); (first | refine d_tx 25 hS ?_ | refine d_ty 25 hS ?_ | refine d_tn 25 hS ?_); (first | refine d_tx 26 hS ?_ | refine d_ty 26 hS ?_ | refine d_tn 26 hS ?_); (first | refine d_tx 27 hS ?_ | refine d_ty 27 hS ?_ | refine d_tn 27 hS ?_); (first | refine d_tx 28 hS ?_ | refine d_ty 28 hS ?_ | refine d_tn 28 hS ?_); (first | refine d_tx 29 hS ?_ | refine d_ty 29 hS ?_ | refine d_tn 29 hS ?_); (first | refine d_tx 30 hS ?_ | refine d_ty 30 hS ?_ | refine d_tn 30 hS ?_); (first | refine d_tx 31 hS ?_ | refine d_ty 31 hS ?_ | refine d_tn 31 hS ?_); (first | refine d_tx 32 hS ?_ | refine d_ty 32 hS ?_ | refine d_tn 32 hS ?_); (first | refine d_tx 33 hS ?_ | refine d_ty 33 hS ?_ | refine d_tn 33 hS ?_); (first | refine d_tx 34 hS ?_ | refine d_ty 34 hS ?_ | refine d_tn 34 hS ?_))
  (apply d_yes (i := 35); exact rfl; exact rfl; kernel_rfl; kernel_rfl; kernel_rfl; (intro u hu; exact (r_neqE (p := false) rfl rfl (by simp))); exact hS)
  ((first | refine d_tx 36 hS ?_ | refine d_ty 36 hS ?_ | refine d_tn 36 hS ?_); (first | refine d_tx 37 hS ?_ | refine d_ty 37 hS ?_ | refine d_tn 37 hS ?_); (first | refine d_tx 38 hS ?_ | refine d_ty 38 hS ?_ | refine d_tn 38 hS ?_); (first | refine d_tx 39 hS ?_ | refine d_ty 39 hS ?_ | refine d_tn 39 hS ?_); (first | refine d_tx 40 hS ?_ | refine d_ty 40 hS ?_ | refine d_tn 40 hS ?_); (first | refine d_tx 41 hS ?_ | refine d_ty 41 hS ?_ | refine d_tn 41 hS ?_); (first | refine d_tx 42 hS ?_ | refine d_ty 42 hS ?_ | refine d_tn 42 hS ?_); (first | refine d_tx 43 hS ?_ | refine d_ty 43 hS ?_ | refine d_tn 43 hS ?_); (first | refine d_tx 44 hS ?_ | refine d_ty 44 hS ?_ | refine d_tn 44 hS ?_); (first | refine d_tx 45 hS ?_ | refine d_ty 45 hS ?_ | refine d_tn 45 hS ?_); (first | refine d_tx 46 hS ?_ | refine d_ty 46 hS ?_ | refine d_tn 46 hS ?_); (first | refine d_tx 47 hS ?_ | refine d_ty 47 hS ?_ | refine d_tn 47 hS ?_); (first | refine d_tx 48 hS ?_ | refine d_ty 48 hS ?_ | refine d_tn 48 hS ?_); (first | refine d_tx 49 hS ?_ | refine d_ty 49 hS ?_ | refine d_tn 49 hS ?_); (first | refine d_tx 50 hS ?_ | refine d_ty 50 hS ?_ | refine d_tn 50 hS ?_); (first | refine d_tx 51 hS ?_ | refine d_ty 51 hS ?_ | refine d_tn 51 hS ?_); (first | refine d_tx 52 hS ?_ | refine d_ty 52 hS ?_ | refine d_tn 52 hS ?_); (first | refine d_tx 53 hS ?_ | refine d_ty 53 hS ?_ | refine d_tn 53 hS ?_); (first | refine d_tx 54 hS ?_ | refine d_ty 54 hS ?_ | refine d_tn 54 hS ?_); (first | refine d_tx 55 hS ?_ | refine d_ty 55 hS ?_ | refine d_tn 55 hS ?_); (first | refine d_tx 56 hS ?_ | refine d_ty 56 hS ?_ | refine d_tn 56 hS ?_); (first | refine d_tx 57 hS ?_ | refine d_ty 57 hS ?_ | refine d_tn 57 hS ?_); (first | refine d_tx 58 hS ?_ | refine d_ty 58 hS ?_ | refine d_tn 58 hS ?_); (first | refine d_tx 59 hS ?_ | refine d_ty 59 hS ?_ | refine d_tn 59 hS ?_); (first | refine d_tx 60 hS ?_ | refine d_ty 60 hS ?_ | refine d_tn 60 hS ?_); (first | refine d_tx 61 hS ?_ | refine d_ty 61 hS ?_ | refine d_tn 61 hS ?_); (first | refine d_tx 62 hS ?_ | refine d_ty 62 hS ?_ | refine d_tn 62 hS ?_))
  refine d_one (i := 63) rfl (by kernel_rfl) ?_
  refine g_yes rfl ?_
  refine s_call (compareR l[i].res l[i].res sr sr' _ (hr.tr0 hS) (hr'.tr0 hS)) rfl ?_
  rintro _ u1 ⟨rfl, hf1⟩
  refine ⟨_, rfl, ?_⟩
  rw [cmpV_self]
  have hS1 := hS.trans0 hf1
  refine wpList_nil (q_held hS1 ?_)
  ((first | refine d_tx 64 hS1 ?_ | refine d_ty 64 hS1 ?_ | refine d_tn 64 hS1 ?_); (first | refine d_tx 65 hS1 ?_ | refine d_ty 65 hS1 ?_ | refine d_tn 65 hS1 ?_))
  (refine d_done (by kernel_rfl) ?_)
  refine rx ?_
  refine c_loopK 84 [6] (σ := Nat) (fun j g u' => g 6 = .int .i64 j ∧ j ≤ l[i].args.length ∧ Fr [] u u') (fun j => l[i].args.length - j) 0 ⟨rfl, Nat.zero_le _, hS1⟩ ?_
  rintro j g2 u2 ⟨h6, hj, hf2⟩
  rw [eq_upd h6]
  have hc2 := hcell.tr0 hf2
  have hc2' := hcell'.tr0 hf2
  by_cases hjl : j < l[i].args.length
  case neg =>
    refine rx ?_
    exact q_roundK (i + 1) (by (repeat (first | exact Keep.mrg _ _ _ _ | (refine Keep.hi rfl ?_) | (refine Keep.one rfl ?_) | exact Keep.all rfl | (refine Keep.inn rfl ?_) | (refine Keep.set rfl ?_)))) ⟨rfl, by omega, hf.trans0 hf2⟩ (by omega)
  obtain ⟨bd, cs, rfl, ⟨sv, rfl, hv⟩, hcv⟩ := (ha.tr0 hf2).sl.at VR.len hjl
  obtain ⟨bd', cs, rfl, ⟨sv', rfl, hv'⟩, hcv'⟩ := (ha'.tr0 hf2).sl.at VR.len hjl
  refine rx ?_
  (refine d_begin (fun z => Fr [] u2 z) (by kernel_rfl) rfl ?_)
  have hT : Fr [] u2 u2.drew := Fr.drew _ _
  ((first | refine d_tx 0 hT ?_ | refine d_ty 0 hT ?_ | refine d_tn 0 hT ?_); (first | refine d_tx 1 hT ?_ | refine d_ty 1 hT ?_ | refine d_tn 1 hT ?_); (first | refine d_tx 2 hT ?_ | refine d_ty 2 hT ?_ | refine d_tn 2 hT ?_); (first | refine d_tx 3 hT ?_ | refine d_ty 3 hT ?_ | refine d_tn 3 hT ?_); (first | refine d_tx 4 hT ?_ | refine d_ty 4 hT ?_ | refine d_tn 4 hT ?_); (first | refine d_tx 5 hT ?_ | refine d_ty 5 hT ?_ | refine d_tn 5 hT ?_); (first | refine d_tx 6 hT ?_ | refine d_ty 6 hT ?_ | refine d_tn 6 hT ?_); (first | refine d_tx 7 hT ?_ | refine d_ty 7 hT ?_ | refine d_tn 7 hT ?_); (first | refine d_tx 8 hT ?_ | refine d_ty 8 hT ?_ | refine d_tn 8 hT ?_); (first | refine d_tx 9 hT ?_ | refine d_ty 9 hT ?_ | refine d_tn 9 hT ?_); (first | refine d_tx 10 hT ?_ | refine d_ty 10 hT ?_ | refine d_tn 10 hT ?_); (first | refine d_tx 11 hT ?_ | refine d_ty 11 hT ?_ | refine d_tn 11 hT ?_); (first | refine d_tx 12 hT ?_ | refine d_ty 12 hT ?_ | refine d_tn 12 hT ?_); (first | refine d_tx 13 hT ?_ | refine d_ty 13 hT ?_ | refine d_tn 13 hT ?_); (first | refine d_tx 14 hT ?_ | refine d_ty 14 hT ?_ | refine d_tn 14 hT ?_); (first | refine d_tx 15 hT ?_ | refine d_ty 15 hT ?_ | refine d_tn 15 hT ?_))
  refine d_one (i := 16) rfl (by kernel_rfl) ?_
  refine s_call (compareR l[i].args[j] l[i].args[j] sv sv' _ (hv.tr0 hT) (hv'.tr0 hT)) rfl ?_
  rintro _ u3 ⟨rfl, hf3⟩
  refine ⟨_, rfl, ?_⟩
  rw [cmpV_self]
  have hT3 := hT.trans0 hf3
  refine wpList_nil (q_held hT3 ?_)
  ((first | refine d_tx 17 hT3 ?_ | refine d_ty 17 hT3 ?_ | refine d_tn 17 hT3 ?_))
  (refine d_done (by kernel_rfl) ?_)
  refine rx ?_
  exact q_roundK (j + 1) (by (repeat (first | exact Keep.mrg _ _ _ _ | (refine Keep.hi rfl ?_) | (refine Keep.one rfl ?_) | exact Keep.all rfl | (refine Keep.inn rfl ?_) | (refine Keep.set rfl ?_)))) ⟨rfl, by omega, hf2.trans0 hT3⟩ (by omega)

def opEv (o : Cl) : Ev := ⟨0, o.client, o.name, o.args, o.res⟩
theorem evS_one {w : World} {e : Nat} {v : Value} {x : Ev} {cs : List Value} (ho : Own w e 8 v 1 cs) (hr : EvR w [] x cs) : EvS w [x] v := ⟨cs, ho.src, fun _ _ _ _ _ => by simp, Rws.one hr⟩

set_option maxRecDepth 4000 in
theorem sameOpsC (l : List Cl) (sx sy : Value) (w : World) (hx : OpS w l sx) (hy : OpS w l sy) (hb : l.length ≤ 1000000) :
    Calls Try.prog 18 #[sx, sy] w fun r w' => r = .returned (.bool true) ∧ Fr [] w w' := by
  obtain ⟨ax, cx, rfl, _⟩ := Sl.slice hx
  obtain ⟨ay, cy, rfl, _⟩ := Sl.slice hy
  refine enter Try.func18 rfl Try.ntmps18 rfl ?_
  refine rx ?_
  refine c_loopK 9 [5, 6, 7, 8] (σ := Nat) (fun i g u => g 5 = .int .i64 i ∧ i ≤ l.length ∧ Fr [] w u) (fun i => l.length - i) 0 ⟨rfl, Nat.zero_le _, Fr.refl _ _⟩ ?_
  rintro i g u ⟨h5, hi, hf⟩
  rw [eq_upd h5]
  by_cases hlt : i < l.length
  case neg =>
    refine rx ?_
    (apply ret1; exact rfl; (conv => lhs; whnf))
    exact ⟨rfl, hf⟩
  obtain ⟨ad, cs, rfl, ⟨sa, sr, rfl, ha, hr⟩, hcell⟩ := Sl.at (OpS.tr0 hx hf) opLen hlt
  obtain ⟨ad', cs, rfl, ⟨sa', sr', rfl, ha', hr'⟩, hcell'⟩ := Sl.at (OpS.tr0 hy hf) opLen hlt
  obtain ⟨aa, ca, rfl, _⟩ := ha.slice
  obtain ⟨aa', ca', rfl, _⟩ := ha'.slice
  obtain ⟨ar, cr, rfl, _⟩ := hr.slice
  obtain ⟨ar', cr', rfl, _⟩ := hr'.slice
  refine rx ?_
  (refine d_begin (fun z => Fr [] u z) (by kernel_rfl) rfl ?_)
  have hS : Fr [] u u.drew := Fr.drew _ _
  ((first | refine d_tx 0 hS ?_ | refine d_ty 0 hS ?_ | refine d_tn 0 hS ?_); (first | refine d_tx 1 hS ?_ | refine d_ty 1 hS ?_ | refine d_tn 1 hS ?_); (first | refine d_tx 2 hS ?_ | refine d_ty 2 hS ?_ | refine d_tn 2 hS ?_); (first | refine d_tx 3 hS ?_ | refine d_ty 3 hS ?_ | refine d_tn 3 hS ?_); (first | refine d_tx 4 hS ?_ | refine d_ty 4 hS ?_ | refine d_tn 4 hS ?_); (first | refine d_tx 5 hS ?_ | refine d_ty 5 hS ?_ | refine d_tn 5 hS ?_); (first | refine d_tx 6 hS ?_ | refine d_ty 6 hS ?_ | refine d_tn 6 hS ?_); (first | refine d_tx 7 hS ?_ | refine d_ty 7 hS ?_ | refine d_tn 7 hS ?_); (first | refine d_tx 8 hS ?_ | refine d_ty 8 hS ?_ | refine d_tn 8 hS ?_); (first | refine d_tx 9 hS ?_ | refine d_ty 9 hS ?_ | refine d_tn 9 hS ?_); (first | refine d_tx 10 hS ?_ | refine d_ty 10 hS ?_ | refine d_tn 10 hS ?_); (first | refine d_tx 11 hS ?_ | refine d_ty 11 hS ?_ | refine d_tn 11 hS ?_); (first | refine d_tx 12 hS ?_ | refine d_ty 12 hS ?_ | refine d_tn 12 hS ?_); (first | refine d_tx 13 hS ?_ | refine d_ty 13 hS ?_ | refine d_tn 13 hS ?_); (first | refine d_tx 14 hS ?_ | refine d_ty 14 hS ?_ | refine d_tn 14 hS ?_); (first | refine d_tx 15 hS ?_ | refine d_ty 15 hS ?_ | refine d_tn 15 hS ?_); (first | refine d_tx 16 hS ?_ | refine d_ty 16 hS ?_ | refine d_tn 16 hS ?_); (first | refine d_tx 17 hS ?_ | refine d_ty 17 hS ?_ | refine d_tn 17 hS ?_); (first | refine d_tx 18 hS ?_ | refine d_ty 18 hS ?_ | refine d_tn 18 hS ?_); (first | refine d_tx 19 hS ?_ | refine d_ty 19 hS ?_ | refine d_tn 19 hS ?_))
  (apply d_take (i := 20) (v := .agg (ec (opEv l[i]) (.slice aa l[i].args.length ca) (.slice ar l[i].res.kids.length cr)).toArray); exact rfl; kernel_rfl; kernel_rfl; kernel_rfl; (intro u hu; exact r_build (ec (opEv l[i]) (.slice aa l[i].args.length ca) (.slice ar l[i].res.kids.length cr)) (by rfl)); exact hS)
  refine d_one (i := 21) rfl (by kernel_rfl) ?_
  refine s_buildS (ec (opEv l[i]) (.slice aa l[i].args.length ca) (.slice ar l[i].res.kids.length cr)) rfl rfl rfl rfl (fun u1 ho1 hf1 hs1 => ?_)
  have hS1 := hS.trans0 hf1
  refine wpList_nil (q_held hS1 ?_)
  (refine d_one (i := 22) rfl (by kernel_rfl) ?_; refine rx ?_; refine q_held hS1 ?_)
  (refine d_done (by kernel_rfl) ?_)
  have he1 : EvS u1 [opEv l[i]] _ := evS_one ho1 ⟨_, _, rfl, ha.tr0 hS1, hr.tr0 hS1⟩
  have hc1 := hcell'.tr0 hS1
  refine rx ?_
  (refine d_begin (fun z => Fr [] u1 z) (by kernel_rfl) rfl ?_)
  have hT : Fr [] u1 u1.drew := Fr.drew _ _
  ((first | refine d_tx 0 hT ?_ | refine d_ty 0 hT ?_ | refine d_tn 0 hT ?_); (first | refine d_tx 1 hT ?_ | refine d_ty 1 hT ?_ | refine d_tn 1 hT ?_); (first | refine d_tx 2 hT ?_ | refine d_ty 2 hT ?_ | refine d_tn 2 hT ?_); (first | refine d_tx 3 hT ?_ | refine d_ty 3 hT ?_ | refine d_tn 3 hT ?_); (first | refine d_tx 4 hT ?_ | refine d_ty 4 hT ?_ | refine d_tn 4 hT ?_); (first | refine d_tx 5 hT ?_ | refine d_ty 5 hT ?_ | refine d_tn 5 hT ?_); (first | refine d_tx 6 hT ?_ | refine d_ty 6 hT ?_ | refine d_tn 6 hT ?_); (first | refine d_tx 7 hT ?_ | refine d_ty 7 hT ?_ | refine d_tn 7 hT ?_); (first | refine d_tx 8 hT ?_ | refine d_ty 8 hT ?_ | refine d_tn 8 hT ?_); (first | refine d_tx 9 hT ?_ | refine d_ty 9 hT ?_ | refine d_tn 9 hT ?_); (first | refine d_tx 10 hT ?_ | refine d_ty 10 hT ?_ | refine d_tn 10 hT ?_); (first | refine d_tx 11 hT ?_ | refine d_ty 11 hT ?_ | refine d_tn 11 hT ?_); (first | refine d_tx 12 hT ?_ | refine d_ty 12 hT ?_ | refine d_tn 12 hT ?_); (first | refine d_tx 13 hT ?_ | refine d_ty 13 hT ?_ | refine d_tn 13 hT ?_); (first | refine d_tx 14 hT ?_ | refine d_ty 14 hT ?_ | refine d_tn 14 hT ?_); (first | refine d_tx 15 hT ?_ | refine d_ty 15 hT ?_ | refine d_tn 15 hT ?_); (first | refine d_tx 16 hT ?_ | refine d_ty 16 hT ?_ | refine d_tn 16 hT ?_); (first | refine d_tx 17 hT ?_ | refine d_ty 17 hT ?_ | refine d_tn 17 hT ?_); (first | refine d_tx 18 hT ?_ | refine d_ty 18 hT ?_ | refine d_tn 18 hT ?_); (first | refine d_tx 19 hT ?_ | refine d_ty 19 hT ?_ | refine d_tn 19 hT ?_))
  (apply d_take (i := 20) (v := .agg (ec (opEv l[i]) (.slice aa' l[i].args.length ca') (.slice ar' l[i].res.kids.length cr')).toArray); exact rfl; kernel_rfl; kernel_rfl; kernel_rfl; (intro u hu; exact r_build (ec (opEv l[i]) (.slice aa' l[i].args.length ca') (.slice ar' l[i].res.kids.length cr')) (by rfl)); exact hT)
  refine d_one (i := 21) rfl (by kernel_rfl) ?_
  refine s_buildS (ec (opEv l[i]) (.slice aa' l[i].args.length ca') (.slice ar' l[i].res.kids.length cr')) rfl rfl rfl rfl (fun u2 ho2 hf2 hs2 => ?_)
  have hT2 := hT.trans0 hf2
  refine wpList_nil (q_held hT2 ?_)
  (refine d_one (i := 22) rfl (by kernel_rfl) ?_; refine rx ?_; refine q_held hT2 ?_)
  (refine d_done (by kernel_rfl) ?_)
  have hS2 := hS1.trans0 hT2
  have he2 : EvS u2 [opEv l[i]] _ := evS_one ho2 ⟨_, _, rfl, ha'.tr0 hS2, hr'.tr0 hS2⟩
  refine rx ?_
  refine s_call (sameC [opEv l[i]] _ _ u2 (EvS.tr0 he1 hT2) he2 (by simp)) rfl ?_
  rintro _ u3 ⟨rfl, hf3⟩
  refine ⟨_, rfl, ?_⟩
  have hS3 := hS2.trans0 hf3
  have hc3 := hcell.tr0 hS3
  have hc3' := hcell'.tr0 hS3
  clear hc1
  refine rx ?_
  (refine d_begin (fun z => Fr [] u3 z) (by kernel_rfl) rfl ?_)
  have hU : Fr [] u3 u3.drew := Fr.drew _ _
  ((first | refine d_tx 0 hU ?_ | refine d_ty 0 hU ?_ | refine d_tn 0 hU ?_); (first | refine d_tx 1 hU ?_ | refine d_ty 1 hU ?_ | refine d_tn 1 hU ?_); (first | refine d_tx 2 hU ?_ | refine d_ty 2 hU ?_ | refine d_tn 2 hU ?_); (first | refine d_tx 3 hU ?_ | refine d_ty 3 hU ?_ | refine d_tn 3 hU ?_); (first | refine d_tx 4 hU ?_ | refine d_ty 4 hU ?_ | refine d_tn 4 hU ?_); (first | refine d_tx 5 hU ?_ | refine d_ty 5 hU ?_ | refine d_tn 5 hU ?_); (first | refine d_tx 6 hU ?_ | refine d_ty 6 hU ?_ | refine d_tn 6 hU ?_); (first | refine d_tx 7 hU ?_ | refine d_ty 7 hU ?_ | refine d_tn 7 hU ?_); (first | refine d_tx 8 hU ?_ | refine d_ty 8 hU ?_ | refine d_tn 8 hU ?_); (first | refine d_tx 9 hU ?_ | refine d_ty 9 hU ?_ | refine d_tn 9 hU ?_); (first | refine d_tx 10 hU ?_ | refine d_ty 10 hU ?_ | refine d_tn 10 hU ?_); (first | refine d_tx 11 hU ?_ | refine d_ty 11 hU ?_ | refine d_tn 11 hU ?_); (first | refine d_tx 12 hU ?_ | refine d_ty 12 hU ?_ | refine d_tn 12 hU ?_); (first | refine d_tx 13 hU ?_ | refine d_ty 13 hU ?_ | refine d_tn 13 hU ?_); (first | refine d_tx 14 hU ?_ | refine d_ty 14 hU ?_ | refine d_tn 14 hU ?_); (first | refine d_tx 15 hU ?_ | refine d_ty 15 hU ?_ | refine d_tn 15 hU ?_); (first | refine d_tx 16 hU ?_ | refine d_ty 16 hU ?_ | refine d_tn 16 hU ?_); (first | refine d_tx 17 hU ?_ | refine d_ty 17 hU ?_ | refine d_tn 17 hU ?_); (first | refine d_tx 18 hU ?_ | refine d_ty 18 hU ?_ | refine d_tn 18 hU ?_); (first | refine d_tx 19 hU ?_ | refine d_ty 19 hU ?_ | refine d_tn 19 hU ?_); (first | refine d_tx 20 hU ?_ | refine d_ty 20 hU ?_ | refine d_tn 20 hU ?_); (first | refine d_tx 21 hU ?_ | refine d_ty 21 hU ?_ | refine d_tn 21 hU ?_); (first | refine d_tx 22 hU ?_ | refine d_ty 22 hU ?_ | refine d_tn 22 hU ?_); (first | refine d_tx 23 hU ?_ | refine d_ty 23 hU ?_ | refine d_tn 23 hU ?_); (first | refine d_tx 24 hU ?_ | refine d_ty 24 hU ?_ | refine d_tn 24 hU ?_); (first | refine d_tx 25 hU ?_ | refine d_ty 25 hU ?_ | refine d_tn 25 hU ?_); (first | refine d_tx 26 hU ?_ | refine d_ty 26 hU ?_ | refine d_tn 26 hU ?_); (first | refine d_tx 27 hU ?_ | refine d_ty 27 hU ?_ | refine d_tn 27 hU ?_); (first | refine d_tx 28 hU ?_ | refine d_ty 28 hU ?_ | refine d_tn 28 hU ?_); (first | refine d_tx 29 hU ?_ | refine d_ty 29 hU ?_ | refine d_tn 29 hU ?_); (first | refine d_tx 30 hU ?_ | refine d_ty 30 hU ?_ | refine d_tn 30 hU ?_); (first | refine d_tx 31 hU ?_ | refine d_ty 31 hU ?_ | refine d_tn 31 hU ?_); (first | refine d_tx 32 hU ?_ | refine d_ty 32 hU ?_ | refine d_tn 32 hU ?_); (first | refine d_tx 33 hU ?_ | refine d_ty 33 hU ?_ | refine d_tn 33 hU ?_); (first | refine d_tx 34 hU ?_ | refine d_ty 34 hU ?_ | refine d_tn 34 hU ?_); (first | refine d_tx 35 hU ?_ | refine d_ty 35 hU ?_ | refine d_tn 35 hU ?_); (first | refine d_tx 36 hU ?_ | refine d_ty 36 hU ?_ | refine d_tn 36 hU ?_); (first | refine d_tx 37 hU ?_ | refine d_ty 37 hU ?_ | refine d_tn 37 hU ?_); (first | refine d_tx 38 hU ?_ | refine d_ty 38 hU ?_ | refine d_tn 38 hU ?_); (first | refine d_tx 39 hU ?_ | refine d_ty 39 hU ?_ | refine d_tn 39 hU ?_); (first | refine d_tx 40 hU ?_ | refine d_ty 40 hU ?_ | refine d_tn 40 hU ?_))
  (refine d_done (by kernel_rfl) ?_)
  refine rx ?_
  exact q_roundK (i + 1) (by (repeat (first | exact Keep.mrg _ _ _ _ | (refine Keep.hi rfl ?_) | (refine Keep.one rfl ?_) | exact Keep.all rfl | (refine Keep.inn rfl ?_) | (refine Keep.set rfl ?_)))) ⟨rfl, by omega, (hf.trans0 hS3).trans0 hU⟩ (by omega)
end Go.Proofs.Ytcogpedfnnfnaaa
