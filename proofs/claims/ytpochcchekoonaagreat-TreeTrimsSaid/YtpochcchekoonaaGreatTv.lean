/-
  Package tree: parts, inRange, shaped; values.Size.
-/
import Derived.Test.YtpochcchekoonaaGreatA5
import Derived.Laws.Bits64
namespace Go.Proofs.YtpochcchekoonaaGreat
open Go.Rf Go.RowKit
set_option linter.unusedVariables false
set_option linter.unusedSimpArgs false
attribute [local irreducible] Code.wp wpList Exit.then Exit.inBlock bodyPost A Calls execOp Addr.add
def partsE (x : Nd) : Int := if x.kind = 0 then valV x.val else frsE x.vals
set_option maxHeartbeats 8000000 in
theorem partsP (x : Nd) (pn : Addr) (w : World) (hok : NdOk x) (hn : PN w [] x pn) :
    Calls Tryz.prog 48 #[.pointer (some pn)] w fun e w' => e = .returned (.int .i64 (partsE x)) ∧ Fr [] w w' := by
  have hlv := hok.lv
  obtain ⟨_, _, hc, ⟨sw, sl, sv, sk, sx, rfl, hw, hl, hv, hk, hx⟩⟩ := hn
  obtain ⟨av, cv, rfl, _⟩ := hv.slice
  refine enter Tryz.func48 rfl Tryz.ntmps48 rfl ?_
  by_cases k0 : x.kind = 0
  · refine rx ?_
    refine s_call (validP x.val sx w hx hok.val.1 (by have := hok.val.2; omega)) rfl ?_
    rintro _ w1 ⟨rfl, hf1⟩
    refine ⟨_, rfl, ?_⟩
    refine rx ?_
    (apply ret1; exact rfl; (conv => lhs; whnf))
    exact ⟨by unfold partsE; rw [if_pos k0], hf1⟩
  have e0 : partsE x = frsE (x.vals.drop 0) := by unfold partsE; rw [if_neg k0]; rfl
  refine rx ?_
  refine c_loopK 6 [4, 5] (σ := Nat) (fun j g z => g 19 = .slice av x.vals.length cv ∧ g 20 = .int .i64 x.vals.length ∧ g 21 = .int .i64 j ∧ j ≤ x.vals.length ∧ partsE x = frsE (x.vals.drop j) ∧ Fr [] w z) (fun j => x.vals.length - j) 0 ⟨rfl, rfl, rfl, Nat.zero_le _, e0, Fr.refl _ _⟩ ?_
  rintro j g z ⟨h19, h20, h21, hj, hcc, hfz⟩
  rw [eq_upd h19, eq_upd h20, eq_upd h21]
  by_cases hlt : j < x.vals.length
  case neg =>
    refine rx ?_
    (apply ret1; exact rfl; (conv => lhs; whnf))
    exact ⟨by rw [hcc, List.drop_eq_nil_of_le (by omega), frsE], hfz⟩
  obtain ⟨ad, cs1, rfl, ⟨sx1, rfl, hx1⟩, hcell1⟩ := Sl.at (hv.tr0 hfz).sl VR.len hlt
  rw [frsE_drop hlt] at hcc
  have hvo := hok.vals x.vals[j] (by simp)
  refine rx ?_
  refine s_alloc rfl (fun z1 hb1 hf1 hs1 => ?_)
  refine s_storeAggB rfl rfl hb1 (VR.mem1 x.vals[j] _ ⟨sx1, rfl, hx1⟩) rfl rfl (fun z2 hb2 hf2 hs2 => ?_)
  have hF2 : Fr [] z z2 := hf1.trans hf2 (by simp)
  refine rx ?_
  refine s_call (validP x.vals[j] sx1 z2 (hx1.tr0 hF2) hvo.1 (by omega)) rfl ?_
  rintro _ z3 ⟨rfl, hf3⟩
  refine ⟨_, rfl, ?_⟩
  have hF3 := hfz.trans0 (hF2.trans0 hf3)
  by_cases he : valV x.vals[j] = 0
  · rw [if_neg (by simpa using he)] at hcc
    refine rx ?_
    exact q_roundK (j + 1) (by (repeat (first | exact Keep.mrg _ _ _ _ | (refine Keep.hi rfl ?_) | (refine Keep.one rfl ?_) | exact Keep.all rfl | (refine Keep.inn rfl ?_) | (refine Keep.set rfl ?_)))) ⟨rfl, rfl, rfl, by omega, hcc, hF3⟩ (by omega)
  · rw [if_pos he] at hcc
    refine rx ?_
    (apply ret1; exact rfl; (conv => lhs; whnf))
    exact ⟨by rw [hcc], hF3⟩

theorem u64_diff {a b : Int} (h1 : b ≤ a) (h2 : -4611686018427387904 ≤ b) (h3 : a ≤ 4611686018427387904) : IntKind.u64.wrap (IntKind.u64.wrap a - IntKind.u64.wrap b) = a - b := by
  rw [IntKind.wrap_u64, IntKind.wrap_u64, IntKind.wrap_u64]; omega
set_option maxHeartbeats 8000000 in
theorem inRangeP (x : Nd) (pn : Addr) (w : World) (hok : NdOk x) (hn : PN w [] x pn) :
    Calls Tryz.prog 49 #[.pointer (some pn)] w fun e w' => e = .returned (.bool (numsN x)) ∧ Fr [] w w' := by
  have hlo := hok.lo
  have hhi := hok.hi
  have hlw := hok.lw
  unfold InI64 at hlo hhi
  obtain ⟨_, _, hc, ⟨sw, sl, sv, sk, sx, rfl, hw, hl, hv, hk, hx⟩⟩ := hn
  obtain ⟨aw, cw, rfl, _⟩ := hw.slice
  refine enter Tryz.func49 rfl Tryz.ntmps49 rfl ?_
  refine rx ?_
  (refine d_begin (fun y => Fr [] w y) (by kernel_rfl) rfl ?_)
  have hS : Fr [] w w.drew := Fr.drew _ _
  by_cases h1 : x.lo > x.hi
  · have e0 : numsN x = false := by unfold numsN; rw [decide_eq_false (by omega)]; rfl
    rw [e0]
    ((first | refine d_tx 0 hS ?_ | refine d_ty 0 hS ?_ | refine d_tn 0 hS ?_); (first | refine d_tx 1 hS ?_ | refine d_ty 1 hS ?_ | refine d_tn 1 hS ?_); (first | refine d_tx 2 hS ?_ | refine d_ty 2 hS ?_ | refine d_tn 2 hS ?_); (first | refine d_tx 3 hS ?_ | refine d_ty 3 hS ?_ | refine d_tn 3 hS ?_); (first | refine d_tx 4 hS ?_ | refine d_ty 4 hS ?_ | refine d_tn 4 hS ?_); (first | refine d_tx 5 hS ?_ | refine d_ty 5 hS ?_ | refine d_tn 5 hS ?_); (first | refine d_tx 6 hS ?_ | refine d_ty 6 hS ?_ | refine d_tn 6 hS ?_); (first | refine d_tx 7 hS ?_ | refine d_ty 7 hS ?_ | refine d_tn 7 hS ?_); (first | refine d_tx 8 hS ?_ | refine d_ty 8 hS ?_ | refine d_tn 8 hS ?_); (first | refine d_tx 9 hS ?_ | refine d_ty 9 hS ?_ | refine d_tn 9 hS ?_); (first | refine d_tx 10 hS ?_ | refine d_ty 10 hS ?_ | refine d_tn 10 hS ?_); (first | refine d_tx 11 hS ?_ | refine d_ty 11 hS ?_ | refine d_tn 11 hS ?_); (first | refine d_tx 12 hS ?_ | refine d_ty 12 hS ?_ | refine d_tn 12 hS ?_); (first | refine d_tx 13 hS ?_ | refine d_ty 13 hS ?_ | refine d_tn 13 hS ?_); (first | refine d_tx 14 hS ?_ | refine d_ty 14 hS ?_ | refine d_tn 14 hS ?_); (first | refine d_tx 15 hS ?_ | refine d_ty 15 hS ?_ | refine d_tn 15 hS ?_); (first | refine d_tx 16 hS ?_ | refine d_ty 16 hS ?_ | refine d_tn 16 hS ?_); (first | refine d_tx 17 hS ?_ | refine d_ty 17 hS ?_ | refine d_tn 17 hS ?_); (first | refine d_tx 18 hS ?_ | refine d_ty 18 hS ?_ | refine d_tn 18 hS ?_); (first | refine d_tx 19 hS ?_ | refine d_ty 19 hS ?_ | refine d_tn 19 hS ?_); (first | refine d_tx 20 hS ?_ | refine d_ty 20 hS ?_ | refine d_tn 20 hS ?_); (first | refine d_tx 21 hS ?_ | refine d_ty 21 hS ?_ | refine d_tn 21 hS ?_); (first | refine d_tx 22 hS ?_ | refine d_ty 22 hS ?_ | refine d_tn 22 hS ?_); (first | refine d_tx 23 hS ?_ | refine d_ty 23 hS ?_ | refine d_tn 23 hS ?_); (first | refine d_tx 24 hS ?_ | refine d_ty 24 hS ?_ | refine d_tn 24 hS ?_); (first | refine d_tx 25 hS ?_ | refine d_ty 25 hS ?_ | refine d_tn 25 hS ?_); (first | refine d_tx 26 hS ?_ | refine d_ty 26 hS ?_ | refine d_tn 26 hS ?_); (first | refine d_tx 27 hS ?_ | refine d_ty 27 hS ?_ | refine d_tn 27 hS ?_); (first | refine d_tx 28 hS ?_ | refine d_ty 28 hS ?_ | refine d_tn 28 hS ?_); (first | refine d_tx 29 hS ?_ | refine d_ty 29 hS ?_ | refine d_tn 29 hS ?_); (first | refine d_tx 30 hS ?_ | refine d_ty 30 hS ?_ | refine d_tn 30 hS ?_); (first | refine d_tx 31 hS ?_ | refine d_ty 31 hS ?_ | refine d_tn 31 hS ?_); (first | refine d_tx 32 hS ?_ | refine d_ty 32 hS ?_ | refine d_tn 32 hS ?_); (first | refine d_tx 33 hS ?_ | refine d_ty 33 hS ?_ | refine d_tn 33 hS ?_); (first | refine d_tx 34 hS ?_ | refine d_ty 34 hS ?_ | refine d_tn 34 hS ?_); (first | refine d_tx 35 hS ?_ | refine d_ty 35 hS ?_ | refine d_tn 35 hS ?_); (first | refine d_tx 36 hS ?_ | refine d_ty 36 hS ?_ | refine d_tn 36 hS ?_))
    (refine d_done (by kernel_rfl) ?_)
    refine rx ?_
    (apply ret1; exact rfl; (conv => lhs; whnf))
    exact ⟨rfl, hS⟩
  by_cases h2 : x.lo < -4611686018427387904
  · have e0 : numsN x = false := by unfold numsN; rw [decide_eq_false (by omega)]; rfl
    rw [e0]
    ((first | refine d_tx 0 hS ?_ | refine d_ty 0 hS ?_ | refine d_tn 0 hS ?_); (first | refine d_tx 1 hS ?_ | refine d_ty 1 hS ?_ | refine d_tn 1 hS ?_); (first | refine d_tx 2 hS ?_ | refine d_ty 2 hS ?_ | refine d_tn 2 hS ?_); (first | refine d_tx 3 hS ?_ | refine d_ty 3 hS ?_ | refine d_tn 3 hS ?_); (first | refine d_tx 4 hS ?_ | refine d_ty 4 hS ?_ | refine d_tn 4 hS ?_); (first | refine d_tx 5 hS ?_ | refine d_ty 5 hS ?_ | refine d_tn 5 hS ?_); (first | refine d_tx 6 hS ?_ | refine d_ty 6 hS ?_ | refine d_tn 6 hS ?_); (first | refine d_tx 7 hS ?_ | refine d_ty 7 hS ?_ | refine d_tn 7 hS ?_); (first | refine d_tx 8 hS ?_ | refine d_ty 8 hS ?_ | refine d_tn 8 hS ?_); (first | refine d_tx 9 hS ?_ | refine d_ty 9 hS ?_ | refine d_tn 9 hS ?_); (first | refine d_tx 10 hS ?_ | refine d_ty 10 hS ?_ | refine d_tn 10 hS ?_); (first | refine d_tx 11 hS ?_ | refine d_ty 11 hS ?_ | refine d_tn 11 hS ?_); (first | refine d_tx 12 hS ?_ | refine d_ty 12 hS ?_ | refine d_tn 12 hS ?_); (first | refine d_tx 13 hS ?_ | refine d_ty 13 hS ?_ | refine d_tn 13 hS ?_); (first | refine d_tx 14 hS ?_ | refine d_ty 14 hS ?_ | refine d_tn 14 hS ?_); (first | refine d_tx 15 hS ?_ | refine d_ty 15 hS ?_ | refine d_tn 15 hS ?_); (first | refine d_tx 16 hS ?_ | refine d_ty 16 hS ?_ | refine d_tn 16 hS ?_); (first | refine d_tx 17 hS ?_ | refine d_ty 17 hS ?_ | refine d_tn 17 hS ?_); (first | refine d_tx 18 hS ?_ | refine d_ty 18 hS ?_ | refine d_tn 18 hS ?_); (first | refine d_tx 19 hS ?_ | refine d_ty 19 hS ?_ | refine d_tn 19 hS ?_); (first | refine d_tx 20 hS ?_ | refine d_ty 20 hS ?_ | refine d_tn 20 hS ?_); (first | refine d_tx 21 hS ?_ | refine d_ty 21 hS ?_ | refine d_tn 21 hS ?_); (first | refine d_tx 22 hS ?_ | refine d_ty 22 hS ?_ | refine d_tn 22 hS ?_); (first | refine d_tx 23 hS ?_ | refine d_ty 23 hS ?_ | refine d_tn 23 hS ?_); (first | refine d_tx 24 hS ?_ | refine d_ty 24 hS ?_ | refine d_tn 24 hS ?_); (first | refine d_tx 25 hS ?_ | refine d_ty 25 hS ?_ | refine d_tn 25 hS ?_); (first | refine d_tx 26 hS ?_ | refine d_ty 26 hS ?_ | refine d_tn 26 hS ?_); (first | refine d_tx 27 hS ?_ | refine d_ty 27 hS ?_ | refine d_tn 27 hS ?_); (first | refine d_tx 28 hS ?_ | refine d_ty 28 hS ?_ | refine d_tn 28 hS ?_); (first | refine d_tx 29 hS ?_ | refine d_ty 29 hS ?_ | refine d_tn 29 hS ?_); (first | refine d_tx 30 hS ?_ | refine d_ty 30 hS ?_ | refine d_tn 30 hS ?_); (first | refine d_tx 31 hS ?_ | refine d_ty 31 hS ?_ | refine d_tn 31 hS ?_); (first | refine d_tx 32 hS ?_ | refine d_ty 32 hS ?_ | refine d_tn 32 hS ?_); (first | refine d_tx 33 hS ?_ | refine d_ty 33 hS ?_ | refine d_tn 33 hS ?_); (first | refine d_tx 34 hS ?_ | refine d_ty 34 hS ?_ | refine d_tn 34 hS ?_); (first | refine d_tx 35 hS ?_ | refine d_ty 35 hS ?_ | refine d_tn 35 hS ?_); (first | refine d_tx 36 hS ?_ | refine d_ty 36 hS ?_ | refine d_tn 36 hS ?_))
    (refine d_done (by kernel_rfl) ?_)
    refine rx ?_
    (apply ret1; exact rfl; (conv => lhs; whnf))
    exact ⟨rfl, hS⟩
  by_cases h3 : x.hi > 4611686018427387904
  · have e0 : numsN x = false := by unfold numsN; rw [decide_eq_false (by omega)]; rfl
    rw [e0]
    ((first | refine d_tx 0 hS ?_ | refine d_ty 0 hS ?_ | refine d_tn 0 hS ?_); (first | refine d_tx 1 hS ?_ | refine d_ty 1 hS ?_ | refine d_tn 1 hS ?_); (first | refine d_tx 2 hS ?_ | refine d_ty 2 hS ?_ | refine d_tn 2 hS ?_); (first | refine d_tx 3 hS ?_ | refine d_ty 3 hS ?_ | refine d_tn 3 hS ?_); (first | refine d_tx 4 hS ?_ | refine d_ty 4 hS ?_ | refine d_tn 4 hS ?_); (first | refine d_tx 5 hS ?_ | refine d_ty 5 hS ?_ | refine d_tn 5 hS ?_); (first | refine d_tx 6 hS ?_ | refine d_ty 6 hS ?_ | refine d_tn 6 hS ?_); (first | refine d_tx 7 hS ?_ | refine d_ty 7 hS ?_ | refine d_tn 7 hS ?_); (first | refine d_tx 8 hS ?_ | refine d_ty 8 hS ?_ | refine d_tn 8 hS ?_); (first | refine d_tx 9 hS ?_ | refine d_ty 9 hS ?_ | refine d_tn 9 hS ?_); (first | refine d_tx 10 hS ?_ | refine d_ty 10 hS ?_ | refine d_tn 10 hS ?_); (first | refine d_tx 11 hS ?_ | refine d_ty 11 hS ?_ | refine d_tn 11 hS ?_); (first | refine d_tx 12 hS ?_ | refine d_ty 12 hS ?_ | refine d_tn 12 hS ?_); (first | refine d_tx 13 hS ?_ | refine d_ty 13 hS ?_ | refine d_tn 13 hS ?_); (first | refine d_tx 14 hS ?_ | refine d_ty 14 hS ?_ | refine d_tn 14 hS ?_); (first | refine d_tx 15 hS ?_ | refine d_ty 15 hS ?_ | refine d_tn 15 hS ?_); (first | refine d_tx 16 hS ?_ | refine d_ty 16 hS ?_ | refine d_tn 16 hS ?_); (first | refine d_tx 17 hS ?_ | refine d_ty 17 hS ?_ | refine d_tn 17 hS ?_); (first | refine d_tx 18 hS ?_ | refine d_ty 18 hS ?_ | refine d_tn 18 hS ?_); (first | refine d_tx 19 hS ?_ | refine d_ty 19 hS ?_ | refine d_tn 19 hS ?_); (first | refine d_tx 20 hS ?_ | refine d_ty 20 hS ?_ | refine d_tn 20 hS ?_); (first | refine d_tx 21 hS ?_ | refine d_ty 21 hS ?_ | refine d_tn 21 hS ?_); (first | refine d_tx 22 hS ?_ | refine d_ty 22 hS ?_ | refine d_tn 22 hS ?_); (first | refine d_tx 23 hS ?_ | refine d_ty 23 hS ?_ | refine d_tn 23 hS ?_); (first | refine d_tx 24 hS ?_ | refine d_ty 24 hS ?_ | refine d_tn 24 hS ?_); (first | refine d_tx 25 hS ?_ | refine d_ty 25 hS ?_ | refine d_tn 25 hS ?_); (first | refine d_tx 26 hS ?_ | refine d_ty 26 hS ?_ | refine d_tn 26 hS ?_); (first | refine d_tx 27 hS ?_ | refine d_ty 27 hS ?_ | refine d_tn 27 hS ?_); (first | refine d_tx 28 hS ?_ | refine d_ty 28 hS ?_ | refine d_tn 28 hS ?_); (first | refine d_tx 29 hS ?_ | refine d_ty 29 hS ?_ | refine d_tn 29 hS ?_); (first | refine d_tx 30 hS ?_ | refine d_ty 30 hS ?_ | refine d_tn 30 hS ?_); (first | refine d_tx 31 hS ?_ | refine d_ty 31 hS ?_ | refine d_tn 31 hS ?_); (first | refine d_tx 32 hS ?_ | refine d_ty 32 hS ?_ | refine d_tn 32 hS ?_); (first | refine d_tx 33 hS ?_ | refine d_ty 33 hS ?_ | refine d_tn 33 hS ?_); (first | refine d_tx 34 hS ?_ | refine d_ty 34 hS ?_ | refine d_tn 34 hS ?_); (first | refine d_tx 35 hS ?_ | refine d_ty 35 hS ?_ | refine d_tn 35 hS ?_); (first | refine d_tx 36 hS ?_ | refine d_ty 36 hS ?_ | refine d_tn 36 hS ?_))
    (refine d_done (by kernel_rfl) ?_)
    refine rx ?_
    (apply ret1; exact rfl; (conv => lhs; whnf))
    exact ⟨rfl, hS⟩
  have hdf := u64_diff (a := x.hi) (b := x.lo) (by omega) (by omega) (by omega)
  ((first | refine d_tx 0 hS ?_ | refine d_ty 0 hS ?_ | refine d_tn 0 hS ?_); (first | refine d_tx 1 hS ?_ | refine d_ty 1 hS ?_ | refine d_tn 1 hS ?_); (first | refine d_tx 2 hS ?_ | refine d_ty 2 hS ?_ | refine d_tn 2 hS ?_); (first | refine d_tx 3 hS ?_ | refine d_ty 3 hS ?_ | refine d_tn 3 hS ?_); (first | refine d_tx 4 hS ?_ | refine d_ty 4 hS ?_ | refine d_tn 4 hS ?_); (first | refine d_tx 5 hS ?_ | refine d_ty 5 hS ?_ | refine d_tn 5 hS ?_); (first | refine d_tx 6 hS ?_ | refine d_ty 6 hS ?_ | refine d_tn 6 hS ?_); (first | refine d_tx 7 hS ?_ | refine d_ty 7 hS ?_ | refine d_tn 7 hS ?_); (first | refine d_tx 8 hS ?_ | refine d_ty 8 hS ?_ | refine d_tn 8 hS ?_); (first | refine d_tx 9 hS ?_ | refine d_ty 9 hS ?_ | refine d_tn 9 hS ?_); (first | refine d_tx 10 hS ?_ | refine d_ty 10 hS ?_ | refine d_tn 10 hS ?_); (first | refine d_tx 11 hS ?_ | refine d_ty 11 hS ?_ | refine d_tn 11 hS ?_); (first | refine d_tx 12 hS ?_ | refine d_ty 12 hS ?_ | refine d_tn 12 hS ?_); (first | refine d_tx 13 hS ?_ | refine d_ty 13 hS ?_ | refine d_tn 13 hS ?_); (first | refine d_tx 14 hS ?_ | refine d_ty 14 hS ?_ | refine d_tn 14 hS ?_); (first | refine d_tx 15 hS ?_ | refine d_ty 15 hS ?_ | refine d_tn 15 hS ?_); (first | refine d_tx 16 hS ?_ | refine d_ty 16 hS ?_ | refine d_tn 16 hS ?_); (first | refine d_tx 17 hS ?_ | refine d_ty 17 hS ?_ | refine d_tn 17 hS ?_); (first | refine d_tx 18 hS ?_ | refine d_ty 18 hS ?_ | refine d_tn 18 hS ?_); (first | refine d_tx 19 hS ?_ | refine d_ty 19 hS ?_ | refine d_tn 19 hS ?_); (first | refine d_tx 20 hS ?_ | refine d_ty 20 hS ?_ | refine d_tn 20 hS ?_); (first | refine d_tx 21 hS ?_ | refine d_ty 21 hS ?_ | refine d_tn 21 hS ?_); (first | refine d_tx 22 hS ?_ | refine d_ty 22 hS ?_ | refine d_tn 22 hS ?_); (first | refine d_tx 23 hS ?_ | refine d_ty 23 hS ?_ | refine d_tn 23 hS ?_); (first | refine d_tx 24 hS ?_ | refine d_ty 24 hS ?_ | refine d_tn 24 hS ?_); (first | refine d_tx 25 hS ?_ | refine d_ty 25 hS ?_ | refine d_tn 25 hS ?_); (first | refine d_tx 26 hS ?_ | refine d_ty 26 hS ?_ | refine d_tn 26 hS ?_); (first | refine d_tx 27 hS ?_ | refine d_ty 27 hS ?_ | refine d_tn 27 hS ?_))
  (apply d_yes (i := 28); exact rfl; exact rfl; kernel_rfl; kernel_rfl; kernel_rfl; (intro u hu; exact (r_conv rfl rfl)); exact hS)
  ((first | refine d_tx 29 hS ?_ | refine d_ty 29 hS ?_ | refine d_tn 29 hS ?_); (first | refine d_tx 30 hS ?_ | refine d_ty 30 hS ?_ | refine d_tn 30 hS ?_); (first | refine d_tx 31 hS ?_ | refine d_ty 31 hS ?_ | refine d_tn 31 hS ?_); (first | refine d_tx 32 hS ?_ | refine d_ty 32 hS ?_ | refine d_tn 32 hS ?_))
  (apply d_yes (i := 33); exact rfl; exact rfl; kernel_rfl; kernel_rfl; kernel_rfl; (intro u hu; exact (r_conv rfl rfl)); exact hS)
  (apply d_yes (i := 34); exact rfl; exact rfl; kernel_rfl; kernel_rfl; kernel_rfl; (intro u hu; exact (r_sub rfl rfl hdf)); exact hS)
  by_cases h4 : x.hi - x.lo ≥ 1099511627776
  · have e0 : numsN x = false := by unfold numsN; rw [decide_eq_false (by omega)]; rfl
    rw [e0]
    ((first | refine d_tx 35 hS ?_ | refine d_ty 35 hS ?_ | refine d_tn 35 hS ?_); (first | refine d_tx 36 hS ?_ | refine d_ty 36 hS ?_ | refine d_tn 36 hS ?_))
    (refine d_done (by kernel_rfl) ?_)
    refine rx ?_
    (apply ret1; exact rfl; (conv => lhs; whnf))
    exact ⟨rfl, hS⟩
  ((first | refine d_tx 35 hS ?_ | refine d_ty 35 hS ?_ | refine d_tn 35 hS ?_); (first | refine d_tx 36 hS ?_ | refine d_ty 36 hS ?_ | refine d_tn 36 hS ?_))
  (refine d_done (by kernel_rfl) ?_)
  have hcd := hc.tr0 hS
  have hw1 := hw.tr0 hS
  have e0 : numsN x = (x.ws.drop 0).all fun k => decide (1 ≤ k ∧ k ≤ 1000) := by unfold numsN; rw [decide_eq_true (by omega)]; rfl
  generalize w.drew = w1 at *
  refine rx ?_
  refine c_loopK 5 [4] (σ := Nat) (fun i g u => g 45 = .slice aw x.ws.length cw ∧ g 46 = .int .i64 x.ws.length ∧ g 47 = .int .i64 i ∧ i ≤ x.ws.length ∧ numsN x = ((x.ws.drop i).all fun k => decide (1 ≤ k ∧ k ≤ 1000)) ∧ w1 = u) (fun i => x.ws.length - i) 0 ⟨rfl, rfl, rfl, Nat.zero_le _, e0, rfl⟩ ?_
  rintro i g u ⟨h45, h46, h47, hi, hcc, rfl⟩
  rw [eq_upd h45, eq_upd h46, eq_upd h47]
  by_cases hlt : i < x.ws.length
  case neg =>
    refine rx ?_
    (apply ret1; exact rfl; (conv => lhs; whnf))
    refine ⟨?_, hS⟩
    rw [hcc, List.drop_eq_nil_of_le (by omega)]; rfl
  obtain ⟨ad, rfl, hcell⟩ := Ls.at hw1 hlt
  rw [all_dropI hlt] at hcc
  refine rx ?_
  rw [Nat.mul_one]
  refine s_load rfl hcell ?_
  by_cases hr : 1 ≤ x.ws[i] ∧ x.ws[i] ≤ 1000
  · obtain ⟨hr1, hr2⟩ := hr
    refine rx ?_
    exact q_roundK (i + 1) (by (repeat (first | exact Keep.mrg _ _ _ _ | (refine Keep.hi rfl ?_) | (refine Keep.one rfl ?_) | exact Keep.all rfl | (refine Keep.inn rfl ?_) | (refine Keep.set rfl ?_)))) ⟨rfl, rfl, rfl, by omega, (by rw [hcc, decide_eq_true ⟨hr1, hr2⟩]; simp), rfl⟩ (by omega)
  · (refine rx ?_; repeat' ((first | refine s_eql rfl rfl (fun h => ?_) (fun h => ?_) | refine s_neq rfl rfl (fun h => ?_) (fun h => ?_) | refine s_lss rfl rfl (fun h => ?_) (fun h => ?_) | refine s_leq rfl rfl (fun h => ?_) (fun h => ?_) | refine s_gtr rfl rfl (fun h => ?_) (fun h => ?_) | refine s_geq rfl rfl (fun h => ?_) (fun h => ?_) | refine s_eqlE rfl rfl (fun h => ?_) (fun h => ?_) | refine s_neqE rfl rfl (fun h => ?_) (fun h => ?_) | refine s_lssS rfl rfl (fun h => ?_) (fun h => ?_) | refine s_gtrS rfl rfl (fun h => ?_) (fun h => ?_)) <;> refine rx ?_))
    all_goals
      (apply ret1; exact rfl; (conv => lhs; whnf))
      refine ⟨?_, hS⟩
      rw [hcc, decide_eq_false hr]; rfl

/-! ### values.Size -/
def sstep (s : Int) (v : V) (d : Int) : Int × Bool := (IntKind.i64.wrap (s + 1), true)
mutual
theorem walk_size : ∀ (v : V) (n : Int) (d : Int), 0 ≤ n → n + vsz v ≤ 1000000000000000 → walkV sstep n v d = (n + vsz v, true)
  | ⟨k, t, s, ks⟩, n, d, h0, h1 => by
    rw [walkV_eq]
    have hs := vsz_eq ⟨k, t, s, ks⟩
    have hw : IntKind.i64.wrap (n + 1) = n + 1 := IntWalk.i64_in _ (by omega)
    simp only [sstep, hw]
    rw [walks_size ks (n + 1) (d + 1) (by omega) (by simp only at hs; omega), hs]
    simp only [Prod.mk.injEq, and_true]
    omega
theorem walks_size : ∀ (l : List V) (n : Int) (d : Int), 0 ≤ n → n + vszs l ≤ 1000000000000000 → walkVs sstep n l d = (n + vszs l, true)
  | [], n, d, h0, h1 => by simp [walkVs, vszs]
  | v :: l, n, d, h0, h1 => by
    simp only [vszs] at h1
    simp only [walkVs, vszs]
    rw [walk_size v n d h0 (by omega)]
    simp only
    rw [walks_size l (n + vsz v) d (by omega) (by omega)]
    simp only [Prod.mk.injEq, and_true]
    omega
end
theorem size1 (bn : Nat) (v : V) (sl : Value) (d : Int) (w : World) (s : Int) (hk : Blk w bn [.int .i64 s] 3) :
    Calls Tryz.prog 126 #[.agg (vc v sl).toArray, .int .i64 d, .pointer (some ⟨bn, 0, none⟩)] w fun e w' => e = .returned (.bool (sstep s v d).2) ∧ Blk w' bn [.int .i64 (sstep s v d).1] 3 ∧ Fr [bn] w w' := by
  have l1 := hk.lt
  refine enter Tryz.func126 rfl Tryz.ntmps126 rfl ?_
  refine rx ?_
  refine s_box rfl rfl (fun w1 hbv hf1 hs1 => ?_)
  have hb1' := hk.tr0 hf1
  refine rx ?_
  refine s_add rfl rfl rfl ?_
  ((with_reducible apply s_storeB); exact rfl; (conv => lhs; whnf); exact rfl; exact hb1'; exact rfl)
  intro w2 hb1'' hf2 hs2
  refine rx ?_
  (apply ret1; exact rfl; (conv => lhs; whnf))
  exact ⟨rfl, hb1'', (hf1.mono (by simp)).trans hf2 (by simp)⟩
theorem sizeP (v : V) (sl : Value) (w : World) (hv : VS w [] v.kids sl) (hn : VNm v) (hz : vsz v ≤ 10000000000000) :
    Calls Tryz.prog 90 #[.agg (vc v sl).toArray] w fun e w' => e = .returned (.int .i64 (vsz v)) ∧ Fr [] w w' := by
  refine enter Tryz.func90 rfl Tryz.ntmps90 rfl ?_
  refine rx ?_
  refine s_box rfl rfl (fun w1 hbv hf1 hs1 => ?_)
  refine rx ?_
  refine s_alloc rfl (fun w2 hb2 hf2 hs2 => ?_)
  ((with_reducible apply s_storeB); exact rfl; (conv => lhs; whnf); exact rfl; exact hb2; exact rfl)
  intro w3 hb3 hf3 hs3
  obtain ⟨N, hN⟩ : ∃ N, N = w1.heap.size := ⟨_, rfl⟩
  rw [← hN] at hb3 hf3 ⊢
  have hF : Fr [] w w3 := (hf1.trans0 hf2).trans hf3 (by simp; omega)
  have hbv' := (hbv.tr0 hf2).tr hf3 (by simp; omega)
  refine rx ?_
  refine s_makeFunc (a := []) (b := [.pointer (some ⟨N, 0, none⟩)]) rfl rfl ?_
  refine s_call (visit sstep [N] (fun u s => Blk u N [.int .i64 s] 3) 126 [.pointer (some ⟨N, 0, none⟩)]
    (fun u u' s h hf => h.tr0 hf) (fun u s h k hk => by have l1 := h.lt; simp at hk; omega)
    (fun v sl d u s hk hv hn => size1 N v sl d u s hk) v sl 0 w3 ((hv.off (S := [N]) (by simp; omega)).tr0 hF) hn hb3 (by omega)) rfl ?_
  rintro _ w4 ⟨rfl, hk4, hf4⟩
  refine ⟨_, rfl, ?_⟩
  rw [walk_size v 0 1 (by omega) (by omega)] at hk4
  simp only [Int.zero_add] at hk4
  refine rx ?_
  (apply ret1; exact rfl; (conv => lhs; whnf))
  exact ⟨rfl, hF.trans hf4 (by simp; omega)⟩
end Go.Proofs.YtpochcchekoonaaGreat
