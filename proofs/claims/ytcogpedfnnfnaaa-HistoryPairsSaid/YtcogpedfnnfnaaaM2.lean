/-
  The law HistoryPairs.
-/
import Derived.Test.YtcogpedfnnfnaaaHc
namespace Go.Proofs.Ytcogpedfnnfnaaa
open Go.Rf Go.RowKit
set_option linter.unusedVariables false
set_option maxHeartbeats 4000000
attribute [local irreducible] Code.wp wpList Exit.then Exit.inBlock bodyPost A Calls execOp Addr.add

theorem prLen {w : World} {S : List Nat} : ∀ x cs, PR w S x cs → cs.length = 2 := by rintro x _ rfl; rfl
set_option maxRecDepth 4000 in
theorem historyPairs_walk (x : Value) (l : List Int) (q : Int) (w : World) (hx : Src w x l.length (l.map (.int .i64))) (hl : ∀ n ∈ l, InI64 n) (hq : InI64 q) :
    Calls Try.prog 5 #[x, .int .i64 q] w fun e w' => e = .returned (.bool true) ∧ Fr [] w w' := by
  refine enter Try.func5 rfl Try.ntmps5 rfl ?_
  refine rx ?_
  refine s_call (around q 30 w hq.1 hq.2 (by omega)) rfl ?_
  rintro _ _ ⟨rfl, rfl⟩
  refine ⟨_, rfl, ?_⟩
  have hd := arnd_range (a := q) (m := 30) (by omega)
  obtain ⟨m, hm⟩ : ∃ m : Nat, arnd q 30 = (m : Int) := ⟨(arnd q 30).toNat, by omega⟩
  rw [hm] at hd ⊢
  refine s_call (historyC x l m w hx hl (by omega)) rfl ?_
  rintro _ u1 ⟨v1, rfl, ho1, hk1, hf1⟩
  refine ⟨_, rfl, ?_⟩
  have hlen := (genN_len l m).1
  have hval := gen_valid l (m := m) (by omega)
  have hok := gen_evOk l m
  generalize (genN l m).1 = L at ho1 hlen hval hok
  refine rx ?_
  refine s_call (ownC L v1 u1 (ho1.sl evStab) (by omega)) rfl ?_
  rintro _ u2 ⟨v2, rfl, ho2, hk2, hf2⟩
  refine ⟨_, rfl, ?_⟩
  refine s_call (opsC L v2 u2 (ho2.sl evStab) hok (by omega)) rfl ?_
  rintro _ u3 ⟨v3, rfl, ho3, hk3, hf3⟩
  refine ⟨_, rfl, ?_⟩
  rw [hval, if_pos rfl] at ho3
  rw [hval]
  refine rx ?_
  refine s_call (opsR L v1 u3 (EvS.tr0 (ho1.sl evStab) (hf2.trans0 hf3)) hok (by omega)) rfl ?_
  rintro _ u4 ⟨v4, rfl, ho4, hk4, hf4⟩
  refine ⟨_, rfl, ?_⟩
  rw [hval, if_pos rfl] at ho4
  rw [hval]
  have hol := opsFrom_len L 0
  generalize opsFrom 0 L = O at ho3 ho4 hol
  have hc3 : OcS u4 O v3 := OcS.tr0 (OwnR.oc ho3) hf4
  have hc4 : OcS u4 O v4 := OwnR.oc ho4
  obtain ⟨a3, c3, e3⟩ := ho3.slice
  obtain ⟨a4, c4, e4⟩ := ho4.slice
  subst e3 e4
  have hF4 : Fr [] w u4 := ((hf1.trans0 hf2).trans0 hf3).trans0 hf4
  clear ho3 ho4 hk1 hk2 hk3 hk4
  refine rx ?_
  refine s_call (concurrentC O _ u4 hc3 (by omega)) rfl ?_
  rintro _ u5 ⟨v5, rfl, ho5, hf5, hk5⟩
  refine ⟨_, rfl, ?_⟩
  refine rx ?_
  refine s_call (concurrentR O _ u5 (hc4.tr0 hf5) (by omega)) rfl ?_
  rintro _ u6 ⟨v6, rfl, ho6, hf6, hk6⟩
  refine ⟨_, rfl, ?_⟩
  obtain ⟨a5, c5, e5⟩ := ho5.slice
  obtain ⟨a6, c6, e6⟩ := ho6.slice
  subst e5 e6
  have hs5 := (ho5.tr0 prStab hf6).sl prStab
  have hs6 := ho6.sl prStab
  have hcl : (conc O).length ≤ 1001000 := by
    have h1 := cO_len O O.length
    have h3 : O.length * O.length ≤ 1000 * 1000 := Nat.mul_le_mul (by omega) (by omega)
    unfold conc; omega
  generalize conc O = C at hs5 hs6 hcl
  have hF6 : Fr [] w u6 := (hF4.trans0 hf5).trans0 hf6
  have hc3' := OcS.tr0 hc3 (hf5.trans0 hf6)
  have hc4' := OcS.tr0 hc4 (hf5.trans0 hf6)
  refine rx ?_
  refine c_loopK 15 [12] (σ := Nat) (fun i g u => g 12 = .int .i64 i ∧ i ≤ C.length ∧ Fr [] u6 u) (fun i => C.length - i) 0 ⟨rfl, Nat.zero_le _, Fr.refl _ _⟩ ?_
  rintro i g u ⟨h12, hi, hf⟩
  rw [eq_upd h12]
  by_cases hil : i < C.length
  case pos =>
    obtain ⟨ad, cs, rfl, rfl, hcw⟩ := Sl.at (Sl.tr0 hs5 hf) prLen hil
    obtain ⟨ad', cs, rfl, rfl, hcw'⟩ := Sl.at (Sl.tr0 hs6 hf) prLen hil
    refine rx ?_
    (refine d_begin (fun z => Fr [] u z) (by kernel_rfl) rfl ?_)
    have hS : Fr [] u u.drew := Fr.drew _ _
    ((first | refine d_tx 0 hS ?_ | refine d_ty 0 hS ?_ | refine d_tn 0 hS ?_); (first | refine d_tx 1 hS ?_ | refine d_ty 1 hS ?_ | refine d_tn 1 hS ?_); (first | refine d_tx 2 hS ?_ | refine d_ty 2 hS ?_ | refine d_tn 2 hS ?_); (first | refine d_tx 3 hS ?_ | refine d_ty 3 hS ?_ | refine d_tn 3 hS ?_); (first | refine d_tx 4 hS ?_ | refine d_ty 4 hS ?_ | refine d_tn 4 hS ?_); (first | refine d_tx 5 hS ?_ | refine d_ty 5 hS ?_ | refine d_tn 5 hS ?_); (first | refine d_tx 6 hS ?_ | refine d_ty 6 hS ?_ | refine d_tn 6 hS ?_); (first | refine d_tx 7 hS ?_ | refine d_ty 7 hS ?_ | refine d_tn 7 hS ?_))
    (apply d_take (i := 8); exact rfl; kernel_rfl; kernel_rfl; kernel_rfl; (intro u hu; exact (r_neqA (p := false) (by kernel_rfl) Try.underlying3 rfl rfl (by simp))); exact hS)
    (refine d_done (by kernel_rfl) ?_)
    refine rx ?_
    exact q_roundK (i + 1) (by (repeat (first | exact Keep.mrg _ _ _ _ | (refine Keep.hi rfl ?_) | (refine Keep.one rfl ?_) | exact Keep.all rfl | (refine Keep.inn rfl ?_) | (refine Keep.set rfl ?_)))) ⟨rfl, by omega, hf.trans0 hS⟩ (by omega)
  refine rx ?_
  refine c_loopK 15 [13, 14] (σ := Nat) (fun i g u' => g 13 = .int .i64 i ∧ i ≤ O.length ∧ Fr [] u6 u') (fun i => O.length - i) 0 ⟨rfl, Nat.zero_le _, hf⟩ ?_
  rintro i g u ⟨h13, hi, hf⟩
  rw [eq_upd h13]
  by_cases hil : i < O.length
  case neg =>
    refine rx ?_
    refine s_call (livesC u) rfl ?_
    rintro _ u7 ⟨rfl, hf7⟩
    refine ⟨_, rfl, ?_⟩
    refine rx ?_
    (apply ret1; exact rfl; (conv => lhs; whnf))
    exact ⟨rfl, (hF6.trans0 hf).trans0 hf7⟩
  obtain ⟨ad, cs, rfl, ⟨sa, sr, rfl, _, _⟩, hcw⟩ := Sl.at hc3' ocLen hil
  obtain ⟨bd, cs, rfl, ⟨sb, ss, rfl, _, _⟩, hdw⟩ := Sl.at hc4' ocLen hil
  refine rx ?_
  refine c_loopK 73 [14] (σ := Nat) (fun j g u' => g 14 = .int .i64 j ∧ j ≤ O.length ∧ Fr [] u6 u') (fun j => O.length - j) 0 ⟨rfl, Nat.zero_le _, hf⟩ ?_
  rintro j g u ⟨h14, hj, hf⟩
  rw [eq_upd h14]
  by_cases hjl : j < O.length
  case neg =>
    refine rx ?_
    exact q_roundK (i + 1) (by (repeat (first | exact Keep.mrg _ _ _ _ | (refine Keep.hi rfl ?_) | (refine Keep.one rfl ?_) | exact Keep.all rfl | (refine Keep.inn rfl ?_) | (refine Keep.set rfl ?_)))) ⟨rfl, by omega, hf⟩ (by omega)
  obtain ⟨adj, cs, e, ⟨saj, srj, rfl, _, _⟩, hcjw⟩ := Sl.at hc3' ocLen hjl
  simp only [Option.some.injEq] at e
  subst e
  obtain ⟨bdj, cs, e, ⟨sbj, ssj, rfl, _, _⟩, hdjw⟩ := Sl.at hc4' ocLen hjl
  simp only [Option.some.injEq] at e
  subst e
  have h1 := hcw.tr0 hf
  have h2 := hcjw.tr0 hf
  have h3 := hdw.tr0 hf
  have h4 := hdjw.tr0 hf
  refine rx ?_
  (refine d_begin (fun z => Fr [] u z) (by kernel_rfl) rfl ?_)
  have hS : Fr [] u u.drew := Fr.drew _ _
  ((first | refine d_tx 0 hS ?_ | refine d_ty 0 hS ?_ | refine d_tn 0 hS ?_); (first | refine d_tx 1 hS ?_ | refine d_ty 1 hS ?_ | refine d_tn 1 hS ?_); (first | refine d_tx 2 hS ?_ | refine d_ty 2 hS ?_ | refine d_tn 2 hS ?_); (first | refine d_tx 3 hS ?_ | refine d_ty 3 hS ?_ | refine d_tn 3 hS ?_); (first | refine d_tx 4 hS ?_ | refine d_ty 4 hS ?_ | refine d_tn 4 hS ?_); (first | refine d_tx 5 hS ?_ | refine d_ty 5 hS ?_ | refine d_tn 5 hS ?_); (first | refine d_tx 6 hS ?_ | refine d_ty 6 hS ?_ | refine d_tn 6 hS ?_); (first | refine d_tx 7 hS ?_ | refine d_ty 7 hS ?_ | refine d_tn 7 hS ?_))
  ((first | refine d_tx 9 hS ?_ | refine d_ty 9 hS ?_ | refine d_tn 9 hS ?_); (first | refine d_tx 10 hS ?_ | refine d_ty 10 hS ?_ | refine d_tn 10 hS ?_); (first | refine d_tx 11 hS ?_ | refine d_ty 11 hS ?_ | refine d_tn 11 hS ?_); (first | refine d_tx 12 hS ?_ | refine d_ty 12 hS ?_ | refine d_tn 12 hS ?_); (first | refine d_tx 13 hS ?_ | refine d_ty 13 hS ?_ | refine d_tn 13 hS ?_); (first | refine d_tx 14 hS ?_ | refine d_ty 14 hS ?_ | refine d_tn 14 hS ?_); (first | refine d_tx 15 hS ?_ | refine d_ty 15 hS ?_ | refine d_tn 15 hS ?_); (first | refine d_tx 16 hS ?_ | refine d_ty 16 hS ?_ | refine d_tn 16 hS ?_))
  refine d_one (i := 8) rfl (by kernel_rfl) ?_
  refine s_call (beforeC O[i] O[j] sa sr saj srj _) rfl ?_
  rintro _ u7 ⟨rfl, hf7⟩
  refine ⟨_, rfl, ?_⟩
  have hS7 := hS.trans0 hf7
  refine wpList_nil (q_held hS7 ?_)
  refine d_one (i := 17) rfl (by kernel_rfl) ?_
  refine s_call (beforeR O[i] O[j] sb ss sbj ssj _) rfl ?_
  rintro _ u8 ⟨rfl, hf8⟩
  refine ⟨_, rfl, ?_⟩
  have hS8 := hS7.trans0 hf8
  refine wpList_nil (q_held hS8 ?_)
  (apply d_take (i := 18); exact rfl; kernel_rfl; kernel_rfl; kernel_rfl; (intro u hu; exact (r_neqB (p := false) Try.underlying4 rfl rfl (by simp))); exact hS8)
  (refine d_done (by kernel_rfl) ?_)
  refine rx ?_
  exact q_roundK (j + 1) (by (repeat (first | exact Keep.mrg _ _ _ _ | (refine Keep.hi rfl ?_) | (refine Keep.one rfl ?_) | exact Keep.all rfl | (refine Keep.inn rfl ?_) | (refine Keep.set rfl ?_)))) ⟨rfl, by omega, hf.trans0 hS8⟩ (by omega)
end Go.Proofs.Ytcogpedfnnfnaaa
