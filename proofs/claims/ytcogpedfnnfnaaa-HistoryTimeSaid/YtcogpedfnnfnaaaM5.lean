/-
  The law HistoryTime.
-/
import Derived.Test.YtcogpedfnnfnaaaHh
namespace Go.Proofs.Ytcogpedfnnfnaaa
open Go.Rf Go.RowKit
set_option linter.unusedVariables false
set_option maxHeartbeats 8000000
attribute [local irreducible] Code.wp wpList Exit.then Exit.inBlock bodyPost A Calls execOp Addr.add

set_option maxRecDepth 4000 in
theorem historyTime_walk (x : Value) (l : List Int) (q : Int) (w : World) (hx : Src w x l.length (l.map (.int .i64))) (hl : ∀ n ∈ l, InI64 n) (hq : InI64 q) :
    Calls Try.prog 8 #[x, .int .i64 q] w fun e w' => e = .returned (.bool true) ∧ Fr [] w w' := by
  refine enter Try.func8 rfl Try.ntmps8 rfl ?_
  refine rx ?_
  refine s_call (around q 24 w hq.1 hq.2 (by omega)) rfl ?_
  rintro _ _ ⟨rfl, rfl⟩
  refine ⟨_, rfl, ?_⟩
  have hr := arnd_range (a := q) (m := 24) (by omega)
  obtain ⟨m, hm⟩ : ∃ m : Nat, arnd q 24 = (m : Int) := ⟨(arnd q 24).toNat, by omega⟩
  rw [hm] at hr ⊢
  refine s_call (historyC x l m w hx hl (by omega)) rfl ?_
  rintro _ u1 ⟨v1, rfl, ho1, hk1, hf1⟩
  refine ⟨_, rfl, ?_⟩
  have hlen := (genN_len l m).1
  have hval := gen_valid l (m := m) (by omega)
  have hok := gen_evOk l m
  generalize (genN l m).1 = L at ho1 hlen hval hok
  refine s_call (ownC L v1 u1 (ho1.sl evStab) (by omega)) rfl ?_
  rintro _ u2 ⟨v2, rfl, ho2, hk2, hf2⟩
  refine ⟨_, rfl, ?_⟩
  refine s_call (opsC L v2 u2 (ho2.sl evStab) hok (by omega)) rfl ?_
  rintro _ u3 ⟨v3, rfl, ho3, hk3, hf3⟩
  refine ⟨_, rfl, ?_⟩
  rw [hval, if_pos rfl] at ho3
  rw [hval]
  have hol := opsFrom_len L 0
  have hti := timed_ops L
  generalize opsFrom 0 L = O at ho3 hol hti
  have hO : OcS u3 O v3 := OwnR.oc ho3
  obtain ⟨a3, c3, e3⟩ := ho3.slice
  subst e3
  have hF3 : Fr [] w u3 := (hf1.trans0 hf2).trans0 hf3
  clear ho3 hk1 hk2 hk3
  refine rx ?_
  refine c_loopK 23 [7, 8, 9, 10, 11] (σ := Nat × Value) (fun st g u => g 8 = .int .i64 st.1 ∧ g 7 = st.2 ∧ st.1 ≤ O.length ∧ Own u 3 1 st.2 st.1 ((upTo st.1).map (.int .i64)) ∧ (∀ k ∈ blks st.2, u3.heap.size ≤ k) ∧ Fr [] u3 u) (fun st => O.length - st.1) (0, .slice none 0 0) ⟨rfl, rfl, Nat.zero_le _, Own.nil _ _ _, by simp [blks, Value.ownBlock], Fr.refl _ _⟩ ?_
  rintro ⟨i, va⟩ g u ⟨h8, h7, hi, hva, hka, hf⟩
  simp only at h8 h7 hi hva hka
  rw [eq_upd h8, eq_upd h7]
  by_cases hil : i < O.length
  case neg =>
    have : i = O.length := by omega
    subst this
    have hsrc := hva.src
    obtain ⟨aa, ca, e⟩ := hva.slice
    subst e
    refine rx ?_
    refine s_call (linC O _ (upTo O.length) _ u (OcS.tr0 hO hf) (by rw [upTo_len]; exact hsrc) (by omega) (by rw [upTo_len]; omega)) rfl ?_
    rintro _ z ⟨b, rfl, hb, hg⟩
    refine ⟨_, rfl, ?_⟩
    have hbt : b = true := hb.2 (lin_upTo hti)
    subst hbt
    refine rx ?_
    refine s_call (livesC z) rfl ?_
    rintro _ z2 ⟨rfl, hg2⟩
    refine ⟨_, rfl, ?_⟩
    refine rx ?_
    (apply ret1; exact rfl; (conv => lhs; whnf))
    exact ⟨rfl, ((hF3.trans0 hf).trans0 hg).trans0 hg2⟩
  refine rx ?_
  refine s_buildS [.int .i64 i] rfl rfl rfl rfl (fun z0 hoz0 hfz0 hsz0 => ?_)
  refine s_append (hva.tr0 hfz0) rfl hoz0.src rfl rfl (by simp [Value.oneCell']) (by unfold maxLen; omega) (by omega) (fun v' z hv' hfz1 hkz0 _ => ?_)
  have hfz : Fr (blks va) u z := (hfz0.mono (by simp)).trans hfz1 (fun b hb => .inl hb)
  have hkz : ∀ b ∈ blks v', b ∈ blks va ∨ u.heap.size ≤ b := fun b hb => by
    rcases hkz0 b hb with h | h
    · exact .inl h
    · right; omega
  have hv2 : Own z 3 1 v' (i + 1) ((upTo (i + 1)).map (.int .i64)) := by rw [upTo_succ, List.map_append]; exact hv'
  have hsz := hf.size
  have hk2 : ∀ k ∈ blks v', u3.heap.size ≤ k := fun k hm => by
    rcases hkz k hm with h | h
    · exact hka k h
    · omega
  have hfz' : Fr [] u3 z := hf.trans hfz (fun k hm => .inr (hka k hm))
  obtain ⟨ad, cs, rfl, ⟨sa, sr, rfl, _, _⟩, hci⟩ := Sl.at hO ocLen hil
  have hciz := hci.tr0 hfz'
  have hself := bef_self (hti.late i hil)
  refine rx ?_
  (refine d_begin (fun y => Fr [] z y) (by kernel_rfl) rfl ?_)
  have hS : Fr [] z z.drew := Fr.drew _ _
  ((first | refine d_tx 0 hS ?_ | refine d_ty 0 hS ?_ | refine d_tn 0 hS ?_); (first | refine d_tx 1 hS ?_ | refine d_ty 1 hS ?_ | refine d_tn 1 hS ?_); (first | refine d_tx 2 hS ?_ | refine d_ty 2 hS ?_ | refine d_tn 2 hS ?_); (first | refine d_tx 3 hS ?_ | refine d_ty 3 hS ?_ | refine d_tn 3 hS ?_); (first | refine d_tx 4 hS ?_ | refine d_ty 4 hS ?_ | refine d_tn 4 hS ?_); (first | refine d_tx 5 hS ?_ | refine d_ty 5 hS ?_ | refine d_tn 5 hS ?_); (first | refine d_tx 6 hS ?_ | refine d_ty 6 hS ?_ | refine d_tn 6 hS ?_); (first | refine d_tx 7 hS ?_ | refine d_ty 7 hS ?_ | refine d_tn 7 hS ?_))
  refine d_one (i := 8) rfl (by kernel_rfl) ?_
  refine s_call (beforeC O[i] O[i] sa sr sa sr _) rfl ?_
  rintro _ z2 ⟨rfl, hg2⟩
  refine ⟨_, rfl, ?_⟩
  rw [hself]
  have hS2 := hS.trans0 hg2
  refine wpList_nil (q_held hS2 ?_)
  (refine d_done (by kernel_rfl) ?_)
  have hfz2 : Fr [] u3 z2 := hfz'.trans0 hS2
  have hv3 := hv2.tr0 hS2
  clear hciz
  refine rx ?_
  refine c_loopK 42 [9, 10, 11] (σ := Nat) (fun j g u => g 9 = .int .i64 j ∧ j ≤ O.length ∧ Fr [] z2 u) (fun j => O.length - j) 0 ⟨rfl, Nat.zero_le _, Fr.refl _ _⟩ ?_
  rintro j g y ⟨h9, hj, hfy⟩
  rw [eq_upd h9]
  by_cases hjl : j < O.length
  case neg =>
    refine rx ?_
    exact q_roundK (i + 1, v') (by (repeat (first | exact Keep.mrg _ _ _ _ | (refine Keep.hi rfl ?_) | (refine Keep.one rfl ?_) | exact Keep.all rfl | (refine Keep.inn rfl ?_) | (refine Keep.set rfl ?_)))) ⟨rfl, rfl, by simp only; omega, hv3.tr0 hfy, hk2, hfz2.trans0 hfy⟩ (by simp only; omega)
  obtain ⟨adj, cs, e, ⟨saj, srj, rfl, _, _⟩, hcj⟩ := Sl.at hO ocLen hjl
  simp only [Option.some.injEq] at e
  subst e
  have hfy3 : Fr [] u3 y := hfz2.trans0 hfy
  have hciy := hci.tr0 hfy3
  have hcjy := hcj.tr0 hfy3
  refine rx ?_
  (refine d_begin (fun q => Fr [] y q) (by kernel_rfl) rfl ?_)
  have hT : Fr [] y y.drew := Fr.drew _ _
  ((first | refine d_tx 0 hT ?_ | refine d_ty 0 hT ?_ | refine d_tn 0 hT ?_); (first | refine d_tx 1 hT ?_ | refine d_ty 1 hT ?_ | refine d_tn 1 hT ?_); (first | refine d_tx 2 hT ?_ | refine d_ty 2 hT ?_ | refine d_tn 2 hT ?_); (first | refine d_tx 3 hT ?_ | refine d_ty 3 hT ?_ | refine d_tn 3 hT ?_); (first | refine d_tx 4 hT ?_ | refine d_ty 4 hT ?_ | refine d_tn 4 hT ?_); (first | refine d_tx 5 hT ?_ | refine d_ty 5 hT ?_ | refine d_tn 5 hT ?_); (first | refine d_tx 6 hT ?_ | refine d_ty 6 hT ?_ | refine d_tn 6 hT ?_); (first | refine d_tx 7 hT ?_ | refine d_ty 7 hT ?_ | refine d_tn 7 hT ?_))
  refine d_one (i := 8) rfl (by kernel_rfl) ?_
  refine s_call (beforeC O[i] O[j] sa sr saj srj _) rfl ?_
  rintro _ y2 ⟨rfl, hgy⟩
  refine ⟨_, rfl, ?_⟩
  have hT2 := hT.trans0 hgy
  refine wpList_nil (q_held hT2 ?_)
  cases hij : bef O[i] O[j]
  case false =>
    ((first | refine d_tx 9 hT2 ?_ | refine d_ty 9 hT2 ?_ | refine d_tn 9 hT2 ?_))
    (refine d_done (by kernel_rfl) ?_)
    refine rx ?_
    exact q_roundK (j + 1) (by (repeat (first | exact Keep.mrg _ _ _ _ | (refine Keep.hi rfl ?_) | (refine Keep.one rfl ?_) | exact Keep.all rfl | (refine Keep.inn rfl ?_) | (refine Keep.set rfl ?_)))) ⟨rfl, by omega, hfy.trans0 hT2⟩ (by omega)
  ((first | refine d_tx 9 hT2 ?_ | refine d_ty 9 hT2 ?_ | refine d_tn 9 hT2 ?_))
  (refine d_done (by kernel_rfl) ?_)
  clear hciy hcjy
  have hfy2 : Fr [] u3 y2 := hfy3.trans0 hT2
  refine rx ?_
  refine c_loopK 58 [10, 11] (σ := Nat) (fun k g u => g 10 = .int .i64 k ∧ k ≤ O.length ∧ Fr [] y2 u) (fun k => O.length - k) 0 ⟨rfl, Nat.zero_le _, Fr.refl _ _⟩ ?_
  rintro k g p ⟨h10, hk, hfp⟩
  rw [eq_upd h10]
  by_cases hkl : k < O.length
  case neg =>
    refine rx ?_
    exact q_roundK (j + 1) (by (repeat (first | exact Keep.mrg _ _ _ _ | (refine Keep.hi rfl ?_) | (refine Keep.one rfl ?_) | exact Keep.all rfl | (refine Keep.inn rfl ?_) | (refine Keep.set rfl ?_)))) ⟨rfl, by omega, (hfy.trans0 hT2).trans0 hfp⟩ (by omega)
  obtain ⟨adk, cs, e, ⟨sak, srk, rfl, _, _⟩, hck⟩ := Sl.at hO ocLen hkl
  simp only [Option.some.injEq] at e
  subst e
  have hfp3 : Fr [] u3 p := hfy2.trans0 hfp
  have hcip := hci.tr0 hfp3
  have hcjp := hcj.tr0 hfp3
  have hckp := hck.tr0 hfp3
  refine rx ?_
  (refine d_begin (fun q => Fr [] p q) (by kernel_rfl) rfl ?_)
  have hU : Fr [] p p.drew := Fr.drew _ _
  ((first | refine d_tx 0 hU ?_ | refine d_ty 0 hU ?_ | refine d_tn 0 hU ?_); (first | refine d_tx 1 hU ?_ | refine d_ty 1 hU ?_ | refine d_tn 1 hU ?_); (first | refine d_tx 2 hU ?_ | refine d_ty 2 hU ?_ | refine d_tn 2 hU ?_); (first | refine d_tx 3 hU ?_ | refine d_ty 3 hU ?_ | refine d_tn 3 hU ?_); (first | refine d_tx 4 hU ?_ | refine d_ty 4 hU ?_ | refine d_tn 4 hU ?_); (first | refine d_tx 5 hU ?_ | refine d_ty 5 hU ?_ | refine d_tn 5 hU ?_); (first | refine d_tx 6 hU ?_ | refine d_ty 6 hU ?_ | refine d_tn 6 hU ?_); (first | refine d_tx 7 hU ?_ | refine d_ty 7 hU ?_ | refine d_tn 7 hU ?_))
  refine d_one (i := 8) rfl (by kernel_rfl) ?_
  refine s_call (beforeC O[j] O[k] saj srj sak srk _) rfl ?_
  rintro _ p2 ⟨rfl, hgp⟩
  refine ⟨_, rfl, ?_⟩
  have hU2 := hU.trans0 hgp
  refine wpList_nil (q_held hU2 ?_)
  obtain ⟨bjk, hjk⟩ : ∃ b, bef O[j] O[k] = b := ⟨_, rfl⟩
  rw [hjk]
  cases bjk
  case' false =>
    ((first | refine d_tx 9 hU2 ?_ | refine d_ty 9 hU2 ?_ | refine d_tn 9 hU2 ?_); (first | refine d_tx 10 hU2 ?_ | refine d_ty 10 hU2 ?_ | refine d_tn 10 hU2 ?_); (first | refine d_tx 11 hU2 ?_ | refine d_ty 11 hU2 ?_ | refine d_tn 11 hU2 ?_); (first | refine d_tx 12 hU2 ?_ | refine d_ty 12 hU2 ?_ | refine d_tn 12 hU2 ?_); (first | refine d_tx 13 hU2 ?_ | refine d_ty 13 hU2 ?_ | refine d_tn 13 hU2 ?_); (first | refine d_tx 14 hU2 ?_ | refine d_ty 14 hU2 ?_ | refine d_tn 14 hU2 ?_); (first | refine d_tx 15 hU2 ?_ | refine d_ty 15 hU2 ?_ | refine d_tn 15 hU2 ?_); (first | refine d_tx 16 hU2 ?_ | refine d_ty 16 hU2 ?_ | refine d_tn 16 hU2 ?_); (first | refine d_tx 17 hU2 ?_ | refine d_ty 17 hU2 ?_ | refine d_tn 17 hU2 ?_); (first | refine d_tx 18 hU2 ?_ | refine d_ty 18 hU2 ?_ | refine d_tn 18 hU2 ?_); (first | refine d_tx 19 hU2 ?_ | refine d_ty 19 hU2 ?_ | refine d_tn 19 hU2 ?_); (first | refine d_tx 20 hU2 ?_ | refine d_ty 20 hU2 ?_ | refine d_tn 20 hU2 ?_))
    (refine d_done (by kernel_rfl) ?_)
    clear hcip hcjp hckp
    have hp2 : Fr [] u3 p2 := hfp3.trans0 hU2
    have hpp : Fr [] p p2 := hU2
  case' true =>
    have hik : bef O[i] O[k] = true := bef_trans (hti.late j hjl) hij hjk
    ((first | refine d_tx 9 hU2 ?_ | refine d_ty 9 hU2 ?_ | refine d_tn 9 hU2 ?_); (first | refine d_tx 10 hU2 ?_ | refine d_ty 10 hU2 ?_ | refine d_tn 10 hU2 ?_); (first | refine d_tx 11 hU2 ?_ | refine d_ty 11 hU2 ?_ | refine d_tn 11 hU2 ?_); (first | refine d_tx 12 hU2 ?_ | refine d_ty 12 hU2 ?_ | refine d_tn 12 hU2 ?_); (first | refine d_tx 13 hU2 ?_ | refine d_ty 13 hU2 ?_ | refine d_tn 13 hU2 ?_); (first | refine d_tx 14 hU2 ?_ | refine d_ty 14 hU2 ?_ | refine d_tn 14 hU2 ?_); (first | refine d_tx 15 hU2 ?_ | refine d_ty 15 hU2 ?_ | refine d_tn 15 hU2 ?_); (first | refine d_tx 16 hU2 ?_ | refine d_ty 16 hU2 ?_ | refine d_tn 16 hU2 ?_); (first | refine d_tx 17 hU2 ?_ | refine d_ty 17 hU2 ?_ | refine d_tn 17 hU2 ?_))
    refine d_one (i := 18) rfl (by kernel_rfl) ?_
    refine g_yes rfl ?_
    refine s_call (beforeC O[i] O[k] sa sr sak srk _) rfl ?_
    rintro _ p4 ⟨rfl, hgp4⟩
    refine ⟨_, rfl, ?_⟩
    rw [hik]
    have hU4 := hU2.trans0 hgp4
    refine wpList_nil (q_held hU4 ?_)
    ((first | refine d_tx 19 hU4 ?_ | refine d_ty 19 hU4 ?_ | refine d_tn 19 hU4 ?_); (first | refine d_tx 20 hU4 ?_ | refine d_ty 20 hU4 ?_ | refine d_tn 20 hU4 ?_))
    (refine d_done (by kernel_rfl) ?_)
    clear hcip hcjp hckp
    have hp2 : Fr [] u3 p4 := hfp3.trans0 hU4
    have hpp : Fr [] p p4 := hU4
  all_goals
    refine rx ?_
    refine c_loopK 85 [11] (σ := Nat) (fun m g u => g 11 = .int .i64 m ∧ m ≤ O.length ∧ Fr [] p u) (fun m => O.length - m) 0 ⟨rfl, Nat.zero_le _, hpp⟩ ?_
    rintro m g s ⟨h11, hm, hfs⟩
    rw [eq_upd h11]
    by_cases hml : m < O.length
    case neg =>
      refine rx ?_
      exact q_roundK (k + 1) (by (repeat (first | exact Keep.mrg _ _ _ _ | (refine Keep.hi rfl ?_) | (refine Keep.one rfl ?_) | exact Keep.all rfl | (refine Keep.inn rfl ?_) | (refine Keep.set rfl ?_)))) ⟨rfl, by omega, hfp.trans0 hfs⟩ (by omega)
    obtain ⟨adm, cs, e, ⟨sam, srm, rfl, _, _⟩, hcm⟩ := Sl.at hO ocLen hml
    simp only [Option.some.injEq] at e
    subst e
    have hfs3 : Fr [] u3 s := hfp3.trans0 hfs
    have hcis := hci.tr0 hfs3
    have hcjs := hcj.tr0 hfs3
    have hcks := hck.tr0 hfs3
    have hcms := hcm.tr0 hfs3
    refine rx ?_
    (refine d_begin (fun q => Fr [] s q) (by kernel_rfl) rfl ?_)
    have hV : Fr [] s s.drew := Fr.drew _ _
    ((first | refine d_tx 0 hV ?_ | refine d_ty 0 hV ?_ | refine d_tn 0 hV ?_); (first | refine d_tx 1 hV ?_ | refine d_ty 1 hV ?_ | refine d_tn 1 hV ?_); (first | refine d_tx 2 hV ?_ | refine d_ty 2 hV ?_ | refine d_tn 2 hV ?_); (first | refine d_tx 3 hV ?_ | refine d_ty 3 hV ?_ | refine d_tn 3 hV ?_); (first | refine d_tx 4 hV ?_ | refine d_ty 4 hV ?_ | refine d_tn 4 hV ?_); (first | refine d_tx 5 hV ?_ | refine d_ty 5 hV ?_ | refine d_tn 5 hV ?_); (first | refine d_tx 6 hV ?_ | refine d_ty 6 hV ?_ | refine d_tn 6 hV ?_); (first | refine d_tx 7 hV ?_ | refine d_ty 7 hV ?_ | refine d_tn 7 hV ?_))
    refine d_one (i := 8) rfl (by kernel_rfl) ?_
    refine s_call (beforeC O[k] O[m] sak srk sam srm _) rfl ?_
    rintro _ s2 ⟨rfl, hgs⟩
    refine ⟨_, rfl, ?_⟩
    have hV2 := hV.trans0 hgs
    refine wpList_nil (q_held hV2 ?_)
    obtain ⟨bkm, hkm⟩ : ∃ b, bef O[k] O[m] = b := ⟨_, rfl⟩
    rw [hkm]
    cases bkm
    case false =>
      ((first | refine d_tx 9 hV2 ?_ | refine d_ty 9 hV2 ?_ | refine d_tn 9 hV2 ?_); (first | refine d_tx 10 hV2 ?_ | refine d_ty 10 hV2 ?_ | refine d_tn 10 hV2 ?_); (first | refine d_tx 11 hV2 ?_ | refine d_ty 11 hV2 ?_ | refine d_tn 11 hV2 ?_); (first | refine d_tx 12 hV2 ?_ | refine d_ty 12 hV2 ?_ | refine d_tn 12 hV2 ?_); (first | refine d_tx 13 hV2 ?_ | refine d_ty 13 hV2 ?_ | refine d_tn 13 hV2 ?_); (first | refine d_tx 14 hV2 ?_ | refine d_ty 14 hV2 ?_ | refine d_tn 14 hV2 ?_); (first | refine d_tx 15 hV2 ?_ | refine d_ty 15 hV2 ?_ | refine d_tn 15 hV2 ?_); (first | refine d_tx 16 hV2 ?_ | refine d_ty 16 hV2 ?_ | refine d_tn 16 hV2 ?_); (first | refine d_tx 17 hV2 ?_ | refine d_ty 17 hV2 ?_ | refine d_tn 17 hV2 ?_); (first | refine d_tx 18 hV2 ?_ | refine d_ty 18 hV2 ?_ | refine d_tn 18 hV2 ?_); (first | refine d_tx 19 hV2 ?_ | refine d_ty 19 hV2 ?_ | refine d_tn 19 hV2 ?_); (first | refine d_tx 20 hV2 ?_ | refine d_ty 20 hV2 ?_ | refine d_tn 20 hV2 ?_); (first | refine d_tx 21 hV2 ?_ | refine d_ty 21 hV2 ?_ | refine d_tn 21 hV2 ?_); (first | refine d_tx 22 hV2 ?_ | refine d_ty 22 hV2 ?_ | refine d_tn 22 hV2 ?_); (first | refine d_tx 23 hV2 ?_ | refine d_ty 23 hV2 ?_ | refine d_tn 23 hV2 ?_); (first | refine d_tx 24 hV2 ?_ | refine d_ty 24 hV2 ?_ | refine d_tn 24 hV2 ?_); (first | refine d_tx 25 hV2 ?_ | refine d_ty 25 hV2 ?_ | refine d_tn 25 hV2 ?_); (first | refine d_tx 26 hV2 ?_ | refine d_ty 26 hV2 ?_ | refine d_tn 26 hV2 ?_); (first | refine d_tx 27 hV2 ?_ | refine d_ty 27 hV2 ?_ | refine d_tn 27 hV2 ?_); (first | refine d_tx 28 hV2 ?_ | refine d_ty 28 hV2 ?_ | refine d_tn 28 hV2 ?_); (first | refine d_tx 29 hV2 ?_ | refine d_ty 29 hV2 ?_ | refine d_tn 29 hV2 ?_); (first | refine d_tx 30 hV2 ?_ | refine d_ty 30 hV2 ?_ | refine d_tn 30 hV2 ?_); (first | refine d_tx 31 hV2 ?_ | refine d_ty 31 hV2 ?_ | refine d_tn 31 hV2 ?_); (first | refine d_tx 32 hV2 ?_ | refine d_ty 32 hV2 ?_ | refine d_tn 32 hV2 ?_))
      (refine d_done (by kernel_rfl) ?_)
      refine rx ?_
      exact q_roundK (m + 1) (by (repeat (first | exact Keep.mrg _ _ _ _ | (refine Keep.hi rfl ?_) | (refine Keep.one rfl ?_) | exact Keep.all rfl | (refine Keep.inn rfl ?_) | (refine Keep.set rfl ?_)))) ⟨rfl, by omega, hfs.trans0 hV2⟩ (by omega)
    ((first | refine d_tx 9 hV2 ?_ | refine d_ty 9 hV2 ?_ | refine d_tn 9 hV2 ?_); (first | refine d_tx 10 hV2 ?_ | refine d_ty 10 hV2 ?_ | refine d_tn 10 hV2 ?_); (first | refine d_tx 11 hV2 ?_ | refine d_ty 11 hV2 ?_ | refine d_tn 11 hV2 ?_); (first | refine d_tx 12 hV2 ?_ | refine d_ty 12 hV2 ?_ | refine d_tn 12 hV2 ?_); (first | refine d_tx 13 hV2 ?_ | refine d_ty 13 hV2 ?_ | refine d_tn 13 hV2 ?_); (first | refine d_tx 14 hV2 ?_ | refine d_ty 14 hV2 ?_ | refine d_tn 14 hV2 ?_); (first | refine d_tx 15 hV2 ?_ | refine d_ty 15 hV2 ?_ | refine d_tn 15 hV2 ?_); (first | refine d_tx 16 hV2 ?_ | refine d_ty 16 hV2 ?_ | refine d_tn 16 hV2 ?_); (first | refine d_tx 17 hV2 ?_ | refine d_ty 17 hV2 ?_ | refine d_tn 17 hV2 ?_))
    refine d_one (i := 18) rfl (by kernel_rfl) ?_
    refine g_yes rfl ?_
    refine s_call (beforeC O[i] O[m] sa sr sam srm _) rfl ?_
    rintro _ s3 ⟨rfl, hgs3⟩
    refine ⟨_, rfl, ?_⟩
    have hV3 := hV2.trans0 hgs3
    refine wpList_nil (q_held hV3 ?_)
    obtain ⟨bim, him⟩ : ∃ b, bef O[i] O[m] = b := ⟨_, rfl⟩
    rw [him]
    cases bim
    case true =>
      ((first | refine d_tx 19 hV3 ?_ | refine d_ty 19 hV3 ?_ | refine d_tn 19 hV3 ?_); (first | refine d_tx 20 hV3 ?_ | refine d_ty 20 hV3 ?_ | refine d_tn 20 hV3 ?_); (first | refine d_tx 21 hV3 ?_ | refine d_ty 21 hV3 ?_ | refine d_tn 21 hV3 ?_); (first | refine d_tx 22 hV3 ?_ | refine d_ty 22 hV3 ?_ | refine d_tn 22 hV3 ?_); (first | refine d_tx 23 hV3 ?_ | refine d_ty 23 hV3 ?_ | refine d_tn 23 hV3 ?_); (first | refine d_tx 24 hV3 ?_ | refine d_ty 24 hV3 ?_ | refine d_tn 24 hV3 ?_); (first | refine d_tx 25 hV3 ?_ | refine d_ty 25 hV3 ?_ | refine d_tn 25 hV3 ?_); (first | refine d_tx 26 hV3 ?_ | refine d_ty 26 hV3 ?_ | refine d_tn 26 hV3 ?_); (first | refine d_tx 27 hV3 ?_ | refine d_ty 27 hV3 ?_ | refine d_tn 27 hV3 ?_); (first | refine d_tx 28 hV3 ?_ | refine d_ty 28 hV3 ?_ | refine d_tn 28 hV3 ?_); (first | refine d_tx 29 hV3 ?_ | refine d_ty 29 hV3 ?_ | refine d_tn 29 hV3 ?_); (first | refine d_tx 30 hV3 ?_ | refine d_ty 30 hV3 ?_ | refine d_tn 30 hV3 ?_); (first | refine d_tx 31 hV3 ?_ | refine d_ty 31 hV3 ?_ | refine d_tn 31 hV3 ?_); (first | refine d_tx 32 hV3 ?_ | refine d_ty 32 hV3 ?_ | refine d_tn 32 hV3 ?_))
      (refine d_done (by kernel_rfl) ?_)
      refine rx ?_
      exact q_roundK (m + 1) (by (repeat (first | exact Keep.mrg _ _ _ _ | (refine Keep.hi rfl ?_) | (refine Keep.one rfl ?_) | exact Keep.all rfl | (refine Keep.inn rfl ?_) | (refine Keep.set rfl ?_)))) ⟨rfl, by omega, hfs.trans0 hV3⟩ (by omega)
    have hkj : bef O[k] O[j] = true := bef_two hij hkm him
    ((first | refine d_tx 19 hV3 ?_ | refine d_ty 19 hV3 ?_ | refine d_tn 19 hV3 ?_); (first | refine d_tx 20 hV3 ?_ | refine d_ty 20 hV3 ?_ | refine d_tn 20 hV3 ?_); (first | refine d_tx 21 hV3 ?_ | refine d_ty 21 hV3 ?_ | refine d_tn 21 hV3 ?_); (first | refine d_tx 22 hV3 ?_ | refine d_ty 22 hV3 ?_ | refine d_tn 22 hV3 ?_); (first | refine d_tx 23 hV3 ?_ | refine d_ty 23 hV3 ?_ | refine d_tn 23 hV3 ?_); (first | refine d_tx 24 hV3 ?_ | refine d_ty 24 hV3 ?_ | refine d_tn 24 hV3 ?_); (first | refine d_tx 25 hV3 ?_ | refine d_ty 25 hV3 ?_ | refine d_tn 25 hV3 ?_); (first | refine d_tx 26 hV3 ?_ | refine d_ty 26 hV3 ?_ | refine d_tn 26 hV3 ?_); (first | refine d_tx 27 hV3 ?_ | refine d_ty 27 hV3 ?_ | refine d_tn 27 hV3 ?_); (first | refine d_tx 28 hV3 ?_ | refine d_ty 28 hV3 ?_ | refine d_tn 28 hV3 ?_); (first | refine d_tx 29 hV3 ?_ | refine d_ty 29 hV3 ?_ | refine d_tn 29 hV3 ?_))
    refine d_one (i := 30) rfl (by kernel_rfl) ?_
    refine g_yes rfl ?_
    refine s_call (beforeC O[k] O[j] sak srk saj srj _) rfl ?_
    rintro _ s4 ⟨rfl, hgs4⟩
    refine ⟨_, rfl, ?_⟩
    rw [hkj]
    have hV4 := hV3.trans0 hgs4
    refine wpList_nil (q_held hV4 ?_)
    ((first | refine d_tx 31 hV4 ?_ | refine d_ty 31 hV4 ?_ | refine d_tn 31 hV4 ?_); (first | refine d_tx 32 hV4 ?_ | refine d_ty 32 hV4 ?_ | refine d_tn 32 hV4 ?_))
    (refine d_done (by kernel_rfl) ?_)
    refine rx ?_
    exact q_roundK (m + 1) (by (repeat (first | exact Keep.mrg _ _ _ _ | (refine Keep.hi rfl ?_) | (refine Keep.one rfl ?_) | exact Keep.all rfl | (refine Keep.inn rfl ?_) | (refine Keep.set rfl ?_)))) ⟨rfl, by omega, hfs.trans0 hV4⟩ (by omega)
end Go.Proofs.Ytcogpedfnnfnaaa
