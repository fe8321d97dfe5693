/-
  The law HistoryClients.
-/
import Derived.Test.YtcogpedfnnfnaaaHy
import Derived.Test.YtcogpedfnnfnaaaHd
namespace Go.Proofs.Ytcogpedfnnfnaaa
open Go.Rf Go.RowKit
set_option linter.unusedVariables false
set_option maxHeartbeats 8000000
attribute [local irreducible] Code.wp wpList Exit.then Exit.inBlock bodyPost A Calls execOp Addr.add

def ncr (l : List Ev) : Nat := l.countP (fun e => decide (e.kind = 2))
theorem ncr_filter (c : Int) (l : List Ev) : ncr (l.filter (prj c)) = ncr l := by
  unfold ncr
  rw [List.countP_filter]
  apply List.countP_congr
  intro e _
  simp only [prj, Bool.and_eq_true, decide_eq_true_eq]
  omega
theorem ncr_take {l : List Ev} {i : Nat} (h : i < l.length) : ncr (l.take (i + 1)) = ncr (l.take i) + if l[i].kind = 2 then 1 else 0 := by
  rw [List.take_succ_eq_append_getElem h]
  unfold ncr
  rw [List.countP_append]
  by_cases hk : l[i].kind = 2
  · simp [hk]
  · simp [hk]
theorem ncr_le (l : List Ev) (i : Nat) : ncr (l.take i) ≤ l.length := by
  unfold ncr
  have := List.countP_le_length (p := fun e : Ev => decide (e.kind = 2)) (l := l.take i)
  rw [List.length_take] at this; omega

set_option maxRecDepth 4000 in
theorem historyClients_walk (x : Value) (l : List Int) (q k0 : Int) (w : World) (hx : Src w x l.length (l.map (.int .i64))) (hl : ∀ n ∈ l, InI64 n) (hq : InI64 q) (hk0 : InI64 k0) :
    Calls Try.prog 6 #[x, .int .i64 q, .int .i64 k0] w fun e w' => e = .returned (.bool true) ∧ Fr [] w w' := by
  refine enter Try.func6 rfl Try.ntmps6 rfl ?_
  refine rx ?_
  refine s_call (around q 30 w hq.1 hq.2 (by omega)) rfl ?_
  rintro _ _ ⟨rfl, rfl⟩
  refine ⟨_, rfl, ?_⟩
  have hr := arnd_range (a := q) (m := 30) (by omega)
  obtain ⟨m, hm⟩ : ∃ m : Nat, arnd q 30 = (m : Int) := ⟨(arnd q 30).toNat, by omega⟩
  rw [hm] at hr ⊢
  refine s_call (historyC x l m w hx hl (by omega)) rfl ?_
  rintro _ u1 ⟨v1, rfl, ho1, hk1, hf1⟩
  refine ⟨_, rfl, ?_⟩
  have hlen := (genN_len l m).1
  have hval := gen_valid l (m := m) (by omega)
  have hok := gen_evOk l m
  have hall := (gen_ok l m).1
  have hnb : nbeg (genN l m).1 ≤ 16 := by rw [(gen_ok l m).2]; exact (genN_len l m).2
  generalize (genN l m).1 = L at ho1 hlen hval hok hall hnb
  refine rx ?_
  refine s_call (ownC L v1 u1 (ho1.sl evStab) (by omega)) rfl ?_
  rintro _ u2 ⟨v2, rfl, ho2, hk2, hf2⟩
  refine ⟨_, rfl, ?_⟩
  refine rx ?_
  have hL2 : EvS u2 L v2 := ho2.sl evStab
  refine s_call (opsC L v2 u2 hL2 hok (by omega)) rfl ?_
  rintro _ u3 ⟨v3, rfl, ho3, hk3, hf3⟩
  refine ⟨_, rfl, ?_⟩
  rw [hval, if_pos rfl] at ho3
  rw [hval]
  have hL3 : EvS u3 L v2 := EvS.tr0 hL2 hf3
  have hol := opsFrom_len L 0
  have hO3 : OpS u3 (opsFrom 0 L) v3 := ho3.sl opStab
  have hF3 : Fr [] w u3 := (hf1.trans0 hf2).trans0 hf3
  clear ho1 ho2 ho3 hk1 hk2 hk3 hL2
  obtain ⟨a2, c2, e, _⟩ := Sl.slice hL3
  subst e
  obtain ⟨a3, c3, e, _⟩ := Sl.slice hO3
  subst e
  refine rx ?_
  refine c_loopK 32 [10, 11, 12, 13, 14, 15, 16, 17, 18, 19] (σ := Nat) (fun i g u => g 10 = .int .i64 ((i : Int) - 1) ∧ i ≤ 6 ∧ Fr [] u3 u) (fun i => 6 - i) 0 ⟨rfl, by omega, Fr.refl _ _⟩ ?_
  rintro i g u ⟨h10, hi, hf⟩
  rw [eq_upd h10]
  by_cases hi6 : i < 6
  case neg =>
    refine rx ?_
    refine s_call (livesC u) rfl ?_
    rintro _ z ⟨rfl, hg⟩
    refine ⟨_, rfl, ?_⟩
    refine rx ?_
    (apply ret1; exact rfl; (conv => lhs; whnf))
    exact ⟨rfl, (hF3.trans0 hf).trans0 hg⟩
  obtain ⟨c, hc⟩ : ∃ c : Int, (i : Int) - 1 = c := ⟨_, rfl⟩
  rw [hc]
  refine rx ?_
  refine s_call (projC L _ c u (EvS.tr0 hL3 hf) (by omega)) rfl ?_
  rintro _ z1 ⟨r1, rfl, hp1, _, hg1⟩
  refine ⟨_, rfl, ?_⟩
  have hE1 : EvS z1 (L.filter (prj c)) r1 := hp1.sl evStab
  have hflen : (L.filter (prj c)).length ≤ L.length := List.length_filter_le _ _
  have hfok : ∀ e ∈ L.filter (prj c), EvOk e := fun e he => hok e (List.mem_filter.1 he).1
  have hfval := proj_valid c hall (by omega) hnb
  have hfcon := proj_conc c hall
  have hlike := proj_ops c L 0 0
  have hncr := ncr_filter c L
  have hol2 := opsFrom_len (L.filter (prj c)) 0
  generalize L.filter (prj c) = M at hE1 hflen hfok hfval hfcon hlike hncr hol2
  refine rx ?_
  refine s_call (opsC M r1 z1 hE1 hfok (by omega)) rfl ?_
  rintro _ z2 ⟨r2, rfl, hp2, _, hg2⟩
  refine ⟨_, rfl, ?_⟩
  rw [hfval, if_pos rfl] at hp2
  rw [hfval]
  have hB2 : OpS z2 (opsFrom 0 M) r2 := hp2.sl opStab
  have hBc : OcS z2 (opsFrom 0 M) r2 := OwnR.oc hp2
  generalize opsFrom 0 M = B at hB2 hBc hfcon hlike hol2
  refine rx ?_
  refine s_call (concurrentC B r2 z2 hBc (by omega)) rfl ?_
  rintro _ z3 ⟨r3, rfl, hp3, hg3, _⟩
  refine ⟨_, rfl, ?_⟩
  rw [hfcon] at hp3
  obtain ⟨a4, c4, e⟩ := hp3.slice
  rw [List.length_nil] at e
  subst e
  have hG3 : Fr [] u z3 := (hg1.trans0 hg2).trans0 hg3
  have hE3 : EvS z3 M r1 := EvS.tr0 hE1 (hg2.trans0 hg3)
  have hB3 : OpS z3 B r2 := OpS.tr0 hB2 hg3
  obtain ⟨a5, c5, e, _⟩ := Sl.slice hE3
  subst e
  obtain ⟨a6, c6, e, _⟩ := Sl.slice hB3
  subst e
  clear hE1 hB2 hBc hp1 hp2 hp3
  have hO : OpS z3 (opsFrom 0 L) (.slice a3 (opsFrom 0 L).length c3) := OpS.tr0 hO3 (hf.trans0 hG3)
  generalize opsFrom 0 L = O at hO hlike hol
  have hL' : EvS z3 L (.slice a2 L.length c2) := EvS.tr0 hL3 (hf.trans0 hG3)
  have hFz : Fr [] u3 z3 := hf.trans0 hG3
  refine rx ?_
  refine c_loopK 52 [14, 15] (σ := Nat × Value) (fun st g z => g 15 = .int .i64 st.1 ∧ g 14 = st.2 ∧ st.1 ≤ O.length ∧ OwnR z 55 10 OpR ((O.take st.1).filter (fun o => decide (o.client = c))) st.2 ∧ (∀ k ∈ blks st.2, z3.heap.size ≤ k) ∧ Fr [] z3 z)
    (fun st => O.length - st.1) (0, .slice none 0 0) ⟨rfl, rfl, Nat.zero_le _, OwnR.nil _ _ _ _, by simp [blks, Value.ownBlock], Fr.refl _ _⟩ ?_
  rintro ⟨j, v⟩ g z ⟨h15, h14, hj, ho, hk, hfz⟩
  simp only at h15 h14 hj ho hk
  rw [eq_upd h15, eq_upd h14]
  by_cases hjl : j < O.length
  case pos =>
    obtain ⟨ad, cs, rfl, ⟨sa, sr, rfl, ha, hr⟩, hcell3⟩ := Sl.at hO opLen hjl
    have hcell := hcell3.tr0 hfz
    have hstep : (O.take (j + 1)).filter (fun o => decide (o.client = c)) = (O.take j).filter (fun o => decide (o.client = c)) ++ if O[j].client = c then [O[j]] else [] := by
      rw [List.take_succ_eq_append_getElem hjl, List.filter_append]
      congr 1
      by_cases h : O[j].client = c
      · simp [h]
      · simp [h]
    have hfl : ((O.take j).filter (fun o => decide (o.client = c))).length ≤ O.length := by
      have := List.length_filter_le (fun o : Cl => decide (o.client = c)) (O.take j)
      rw [List.length_take] at this; omega
    by_cases hcl : O[j].client = c
    · rw [if_pos hcl] at hstep
      refine rx ?_
      have hrow : OpR z (blks v) O[j] (oc O[j] sa sr) := opStab.old (opStab.mono (S := []) ⟨sa, sr, rfl, ha, hr⟩ (fun b hb => .inr (hk b hb))) hfz (by simp)
      refine s_pushA (a := O[j]) (cs := oc O[j] sa sr) ho opStab rfl rfl rfl hrow rfl rfl rfl (by unfold maxLen; omega) (by omega) (fun v' z' ho' hf' hk' => ?_)
      have hsz := hfz.size
      refine rx ?_
      refine q_roundK (j + 1, v') (by (repeat (first | exact Keep.mrg _ _ _ _ | (refine Keep.hi rfl ?_) | (refine Keep.one rfl ?_) | exact Keep.all rfl | (refine Keep.inn rfl ?_) | (refine Keep.set rfl ?_)))) ⟨rfl, rfl, by simp only; omega, by simp only [hstep]; exact ho', fun k hm => ?_, hfz.trans hf' (fun k hm => .inr (hk k hm))⟩ (by simp only; omega)
      rcases hk' k hm with h | h
      · exact hk k h
      · omega
    · rw [if_neg hcl, List.append_nil] at hstep
      refine rx ?_
      exact q_roundK (j + 1, v) (by (repeat (first | exact Keep.mrg _ _ _ _ | (refine Keep.hi rfl ?_) | (refine Keep.one rfl ?_) | exact Keep.all rfl | (refine Keep.inn rfl ?_) | (refine Keep.set rfl ?_)))) ⟨rfl, rfl, by simp only; omega, by simp only [hstep]; exact ho, hk, hfz⟩ (by simp only; omega)
  rw [List.take_of_length_le (by omega)] at ho
  have hW : OpS z (O.filter (fun o => decide (o.client = c))) v := ho.sl opStab
  have hWl : (O.filter (fun o => decide (o.client = c))).length ≤ O.length := List.length_filter_le _ _
  generalize O.filter (fun o => decide (o.client = c)) = W at hW hlike hWl
  have hBW := hlike.len
  have hB : OpS z B (.slice a6 B.length c6) := OpS.tr0 hB3 hfz
  have hE : EvS z M (.slice a5 M.length c5) := EvS.tr0 hE3 hfz
  have hL4 : EvS z L (.slice a2 L.length c2) := EvS.tr0 hL' hfz
  obtain ⟨a7, c7, e, _⟩ := Sl.slice hW
  subst e
  have hFz' : Fr [] u3 z := hFz.trans0 hfz
  clear hO3 hO hL3 hL' hE3 hB3 ho hk
  refine rx ?_
  refine c_loopK 77 [16] (σ := Nat) (fun j g z' => g 16 = .int .i64 j ∧ j ≤ B.length ∧ Fr [] z z') (fun j => B.length - j) 0 ⟨rfl, Nat.zero_le _, Fr.refl _ _⟩ ?_
  rintro j g z' ⟨h16, hj, hfz2⟩
  rw [eq_upd h16]
  by_cases hjl : j < B.length
  case pos =>
    have hjw : j < W.length := by omega
    obtain ⟨ad, cs, rfl, ⟨sa, sr, rfl, ha, hr⟩, hcell⟩ := Sl.at (OpS.tr0 hB hfz2) opLen hjl
    obtain ⟨ad', cs, rfl, ⟨sa', sr', rfl, ha', hr'⟩, hcell'⟩ := Sl.at (OpS.tr0 hW hfz2) opLen hjw
    obtain ⟨aa, ca, e, _⟩ := ha.slice
    subst e
    obtain ⟨aa', ca', e, _⟩ := ha'.slice
    subst e
    have hal := hlike.get j hjl hjw
    have hn := hal.name
    have hag : B[j].args.length = W[j].args.length := by rw [hal.args]
    have hfin : decide (B[j].fin < 0) = decide (W[j].fin < 0) := by simp only [hal.fin]
    have hlost : decide (B[j].lost < 0) = decide (W[j].lost < 0) := by simp only [hal.lost]
    refine rx ?_
    (refine d_begin (fun y => Fr [] z' y) (by kernel_rfl) rfl ?_)
    have hS : Fr [] z' z'.drew := Fr.drew _ _
    ((first | refine d_tx 0 hS ?_ | refine d_ty 0 hS ?_ | refine d_tn 0 hS ?_); (first | refine d_tx 1 hS ?_ | refine d_ty 1 hS ?_ | refine d_tn 1 hS ?_); (first | refine d_tx 2 hS ?_ | refine d_ty 2 hS ?_ | refine d_tn 2 hS ?_); (first | refine d_tx 3 hS ?_ | refine d_ty 3 hS ?_ | refine d_tn 3 hS ?_); (first | refine d_tx 4 hS ?_ | refine d_ty 4 hS ?_ | refine d_tn 4 hS ?_); (first | refine d_tx 5 hS ?_ | refine d_ty 5 hS ?_ | refine d_tn 5 hS ?_); (first | refine d_tx 6 hS ?_ | refine d_ty 6 hS ?_ | refine d_tn 6 hS ?_); (first | refine d_tx 7 hS ?_ | refine d_ty 7 hS ?_ | refine d_tn 7 hS ?_); (first | refine d_tx 8 hS ?_ | refine d_ty 8 hS ?_ | refine d_tn 8 hS ?_); (first | refine d_tx 9 hS ?_ | refine d_ty 9 hS ?_ | refine d_tn 9 hS ?_))
    (apply d_take (i := 10); exact rfl; kernel_rfl; kernel_rfl; kernel_rfl; (intro u hu; exact (r_neqE (p := false) rfl rfl (by simp [hn]))); exact hS)
    ((first | refine d_tx 11 hS ?_ | refine d_ty 11 hS ?_ | refine d_tn 11 hS ?_); (first | refine d_tx 12 hS ?_ | refine d_ty 12 hS ?_ | refine d_tn 12 hS ?_); (first | refine d_tx 13 hS ?_ | refine d_ty 13 hS ?_ | refine d_tn 13 hS ?_); (first | refine d_tx 14 hS ?_ | refine d_ty 14 hS ?_ | refine d_tn 14 hS ?_); (first | refine d_tx 15 hS ?_ | refine d_ty 15 hS ?_ | refine d_tn 15 hS ?_); (first | refine d_tx 16 hS ?_ | refine d_ty 16 hS ?_ | refine d_tn 16 hS ?_); (first | refine d_tx 17 hS ?_ | refine d_ty 17 hS ?_ | refine d_tn 17 hS ?_); (first | refine d_tx 18 hS ?_ | refine d_ty 18 hS ?_ | refine d_tn 18 hS ?_); (first | refine d_tx 19 hS ?_ | refine d_ty 19 hS ?_ | refine d_tn 19 hS ?_); (first | refine d_tx 20 hS ?_ | refine d_ty 20 hS ?_ | refine d_tn 20 hS ?_); (first | refine d_tx 21 hS ?_ | refine d_ty 21 hS ?_ | refine d_tn 21 hS ?_); (first | refine d_tx 22 hS ?_ | refine d_ty 22 hS ?_ | refine d_tn 22 hS ?_); (first | refine d_tx 23 hS ?_ | refine d_ty 23 hS ?_ | refine d_tn 23 hS ?_); (first | refine d_tx 24 hS ?_ | refine d_ty 24 hS ?_ | refine d_tn 24 hS ?_); (first | refine d_tx 25 hS ?_ | refine d_ty 25 hS ?_ | refine d_tn 25 hS ?_); (first | refine d_tx 26 hS ?_ | refine d_ty 26 hS ?_ | refine d_tn 26 hS ?_); (first | refine d_tx 27 hS ?_ | refine d_ty 27 hS ?_ | refine d_tn 27 hS ?_); (first | refine d_tx 28 hS ?_ | refine d_ty 28 hS ?_ | refine d_tn 28 hS ?_); (first | refine d_tx 29 hS ?_ | refine d_ty 29 hS ?_ | refine d_tn 29 hS ?_); (first | refine d_tx 30 hS ?_ | refine d_ty 30 hS ?_ | refine d_tn 30 hS ?_); (first | refine d_tx 31 hS ?_ | refine d_ty 31 hS ?_ | refine d_tn 31 hS ?_); (first | refine d_tx 32 hS ?_ | refine d_ty 32 hS ?_ | refine d_tn 32 hS ?_); (first | refine d_tx 33 hS ?_ | refine d_ty 33 hS ?_ | refine d_tn 33 hS ?_); (first | refine d_tx 34 hS ?_ | refine d_ty 34 hS ?_ | refine d_tn 34 hS ?_); (first | refine d_tx 35 hS ?_ | refine d_ty 35 hS ?_ | refine d_tn 35 hS ?_); (first | refine d_tx 36 hS ?_ | refine d_ty 36 hS ?_ | refine d_tn 36 hS ?_))
    refine d_one (i := 37) rfl (by kernel_rfl) ?_
    refine g_yes rfl ?_
    refine s_call (compareV B[j].res W[j].res sr sr' _ (hr.tr0 hS) (hr'.tr0 hS)) rfl ?_
    rintro _ y1 ⟨rfl, hfy⟩
    refine ⟨_, rfl, ?_⟩
    rw [hal.res, cmpV_self]
    have hS1 := hS.trans0 hfy
    refine wpList_nil (q_held hS1 ?_)
    ((first | refine d_tx 38 hS1 ?_ | refine d_ty 38 hS1 ?_ | refine d_tn 38 hS1 ?_); (first | refine d_tx 39 hS1 ?_ | refine d_ty 39 hS1 ?_ | refine d_tn 39 hS1 ?_); (first | refine d_tx 40 hS1 ?_ | refine d_ty 40 hS1 ?_ | refine d_tn 40 hS1 ?_); (first | refine d_tx 41 hS1 ?_ | refine d_ty 41 hS1 ?_ | refine d_tn 41 hS1 ?_); (first | refine d_tx 42 hS1 ?_ | refine d_ty 42 hS1 ?_ | refine d_tn 42 hS1 ?_); (first | refine d_tx 43 hS1 ?_ | refine d_ty 43 hS1 ?_ | refine d_tn 43 hS1 ?_); (first | refine d_tx 44 hS1 ?_ | refine d_ty 44 hS1 ?_ | refine d_tn 44 hS1 ?_); (first | refine d_tx 45 hS1 ?_ | refine d_ty 45 hS1 ?_ | refine d_tn 45 hS1 ?_))
    (apply d_yes (i := 46); exact rfl; exact rfl; kernel_rfl; kernel_rfl; kernel_rfl; (intro u hu; exact (r_lss rfl rfl rfl)); exact hS1)
    ((first | refine d_tx 47 hS1 ?_ | refine d_ty 47 hS1 ?_ | refine d_tn 47 hS1 ?_); (first | refine d_tx 48 hS1 ?_ | refine d_ty 48 hS1 ?_ | refine d_tn 48 hS1 ?_); (first | refine d_tx 49 hS1 ?_ | refine d_ty 49 hS1 ?_ | refine d_tn 49 hS1 ?_); (first | refine d_tx 50 hS1 ?_ | refine d_ty 50 hS1 ?_ | refine d_tn 50 hS1 ?_); (first | refine d_tx 51 hS1 ?_ | refine d_ty 51 hS1 ?_ | refine d_tn 51 hS1 ?_))
    (apply d_yes (i := 52); exact rfl; exact rfl; kernel_rfl; kernel_rfl; kernel_rfl; (intro u hu; exact (r_lss rfl rfl rfl)); exact hS1)
    (apply d_yes (i := 53); exact rfl; exact rfl; kernel_rfl; kernel_rfl; kernel_rfl; (intro u hu; exact (r_neqB (p := false) Try.underlying4 rfl rfl (by simp [hfin]))); exact hS1)
    ((first | refine d_tx 54 hS1 ?_ | refine d_ty 54 hS1 ?_ | refine d_tn 54 hS1 ?_); (first | refine d_tx 55 hS1 ?_ | refine d_ty 55 hS1 ?_ | refine d_tn 55 hS1 ?_); (first | refine d_tx 56 hS1 ?_ | refine d_ty 56 hS1 ?_ | refine d_tn 56 hS1 ?_); (first | refine d_tx 57 hS1 ?_ | refine d_ty 57 hS1 ?_ | refine d_tn 57 hS1 ?_); (first | refine d_tx 58 hS1 ?_ | refine d_ty 58 hS1 ?_ | refine d_tn 58 hS1 ?_); (first | refine d_tx 59 hS1 ?_ | refine d_ty 59 hS1 ?_ | refine d_tn 59 hS1 ?_); (first | refine d_tx 60 hS1 ?_ | refine d_ty 60 hS1 ?_ | refine d_tn 60 hS1 ?_))
    (apply d_yes (i := 61); exact rfl; exact rfl; kernel_rfl; kernel_rfl; kernel_rfl; (intro u hu; exact (r_lss rfl rfl rfl)); exact hS1)
    ((first | refine d_tx 62 hS1 ?_ | refine d_ty 62 hS1 ?_ | refine d_tn 62 hS1 ?_); (first | refine d_tx 63 hS1 ?_ | refine d_ty 63 hS1 ?_ | refine d_tn 63 hS1 ?_); (first | refine d_tx 64 hS1 ?_ | refine d_ty 64 hS1 ?_ | refine d_tn 64 hS1 ?_); (first | refine d_tx 65 hS1 ?_ | refine d_ty 65 hS1 ?_ | refine d_tn 65 hS1 ?_); (first | refine d_tx 66 hS1 ?_ | refine d_ty 66 hS1 ?_ | refine d_tn 66 hS1 ?_))
    (apply d_yes (i := 67); exact rfl; exact rfl; kernel_rfl; kernel_rfl; kernel_rfl; (intro u hu; exact (r_lss rfl rfl rfl)); exact hS1)
    (apply d_yes (i := 68); exact rfl; exact rfl; kernel_rfl; kernel_rfl; kernel_rfl; (intro u hu; exact (r_neqB (p := false) Try.underlying4 rfl rfl (by simp [hlost]))); exact hS1)
    ((first | refine d_tx 69 hS1 ?_ | refine d_ty 69 hS1 ?_ | refine d_tn 69 hS1 ?_))
    (refine d_done (by kernel_rfl) ?_)
    refine rx ?_
    exact q_roundK (j + 1) (by (repeat (first | exact Keep.mrg _ _ _ _ | (refine Keep.hi rfl ?_) | (refine Keep.one rfl ?_) | exact Keep.all rfl | (refine Keep.inn rfl ?_) | (refine Keep.set rfl ?_)))) ⟨rfl, by omega, hfz2.trans0 hS1⟩ (by omega)
  have hE5 : EvS z' M (.slice a5 M.length c5) := EvS.tr0 hE hfz2
  have hL5 : EvS z' L (.slice a2 L.length c2) := EvS.tr0 hL4 hfz2
  have hFz5 : Fr [] u3 z' := hFz'.trans0 hfz2
  clear hE hL4 hB hW
  refine rx ?_
  refine c_loopK 153 [17, 18] (σ := Nat) (fun j g y => g 17 = .int .i64 (ncr (L.take j)) ∧ g 18 = .int .i64 j ∧ j ≤ L.length ∧ Fr [] z' y) (fun j => L.length - j) 0 ⟨rfl, rfl, Nat.zero_le _, Fr.refl _ _⟩ ?_
  rintro j g y ⟨h17, h18, hj, hfy⟩
  rw [eq_upd h17, eq_upd h18]
  have hnl := ncr_le L j
  by_cases hjl : j < L.length
  case pos =>
    obtain ⟨ad, cs, rfl, ⟨sa, sr, rfl, ha, hr⟩, hcell⟩ := Sl.at (EvS.tr0 hL5 hfy) evLen hjl
    have hn := ncr_take hjl
    by_cases hk2 : L[j].kind = 2
    · rw [if_pos hk2] at hn
      refine rx ?_
      exact q_roundK (j + 1) (by (repeat (first | exact Keep.mrg _ _ _ _ | (refine Keep.hi rfl ?_) | (refine Keep.one rfl ?_) | exact Keep.all rfl | (refine Keep.inn rfl ?_) | (refine Keep.set rfl ?_)))) ⟨by rw [hn]; rfl, rfl, by omega, hfy⟩ (by omega)
    · rw [if_neg hk2] at hn
      refine rx ?_
      exact q_roundK (j + 1) (by (repeat (first | exact Keep.mrg _ _ _ _ | (refine Keep.hi rfl ?_) | (refine Keep.one rfl ?_) | exact Keep.all rfl | (refine Keep.inn rfl ?_) | (refine Keep.set rfl ?_)))) ⟨by rw [hn]; rfl, rfl, by omega, hfy⟩ (by omega)
  have hE6 : EvS y M (.slice a5 M.length c5) := EvS.tr0 hE5 hfy
  have hFz6 : Fr [] u3 y := hFz5.trans0 hfy
  have hnL : ncr (L.take j) = ncr M := by rw [List.take_of_length_le (by omega)]; exact hncr.symm
  rw [hnL] at hnl ⊢
  clear hE5 hL5
  have h00 : ((ncr M : Nat) : Int) = (ncr M : Int) - ncr (M.take 0) := by simp [ncr]
  refine rx ?_
  refine c_loopK 167 [17, 19] (σ := Nat) (fun j g y' => g 17 = .int .i64 ((ncr M : Int) - ncr (M.take j)) ∧ g 19 = .int .i64 j ∧ j ≤ M.length ∧ Fr [] y y') (fun j => M.length - j) 0 ⟨congrArg (Value.int .i64) h00, rfl, Nat.zero_le _, Fr.refl _ _⟩ ?_
  rintro j g y' ⟨h17, h19, hj, hfy2⟩
  rw [eq_upd h17, eq_upd h19]
  have hnl2 := ncr_le M j
  by_cases hjl : j < M.length
  case pos =>
    obtain ⟨ad, cs, rfl, ⟨sa, sr, rfl, ha, hr⟩, hcell⟩ := Sl.at (EvS.tr0 hE6 hfy2) evLen hjl
    have hn := ncr_take hjl
    by_cases hk2 : M[j].kind = 2
    · rw [if_pos hk2] at hn
      have hst : (ncr M : Int) - ncr (M.take j) - 1 = (ncr M : Int) - ncr (M.take (j + 1)) := by rw [hn]; omega
      refine rx ?_
      exact q_roundK (j + 1) (by (repeat (first | exact Keep.mrg _ _ _ _ | (refine Keep.hi rfl ?_) | (refine Keep.one rfl ?_) | exact Keep.all rfl | (refine Keep.inn rfl ?_) | (refine Keep.set rfl ?_)))) ⟨congrArg (Value.int .i64) hst, rfl, by omega, hfy2⟩ (by omega)
    · rw [if_neg hk2] at hn
      refine rx ?_
      exact q_roundK (j + 1) (by (repeat (first | exact Keep.mrg _ _ _ _ | (refine Keep.hi rfl ?_) | (refine Keep.one rfl ?_) | exact Keep.all rfl | (refine Keep.inn rfl ?_) | (refine Keep.set rfl ?_)))) ⟨by rw [hn]; rfl, rfl, by omega, hfy2⟩ (by omega)
  have hcs : c + 1 = ((i + 1 : Nat) : Int) - 1 := by omega
  have hz0 : (ncr M : Int) - ncr (M.take j) = 0 := by rw [List.take_of_length_le (by omega)]; omega
  refine rx ?_
  exact q_roundK (i + 1) (by (repeat (first | exact Keep.mrg _ _ _ _ | (refine Keep.hi rfl ?_) | (refine Keep.one rfl ?_) | exact Keep.all rfl | (refine Keep.inn rfl ?_) | (refine Keep.set rfl ?_)))) ⟨congrArg (Value.int .i64) hcs, by omega, hFz6.trans0 hfy2⟩ (by omega)
end Go.Proofs.Ytcogpedfnnfnaaa
