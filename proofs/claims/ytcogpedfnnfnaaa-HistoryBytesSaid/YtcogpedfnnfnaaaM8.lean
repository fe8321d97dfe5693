/-
  The law HistoryBytes.
-/
import Derived.Test.YtcogpedfnnfnaaaB6
namespace Go.Proofs.Ytcogpedfnnfnaaa
open Go.Rf Go.RowKit
set_option linter.unusedVariables false
set_option maxHeartbeats 16000000
attribute [local irreducible] Code.wp wpList Exit.then Exit.inBlock bodyPost A Calls execOp Addr.add

theorem few40 {rs : List Int} (h : Bys rs) : Bys (rs.take 40) ∧ (rs.take 40).length ≤ 1000000000 := ⟨h.take 40, by rw [List.length_take]; omega⟩
theorem src_take {w : World} {ao : Option Addr} {m c k : Nat} {ys : List Value} (h : Src w (.slice ao m c) m ys) (hk : k ≤ m) (hl : ys.length = m) : Src w (.slice ao k c) k (ys.take k) := by
  obtain ⟨ao', c', e, h1, h2, h3⟩ := h
  simp only [Value.slice.injEq] at e
  obtain ⟨rfl, _, rfl⟩ := e
  refine ⟨ao, c, rfl, by omega, fun hn => ?_, fun ad had j u hu => ?_⟩
  · obtain ⟨g1, g2, g3⟩ := h2 hn
    exact ⟨by omega, g2, by rw [g3]; simp⟩
  · rw [List.getElem?_take] at hu
    split at hu
    · exact h3 ad had j u hu
    · cases hu
theorem set_bys {bs : List Int} (h : Bys bs) {k : Nat} {c : Int} (hc : 0 ≤ c ∧ c < 256) : Bys (bs.set k c) := fun b hb => by
  rcases List.mem_or_eq_of_mem_set hb with h1 | h1
  · exact h b h1
  · rw [h1]; exact hc

set_option maxRecDepth 8000 in
theorem historyBytes_walk (x : Value) (l : List Int) (q a b n cb : Int) (xr : Value) (rs : List Int) (w : World) (hx : Src w x l.length (l.map (.int .i64))) (hl : ∀ n ∈ l, InI64 n) (hq : InI64 q) (ha : InI64 a) (hb : InI64 b) (hn : InI64 n) (hc : 0 ≤ cb ∧ cb < 256) (hxr : Src w xr rs.length (rs.map (.int .u8))) (hrs : Bys rs) :
    Calls Try.prog 10 #[x, .int .i64 q, .int .i64 a, .int .i64 b, .int .i64 n, .int .u8 cb, xr] w fun e w' => e = .returned (.bool true) ∧ Fr [] w w' := by
  refine enter Try.func10 rfl Try.ntmps10 rfl ?_
  refine rx ?_
  refine s_call (around q 20 w hq.1 hq.2 (by omega)) rfl ?_
  rintro _ _ ⟨rfl, rfl⟩
  refine ⟨_, rfl, ?_⟩
  have hr := arnd_range (a := q) (m := 20) (by omega)
  obtain ⟨m, hm⟩ : ∃ m : Nat, arnd q 20 = (m : Int) := ⟨(arnd q 20).toNat, by omega⟩
  rw [hm] at hr ⊢
  refine s_call (historyC x l m w hx hl (by omega)) rfl ?_
  rintro _ u1 ⟨v1, rfl, ho1, hk1, hf1⟩
  refine ⟨_, rfl, ?_⟩
  have hlen := (genN_len l m).1
  have hok := gen_evOk l m
  have har := gen_args l m
  have hin := gen_inE l m
  generalize (genN l m).1 = L at ho1 hlen hok har hin
  refine rx ?_
  refine s_call (spoiltC L v1 a b n u1 (ho1.sl evStab) (by omega) (fun e he => by have := har e he; omega) ha hb hn) rfl ?_
  rintro _ u2 ⟨v2, rfl, ho2, hk2, hf2⟩
  refine ⟨_, rfl, ?_⟩
  have hlen2 := spoilt_len L a b n
  have hok2 := spoilt_ok (a := a) (b := b) (c := n) hok
  have hin2 := spoilt_inE (a := a) (b := b) hn hin
  generalize spoilt L a b n = L2 at ho2 hlen2 hok2 hin2
  have hF2 : Fr [] w u2 := hf1.trans0 hf2
  have e1 : EvS u2 L v1 := EvS.tr0 (ho1.sl evStab) hf2
  have e2 : EvS u2 L2 v2 := ho2.sl evStab
  clear ho1 ho2 hk1 hk2
  obtain ⟨a1, c1, e, _⟩ := Sl.slice e1
  subst e
  obtain ⟨a2, c2, e, _⟩ := Sl.slice e2
  subst e
  refine s_buildS [.slice a1 L.length c1, .slice a2 L2.length c2] rfl rfl rfl rfl (fun u5 ho5 hf5 hs5 => ?_)
  obtain ⟨N5, hN5⟩ : ∃ N5, u2.heap.size = N5 := ⟨_, rfl⟩
  rw [hN5] at ho5 ⊢
  have hF5 := hF2.trans0 hf5
  have hall : ∀ i, i < 2 → ∃ M av cv, ([.slice a1 L.length c1, .slice a2 L2.length c2] : List Value)[i]? = some (.slice av M.length cv) ∧ EvS u5 M (.slice av M.length cv) ∧ M.length ≤ 22 ∧ (∀ e ∈ M, EvOk e) ∧ (∀ e ∈ M, InE e) := by
    intro i hi
    have : i = 0 ∨ i = 1 := by omega
    rcases this with rfl | rfl
    · exact ⟨L, _, _, rfl, e1.tr0 hf5, by omega, hok, hin⟩
    · exact ⟨L2, _, _, rfl, e2.tr0 hf5, by omega, hok2, hin2⟩
  clear e1 e2
  refine rx ?_
  refine c_loop (σ := Nat) (fun i g u => g 2 = .int .i64 a ∧ g 5 = .int .u8 cb ∧ g 6 = xr ∧ g 16 = .slice (some ⟨N5, 0, none⟩) 2 2 ∧ g 17 = .int .i64 i ∧ i ≤ 2 ∧ Fr [] u5 u) (fun i => 2 - i) 0 ⟨rfl, rfl, rfl, rfl, rfl, by omega, Fr.refl _ _⟩ ?_
  rintro i g u ⟨h2, h5, h6, h16, h17, hi, hf⟩
  rw [eq_upd h2, eq_upd h5, eq_upd h6, eq_upd h16, eq_upd h17]
  by_cases hi2 : i < 2
  case neg =>
    refine rx ?_
    refine s_build (vc V0 (.slice none 0 0)) rfl ?_
    refine s_build (vc V0 (.slice none 0 0)) rfl ?_
    refine s_call (compareR V0 V0 (.slice none 0 0) (.slice none 0 0) u (VS.nil _ _) (VS.nil _ _)) rfl ?_
    rintro _ z1 ⟨rfl, hg1⟩
    refine ⟨_, rfl, ?_⟩
    rw [cmpV_self]
    refine rx ?_
    refine s_call (livesC z1) rfl ?_
    rintro _ z2 ⟨rfl, hg2⟩
    refine ⟨_, rfl, ?_⟩
    refine rx ?_
    (apply ret1; exact rfl; (conv => lhs; whnf))
    exact ⟨rfl, ((hF5.trans0 hf).trans0 hg1).trans0 hg2⟩
  obtain ⟨M, av, cv, hv, heM, hMl, hMok, hMin⟩ := hall i hi2
  have hclA : ∀ q, Fr [] u5 q → q.cell? ((⟨N5, 0, none⟩ : Addr).add (i * 1)) = some (.slice av M.length cv) := fun q hq => by
    rw [Nat.mul_one]; exact src_cell (ho5.src.tr0 hq) hv
  refine rx ?_
  refine s_load rfl (hclA _ hf) ?_
  refine s_call (ownC M _ u (EvS.tr0 heM hf) (by omega)) rfl ?_
  rintro _ z1 ⟨r1, rfl, hp1, _, hg1⟩
  refine ⟨_, rfl, ?_⟩
  refine s_call (encodeHC M r1 z1 (hp1.sl evStab) hMok hMin (by omega)) rfl ?_
  rintro _ z2 ⟨vb, rfl, hob⟩
  refine ⟨_, rfl, ?_⟩
  have hG2 : Fr [] u5 z2 := (hf.trans0 hg1).trans0 hob.2.1
  refine rx ?_
  refine s_load rfl (hclA _ hG2) ?_
  refine s_call (encodeHR M _ z2 (EvS.tr0 heM hG2) hMok hMin (by omega)) rfl ?_
  rintro _ z3 ⟨vw, rfl, how⟩
  refine ⟨_, rfl, ?_⟩
  have hG3 : Fr [] u5 z3 := hG2.trans0 how.2.1
  have hlE : (encHO M).length ≤ 70400010 := by
    unfold encHO
    split
    · rename_i h; exact (encH_le h hMin).2
    · simp
  have hob3 : Own z3 5 1 vb (encHO M).length ((encHO M).map (.int .u8)) := hob.1.tr0 how.2.1
  refine rx ?_
  refine s_call (sameBytes vb vw (encHO M) (encHO M) z3 hob3.src how.1.src (by omega)) rfl ?_
  rintro _ z4 ⟨rfl, hg4⟩
  refine ⟨_, rfl, ?_⟩
  rw [decide_eq_true rfl]
  have hG4 : Fr [] u5 z4 := hG3.trans0 hg4
  have hob4 := hob3.tr0 hg4
  have hbk : ∀ k ∈ blks vb, u5.heap.size ≤ k := fun k hk => by have := hob.2.2 k hk; have := (hf.trans0 hg1).size; omega
  clear hob3 how hob
  by_cases hval : validH M = 0
  case neg =>
    refine rx ?_
    exact q_round (i + 1) ⟨rfl, rfl, rfl, rfl, rfl, by omega, hG4⟩ (by omega)
  unfold encHO at hlE hob4
  rw [if_pos hval] at hlE hob4
  have hdec := decH_enc hval hMin
  have hEB := encH_bys M
  have hEp := encH_pos M
  have hrd : rdI (encH M) 0 = ((M.length : Int), encEs M, 0) := rdI_small (by omega) _
  obtain ⟨ab, cbb, e⟩ := hob4.slice
  subst e
  generalize encH M = E at hlE hob4 hdec hEB hEp hrd
  rw [hval]
  refine rx ?_
  refine s_call (decodeHC _ E z4 hob4.src hEB (by omega)) rfl ?_
  rintro _ z5 ⟨vx, rfl, hox, _, hg5⟩
  refine ⟨_, rfl, ?_⟩
  rw [hdec] at hox ⊢
  simp only at hox
  refine rx ?_
  refine s_call (wRead _ E z5 (hob4.src.tr0 hg5) hEB (by omega)) rfl ?_
  rintro _ z6 ⟨pR, vR, rfl, hR6, hg6, hpR, _, _⟩
  refine ⟨_, rfl, ?_⟩
  have hG5 : Fr [] u5 z5 := hG4.trans0 hg5
  have hG6 : Fr [] u5 z6 := hG5.trans0 hg6
  have hs5' := hG5.size
  have hox6 := hox.tr0 evStab hg6
  have hob6 := (hob4.tr0 hg5).tr0 hg6
  have hNlt : N5 < u5.heap.size := by omega
  have hclR : ∀ q, Fr [pR] z6 q → q.cell? ((⟨N5, 0, none⟩ : Addr).add (i * 1)) = some (.slice av M.length cv) := fun q hq => hclA q (hG6.trans hq (by simp; omega))
  have hbz4 := hob4.lt
  have hs45 := hg5.size
  clear hox hob4
  refine rx ?_
  (refine d_begin (fun q => Fr [pR] z6 q) (by kernel_rfl) rfl ?_)
  have hS : Fr [pR] z6 z6.drew := Fr.drew _ _
  ((first | refine d_tx 0 hS ?_ | refine d_ty 0 hS ?_ | refine d_tn 0 hS ?_); (first | refine d_tx 1 hS ?_ | refine d_ty 1 hS ?_ | refine d_tn 1 hS ?_); (first | refine d_tx 2 hS ?_ | refine d_ty 2 hS ?_ | refine d_tn 2 hS ?_); (first | refine d_tx 3 hS ?_ | refine d_ty 3 hS ?_ | refine d_tn 3 hS ?_); (first | refine d_tx 5 hS ?_ | refine d_ty 5 hS ?_ | refine d_tn 5 hS ?_); (first | refine d_tx 6 hS ?_ | refine d_ty 6 hS ?_ | refine d_tn 6 hS ?_); (first | refine d_tx 7 hS ?_ | refine d_ty 7 hS ?_ | refine d_tn 7 hS ?_))
  (apply d_yes (i := 8); exact rfl; exact rfl; kernel_rfl; kernel_rfl; kernel_rfl; (intro u hu; exact (r_load rfl (hclR _ hu))); exact hS)
  refine d_one (i := 4) rfl (by kernel_rfl) ?_
  refine g_yes rfl ?_
  refine s_call (backC M vx z6.drew ((hox6.tr0 evStab (Fr.drew [] z6)).sl evStab) (by omega)) rfl ?_
  rintro _ z7 ⟨vy, rfl, hoy, _, hg7⟩
  refine ⟨_, rfl, ?_⟩
  have hS7 : Fr [pR] z6 z7 := hS.trans0 hg7
  have hF67 : Fr [] z6 z7 := (Fr.drew _ _).trans0 hg7
  refine wpList_nil (q_held hS7 ?_)
  refine d_one (i := 9) rfl (by kernel_rfl) ?_
  refine g_yes rfl ?_
  refine s_call (sameC M vy _ z7 (hoy.sl evStab) (EvS.tr0 heM (hG6.trans0 hF67)) (by omega)) rfl ?_
  rintro _ z8 ⟨rfl, hg8⟩
  refine ⟨_, rfl, ?_⟩
  have hS8 : Fr [pR] z6 z8 := hS7.trans0 hg8
  have hF68 : Fr [] z6 z8 := hF67.trans0 hg8
  refine wpList_nil (q_held hS8 ?_)
  ((first | refine d_tx 10 hS8 ?_ | refine d_ty 10 hS8 ?_ | refine d_tn 10 hS8 ?_); (first | refine d_tx 11 hS8 ?_ | refine d_ty 11 hS8 ?_ | refine d_tn 11 hS8 ?_); (first | refine d_tx 12 hS8 ?_ | refine d_ty 12 hS8 ?_ | refine d_tn 12 hS8 ?_); (first | refine d_tx 13 hS8 ?_ | refine d_ty 13 hS8 ?_ | refine d_tn 13 hS8 ?_); (first | refine d_tx 14 hS8 ?_ | refine d_ty 14 hS8 ?_ | refine d_tn 14 hS8 ?_); (first | refine d_tx 15 hS8 ?_ | refine d_ty 15 hS8 ?_ | refine d_tn 15 hS8 ?_); (first | refine d_tx 16 hS8 ?_ | refine d_ty 16 hS8 ?_ | refine d_tn 16 hS8 ?_); (first | refine d_tx 17 hS8 ?_ | refine d_ty 17 hS8 ?_ | refine d_tn 17 hS8 ?_); (first | refine d_tx 18 hS8 ?_ | refine d_ty 18 hS8 ?_ | refine d_tn 18 hS8 ?_))
  refine d_one (i := 19) rfl (by kernel_rfl) ?_
  refine g_yes rfl ?_
  refine s_ptrNil rfl rfl ?_
  refine wpList_nil (q_held hS8 ?_)
  ((first | refine d_tx 20 hS8 ?_ | refine d_ty 20 hS8 ?_ | refine d_tn 20 hS8 ?_); (first | refine d_tx 21 hS8 ?_ | refine d_ty 21 hS8 ?_ | refine d_tn 21 hS8 ?_); (first | refine d_tx 22 hS8 ?_ | refine d_ty 22 hS8 ?_ | refine d_tn 22 hS8 ?_); (first | refine d_tx 24 hS8 ?_ | refine d_ty 24 hS8 ?_ | refine d_tn 24 hS8 ?_); (first | refine d_tx 25 hS8 ?_ | refine d_ty 25 hS8 ?_ | refine d_tn 25 hS8 ?_); (first | refine d_tx 26 hS8 ?_ | refine d_ty 26 hS8 ?_ | refine d_tn 26 hS8 ?_))
  (apply d_yes (i := 27); exact rfl; exact rfl; kernel_rfl; kernel_rfl; kernel_rfl; (intro u hu; exact (r_load rfl (hclR _ hu))); exact hS8)
  ((first | refine d_tx 28 hS8 ?_ | refine d_ty 28 hS8 ?_ | refine d_tn 28 hS8 ?_))
  refine d_one (i := 23) rfl (by kernel_rfl) ?_
  refine g_yes rfl ?_
  have hR8 : IsR z8 pR vR E 0 := ⟨hR6.1.tr0 hF68, hR6.2.1.tr0 hF68, hR6.2.2⟩
  refine s_call (rInt pR vR E 0 z8 hR8) rfl ?_
  rintro _ z9 ⟨rfl, rr, _, hg9, _⟩
  refine ⟨_, rfl, ?_⟩
  rw [hrd]
  have hS9 : Fr [pR] z6 z9 := hS8.trans hg9 (by simp)
  refine wpList_nil (q_held hS9 ?_)
  ((first | refine d_tx 29 hS9 ?_ | refine d_ty 29 hS9 ?_ | refine d_tn 29 hS9 ?_); (first | refine d_tx 30 hS9 ?_ | refine d_ty 30 hS9 ?_ | refine d_tn 30 hS9 ?_))
  (refine d_done (by kernel_rfl) ?_)
  have hG9 : Fr [] u5 z9 := hG6.trans hS9 (by simp; omega)
  have hob9 := hob6.tr hS9 (fun k hk hm => by
    simp at hm
    have := hbz4 k hk
    omega)
  clear hob6 hox6 hR6 hR8 hoy
  refine rx ?_
  refine s_call (around a E.length z9 ha.1 ha.2 (by omega)) rfl ?_
  rintro _ _ ⟨rfl, rfl⟩
  refine ⟨_, rfl, ?_⟩
  have hkr := arnd_range (a := a) (m := (E.length : Int)) (by omega)
  obtain ⟨k, hka⟩ : ∃ k : Nat, arnd a E.length = (k : Int) := ⟨(arnd a E.length).toNat, by omega⟩
  rw [hka] at hkr ⊢
  have hkE : k < E.length := by omega
  refine rx ?_
  refine s_build0 (fun y1 hoy1 hfy1 hsy1 => ?_)
  refine rx ?_
  refine s_append hoy1 rfl (hob9.src.tr0 hfy1) rfl (by simp) (ints_one _ _) (by unfold maxLen; omega) (by omega) (fun vc2 y2 hoy2 hfy2 hky2 _ => ?_)
  have hF92 : Fr [] z9 y2 := hfy1.trans hfy2 (by simp [blks, Value.ownBlock])
  have hk2 : ∀ b ∈ blks vc2, z9.heap.size ≤ b := fun b hb' => by
    rcases hky2 b hb' with h | h
    · simp [blks, Value.ownBlock] at h; omega
    · omega
  have hown2 : Own y2 5 1 vc2 E.length (E.map (.int .u8)) := by simpa using hoy2
  obtain ⟨ac, cc, e⟩ := hown2.slice
  subst e
  obtain ⟨bd, e⟩ := own_at1 hown2 hkE
  subst e
  have hob2 := hob9.tr0 hF92
  have hb9lt := hob9.lt
  clear hoy1 hoy2 hob9
  refine rx ?_
  rw [Nat.mul_one k]
  refine s_storeOwn (j := k) (u := .int .u8 cb) hown2 rfl hkE rfl rfl rfl (fun y3 hoy3 hfy3 hsy3 => ?_)
  rw [← List.map_set] at hoy3
  have hCB := set_bys hEB (k := k) hc
  have hCl : (E.set k cb).length = E.length := by simp
  have hF93 : Fr [] z9 y3 := hF92.trans hfy3 (fun q hq => .inr (hk2 q hq))
  have hsz9 := hG9.size
  have hob3 := hob2.tr hfy3 (fun q hq hm => by have := hk2 q hm; have := hb9lt q hq; omega)
  generalize E.set k cb = Cg at hoy3 hCB hCl
  have hc3lt := hoy3.lt
  have hEc : E.length ≤ cbb := by
    obtain ⟨_, _, e, h, _⟩ := hob3.src
    simp only [Value.slice.injEq] at e
    omega
  have hFw3 : Fr [] w y3 := hF5.trans0 (hG9.trans0 hF93)
  refine rx ?_
  refine c_cut (fun g u => g 2 = .int .i64 a ∧ g 5 = .int .u8 cb ∧ g 6 = xr ∧ g 16 = .slice (some ⟨N5, 0, none⟩) 2 2 ∧ g 17 = .int .i64 i ∧ ∃ B vals, g 27 = .slice (some ⟨B, 0, none⟩) 4 4 ∧ Own u 71 1 (.slice (some ⟨B, 0, none⟩) 4 4) 4 vals ∧ (∀ j, j < 4 → ∃ v bs, vals[j]? = some v ∧ Src u v bs.length (bs.map (.int .u8)) ∧ Bys bs ∧ bs.length ≤ 1000000000) ∧ Fr [] u5 u) ?_ ?_
  · (refine d_begin (fun _ => True) (by kernel_rfl) rfl ?_)
    have hT : True := trivial
    ((first | refine d_tx 0 hT ?_ | refine d_ty 0 hT ?_ | refine d_tn 0 hT ?_); (first | refine d_tx 1 hT ?_ | refine d_ty 1 hT ?_ | refine d_tn 1 hT ?_); (first | refine d_tx 2 hT ?_ | refine d_ty 2 hT ?_ | refine d_tn 2 hT ?_); (first | refine d_tx 4 hT ?_ | refine d_ty 4 hT ?_ | refine d_tn 4 hT ?_); (first | refine d_tx 6 hT ?_ | refine d_ty 6 hT ?_ | refine d_tn 6 hT ?_); (first | refine d_tx 7 hT ?_ | refine d_ty 7 hT ?_ | refine d_tn 7 hT ?_))
    (apply d_take (i := 3); exact rfl; kernel_rfl; kernel_rfl; kernel_rfl; (intro u hu; exact (r_sliceTo rfl rfl (by omega))); exact hT)
    refine d_two (i := 5) (j := 8) rfl rfl (by kernel_rfl) ?_ ?_
    · skip
      refine s_call (few xr rs 40 y3.drew (hxr.tr0 (hFw3.trans0 (Fr.drew [] y3))) (by omega)) rfl ?_
      rintro _ t1 ⟨vf, rfl, hof, hgf, hkf⟩
      refine ⟨_, rfl, ?_⟩
      obtain ⟨af, cf, e⟩ := hof.slice
      subst e
      refine wpList_nil (q_held trivial ?_)
      refine d_one (i := 8) rfl (by kernel_rfl) ?_
      refine s_buildS [.int .u8 cb] rfl rfl rfl rfl (fun t2 hob1 hgb hsb => ?_)
      refine wpList_nil (q_held trivial ?_)
      have hF3T : Fr [] y3 t2 := ((Fr.drew [] y3).trans0 hgf).trans0 hgb
      have hofT := hof.tr0 hgb
      have hobT := hob1
      refine d_one (i := 9) rfl (by kernel_rfl) ?_
      refine s_appendK (hoy3.tr0 hF3T) rfl hobT.src rfl rfl (by simp [Value.oneCell']) (by unfold maxLen; omega) (by omega) (fun v4 t4 ho4 hf4 hk4 hs4 => ?_)
      obtain ⟨a4, c4, e⟩ := ho4.slice
      subst e
      refine wpList_nil (q_held trivial ?_)
      refine d_one (i := 10) rfl (by kernel_rfl) ?_
      refine s_buildS [.slice (some bd) E.length cc, .slice ab k cbb, .slice af (rs.take 40).length cf, .slice a4 (E.length + 1) c4] rfl rfl rfl rfl (fun t5 ho5' hf5' hs5' => ?_)
      refine wpList_nil (q_held trivial ?_)
      (refine d_one (i := 11) rfl (by kernel_rfl) ?_; refine rx ?_; refine q_held trivial ?_)
      (refine d_done (by kernel_rfl) ?_)
      have hyT := hF3T.size
      have hF3t4 : Fr [] z9 t4 := (hF93.trans0 hF3T).trans hf4 (fun q hq => .inr (hk2 q hq))
      have hobt4 := (hob3.tr0 hF3T).tr hf4 (fun q hq hm => by have := hk2 q hm; have := hb9lt q hq; omega)
      have hoft4 := hofT.tr hf4 (fun q hq hm => by have := hkf q hq; have := hc3lt q hm; have e1 : y3.drew.heap.size = y3.heap.size := rfl; omega)
      refine q_cut ⟨rfl, rfl, rfl, rfl, rfl, _, _, rfl, ho5', fun j hj => ?_, (hG9.trans0 hF3t4).trans0 hf5'⟩
      have : j = 0 ∨ j = 1 ∨ j = 2 ∨ j = 3 := by omega
      rcases this with rfl | rfl | rfl | rfl
      · exact ⟨_, Cg, rfl, by rw [hCl]; exact hs4.tr0 hf5', hCB, by omega⟩
      · refine ⟨_, E.take k, rfl, ?_, hEB.take k, by rw [List.length_take]; omega⟩
        have := src_take (hobt4.src.tr0 hf5') (k := k) (by omega) (by simp)
        rw [List.length_take, Nat.min_eq_left (by omega), List.map_take]; exact this
      · exact ⟨_, rs.take 40, rfl, hoft4.src.tr0 hf5', (few40 hrs).1, (few40 hrs).2⟩
      · refine ⟨_, Cg ++ [cb], rfl, ?_, hCB.append (fun q hq => by simp at hq; omega), by simp; omega⟩
        have := ho4.src.tr0 hf5'
        rw [List.length_append, List.length_singleton, hCl, List.map_append]; exact this
    · skip
      refine s_buildS [.int .u8 cb] rfl rfl rfl rfl (fun t1 hob1 hgb hsb => ?_)
      refine wpList_nil (q_held trivial ?_)
      refine d_one (i := 5) rfl (by kernel_rfl) ?_
      refine s_call (few xr rs 40 t1 (hxr.tr0 (hFw3.trans0 ((Fr.drew [] y3).trans0 hgb))) (by omega)) rfl ?_
      rintro _ t2 ⟨vf, rfl, hof, hgf, hkf⟩
      refine ⟨_, rfl, ?_⟩
      obtain ⟨af, cf, e⟩ := hof.slice
      subst e
      refine wpList_nil (q_held trivial ?_)
      have hF3T : Fr [] y3 t2 := ((Fr.drew [] y3).trans0 hgb).trans0 hgf
      have hofT := hof
      have hobT := hob1.tr0 hgf
      have hkf : ∀ q ∈ blks (.slice af (rs.take 40).length cf), y3.heap.size ≤ q := fun q hq => by have := hkf q hq; have e1 : y3.drew.heap.size = y3.heap.size := rfl; omega
      refine d_one (i := 9) rfl (by kernel_rfl) ?_
      refine s_appendK (hoy3.tr0 hF3T) rfl hobT.src rfl rfl (by simp [Value.oneCell']) (by unfold maxLen; omega) (by omega) (fun v4 t4 ho4 hf4 hk4 hs4 => ?_)
      obtain ⟨a4, c4, e⟩ := ho4.slice
      subst e
      refine wpList_nil (q_held trivial ?_)
      refine d_one (i := 10) rfl (by kernel_rfl) ?_
      refine s_buildS [.slice (some bd) E.length cc, .slice ab k cbb, .slice af (rs.take 40).length cf, .slice a4 (E.length + 1) c4] rfl rfl rfl rfl (fun t5 ho5' hf5' hs5' => ?_)
      refine wpList_nil (q_held trivial ?_)
      (refine d_one (i := 11) rfl (by kernel_rfl) ?_; refine rx ?_; refine q_held trivial ?_)
      (refine d_done (by kernel_rfl) ?_)
      have hyT := hF3T.size
      have hF3t4 : Fr [] z9 t4 := (hF93.trans0 hF3T).trans hf4 (fun q hq => .inr (hk2 q hq))
      have hobt4 := (hob3.tr0 hF3T).tr hf4 (fun q hq hm => by have := hk2 q hm; have := hb9lt q hq; omega)
      have hoft4 := hofT.tr hf4 (fun q hq hm => by have := hkf q hq; have := hc3lt q hm; have e1 : y3.drew.heap.size = y3.heap.size := rfl; omega)
      refine q_cut ⟨rfl, rfl, rfl, rfl, rfl, _, _, rfl, ho5', fun j hj => ?_, (hG9.trans0 hF3t4).trans0 hf5'⟩
      have : j = 0 ∨ j = 1 ∨ j = 2 ∨ j = 3 := by omega
      rcases this with rfl | rfl | rfl | rfl
      · exact ⟨_, Cg, rfl, by rw [hCl]; exact hs4.tr0 hf5', hCB, by omega⟩
      · refine ⟨_, E.take k, rfl, ?_, hEB.take k, by rw [List.length_take]; omega⟩
        have := src_take (hobt4.src.tr0 hf5') (k := k) (by omega) (by simp)
        rw [List.length_take, Nat.min_eq_left (by omega), List.map_take]; exact this
      · exact ⟨_, rs.take 40, rfl, hoft4.src.tr0 hf5', (few40 hrs).1, (few40 hrs).2⟩
      · refine ⟨_, Cg ++ [cb], rfl, ?_, hCB.append (fun q hq => by simp at hq; omega), by simp; omega⟩
        have := ho4.src.tr0 hf5'
        rw [List.length_append, List.length_singleton, hCl, List.map_append]; exact this
  rintro g u6 ⟨h2, h5, h6, h16, h17, B, vals, h27, hoB, hvals, hfu6⟩
  rw [eq_upd h2, eq_upd h5, eq_upd h6, eq_upd h16, eq_upd h17, eq_upd h27]
  refine rx ?_
  refine c_loop (σ := Nat) (fun j g z => g 2 = .int .i64 a ∧ g 5 = .int .u8 cb ∧ g 6 = xr ∧ g 16 = .slice (some ⟨N5, 0, none⟩) 2 2 ∧ g 17 = .int .i64 i ∧ g 27 = .slice (some ⟨B, 0, none⟩) 4 4 ∧ g 28 = .int .i64 j ∧ j ≤ 4 ∧ Fr [] u6 z) (fun j => 4 - j) 0 ⟨rfl, rfl, rfl, rfl, rfl, rfl, rfl, by omega, Fr.refl _ _⟩ ?_
  rintro j g z ⟨h2, h5, h6, h16, h17, h27, h28, hj, hfz⟩
  rw [eq_upd h2, eq_upd h5, eq_upd h6, eq_upd h16, eq_upd h17, eq_upd h27, eq_upd h28]
  by_cases hj4 : j < 4
  case neg =>
    refine rx ?_
    exact q_round (i + 1) ⟨rfl, rfl, rfl, rfl, rfl, by omega, hfu6.trans0 hfz⟩ (by omega)
  obtain ⟨vj, bj, hvj, hsj, hbj, hlj⟩ := hvals j hj4
  have hclB : ∀ q, Fr [] u6 q → q.cell? ((⟨B, 0, none⟩ : Addr).add (j * 1)) = some vj := fun q hq => by
    rw [Nat.mul_one]; exact src_cell (hoB.src.tr0 hq) hvj
  refine rx ?_
  refine s_load rfl (hclB _ hfz) ?_
  refine s_call (decodeHC vj bj z (hsj.tr0 hfz) hbj hlj) rfl ?_
  rintro _ q1 ⟨vd, rfl, hod, _, hgd⟩
  refine ⟨_, rfl, ?_⟩
  obtain ⟨hDok, hDin, hD64⟩ := decH_inE hbj hlj
  have htwo := decH_two bj
  have hinv := decH_inv hbj hlj
  generalize decH bj = D at hod hDok hDin hD64 htwo hinv ⊢
  refine rx ?_
  refine s_call (encodeHC D.1 vd q1 (hod.sl evStab) hDok hDin (by omega)) rfl ?_
  rintro _ q2 ⟨ve, rfl, hoe⟩
  refine ⟨_, rfl, ?_⟩
  have hFz2 : Fr [] u6 q2 := (hfz.trans0 hgd).trans0 hoe.2.1
  obtain ⟨ad, cd, e⟩ := hod.slice
  subst e
  rcases htwo with h0 | ⟨h2', hnil⟩
  · obtain ⟨hbe, hve, _⟩ := hinv h0
    unfold encHO at hoe
    rw [if_pos hve, ← hbe] at hoe
    refine rx ?_
    refine s_load rfl (hclB _ hFz2) ?_
    refine rx ?_
    refine s_call (sameBytes ve vj bj bj q2 hoe.1.src (hsj.tr0 hFz2) (by omega)) rfl ?_
    rintro _ q3 ⟨rfl, hg3⟩
    refine ⟨_, rfl, ?_⟩
    rw [decide_eq_true rfl]
    refine rx ?_
    exact q_round (j + 1) ⟨rfl, rfl, rfl, rfl, rfl, rfl, rfl, by omega, hFz2.trans0 hg3⟩ (by omega)
  · have hl0 : D.1.length = 0 := by rw [hnil]; rfl
    refine rx ?_
    exact q_round (j + 1) ⟨rfl, rfl, rfl, rfl, rfl, rfl, rfl, by omega, hFz2⟩ (by omega)
end Go.Proofs.Ytcogpedfnnfnaaa
