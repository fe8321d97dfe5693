/-
  For every input TreeSpans returns true.
-/
import Derived.Test.YtpochcchekoonaaOj
import Derived.Test.YtpochcchekoonaaOf
namespace Go.Proofs.Ytpochcchekoonaa
open Go.Rf Go.RowKit
set_option linter.unusedVariables false
set_option linter.unusedSimpArgs false
theorem Src.pre {w : World} {ao : Option Addr} {m c k : Nat} {ys : List Value} (h : Src w (.slice ao m c) m ys) (hk : k ≤ m) (hl : ys.length = m) : Src w (.slice ao k c) k (ys.take k) := by
  obtain ⟨ao', c', e, h1, h2, h3⟩ := h
  injection e with e1 e2 e3
  subst e1 e3
  refine ⟨ao, c, rfl, by omega, fun hn => ?_, fun ad ha j u hu => ?_⟩
  · obtain ⟨h4, h5, h6⟩ := h2 hn
    exact ⟨by omega, h5, by rw [h6]; simp⟩
  · rw [List.getElem?_take] at hu
    split at hu
    · exact h3 ad ha j u hu
    · cases hu
/-- lists of numbers, each one cell -/
def IsR (w : World) (l : List Int) (cs : List Value) : Prop := ∃ s, cs = [s] ∧ IS w [] l s
theorem isrLen {w : World} : ∀ x cs, IsR w x cs → cs.length = 1 := fun x cs h => by obtain ⟨_, rfl, _⟩ := h; rfl
theorem trrLen {w : World} : ∀ x cs, TrR w x cs → cs.length = 1 := fun x cs h => by obtain ⟨_, rfl, _⟩ := h; rfl
theorem TrR.tr0 {w w' : World} {t : List Nd} {cs : List Value} (h : TrR w t cs) (hf : Fr [] w w') : TrR w' t cs := by obtain ⟨s, rfl, h⟩ := h; exact ⟨s, rfl, h.tr0 hf⟩
theorem IsR.tr0 {w w' : World} {t : List Int} {cs : List Value} (h : IsR w t cs) (hf : Fr [] w w') : IsR w' t cs := by obtain ⟨s, rfl, h⟩ := h; exact ⟨s, rfl, h.tr0 hf⟩
theorem map_one {l : List Int} : ∀ u ∈ l.map (Value.int .i64), u.oneCell' = true := by simp [Value.oneCell']
theorem fitT_len {t : List Nd} {raw : List Int} : (fitT t raw).1.length ≤ 256 := by
  unfold fitT
  by_cases hz : validT t = 0
  · rw [if_pos hz]
    by_cases h0 : 0 < t.length
    · rw [if_pos h0]
      have hv := VT.of hz
      have h1 := fit_len hv raw (t.length - 1) (by omega) []
      have h2 := hv.l0 (show t.length - 1 < t.length by omega)
      simp only [List.length_nil] at h1
      show (fit raw (tA t (t.length - 1)) []).2.length ≤ 256
      omega
    · rw [if_neg h0]; simp
  · rw [if_neg hz]; simp
theorem spanT_len {t : List Nd} (hg : TG t) {path : List Int} : (spanT t path).1.length ≤ 100000000000 := by
  unfold spanT fullT
  by_cases h : validT t = 0 ∧ 0 < t.length
  · rw [if_pos h]
    rcases hr : rd path (tA t (t.length - 1)) 0 with ⟨v, e, sp⟩ | ⟨i, n⟩ | _
    · simp only
      split
      · rename_i x y heq
        split at heq
        · cases heq
          have h1 := rd_nsp path _ _ hr
          have h2 := hg.sp h.1 (t.length - 1) (by omega)
          show sp.length ≤ _
          omega
        · cases heq
      · simp
    · simp
    · simp
  · rw [if_neg h]; simp
attribute [local irreducible] Code.wp wpList Exit.then Exit.inBlock bodyPost A Calls execOp Addr.add
set_option maxHeartbeats 8000000 in
theorem treeSpans_walk (x : Value) (l : List Int) (y : Value) (ms : List Int) (n : Int) (u : World) (hx : Src u x l.length (l.map (.int .i64))) (hl : ∀ n ∈ l, InI64 n) (hy : Src u y ms.length (ms.map (.int .i64))) (hms : ∀ n ∈ ms, InI64 n) (hn : InI64 n) :
    Calls Try.prog 5 #[x, y, .int .i64 n] u fun e u' => e = .returned (.bool true) ∧ Fr [] u u' := by
  obtain ⟨ax, cx, rfl, _⟩ := id hx
  obtain ⟨ay, cy, rfl, _⟩ := id hy
  refine enter Try.func5 rfl Try.ntmps5 rfl ?_
  refine rx ?_
  refine s_call (treeP l hl _ u hx) rfl ?_
  rintro _ u1 ⟨t, sn, rfl, hns, hval, hg, hlen, hf1⟩
  refine ⟨_, rfl, ?_⟩
  have htg := tg_of (by omega) hg hlen
  refine s_alloc rfl (fun u2 hb2 hf2 hs2 => ?_)
  refine s_storeAggB (cs := [sn]) rfl rfl hb2 (fun c hc => by simp at hc; subst hc; exact Sl.one hns) rfl rfl (fun u3 hb3 hf3 hs3 => ?_)
  obtain ⟨tb, htb⟩ : ∃ y, y = u1.heap.size := ⟨_, rfl⟩
  rw [← htb] at hb3 hf3 ⊢
  have hf13 : Fr [] u1 u3 := hf2.trans hf3 (by simp; omega)
  have hn3 := hns.tr0 hf13
  have hF3 := hf1.trans0 hf13
  have hlt0 : ∀ (w : World), ∀ q ∈ ([] : List Nat), q < w.heap.size := fun w q hq => by simp at hq
  refine rx ?_
  (refine d_begin (fun y => Fr [] u3 y) (by kernel_rfl) rfl ?_)
  have hS : Fr [] u3 u3.drew := Fr.drew _ _
  ((first | refine d_tx 0 hS ?_ | refine d_ty 0 hS ?_ | refine d_tn 0 hS ?_); (first | refine d_tx 1 hS ?_ | refine d_ty 1 hS ?_ | refine d_tn 1 hS ?_))
  refine d_one (i := 2) rfl (by kernel_rfl) ?_
  refine s_call (rawP ms hms _ 14 (by omega) u3.drew ((hy.tr0 hF3).tr0 hS)) rfl ?_
  rintro _ u4 ⟨rv, rfl, hor, hnr, hf4⟩
  refine ⟨_, rfl, ?_⟩
  have hS4 := hS.trans0 hf4
  refine wpList_nil (q_held hS4 ?_)
  refine d_one (i := 3) rfl (by kernel_rfl) ?_
  refine s_call (fitR t htg (rawN ms 14) (Nat.zero_le _) [] sn rv u4 (hn3.tr0 hS4) (Ls.ofSrc (by rw [rawN_len]; exact hor.src)) (hlt0 _)) rfl ?_
  rintro _ u5 ⟨pv, rfl, hop, hnp, hf5⟩
  refine ⟨_, rfl, ?_⟩
  have hPl : (fitT t (rawN ms 14)).1.length ≤ 256 := fitT_len
  generalize fitT t (rawN ms 14) = fp at hop hPl ⊢
  obtain ⟨P, pe⟩ := fp
  simp only at hop hPl ⊢
  have hS5 := hS4.trans0 hf5
  refine wpList_nil (q_held hS5 ?_)
  ((first | refine d_tx 4 hS5 ?_ | refine d_ty 4 hS5 ?_ | refine d_tn 4 hS5 ?_); (first | refine d_tx 5 hS5 ?_ | refine d_ty 5 hS5 ?_ | refine d_tn 5 hS5 ?_); (first | refine d_tx 6 hS5 ?_ | refine d_ty 6 hS5 ?_ | refine d_tn 6 hS5 ?_))
  (refine d_one (i := 7) rfl (by kernel_rfl) ?_; refine rx ?_; refine q_held hS5 ?_)
  (refine d_one (i := 8) rfl (by kernel_rfl) ?_; refine rx ?_; refine q_held hS5 ?_)
  (refine d_done (by kernel_rfl) ?_)
  obtain ⟨ap, cp, rfl⟩ := hop.slice
  have hcp : P.length ≤ cp := by obtain ⟨_, _, e, h, _⟩ := hop.src; injection e with _ _ e3; omega
  have hF5 := hF3.trans0 hS5
  have hb5 := hb3.tr0 hS5
  have hn5 := hn3.tr0 hS5
  refine rx ?_
  (refine d_begin (fun y => Fr [] u5 y) (by kernel_rfl) rfl ?_)
  have hT : Fr [] u5 u5.drew := Fr.drew _ _
  ((first | refine d_tx 0 hT ?_ | refine d_ty 0 hT ?_ | refine d_tn 0 hT ?_); (first | refine d_tx 1 hT ?_ | refine d_ty 1 hT ?_ | refine d_tn 1 hT ?_))
  ((first | refine d_tx 3 hT ?_ | refine d_ty 3 hT ?_ | refine d_tn 3 hT ?_))
  ((first | refine d_tx 5 hT ?_ | refine d_ty 5 hT ?_ | refine d_tn 5 hT ?_); (first | refine d_tx 6 hT ?_ | refine d_ty 6 hT ?_ | refine d_tn 6 hT ?_); (first | refine d_tx 7 hT ?_ | refine d_ty 7 hT ?_ | refine d_tn 7 hT ?_))
  (apply d_take (i := 8); exact rfl; kernel_rfl; kernel_rfl; kernel_rfl; (intro u hu; exact (r_quo (r := ((P.length / 2 : Nat) : Int)) rfl rfl (by omega) (by rw [Int.tdiv_eq_ediv_of_nonneg (by omega)]; exact IntWalk.i64_in _ (by omega)))); exact hT)
  (apply d_take (i := 9); exact rfl; kernel_rfl; kernel_rfl; kernel_rfl; (intro u hu; exact (r_sliceTo (k := P.length / 2) rfl rfl (by omega))); exact hT)
  refine d_one (i := 2) rfl (by kernel_rfl) ?_
  refine s_build1 rfl rfl (fun u6 ho6 hf6 hs6 => ?_)
  have hT6 := hT.trans0 hf6
  refine wpList_nil (q_held hT6 ?_)
  refine d_one (i := 4) rfl (by kernel_rfl) ?_
  refine s_append ho6 rfl (hop.tr0 hT6).src rfl (by simp) map_one (by unfold maxLen; omega) (by omega) (fun v7 u7 ho7 hf7 hk7 _ => ?_)
  have hT7 : Fr [] u5 u7 := hT6.trans hf7 (by simp [blks, Value.ownBlock])
  refine wpList_nil (q_held hT7 ?_)
  refine d_one (i := 10) rfl (by kernel_rfl) ?_
  obtain ⟨a7, c7, rfl⟩ := ho7.slice
  refine s_buildS [.slice ap P.length cp, .slice a7 (1 + P.length) c7, .slice ap (P.length / 2) cp] rfl rfl rfl rfl (fun u8 ho8 hf8 hs8 => ?_)
  have hT8 := hT7.trans0 hf8
  refine wpList_nil (q_held hT8 ?_)
  (refine d_one (i := 11) rfl (by kernel_rfl) ?_; refine rx ?_; refine q_held hT8 ?_)
  (refine d_done (by kernel_rfl) ?_)
  have hop8 := hop.tr0 hT8
  have hrws : Rws (IsR u8) [P, n :: P, P.take (P.length / 2)] [.slice ap P.length cp, .slice a7 (1 + P.length) c7, .slice ap (P.length / 2) cp] := by
    have r1 : IsR u8 P [.slice ap P.length cp] := ⟨_, rfl, Ls.ofSrc hop8.src⟩
    have r2 : IsR u8 (n :: P) [.slice a7 (1 + P.length) c7] := ⟨_, rfl, Ls.ofSrc (by have := (ho7.tr0 hf8).src; simp only [List.length_cons, List.map_cons]; rw [Nat.add_comm P.length 1]; exact this)⟩
    have r3 : IsR u8 (P.take (P.length / 2)) [.slice ap (P.length / 2) cp] := ⟨_, rfl, Ls.ofSrc (by
      have := Src.pre hop8.src (show P.length / 2 ≤ P.length by omega) (by simp)
      rw [List.length_take, Nat.min_eq_left (by omega), List.map_take]; exact this)⟩
    exact .cons r1 (.cons r2 (Rws.one r3))
  have hall : Sl u8 [] (IsR u8) [P, n :: P, P.take (P.length / 2)] (.slice (some ⟨u7.heap.size, 0, none⟩) 3 3) := ⟨[.slice ap P.length cp, .slice a7 (1 + P.length) c7, .slice ap (P.length / 2) cp], ho8.src, fun _ _ _ _ _ => by simp, hrws⟩
  have hlens : ∀ q ∈ [P, n :: P, P.take (P.length / 2)], q.length ≤ 1000000000 := by
    intro q hq
    simp only [List.mem_cons, List.not_mem_nil, or_false] at hq
    rcases hq with rfl | rfl | rfl
    · omega
    · simp only [List.length_cons]; omega
    · rw [List.length_take]; omega
  have hF8 := hF5.trans0 hT8
  have hb8 := hb5.tr0 hT8
  have hn8 := hn5.tr0 hT8
  generalize u7.heap.size = N7 at hall
  refine rx ?_
  refine c_loopK 17 [11, 12, 13, 14, 15, 16] (σ := Nat) (fun i g z => g 11 = .int .i64 (i : Nat) ∧ i ≤ 3 ∧ Fr [] u8 z) (fun i => 3 - i) 0 ⟨rfl, Nat.zero_le _, Fr.refl _ _⟩ ?_
  rintro i g z ⟨h11, hi, hfz⟩
  rw [eq_upd h11]
  have hbz := hb8.tr0 hfz
  have hFz := hF8.trans0 hfz
  by_cases hi3 : i < 3
  case neg =>
    refine rx ?_
    refine s_call (livesP z) rfl ?_
    rintro _ z2 ⟨rfl, hz2⟩
    refine ⟨_, rfl, ?_⟩
    refine rx ?_
    (apply ret1; exact rfl; (conv => lhs; whnf))
    exact ⟨rfl, hFz.trans0 hz2⟩
  have hi3' : i < [P, n :: P, P.take (P.length / 2)].length := hi3
  obtain ⟨ad, cs, e8, ⟨sq, rfl, hiq⟩, hcq⟩ := Sl.at hall isrLen hi3'
  have hql := hlens _ (List.getElem_mem hi3')
  generalize [P, n :: P, P.take (P.length / 2)][i] = pq at hiq hql
  cases e8
  replace hiq := hiq.tr0 hfz
  replace hcq := hcq.tr0 hfz
  have hnz := hn8.tr0 hfz
  refine rx ?_
  (refine d_begin (fun y => Fr [] z y) (by kernel_rfl) rfl ?_)
  have hD : Fr [] z z.drew := Fr.drew _ _
  ((first | refine d_tx 0 hD ?_ | refine d_ty 0 hD ?_ | refine d_tn 0 hD ?_); (first | refine d_tx 1 hD ?_ | refine d_ty 1 hD ?_ | refine d_tn 1 hD ?_); (first | refine d_tx 2 hD ?_ | refine d_ty 2 hD ?_ | refine d_tn 2 hD ?_))
  (apply d_take (i := 3); exact rfl; kernel_rfl; kernel_rfl; kernel_rfl; (intro u hu; exact (r_indexAddr (j := i) rfl rfl rfl hi3 rfl)); exact hD)
  (apply d_take (i := 4); exact rfl; kernel_rfl; kernel_rfl; kernel_rfl; (intro u hu; exact (r_load rfl (Cells.get0 (hcq.tr0 hu) rfl))); exact hD)
  refine d_one (i := 5) rfl (by kernel_rfl) ?_
  refine s_call (spansP t htg.ok htg.len pq hql (by
    by_cases h0 : 0 < t.length
    · exact htg.sp hval _ (by omega)
    · have : t = [] := List.eq_nil_of_length_eq_zero (by omega)
      subst this
      simp [tA, trsT, nsp]) [] sn sq z.drew (hnz.tr0 hD) (hiq.tr0 hD) (hlt0 _)) rfl ?_
  rintro _ z1 ⟨s1, rfl, hz1, ho1, hk1⟩
  refine ⟨_, rfl, ?_⟩
  have hD1 := hD.trans0 hz1
  refine wpList_nil (q_held hD1 ?_)
  ((first | refine d_tx 6 hD1 ?_ | refine d_ty 6 hD1 ?_ | refine d_tn 6 hD1 ?_); (first | refine d_tx 7 hD1 ?_ | refine d_ty 7 hD1 ?_ | refine d_tn 7 hD1 ?_); (first | refine d_tx 8 hD1 ?_ | refine d_ty 8 hD1 ?_ | refine d_tn 8 hD1 ?_))
  (refine d_one (i := 9) rfl (by kernel_rfl) ?_; refine rx ?_; refine q_held hD1 ?_)
  (refine d_one (i := 10) rfl (by kernel_rfl) ?_; refine rx ?_; refine q_held hD1 ?_)
  (refine d_done (by kernel_rfl) ?_)
  have hbz1 := hbz.tr0 hD1
  refine rx ?_
  (refine d_begin (fun y => Fr [] z1 y) (by kernel_rfl) rfl ?_)
  have hE : Fr [] z1 z1.drew := Fr.drew _ _
  ((first | refine d_tx 0 hE ?_ | refine d_ty 0 hE ?_ | refine d_tn 0 hE ?_); (first | refine d_tx 1 hE ?_ | refine d_ty 1 hE ?_ | refine d_tn 1 hE ?_); (first | refine d_tx 2 hE ?_ | refine d_ty 2 hE ?_ | refine d_tn 2 hE ?_))
  (apply d_take (i := 3); exact rfl; kernel_rfl; kernel_rfl; kernel_rfl; (intro u hu; exact (r_indexAddr (j := i) rfl rfl rfl hi3 rfl)); exact hE)
  (apply d_take (i := 4); exact rfl; kernel_rfl; kernel_rfl; kernel_rfl; (intro u hu; exact (r_load rfl (Cells.get0 ((hcq.tr0 hD1).tr0 hu) rfl))); exact hE)
  refine d_one (i := 5) rfl (by kernel_rfl) ?_
  refine s_call (spansR t htg pq hql [] sn sq z1.drew ((hnz.tr0 hD1).tr0 hE) ((hiq.tr0 hD1).tr0 hE) (hlt0 _)) rfl ?_
  rintro _ z2 ⟨s2, rfl, hz2, ho2, hk2⟩
  refine ⟨_, rfl, ?_⟩
  have hE2 := hE.trans0 hz2
  refine wpList_nil (q_held hE2 ?_)
  ((first | refine d_tx 6 hE2 ?_ | refine d_ty 6 hE2 ?_ | refine d_tn 6 hE2 ?_); (first | refine d_tx 7 hE2 ?_ | refine d_ty 7 hE2 ?_ | refine d_tn 7 hE2 ?_); (first | refine d_tx 8 hE2 ?_ | refine d_ty 8 hE2 ?_ | refine d_tn 8 hE2 ?_))
  (refine d_one (i := 9) rfl (by kernel_rfl) ?_; refine rx ?_; refine q_held hE2 ?_)
  (refine d_one (i := 10) rfl (by kernel_rfl) ?_; refine rx ?_; refine q_held hE2 ?_)
  (refine d_done (by kernel_rfl) ?_)
  have ho12 := ho1.tr0 hE2
  have hspl : (spanT t pq).1.length ≤ 100000000000 := spanT_len htg
  generalize spanT t pq = sx at ho12 ho2 hspl
  obtain ⟨sp, se⟩ := sx
  simp only at ho12 ho2 hspl ⊢
  obtain ⟨as1, cs1, rfl⟩ := ho12.slice
  obtain ⟨as2, cs2, rfl⟩ := ho2.slice
  have hl1 := (spOwn.2 ho12).sl spStab
  have hl2 := (spOwn.2 ho2).sl spStab
  have hF2 := (hfz.trans0 hD1).trans0 hE2
  refine rx ?_
  refine c_loopK 17 [16] (σ := Nat) (fun j g w => g 16 = .int .i64 (j : Nat) ∧ j ≤ sp.length ∧ Fr [] z2 w) (fun j => sp.length - j) 0 ⟨rfl, Nat.zero_le _, Fr.refl _ _⟩ ?_
  rintro j g w ⟨h16, hj, hfw⟩
  rw [eq_upd h16]
  by_cases hjl : j < sp.length
  case neg =>
    refine rx ?_
    exact q_roundK (i + 1) (by (repeat (first | exact Keep.mrg _ _ _ _ | (refine Keep.hi rfl ?_) | (refine Keep.one rfl ?_) | exact Keep.all rfl | (refine Keep.inn rfl ?_) | (refine Keep.set rfl ?_)))) ⟨rfl, by omega, hF2.trans0 hfw⟩ (by omega)
  obtain ⟨ad1, c1, e1, hr1, hc1⟩ := Sl.at hl1 (fun x cs h => spStab.len h) hjl
  obtain ⟨ad2, c2, e2, hr2, hc2⟩ := Sl.at hl2 (fun x cs h => spStab.len h) hjl
  cases e1; cases e2
  unfold spR at hr1 hr2
  subst hr1; subst hr2
  refine rx ?_
  (refine d_begin (fun y => Fr [] w y) (by kernel_rfl) rfl ?_)
  have hG : Fr [] w w.drew := Fr.drew _ _
  ((first | refine d_tx 0 hG ?_ | refine d_ty 0 hG ?_ | refine d_tn 0 hG ?_); (first | refine d_tx 1 hG ?_ | refine d_ty 1 hG ?_ | refine d_tn 1 hG ?_))
  (apply d_take (i := 2); exact rfl; kernel_rfl; kernel_rfl; kernel_rfl; (intro u hu; exact (r_indexAddr (j := j) rfl rfl rfl hjl rfl)); exact hG)
  (apply d_take (i := 3); exact rfl; kernel_rfl; kernel_rfl; kernel_rfl; (intro u hu; exact (r_loadC rfl ((hc1.tr0 hfw).tr0 hu) (by rfl))); exact hG)
  ((first | refine d_tx 4 hG ?_ | refine d_ty 4 hG ?_ | refine d_tn 4 hG ?_); (first | refine d_tx 5 hG ?_ | refine d_ty 5 hG ?_ | refine d_tn 5 hG ?_))
  (apply d_take (i := 6); exact rfl; kernel_rfl; kernel_rfl; kernel_rfl; (intro u hu; exact (r_indexAddr (j := j) rfl rfl rfl hjl rfl)); exact hG)
  (apply d_take (i := 7); exact rfl; kernel_rfl; kernel_rfl; kernel_rfl; (intro u hu; exact (r_loadC rfl ((hc2.tr0 hfw).tr0 hu) (by rfl))); exact hG)
  refine d_one (i := 8) rfl (by kernel_rfl) ?_
  refine s_neq3 (p := true) rfl rfl (by simp) ?_
  refine wpList_nil (q_held hG ?_)
  (refine d_done (by kernel_rfl) ?_)
  refine rx ?_
  exact q_roundK (j + 1) (by (repeat (first | exact Keep.mrg _ _ _ _ | (refine Keep.hi rfl ?_) | (refine Keep.one rfl ?_) | exact Keep.all rfl | (refine Keep.inn rfl ?_) | (refine Keep.set rfl ?_)))) ⟨rfl, by omega, hfw.trans0 hG⟩ (by omega)
end Go.Proofs.Ytpochcchekoonaa
