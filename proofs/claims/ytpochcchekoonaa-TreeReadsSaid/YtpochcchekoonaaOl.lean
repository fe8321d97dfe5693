/-
  For every input TreeFits returns true.
-/
import Derived.Test.YtpochcchekoonaaOk
namespace Go.Proofs.Ytpochcchekoonaa
open Go.Rf Go.RowKit
set_option linter.unusedVariables false
set_option linter.unusedSimpArgs false
attribute [local irreducible] Code.wp wpList Exit.then Exit.inBlock bodyPost A Calls execOp Addr.add
set_option maxHeartbeats 8000000 in
theorem treeFits_walk (x : Value) (l : List Int) (y : Value) (ms : List Int) (o : Value) (os : List Int) (a h n : Int) (u : World) (hx : Src u x l.length (l.map (.int .i64))) (hl : ∀ n ∈ l, InI64 n) (hy : Src u y ms.length (ms.map (.int .i64))) (hms : ∀ n ∈ ms, InI64 n) (ho : Src u o os.length (os.map (.int .i64))) (hos : ∀ n ∈ os, InI64 n) (ha : InI64 a) (hh : InI64 h) (hn : InI64 n) :
    Calls Try.prog 7 #[x, y, o, .int .i64 a, .int .i64 h, .int .i64 n] u fun e u' => e = .returned (.bool true) ∧ Fr [] u u' := by
  obtain ⟨ax, cx, rfl, _⟩ := id hx
  obtain ⟨ay, cy, rfl, _⟩ := id hy
  obtain ⟨ao, co, rfl, _⟩ := id ho
  refine enter Try.func7 rfl Try.ntmps7 rfl ?_
  refine rx ?_
  refine s_call (treeP l hl _ u hx) rfl ?_
  rintro _ u1 ⟨t, sn, rfl, hns, hval, hg, hlen, hf1⟩
  refine ⟨_, rfl, ?_⟩
  have htg := tg_of (by omega) hg hlen
  refine s_alloc rfl (fun u2 hb2 hf2 hs2 => ?_)
  refine s_storeAggB (cs := [sn]) rfl rfl hb2 (fun c hc => by simp at hc; subst hc; exact Sl.one hns) rfl rfl (fun u3 hb3 hf3 hs3 => ?_)
  obtain ⟨tb, htb⟩ : ∃ y, y = u1.heap.size := ⟨_, rfl⟩
  rw [← htb] at hb3 hf3 ⊢
  have hf13 : Fr [] u1 u3 := hf2.trans hf3 (by simp; omega)
  have hn3 := hns.tr0 hf13
  have hF3 := hf1.trans0 hf13
  have hlt0 : ∀ (w : World), ∀ q ∈ ([] : List Nat), q < w.heap.size := fun w q hq => by simp at hq
  refine rx ?_
  (refine d_begin (fun y => Fr [] u3 y) (by kernel_rfl) rfl ?_)
  have hS : Fr [] u3 u3.drew := Fr.drew _ _
  ((first | refine d_tx 0 hS ?_ | refine d_ty 0 hS ?_ | refine d_tn 0 hS ?_); (first | refine d_tx 1 hS ?_ | refine d_ty 1 hS ?_ | refine d_tn 1 hS ?_); (first | refine d_tx 2 hS ?_ | refine d_ty 2 hS ?_ | refine d_tn 2 hS ?_); (first | refine d_tx 3 hS ?_ | refine d_ty 3 hS ?_ | refine d_tn 3 hS ?_); (first | refine d_tx 4 hS ?_ | refine d_ty 4 hS ?_ | refine d_tn 4 hS ?_))
  refine d_one (i := 5) rfl (by kernel_rfl) ?_
  refine s_call (spoiltT t 0 (by omega) hg (by omega) a h n ha hh hn sn u3.drew (hn3.tr0 hS)) rfl ?_
  rintro _ u4 ⟨tx, sx, rfl, hnx, hlx, hgx, hf4⟩
  refine ⟨_, rfl, ?_⟩
  have htgx := tg_of (by omega) hgx (by omega)
  have hS4 := hS.trans0 hf4
  refine wpList_nil (q_held hS4 ?_)
  refine d_one (i := 6) rfl (by kernel_rfl) ?_
  refine s_buildS [sn, sx] rfl rfl rfl rfl (fun u5 ho5 hf5 hs5 => ?_)
  have hS5 := hS4.trans0 hf5
  refine wpList_nil (q_held hS5 ?_)
  (refine d_one (i := 7) rfl (by kernel_rfl) ?_; refine rx ?_; refine q_held hS5 ?_)
  (refine d_done (by kernel_rfl) ?_)
  have hrwt : Rws (TrR u5) [t, tx] [sn, sx] := by
    have r1 : TrR u5 t [sn] := ⟨sn, rfl, hn3.tr0 hS5⟩
    have r2 : TrR u5 tx [sx] := ⟨sx, rfl, hnx.tr0 hf5⟩
    exact .cons r1 (Rws.one r2)
  have hallt : Sl u5 [] (TrR u5) [t, tx] (.slice (some ⟨u4.heap.size, 0, none⟩) 2 2) := ⟨[sn, sx], ho5.src, fun _ _ _ _ _ => by simp, hrwt⟩
  have htgl : ∀ tt ∈ [t, tx], TG tt := by
    intro tt htt
    simp only [List.mem_cons, List.not_mem_nil, or_false] at htt
    rcases htt with rfl | rfl
    · exact htg
    · exact htgx
  have hF5 := hF3.trans0 hS5
  generalize u4.heap.size = N4 at hallt
  refine rx ?_
  refine s_call (rawP ms hms _ 12 (by omega) u5 (hy.tr0 hF5)) rfl ?_
  rintro _ u6 ⟨rv, rfl, hor, hnr, hf6⟩
  refine ⟨_, rfl, ?_⟩
  refine rx ?_
  obtain ⟨arv, crv, rfl⟩ := hor.slice
  refine s_buildS [.slice arv 12 crv, .slice ao os.length co, .slice none 0 0] rfl rfl rfl rfl (fun u7 ho7 hf7 hs7 => ?_)
  have hF6 := hF5.trans0 hf6
  have hrwi : Rws (IsR u7) [rawN ms 12, os, []] [.slice arv 12 crv, .slice ao os.length co, .slice none 0 0] := by
    have r1 : IsR u7 (rawN ms 12) [.slice arv 12 crv] := ⟨_, rfl, Ls.ofSrc (by rw [rawN_len]; exact (hor.tr0 hf7).src)⟩
    have r2 : IsR u7 os [.slice ao os.length co] := ⟨_, rfl, Ls.ofSrc ((ho.tr0 hF6).tr0 hf7)⟩
    have r3 : IsR u7 [] [.slice none 0 0] := ⟨_, rfl, Ls.nil⟩
    exact .cons r1 (.cons r2 (Rws.one r3))
  have halli : Sl u7 [] (IsR u7) [rawN ms 12, os, []] (.slice (some ⟨u6.heap.size, 0, none⟩) 3 3) := ⟨[.slice arv 12 crv, .slice ao os.length co, .slice none 0 0], ho7.src, fun _ _ _ _ _ => by simp, hrwi⟩
  have hF7 := hF6.trans0 hf7
  have hf57 := hf6.trans0 hf7
  generalize u6.heap.size = N6 at halli
  refine rx ?_
  refine c_loopK 26 [16, 17, 18, 19, 20, 21, 22, 23, 24, 25] (σ := Nat) (fun i g z => g 16 = .int .i64 (i : Nat) ∧ i ≤ 2 ∧ Fr [] u7 z) (fun i => 2 - i) 0 ⟨rfl, Nat.zero_le _, Fr.refl _ _⟩ ?_
  rintro i g z ⟨h16, hi, hfz⟩
  rw [eq_upd h16]
  have hFz := hF7.trans0 hfz
  by_cases hi2 : i < 2
  case neg =>
    refine rx ?_
    refine s_call (livesP z) rfl ?_
    rintro _ z2 ⟨rfl, hz2⟩
    refine ⟨_, rfl, ?_⟩
    refine rx ?_
    (apply ret1; exact rfl; (conv => lhs; whnf))
    exact ⟨rfl, hFz.trans0 hz2⟩
  have hi2' : i < [t, tx].length := hi2
  obtain ⟨adt, cst, e8, ⟨st, rfl, hnt⟩, hct⟩ := Sl.at hallt trrLen hi2'
  have htgi := htgl _ (List.getElem_mem hi2')
  generalize [t, tx][i] = tq at hnt htgi
  cases e8
  replace hnt := (hnt.tr0 hf57).tr0 hfz
  replace hct := (hct.tr0 hf57).tr0 hfz
  refine rx ?_
  refine c_loopK 26 [17, 18, 19, 20, 21] (σ := Nat) (fun k g w => g 17 = .int .i64 (k : Nat) ∧ k ≤ 3 ∧ Fr [] z w) (fun k => 3 - k) 0 ⟨rfl, Nat.zero_le _, Fr.refl _ _⟩ ?_
  rintro k g w ⟨h17, hk, hfw⟩
  rw [eq_upd h17]
  have hntw := hnt.tr0 hfw
  have hctw := hct.tr0 hfw
  by_cases hk3 : k < 3
  case neg =>
    refine rx ?_
    refine s_call (firstP tq htgi.ok htgi.len [] st w hntw (hlt0 _)) rfl ?_
    rintro _ w1 ⟨p1, rfl, hp1, _, hw1⟩
    refine ⟨_, rfl, ?_⟩
    have hctw1 := hctw.tr0 hw1
    refine rx ?_
    refine s_call (fitR tq htgi [] (Nat.zero_le _) [] st _ w1 (hntw.tr0 hw1) Ls.nil (hlt0 _)) rfl ?_
    rintro _ w2 ⟨p2, rfl, hp2, _, hw2⟩
    refine ⟨_, rfl, ?_⟩
    replace hp1 := hp1.tr0 hw2
    have hPl : (fitT tq []).1.length ≤ 256 := fitT_len
    generalize fitT tq [] = fx at hp1 hp2 hPl
    obtain ⟨P, pe⟩ := fx
    simp only at hp1 hp2 hPl ⊢
    refine rx ?_
    refine s_call (sameInts p1 p2 P P w2 hp1.src hp2.src (by omega)) rfl ?_
    rintro _ w3 ⟨rfl, hw3⟩
    refine ⟨_, rfl, ?_⟩
    rw [decide_eq_true rfl]
    refine rx ?_
    exact q_roundK (i + 1) (by (repeat (first | exact Keep.mrg _ _ _ _ | (refine Keep.hi rfl ?_) | (refine Keep.one rfl ?_) | exact Keep.all rfl | (refine Keep.inn rfl ?_) | (refine Keep.set rfl ?_)))) ⟨rfl, by omega, (((hfz.trans0 hfw).trans0 hw1).trans0 hw2).trans0 hw3⟩ (by omega)
  have hk3' : k < [rawN ms 12, os, []].length := hk3
  obtain ⟨adi, csi, e9, ⟨si, rfl, hii⟩, hci⟩ := Sl.at halli isrLen hk3'
  generalize [rawN ms 12, os, []][k] = rq at hii
  cases e9
  replace hii := (hii.tr0 hfz).tr0 hfw
  replace hci := (hci.tr0 hfz).tr0 hfw
  refine rx ?_
  (refine d_begin (fun y => Fr [] w y) (by kernel_rfl) rfl ?_)
  have hD : Fr [] w w.drew := Fr.drew _ _
  ((first | refine d_tx 0 hD ?_ | refine d_ty 0 hD ?_ | refine d_tn 0 hD ?_); (first | refine d_tx 1 hD ?_ | refine d_ty 1 hD ?_ | refine d_tn 1 hD ?_))
  (apply d_take (i := 2); exact rfl; kernel_rfl; kernel_rfl; kernel_rfl; (intro u hu; exact (r_indexAddr (j := i) rfl rfl rfl hi2 rfl)); exact hD)
  (apply d_take (i := 3); exact rfl; kernel_rfl; kernel_rfl; kernel_rfl; (intro u hu; exact (r_loadC rfl (hctw.tr0 hu) (by rfl))); exact hD)
  ((first | refine d_tx 4 hD ?_ | refine d_ty 4 hD ?_ | refine d_tn 4 hD ?_); (first | refine d_tx 5 hD ?_ | refine d_ty 5 hD ?_ | refine d_tn 5 hD ?_))
  (apply d_take (i := 6); exact rfl; kernel_rfl; kernel_rfl; kernel_rfl; (intro u hu; exact (r_indexAddr (j := k) rfl rfl rfl hk3 rfl)); exact hD)
  (apply d_take (i := 7); exact rfl; kernel_rfl; kernel_rfl; kernel_rfl; (intro u hu; exact (r_load rfl (Cells.get0 (hci.tr0 hu) rfl))); exact hD)
  refine d_one (i := 8) rfl (by kernel_rfl) ?_
  refine s_call (fitTP tq htgi.ok htgi.len rq (Nat.zero_le _) [] st si w.drew (hntw.tr0 hD) (hii.tr0 hD) (hlt0 _)) rfl ?_
  rintro _ w1 ⟨p1, rfl, hp1, _, hw1⟩
  refine ⟨_, rfl, ?_⟩
  have hD1 := hD.trans0 hw1
  refine wpList_nil (q_held hD1 ?_)
  ((first | refine d_tx 9 hD1 ?_ | refine d_ty 9 hD1 ?_ | refine d_tn 9 hD1 ?_); (first | refine d_tx 10 hD1 ?_ | refine d_ty 10 hD1 ?_ | refine d_tn 10 hD1 ?_); (first | refine d_tx 11 hD1 ?_ | refine d_ty 11 hD1 ?_ | refine d_tn 11 hD1 ?_))
  (refine d_one (i := 12) rfl (by kernel_rfl) ?_; refine rx ?_; refine q_held hD1 ?_)
  (refine d_one (i := 13) rfl (by kernel_rfl) ?_; refine rx ?_; refine q_held hD1 ?_)
  (refine d_done (by kernel_rfl) ?_)
  refine rx ?_
  (refine d_begin (fun y => Fr [] w1 y) (by kernel_rfl) rfl ?_)
  have hE : Fr [] w1 w1.drew := Fr.drew _ _
  ((first | refine d_tx 0 hE ?_ | refine d_ty 0 hE ?_ | refine d_tn 0 hE ?_); (first | refine d_tx 1 hE ?_ | refine d_ty 1 hE ?_ | refine d_tn 1 hE ?_))
  (apply d_take (i := 2); exact rfl; kernel_rfl; kernel_rfl; kernel_rfl; (intro u hu; exact (r_indexAddr (j := i) rfl rfl rfl hi2 rfl)); exact hE)
  (apply d_take (i := 3); exact rfl; kernel_rfl; kernel_rfl; kernel_rfl; (intro u hu; exact (r_loadC rfl ((hctw.tr0 hD1).tr0 hu) (by rfl))); exact hE)
  ((first | refine d_tx 4 hE ?_ | refine d_ty 4 hE ?_ | refine d_tn 4 hE ?_); (first | refine d_tx 5 hE ?_ | refine d_ty 5 hE ?_ | refine d_tn 5 hE ?_))
  (apply d_take (i := 6); exact rfl; kernel_rfl; kernel_rfl; kernel_rfl; (intro u hu; exact (r_indexAddr (j := k) rfl rfl rfl hk3 rfl)); exact hE)
  (apply d_take (i := 7); exact rfl; kernel_rfl; kernel_rfl; kernel_rfl; (intro u hu; exact (r_load rfl (Cells.get0 ((hci.tr0 hD1).tr0 hu) rfl))); exact hE)
  refine d_one (i := 8) rfl (by kernel_rfl) ?_
  refine s_call (fitR tq htgi rq (Nat.zero_le _) [] st si w1.drew ((hntw.tr0 hD1).tr0 hE) ((hii.tr0 hD1).tr0 hE) (hlt0 _)) rfl ?_
  rintro _ w2 ⟨p2, rfl, hp2, _, hw2⟩
  refine ⟨_, rfl, ?_⟩
  have hE2 := hE.trans0 hw2
  refine wpList_nil (q_held hE2 ?_)
  ((first | refine d_tx 9 hE2 ?_ | refine d_ty 9 hE2 ?_ | refine d_tn 9 hE2 ?_); (first | refine d_tx 10 hE2 ?_ | refine d_ty 10 hE2 ?_ | refine d_tn 10 hE2 ?_); (first | refine d_tx 11 hE2 ?_ | refine d_ty 11 hE2 ?_ | refine d_tn 11 hE2 ?_))
  (refine d_one (i := 12) rfl (by kernel_rfl) ?_; refine rx ?_; refine q_held hE2 ?_)
  (refine d_one (i := 13) rfl (by kernel_rfl) ?_; refine rx ?_; refine q_held hE2 ?_)
  (refine d_done (by kernel_rfl) ?_)
  replace hp1 := hp1.tr0 hE2
  have hPl : (fitT tq rq).1.length ≤ 256 := fitT_len
  generalize fitT tq rq = fx at hp1 hp2 hPl
  obtain ⟨P, pe⟩ := fx
  simp only at hp1 hp2 hPl ⊢
  refine rx ?_
  refine s_call (sameInts p1 p2 P P w2 hp1.src hp2.src (by omega)) rfl ?_
  rintro _ w3 ⟨rfl, hw3⟩
  refine ⟨_, rfl, ?_⟩
  rw [decide_eq_true rfl]
  refine rx ?_
  exact q_roundK (k + 1) (by (repeat (first | exact Keep.mrg _ _ _ _ | (refine Keep.hi rfl ?_) | (refine Keep.one rfl ?_) | exact Keep.all rfl | (refine Keep.inn rfl ?_) | (refine Keep.set rfl ?_)))) ⟨rfl, by omega, ((hfw.trans0 hD1).trans0 hE2).trans0 hw3⟩ (by omega)
end Go.Proofs.Ytpochcchekoonaa
