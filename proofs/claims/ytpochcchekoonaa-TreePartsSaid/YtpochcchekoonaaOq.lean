/-
  For every input TreeParts returns true.
-/
import Derived.Test.YtpochcchekoonaaOp
namespace Go.Proofs.Ytpochcchekoonaa
open Go.Rf Go.RowKit
set_option linter.unusedVariables false
set_option linter.unusedSimpArgs false
attribute [local irreducible] Code.wp wpList Exit.then Exit.inBlock bodyPost A Calls execOp Addr.add
set_option maxHeartbeats 8000000 in
theorem treeParts_walk (x : Value) (l : List Int) (y : Value) (ms : List Int) (u : World) (hx : Src u x l.length (l.map (.int .i64))) (hl : ∀ n ∈ l, InI64 n) (hy : Src u y ms.length (ms.map (.int .i64))) (hms : ∀ n ∈ ms, InI64 n) :
    Calls Try.prog 6 #[x, y] u fun e u' => e = .returned (.bool true) ∧ Fr [] u u' := by
  obtain ⟨ax, cx, rfl, _⟩ := id hx
  obtain ⟨ay, cy, rfl, _⟩ := id hy
  refine enter Try.func6 rfl Try.ntmps6 rfl ?_
  refine rx ?_
  refine s_call (treeP l hl _ u hx) rfl ?_
  rintro _ u1 ⟨t, sn, rfl, hns, hval, hg, hlen, hf1⟩
  refine ⟨_, rfl, ?_⟩
  have htg := tg_of (by omega) hg hlen
  obtain ⟨an, cn, rfl, _⟩ := hns.slice
  refine s_alloc rfl (fun u2 hb2 hf2 hs2 => ?_)
  refine s_storeAggB (cs := [.slice an t.length cn]) rfl rfl hb2 (fun c hc => by simp at hc; subst hc; rfl) rfl rfl (fun u3 hb3 hf3 hs3 => ?_)
  obtain ⟨tb, htb⟩ : ∃ y, y = u1.heap.size := ⟨_, rfl⟩
  rw [← htb] at hb3 hf3 ⊢
  have hf13 : Fr [] u1 u3 := hf2.trans hf3 (by simp; omega)
  have hn3 := hns.tr0 hf13
  have hF3 := hf1.trans0 hf13
  have hlt0 : ∀ (w : World), ∀ q ∈ ([] : List Nat), q < w.heap.size := fun w q hq => by simp at hq
  refine rx ?_
  (refine d_begin (fun y => Fr [] u3 y) (by kernel_rfl) rfl ?_)
  have hS : Fr [] u3 u3.drew := Fr.drew _ _
  ((first | refine d_tx 0 hS ?_ | refine d_ty 0 hS ?_ | refine d_tn 0 hS ?_); (first | refine d_tx 1 hS ?_ | refine d_ty 1 hS ?_ | refine d_tn 1 hS ?_))
  refine d_one (i := 2) rfl (by kernel_rfl) ?_
  refine s_call (rawP ms hms _ 14 (by omega) u3.drew ((hy.tr0 hF3).tr0 hS)) rfl ?_
  rintro _ u4 ⟨rv, rfl, hor, hnr, hf4⟩
  refine ⟨_, rfl, ?_⟩
  have hS4 := hS.trans0 hf4
  refine wpList_nil (q_held hS4 ?_)
  refine d_one (i := 3) rfl (by kernel_rfl) ?_
  refine s_call (fitTP t htg.ok htg.len (rawN ms 14) (Nat.zero_le _) [] _ rv u4 (hn3.tr0 hS4) (Ls.ofSrc (by rw [rawN_len]; exact hor.src)) (hlt0 _)) rfl ?_
  rintro _ u5 ⟨pv, rfl, hop, hnp, hf5⟩
  refine ⟨_, rfl, ?_⟩
  have hPl : (fitT t (rawN ms 14)).1.length ≤ 256 := fitT_len
  have hS5 := hS4.trans0 hf5
  refine wpList_nil (q_held hS5 ?_)
  ((first | refine d_tx 4 hS5 ?_ | refine d_ty 4 hS5 ?_ | refine d_tn 4 hS5 ?_); (first | refine d_tx 5 hS5 ?_ | refine d_ty 5 hS5 ?_ | refine d_tn 5 hS5 ?_); (first | refine d_tx 6 hS5 ?_ | refine d_ty 6 hS5 ?_ | refine d_tn 6 hS5 ?_))
  (refine d_one (i := 7) rfl (by kernel_rfl) ?_; refine rx ?_; refine q_held hS5 ?_)
  (refine d_one (i := 8) rfl (by kernel_rfl) ?_; refine rx ?_; refine q_held hS5 ?_)
  (refine d_done (by kernel_rfl) ?_)
  have hF5 := hF3.trans0 hS5
  have hb5 := hb3.tr0 hS5
  have hn5 := hn3.tr0 hS5
  by_cases h0 : 0 < t.length
  case neg =>
    have ht0 : t = [] := List.eq_nil_of_length_eq_zero (by omega)
    have hne := (fitT_nil ht0 (rawN ms 14)).1
    generalize (fitT t (rawN ms 14)).2 = e at hne ⊢
    refine rx ?_
    refine s_call (livesP u5) rfl ?_
    rintro _ z2 ⟨rfl, hz2⟩
    refine ⟨_, rfl, ?_⟩
    refine rx ?_
    (apply ret1; exact rfl; (conv => lhs; whnf))
    exact ⟨rfl, hF5.trans0 hz2⟩
  obtain ⟨v0, sp0, hrd0, he0⟩ := fitT_val hval h0 (rawN ms 14)
  have hspf := spanT_fit hval h0 (rawN ms 14)
  rw [he0]
  generalize (fitT t (rawN ms 14)).1 = P at hop hPl hrd0 hspf ⊢
  obtain ⟨ap, cp, rfl⟩ := hop.slice
  have hcp : P.length ≤ cp := by obtain ⟨_, _, e, h, _⟩ := hop.src; injection e with _ _ e3; omega
  refine rx ?_
  refine s_call (spansP t htg.ok htg.len P (by omega) (htg.sp hval _ (by omega)) [] _ _ u5 hn5 (Ls.ofSrc hop.src) (hlt0 _)) rfl ?_
  rintro _ u6 ⟨sv, rfl, hf6, hos, hks⟩
  refine ⟨_, rfl, ?_⟩
  have hspl : (spanT t P).1.length ≤ 100000000000 := spanT_len htg
  rw [hspf.1]
  replace hspf := hspf.2
  generalize (spanT t P).1 = sp at hos hspl hspf ⊢
  obtain ⟨as_, cs_, rfl⟩ := hos.slice
  have hsl := (spOwn.2 hos).sl spStab
  have hF6 := hF5.trans0 hf6
  have hb6 := hb5.tr0 hf6
  have hn6 := hn5.tr0 hf6
  have hop6 := hop.tr0 hf6
  refine rx ?_
  refine c_loopK 22 [10, 11, 12, 13, 14, 15, 16, 17, 18, 19, 20, 21] (σ := Nat) (fun i g z => g 10 = .int .i64 (i : Nat) ∧ i ≤ sp.length ∧ Fr [] u6 z) (fun i => sp.length - i) 0 ⟨rfl, Nat.zero_le _, Fr.refl _ _⟩ ?_
  rintro i g z ⟨h10, hi, hfz⟩
  rw [eq_upd h10]
  have hbz := hb6.tr0 hfz
  have hFz := hF6.trans0 hfz
  have hnz := hn6.tr0 hfz
  have hopz := hop6.tr0 hfz
  by_cases hil : i < sp.length
  case neg =>
    refine rx ?_
    refine s_call (livesP z) rfl ?_
    rintro _ z2 ⟨rfl, hz2⟩
    refine ⟨_, rfl, ?_⟩
    refine rx ?_
    (apply ret1; exact rfl; (conv => lhs; whnf))
    exact ⟨rfl, hFz.trans0 hz2⟩
  obtain ⟨ad1, c1, e1, hr1, hc1⟩ := Sl.at hsl (fun x cs h => spStab.len h) hil
  cases e1
  have hsb := hspf _ (List.getElem_mem hil)
  generalize sp[i] = s at hr1 hsb
  obtain ⟨a, b, c⟩ := s
  unfold spR at hr1
  subst hr1
  simp only at hsb hc1
  obtain ⟨hab, hbc, hcl⟩ := hsb
  replace hc1 := hc1.tr0 hfz
  refine rx ?_
  refine s_alloc rfl (fun z1 hb1' hf1' hs1' => ?_)
  refine s_storeAggB (cs := [.int .i64 (a : Nat), .int .i64 (b : Nat), .int .i64 (c : Nat)]) rfl rfl hb1' (by simp [Value.oneCell']) rfl rfl (fun z2 hb2' hf2' hs2' => ?_)
  obtain ⟨xb, hxb⟩ : ∃ y, y = z.heap.size := ⟨_, rfl⟩
  rw [← hxb] at hb2' hf2' ⊢
  have hfz2 : Fr [] z z2 := hf1'.trans hf2' (by simp; omega)
  refine rx ?_
  refine s_addrArr1 (j := 0) rfl rfl (by omega) ?_
  refine rx ?_
  refine s_addrArr1 (j := 0) rfl rfl (by omega) ?_
  refine rx ?_
  refine s_addrArr1 (j := 1) rfl rfl (by omega) ?_
  refine rx ?_
  refine s_addrArr1 (j := 1) rfl rfl (by omega) ?_
  refine rx ?_
  refine s_addrArr1 (j := 2) rfl rfl (by omega) ?_
  refine rx ?_
  refine s_addrArr1 (j := 2) rfl rfl (by omega) ?_
  refine rx ?_
  have hopz2 := hopz.tr0 hfz2
  (refine d_begin (fun y => Blk y xb [.int .i64 (a : Nat), .int .i64 (b : Nat), .int .i64 (c : Nat)] 48) (by kernel_rfl) rfl ?_)
  have hD : Fr [] z2 z2.drew := Fr.drew _ _
  have hT := hb2'.tr0 hD
  ((first | refine d_tx 1 hT ?_ | refine d_ty 1 hT ?_ | refine d_tn 1 hT ?_))
  (apply d_take (i := 2); exact rfl; kernel_rfl; kernel_rfl; kernel_rfl; (intro u hu; exact (r_addrArr (j := 1) rfl rfl (by omega))); exact hT)
  (apply d_take (i := 3); exact rfl; kernel_rfl; kernel_rfl; kernel_rfl; (intro u hu; exact (r_load rfl (Blk.cellA hu rfl))); exact hT)
  (apply d_take (i := 4); exact rfl; kernel_rfl; kernel_rfl; kernel_rfl; (intro u hu; exact (r_sliceTo (k := b) rfl rfl (by omega))); exact hT)
  ((first | refine d_tx 6 hT ?_ | refine d_ty 6 hT ?_ | refine d_tn 6 hT ?_))
  (apply d_take (i := 7); exact rfl; kernel_rfl; kernel_rfl; kernel_rfl; (intro u hu; exact (r_addrArr (j := 2) rfl rfl (by omega))); exact hT)
  (apply d_take (i := 8); exact rfl; kernel_rfl; kernel_rfl; kernel_rfl; (intro u hu; exact (r_load rfl (Blk.cellA hu rfl))); exact hT)
  (apply d_take (i := 9); exact rfl; kernel_rfl; kernel_rfl; kernel_rfl; (intro u hu; exact (r_sliceFrom (j := c) rfl rfl (by omega) hcp)); exact hT)
  refine d_one (i := 0) rfl (by kernel_rfl) ?_
  refine s_build0 (fun w1 ho1 hf1w hs1w => ?_)
  have hT1 := hT.tr0 hf1w
  have hg1 := hD.trans0 hf1w
  refine wpList_nil (q_held hT1 ?_)
  refine d_one (i := 5) rfl (by kernel_rfl) ?_
  refine s_append ho1 rfl (Src.pre (hopz2.tr0 hg1).src (show b ≤ P.length by omega) (by simp)) rfl (by simp; omega) (fun u hu => map_one u (List.mem_of_mem_take hu)) (by unfold maxLen; omega) (by omega) (fun v2 w2 ho2 hf2w hk2w _ => ?_)
  have hg2 : Fr [] z2 w2 := hg1.trans hf2w (by simp [blks, Value.ownBlock])
  have hT2 : Blk w2 xb [.int .i64 (a : Nat), .int .i64 (b : Nat), .int .i64 (c : Nat)] 48 := hb2'.tr0 hg2
  have hk2' : ∀ q ∈ blks v2, z2.heap.size ≤ q := fun q hq => by
    rcases hk2w q hq with h | h
    · simp [blks, Value.ownBlock] at h; have := hD.size; omega
    · have := hg1.size; omega
  refine wpList_nil (q_held hT2 ?_)
  refine d_one (i := 10) rfl (by kernel_rfl) ?_
  refine s_append ho2 rfl (Src.cut (hopz2.tr0 hg2).src (size := 1) (by simp) (j := c) (k := P.length) (by omega) (Nat.le_refl _)) rfl (by simp) (fun u hu => map_one u (List.mem_of_mem_take (List.mem_of_mem_drop hu))) (by unfold maxLen; omega) (by omega) (fun v3 w3 ho3 hf3w hk3w _ => ?_)
  have hg3 : Fr [] z2 w3 := hg2.trans hf3w (fun q hq => .inr (hk2' q hq))
  have hT3 : Blk w3 xb [.int .i64 (a : Nat), .int .i64 (b : Nat), .int .i64 (c : Nat)] 48 := hb2'.tr0 hg3
  refine wpList_nil (q_held hT3 ?_)
  (refine d_one (i := 11) rfl (by kernel_rfl) ?_; refine rx ?_; refine q_held hT3 ?_)
  (refine d_done (by kernel_rfl) ?_)
  obtain ⟨cut, hcut⟩ : ∃ cut : List Int, IS w3 [] cut v3 := by
    refine ⟨P.take b ++ P.drop c, Ls.ofSrc ?_⟩
    have h1 := ho3.src
    have e1 : (P.take b ++ P.drop c).length = 0 + b + (P.length - c) := by simp; omega
    rw [e1]
    have hPt : (P.map (Value.int .i64)).take P.length = P.map (.int .i64) := List.take_of_length_le (by simp)
    simpa [List.map_take, List.map_drop, hPt] using h1
  clear ho3 ho2 ho1
  have hv3 := hcut.one
  refine rx ?_
  (refine d_begin (fun y => Blk y xb [.int .i64 (a : Nat), .int .i64 (b : Nat), .int .i64 (c : Nat)] 48) (by kernel_rfl) rfl ?_)
  have hE : Fr [] w3 w3.drew := Fr.drew _ _
  have hU := hT3.tr0 hE
  have hopw3 := hopz2.tr0 hg3
  ((first | refine d_tx 1 hU ?_ | refine d_ty 1 hU ?_ | refine d_tn 1 hU ?_))
  (apply d_take (i := 2); exact rfl; kernel_rfl; kernel_rfl; kernel_rfl; (intro u hu; exact (r_addrArr (j := 0) rfl rfl (by omega))); exact hU)
  (apply d_take (i := 3); exact rfl; kernel_rfl; kernel_rfl; kernel_rfl; (intro u hu; exact (r_load rfl (Blk.cellA hu rfl))); exact hU)
  (apply d_take (i := 4); exact rfl; kernel_rfl; kernel_rfl; kernel_rfl; (intro u hu; exact (r_sliceTo (k := a) rfl rfl (by omega))); exact hU)
  ((first | refine d_tx 6 hU ?_ | refine d_ty 6 hU ?_ | refine d_tn 6 hU ?_))
  (apply d_take (i := 7); exact rfl; kernel_rfl; kernel_rfl; kernel_rfl; (intro u hu; exact (r_addrArr (j := 1) rfl rfl (by omega))); exact hU)
  (apply d_take (i := 8); exact rfl; kernel_rfl; kernel_rfl; kernel_rfl; (intro u hu; exact (r_load rfl (Blk.cellA hu rfl))); exact hU)
  (apply d_take (i := 9); exact rfl; kernel_rfl; kernel_rfl; kernel_rfl; (intro u hu; exact (r_addrArr (j := 2) rfl rfl (by omega))); exact hU)
  (apply d_take (i := 10); exact rfl; kernel_rfl; kernel_rfl; kernel_rfl; (intro u hu; exact (r_load rfl (Blk.cellA hu rfl))); exact hU)
  (apply d_take (i := 11); exact rfl; kernel_rfl; kernel_rfl; kernel_rfl; (intro u hu; exact (r_sliceFT (j := b) (k := c) rfl rfl rfl (by omega) (by omega) hcp)); exact hU)
  ((first | refine d_tx 13 hU ?_ | refine d_ty 13 hU ?_ | refine d_tn 13 hU ?_))
  (apply d_take (i := 14); exact rfl; kernel_rfl; kernel_rfl; kernel_rfl; (intro u hu; exact (r_addrArr (j := 0) rfl rfl (by omega))); exact hU)
  (apply d_take (i := 15); exact rfl; kernel_rfl; kernel_rfl; kernel_rfl; (intro u hu; exact (r_load rfl (Blk.cellA hu rfl))); exact hU)
  (apply d_take (i := 16); exact rfl; kernel_rfl; kernel_rfl; kernel_rfl; (intro u hu; exact (r_addrArr (j := 1) rfl rfl (by omega))); exact hU)
  (apply d_take (i := 17); exact rfl; kernel_rfl; kernel_rfl; kernel_rfl; (intro u hu; exact (r_load rfl (Blk.cellA hu rfl))); exact hU)
  (apply d_take (i := 18); exact rfl; kernel_rfl; kernel_rfl; kernel_rfl; (intro u hu; exact (r_sliceFT (j := a) (k := b) rfl rfl rfl (by omega) (by omega) hcp)); exact hU)
  ((first | refine d_tx 20 hU ?_ | refine d_ty 20 hU ?_ | refine d_tn 20 hU ?_))
  (apply d_take (i := 21); exact rfl; kernel_rfl; kernel_rfl; kernel_rfl; (intro u hu; exact (r_addrArr (j := 2) rfl rfl (by omega))); exact hU)
  (apply d_take (i := 22); exact rfl; kernel_rfl; kernel_rfl; kernel_rfl; (intro u hu; exact (r_load rfl (Blk.cellA hu rfl))); exact hU)
  (apply d_take (i := 23); exact rfl; kernel_rfl; kernel_rfl; kernel_rfl; (intro u hu; exact (r_sliceFrom (j := c) rfl rfl (by omega) hcp)); exact hU)
  refine d_one (i := 0) rfl (by kernel_rfl) ?_
  refine s_build0 (fun y1 ho1 hf1y hs1y => ?_)
  have hk1 := hE.trans0 hf1y
  refine wpList_nil (q_held (hU.tr0 hf1y) ?_)
  refine d_one (i := 5) rfl (by kernel_rfl) ?_
  refine s_append ho1 rfl (Src.pre (hopw3.tr0 hk1).src (show a ≤ P.length by omega) (by simp)) rfl (by simp; omega) (fun u hu => map_one u (List.mem_of_mem_take hu)) (by unfold maxLen; omega) (by omega) (fun q2 y2 ho2 hf2y hm2 _ => ?_)
  have hk2 : Fr [] w3 y2 := hk1.trans hf2y (by simp [blks, Value.ownBlock])
  have hn2 : ∀ q ∈ blks q2, w3.heap.size ≤ q := fun q hq => by
    rcases hm2 q hq with h | h
    · simp [blks, Value.ownBlock] at h; have := hE.size; omega
    · have := hk1.size; omega
  refine wpList_nil (q_held (hT3.tr0 hk2) ?_)
  refine d_one (i := 12) rfl (by kernel_rfl) ?_
  refine s_append ho2 rfl (Src.cut (hopw3.tr0 hk2).src (size := 1) (by simp) (j := b) (k := c) (by omega) (by omega)) rfl (by simp; omega) (fun u hu => map_one u (List.mem_of_mem_take (List.mem_of_mem_drop hu))) (by unfold maxLen; omega) (by omega) (fun q3 y3 ho3 hf3y hm3 _ => ?_)
  have hk3 : Fr [] w3 y3 := hk2.trans hf3y (fun q hq => .inr (hn2 q hq))
  have hn3' : ∀ q ∈ blks q3, w3.heap.size ≤ q := fun q hq => by
    rcases hm3 q hq with h | h
    · exact hn2 q h
    · have := hk2.size; omega
  refine wpList_nil (q_held (hT3.tr0 hk3) ?_)
  refine d_one (i := 19) rfl (by kernel_rfl) ?_
  refine s_append ho3 rfl (Src.cut (hopw3.tr0 hk3).src (size := 1) (by simp) (j := a) (k := b) (by omega) (by omega)) rfl (by simp; omega) (fun u hu => map_one u (List.mem_of_mem_take (List.mem_of_mem_drop hu))) (by unfold maxLen; omega) (by omega) (fun q4 y4 ho4 hf4y hm4 _ => ?_)
  have hk4 : Fr [] w3 y4 := hk3.trans hf4y (fun q hq => .inr (hn3' q hq))
  have hn4' : ∀ q ∈ blks q4, w3.heap.size ≤ q := fun q hq => by
    rcases hm4 q hq with h | h
    · exact hn3' q h
    · have := hk3.size; omega
  refine wpList_nil (q_held (hT3.tr0 hk4) ?_)
  refine d_one (i := 24) rfl (by kernel_rfl) ?_
  refine s_append ho4 rfl (Src.cut (hopw3.tr0 hk4).src (size := 1) (by simp) (j := c) (k := P.length) (by omega) (Nat.le_refl _)) rfl (by simp) (fun u hu => map_one u (List.mem_of_mem_take (List.mem_of_mem_drop hu))) (by unfold maxLen; omega) (by omega) (fun q5 y5 ho5 hf5y hm5 _ => ?_)
  have hk5 : Fr [] w3 y5 := hk4.trans hf5y (fun q hq => .inr (hn4' q hq))
  refine wpList_nil (q_held (hT3.tr0 hk5) ?_)
  (refine d_one (i := 25) rfl (by kernel_rfl) ?_; refine rx ?_; refine q_held (hT3.tr0 hk5) ?_)
  (refine d_done (by kernel_rfl) ?_)
  obtain ⟨trn, htrn⟩ : ∃ trn : List Int, IS y5 [] trn q5 := by
    refine ⟨P.take a ++ (P.take c).drop b ++ (P.take b).drop a ++ P.drop c, Ls.ofSrc ?_⟩
    have h1 := ho5.src
    have e1 : (P.take a ++ (P.take c).drop b ++ (P.take b).drop a ++ P.drop c).length = 0 + a + (c - b) + (b - a) + (P.length - c) := by simp; omega
    rw [e1]
    have hPt : (P.map (Value.int .i64)).take P.length = P.map (.int .i64) := List.take_of_length_le (by simp)
    simpa [List.map_take, List.map_drop, hPt] using h1
  clear ho1 ho2 ho3 ho4 ho5
  have hG : Fr [] z y5 := (hfz2.trans0 hg3).trans0 hk5
  have hbg := hbz.tr0 hG
  have hng := hnz.tr0 hG
  have hcutg := hcut.tr0 hk5
  refine rx ?_
  refine s_call (fitTP t htg.ok htg.len cut (Nat.zero_le _) [] _ _ y5 hng hcutg (hlt0 _)) rfl ?_
  rintro _ y6 ⟨p6, rfl, hop6', _, hf6y⟩
  refine ⟨_, rfl, ?_⟩
  have hv6 := valT_fit hval h0 cut
  obtain ⟨_, _, _, he6⟩ := fitT_val hval h0 cut
  have hl6 : (fitT t cut).1.length ≤ 256 := fitT_len
  rw [he6]
  generalize (fitT t cut).1 = pa at hop6' hv6 hl6
  have hbg6 := hbg.tr0 hf6y
  refine rx ?_
  refine s_call (fitTP t htg.ok htg.len trn (Nat.zero_le _) [] _ _ y6 (hng.tr0 hf6y) (htrn.tr0 hf6y) (hlt0 _)) rfl ?_
  rintro _ y7 ⟨p7, rfl, hop7', _, hf7y⟩
  refine ⟨_, rfl, ?_⟩
  have hv7 := valT_fit hval h0 trn
  obtain ⟨_, _, _, he7⟩ := fitT_val hval h0 trn
  have hl7 : (fitT t trn).1.length ≤ 256 := fitT_len
  rw [he7]
  generalize (fitT t trn).1 = pb at hop7' hv7 hl7
  have hbg7 := hbg6.tr0 hf7y
  have hng7 := (hng.tr0 hf6y).tr0 hf7y
  refine rx ?_
  refine s_call (valueP t htg.ok htg.len pa (by omega) [] _ _ y7 hng7 (Ls.ofSrc (hop6'.tr0 hf7y).src) (hlt0 _)) rfl ?_
  rintro _ y8 ⟨s8, rfl, hf8y, hvs8⟩
  refine ⟨_, rfl, ?_⟩
  rw [hv6]
  have hs8 := (hvs8 [] (by simp)).one
  refine rx ?_
  refine s_alloc rfl (fun y9 hb9 hf9y hs9 => ?_)
  refine s_storeAggB (cs := vc (valT t pa).1 s8) rfl rfl hb9 (VR.mem1 (w := y8) (S := []) (valT t pa).1 _ ⟨_, rfl, hvs8 [] (by simp)⟩) rfl rfl (fun y10 hb10 hf10y hs10 => ?_)
  have hf810 : Fr [] y8 y10 := hf9y.trans hf10y (by simp)
  have hG10 := (hf8y.trans0 hf810)
  have hbg10 := hbg7.tr0 hG10
  refine rx ?_
  refine s_call (valueP t htg.ok htg.len pb (by omega) [] _ _ y10 (hng7.tr0 hG10) (Ls.ofSrc (hop7'.tr0 hG10).src) (hlt0 _)) rfl ?_
  rintro _ y11 ⟨s11, rfl, hf11y, hvs11⟩
  refine ⟨_, rfl, ?_⟩
  rw [hv7]
  refine rx ?_
  refine s_alloc rfl (fun y12 hb12 hf12y hs12 => ?_)
  refine s_storeAggB (cs := vc (valT t pb).1 s11) rfl rfl hb12 (VR.mem1 (w := y11) (S := []) (valT t pb).1 _ ⟨_, rfl, hvs11 [] (by simp)⟩) rfl rfl (fun y13 hb13 hf13y hs13 => ?_)
  have hf1113 : Fr [] y11 y13 := hf12y.trans hf13y (by simp)
  refine rx ?_
  exact q_roundK (i + 1) (by (repeat (first | exact Keep.mrg _ _ _ _ | (refine Keep.hi rfl ?_) | (refine Keep.one rfl ?_) | exact Keep.all rfl | (refine Keep.inn rfl ?_) | (refine Keep.set rfl ?_)))) ⟨rfl, by omega, (((((hfz.trans0 hG).trans0 hf6y).trans0 hf7y).trans0 hG10).trans0 hf11y).trans0 hf1113⟩ (by omega)
end Go.Proofs.Ytpochcchekoonaa
