/-
  For every input TreePaths returns true.
-/
import Derived.Test.YtpochcchekoonaaOp
namespace Go.Proofs.Ytpochcchekoonaa
open Go.Rf Go.RowKit
set_option linter.unusedVariables false
set_option linter.unusedSimpArgs false
theorem allFs_mem : ∀ {l : List V}, allFs l = true → ∀ v ∈ l, allF v = true
  | [], _, v, h => by simp at h
  | x :: l, hl, v, h => by
    simp only [allFs, Bool.and_eq_true] at hl
    rcases List.mem_cons.1 h with rfl | h
    · exact hl.1
    · exact allFs_mem hl.2 v h
theorem fmd_size {v : V} (h : fmd v = true) : v.s.size ≤ 1000 := by
  have h0 : v.s = ⟨#[]⟩ → v.s.size ≤ 1000 := fun e => by rw [e]; decide
  unfold fmd at h
  split at h
  · exact h0 (of_decide_eq_true h).1
  split at h
  · exact h0 (of_decide_eq_true h).2.1
  split at h
  · exact h0 (of_decide_eq_true h).2
  split at h
  · simp only [Bool.and_eq_true] at h
    have hlen : v.s.data.toList.length = v.s.size := by simp
    rw [← hlen]
    have hc := h.2
    generalize v.s.data.toList = l at hc
    cases l with
    | nil => simp
    | cons c r =>
      simp only [capB, Bool.and_eq_true] at hc
      have := of_decide_eq_true hc.1.1.1
      simp only [List.length_cons]; omega
  · cases h
theorem allF_nm : ∀ v : V, allF v = true → VNm v
  | ⟨k, n, s, ks⟩, hv => by
    rw [allF_eq] at hv
    simp only [Bool.and_eq_true] at hv
    refine .mk (Nat.le_trans (fmd_size hv.1) (by decide)) (fun x hx => ?_)
    have : SizeOf.sizeOf x < SizeOf.sizeOf ks := List.sizeOf_lt_of_mem hx
    exact allF_nm x (allFs_mem hv.2 x hx)
attribute [local irreducible] Code.wp wpList Exit.then Exit.inBlock bodyPost A Calls execOp Addr.add
set_option maxHeartbeats 16000000 in
theorem treePaths_walk (x : Value) (l : List Int) (y : Value) (ms : List Int) (u : World) (hx : Src u x l.length (l.map (.int .i64))) (hl : ∀ n ∈ l, InI64 n) (hy : Src u y ms.length (ms.map (.int .i64))) (hms : ∀ n ∈ ms, InI64 n) :
    Calls Try.prog 9 #[x, y] u fun e u' => e = .returned (.bool true) ∧ Fr [] u u' := by
  obtain ⟨ax, cx, rfl, _⟩ := id hx
  obtain ⟨ay, cy, rfl, _⟩ := id hy
  refine enter Try.func9 rfl Try.ntmps9 rfl ?_
  refine rx ?_
  refine s_call (treeP l hl _ u hx) rfl ?_
  rintro _ u1 ⟨t, sn, rfl, hns, hval, hg, hlen, hf1⟩
  refine ⟨_, rfl, ?_⟩
  have htg := tg_of (by omega) hg hlen
  obtain ⟨an, cn, rfl, _⟩ := hns.slice
  refine s_alloc rfl (fun u2 hb2 hf2 hs2 => ?_)
  refine s_storeAggB (cs := [.slice an t.length cn]) rfl rfl hb2 (fun c hc => by simp at hc; subst hc; rfl) rfl rfl (fun u3 hb3 hf3 hs3 => ?_)
  obtain ⟨tb, htb⟩ : ∃ y, y = u1.heap.size := ⟨_, rfl⟩
  rw [← htb] at hb3 hf3 ⊢
  have hf13 : Fr [] u1 u3 := hf2.trans hf3 (by simp; omega)
  have hn3 := hns.tr0 hf13
  have hF3 := hf1.trans0 hf13
  have hlt0 : ∀ (w : World), ∀ q ∈ ([] : List Nat), q < w.heap.size := fun w q hq => by simp at hq
  refine rx ?_
  (refine d_begin (fun y => Fr [] u3 y) (by kernel_rfl) rfl ?_)
  have hS : Fr [] u3 u3.drew := Fr.drew _ _
  ((first | refine d_tx 0 hS ?_ | refine d_ty 0 hS ?_ | refine d_tn 0 hS ?_); (first | refine d_tx 1 hS ?_ | refine d_ty 1 hS ?_ | refine d_tn 1 hS ?_))
  refine d_one (i := 2) rfl (by kernel_rfl) ?_
  refine s_call (rawP ms hms _ 14 (by omega) u3.drew ((hy.tr0 hF3).tr0 hS)) rfl ?_
  rintro _ u4 ⟨rv, rfl, hor, hnr, hf4⟩
  refine ⟨_, rfl, ?_⟩
  have hS4 := hS.trans0 hf4
  refine wpList_nil (q_held hS4 ?_)
  refine d_one (i := 3) rfl (by kernel_rfl) ?_
  refine s_call (fitTP t htg.ok htg.len (rawN ms 14) (Nat.zero_le _) [] _ rv u4 (hn3.tr0 hS4) (Ls.ofSrc (by rw [rawN_len]; exact hor.src)) (hlt0 _)) rfl ?_
  rintro _ u5 ⟨pv, rfl, hop, hnp, hf5⟩
  refine ⟨_, rfl, ?_⟩
  have hPl : (fitT t (rawN ms 14)).1.length ≤ 256 := fitT_len
  have hS5 := hS4.trans0 hf5
  refine wpList_nil (q_held hS5 ?_)
  ((first | refine d_tx 4 hS5 ?_ | refine d_ty 4 hS5 ?_ | refine d_tn 4 hS5 ?_); (first | refine d_tx 5 hS5 ?_ | refine d_ty 5 hS5 ?_ | refine d_tn 5 hS5 ?_); (first | refine d_tx 6 hS5 ?_ | refine d_ty 6 hS5 ?_ | refine d_tn 6 hS5 ?_))
  (refine d_one (i := 7) rfl (by kernel_rfl) ?_; refine rx ?_; refine q_held hS5 ?_)
  (refine d_one (i := 8) rfl (by kernel_rfl) ?_; refine rx ?_; refine q_held hS5 ?_)
  (refine d_done (by kernel_rfl) ?_)
  have hF5 := hF3.trans0 hS5
  have hb5 := hb3.tr0 hS5
  have hn5 := hn3.tr0 hS5
  by_cases h0 : 0 < t.length
  case neg =>
    have ht0 : t = [] := List.eq_nil_of_length_eq_zero (by omega)
    have hne := (fitT_nil ht0 (rawN ms 14)).2 hval
    rw [hne]
    refine rx ?_
    refine s_call (livesP u5) rfl ?_
    rintro _ z2 ⟨rfl, hz2⟩
    refine ⟨_, rfl, ?_⟩
    refine rx ?_
    (apply ret1; exact rfl; (conv => lhs; whnf))
    exact ⟨rfl, hF5.trans0 hz2⟩
  obtain ⟨v0, sp0, hrd0, he0⟩ := fitT_val hval h0 (rawN ms 14)
  have hv1 := valT_fit hval h0 (rawN ms 14)
  have hv2 := valT_ok hval h0 (rawN ms 14)
  have hfp : fitT t (fitT t (rawN ms 14)).1 = ((fitT t (rawN ms 14)).1, 0) := by rw [fitT_same hval h0]; exact Prod.ext rfl he0
  have hopt := fun {i} (hi : i < (fitT t (rawN ms 14)).1.length) => opt_take hval h0 (rawN ms 14) hi
  have hend := opt_end hval h0 (rawN ms 14)
  rw [he0]
  generalize (fitT t (rawN ms 14)).1 = P at hop hPl hrd0 hv1 hv2 hfp hopt hend ⊢
  obtain ⟨ap, cp, rfl⟩ := hop.slice
  have hcp : P.length ≤ cp := by obtain ⟨_, _, e, h, _⟩ := hop.src; injection e with _ _ e3; omega
  have hnP : NS u5 (blks (.slice ap P.length cp)) t (.slice an t.length cn) := (hn3.mono (fun q hq => .inr (by have := hnp q hq; have := hS4.size; omega))).tr0 hS5
  refine rx ?_
  refine s_call (fitTP t htg.ok htg.len P (Nat.zero_le _) [] _ _ u5 hn5 (Ls.ofSrc hop.src) (hlt0 _)) rfl ?_
  rintro _ u6 ⟨qv, rfl, hoq, _, hf6⟩
  refine ⟨_, rfl, ?_⟩
  rw [hfp] at hoq
  rw [hfp]
  simp only at hoq ⊢
  have hb6 := hb5.tr0 hf6
  have hn6 := hn5.tr0 hf6
  have hop6 := hop.tr0 hf6
  refine rx ?_
  refine s_call (valueP t htg.ok htg.len P (by omega) [] _ _ u6 hn6 (Ls.ofSrc hop6.src) (hlt0 _)) rfl ?_
  rintro _ u7 ⟨s7, rfl, hf7, hvs7⟩
  refine ⟨_, rfl, ?_⟩
  rw [hv1]
  refine rx ?_
  refine s_alloc rfl (fun u8 hb8 hf8 hs8 => ?_)
  refine s_storeAggB (cs := vc (valT t P).1 s7) rfl rfl hb8 (VR.mem1 (w := u7) (S := []) (valT t P).1 _ ⟨_, rfl, hvs7 [] (by simp)⟩) rfl rfl (fun u9 hb9 hf9 hs9 => ?_)
  have hf79 : Fr [] u7 u9 := hf8.trans hf9 (by simp)
  have hvs9 := (hvs7 [] (by simp)).tr0 hf79
  have hG9 := (hf6.trans0 hf7).trans0 hf79
  have hb59 := hb5.tr0 hG9
  refine rx ?_
  refine s_call (sameInts _ qv P P u9 (hop.tr0 hG9).src ((hoq.tr0 hf7).tr0 hf79).src (by omega)) rfl ?_
  rintro _ u10 ⟨rfl, hf10⟩
  refine ⟨_, rfl, ?_⟩
  rw [decide_eq_true rfl]
  have hb10 := hb9.tr0 hf10
  refine rx ?_
  have hvz := valV_zero.1 hv2
  refine s_call (validP (valT t P).1 s7 u10 (hvs9.tr0 hf10) (allF_nm _ hvz.1) (by have := hvz.2.2; omega)) rfl ?_
  rintro _ u11 ⟨rfl, hf11⟩
  refine ⟨_, rfl, ?_⟩
  rw [hv2]
  have hG11 := (hG9.trans0 hf10).trans0 hf11
  have hF11 := hF5.trans0 hG11
  have hb11 := hb5.tr0 hG11
  have hn11 := hn5.tr0 hG11
  have hop11 := hop.tr0 hG11
  have hnP11 := hnP.tr0 hG11
  refine rx ?_
  refine c_loopK 27 [12, 13, 14, 15, 16, 17, 18, 19, 20, 21, 22] (σ := Nat) (fun i g z => g 12 = .int .i64 (i : Nat) ∧ i ≤ P.length ∧ Fr [] u11 z) (fun i => P.length - i) 0 ⟨rfl, Nat.zero_le _, Fr.refl _ _⟩ ?_
  rintro i g z ⟨h12, hi, hfz⟩
  rw [eq_upd h12]
  have hbz := hb11.tr0 hfz
  have hFz := hF11.trans0 hfz
  have hnz := hn11.tr0 hfz
  have hopz := hop11.tr0 hfz
  by_cases hil : i < P.length
  case neg =>
    refine rx ?_
    refine s_call (optionsT t htg.ok htg.len P (by omega) [] _ _ z hnz (Ls.ofSrc hopz.src) (hlt0 _)) rfl ?_
    rintro _ z1 ⟨rfl, hz1⟩
    refine ⟨_, rfl, ?_⟩
    rw [hend.1]
    simp only
    have hbz1 := hbz.tr0 hz1
    have hopz1 := hopz.tr0 hz1
    have hFz1 := hFz.trans0 hz1
    have hnpz : ∀ q ∈ blks (.slice ap P.length cp), u3.heap.size ≤ q ∧ q ≠ tb := fun q hq => by
      have h1 := hnp q hq
      have h2 := hS4.size
      have h3 := hb3.lt
      omega
    have hltp : ∀ q ∈ blks (.slice ap P.length cp), q < z1.heap.size := hopz1.lt
    have htbl := hbz1.lt
    refine rx ?_
    (refine d_begin (fun y => Blk y tb [.slice an t.length cn] 25) (by kernel_rfl) rfl ?_)
    have hD : Fr [] z1 z1.drew := Fr.drew _ _
    have hT := hbz1.tr0 hD
    have hopD := hopz1.tr0 hD
    have hnD := ((hnP11.tr0 hfz).tr0 hz1).tr0 hD
    have hFD := hFz1.trans0 hD
    have hsz : z1.heap.size ≤ z1.drew.heap.size := hD.size
    generalize z1.drew = zd at hT hopD hnD hFD hsz
    (apply d_take (i := 0); exact rfl; kernel_rfl; kernel_rfl; kernel_rfl; (intro u hu; exact (r_loadC rfl (Cells.ofBlk hu) (by rfl))); exact hT)
    ((first | refine d_tx 1 hT ?_ | refine d_ty 1 hT ?_ | refine d_tn 1 hT ?_))
    refine d_two (i := 2) (j := 8) rfl rfl (by kernel_rfl) ?qa1 ?qb1
    case' qa1 =>
      refine s_build1 (v := .int .i64 0) rfl rfl (fun zz ho2 hfx hsx => ?_)
      replace hT := hT.tr0 hfx
      replace hopD := hopD.tr0 hfx
      replace hnD := hnD.tr0 hfx
      replace hFD := hFD.trans0 hfx
      replace hsz := Nat.le_trans hsz hfx.size
      (first | (replace hbb := hbb.tr0 hfx) | skip)
      refine wpList_nil (q_held hT ?_)
      refine d_two (i := 3) (j := 8) rfl rfl (by kernel_rfl) ?qa2 ?qb2
      case' qa2 =>
        (first | (replace ho2 := ho2.tr0 (Fr.refl _ _)) | skip)
        refine s_append hopD rfl ho2.src rfl rfl (by simp [Value.oneCell']) (by unfold maxLen; omega) (by omega) (fun va zz ho3 hfx hkx _ => ?_)
        replace hT := hT.tr hfx (fun h => (hnpz _ h).2 rfl)
        replace hnD := hnD.tr hfx
        replace hFD := hFD.trans hfx (fun q hq => .inr (by have := (hnpz q hq).1; have := hF3.size; omega))
        replace hsz := Nat.le_trans hsz hfx.size
        (first | (replace hbb := hbb.tr hfx (fun h => by have := hltp _ h; omega)) | skip)
        have hpa : IS zz [] (P ++ [0]) va := Ls.ofSrc (by have := ho3.src; rw [List.length_append, List.map_append]; exact this)
        refine wpList_nil (q_held hT ?_)
        refine d_two (i := 4) (j := 8) rfl rfl (by kernel_rfl) ?qa3 ?qb3
        case' qa3 =>
          refine s_call (valueP t htg.ok htg.len (P ++ [0]) (by rw [List.length_append]; simp only [List.length_cons, List.length_nil]; omega) [] _ _ _ (hnD.mono (by simp)) hpa (hlt0 _)) rfl ?_
          rintro _ zz ⟨s25, rfl, hfx, hvs25⟩
          refine ⟨_, rfl, ?_⟩
          rw [hend.2]
          replace hT := hT.tr0 hfx
          replace hFD := hFD.trans0 hfx
          replace hsz := Nat.le_trans hsz hfx.size
          have hs25 := hvs25 [] (by simp)
          (first | (replace hbb := hbb.tr0 hfx) | skip)
          refine wpList_nil (q_held hT ?_)
          ((first | refine d_tx 5 hT ?_ | refine d_ty 5 hT ?_ | refine d_tn 5 hT ?_); (first | refine d_tx 6 hT ?_ | refine d_ty 6 hT ?_ | refine d_tn 6 hT ?_); (first | refine d_tx 7 hT ?_ | refine d_ty 7 hT ?_ | refine d_tn 7 hT ?_))
          refine d_one (i := 8) rfl (by kernel_rfl) ?_
          refine s_allocG rfl (fun bb zz hbg0 hbb hfx => ?_)
          have hbge := Nat.le_trans hsz hbg0
          replace hT := hT.tr0 hfx
          (first | (replace hopD := hopD.tr0 hfx) | skip)
          (first | (replace hnD := hnD.tr0 hfx) | skip)
          replace hFD := hFD.trans0 hfx
          (first | (replace hpa := hpa.tr0 hfx) | skip)
          (first | (replace ho2 := ho2.tr0 hfx) | skip)
          (first | (replace hs25 := hs25.tr0 hfx) | skip)
          replace hsz := Nat.le_trans hsz hfx.size
          refine wpList_nil (q_held hT ?_)
        case' qb3 =>
          refine s_allocG rfl (fun bb zz hbg0 hbb hfx => ?_)
          have hbge := Nat.le_trans hsz hbg0
          replace hT := hT.tr0 hfx
          (first | (replace hopD := hopD.tr0 hfx) | skip)
          (first | (replace hnD := hnD.tr0 hfx) | skip)
          replace hFD := hFD.trans0 hfx
          (first | (replace hpa := hpa.tr0 hfx) | skip)
          (first | (replace ho2 := ho2.tr0 hfx) | skip)
          (first | (replace hs25 := hs25.tr0 hfx) | skip)
          replace hsz := Nat.le_trans hsz hfx.size
          refine wpList_nil (q_held hT ?_)
          refine d_one (i := 4) rfl (by kernel_rfl) ?_
          refine s_call (valueP t htg.ok htg.len (P ++ [0]) (by rw [List.length_append]; simp only [List.length_cons, List.length_nil]; omega) [] _ _ _ (hnD.mono (by simp)) hpa (hlt0 _)) rfl ?_
          rintro _ zz ⟨s25, rfl, hfx, hvs25⟩
          refine ⟨_, rfl, ?_⟩
          rw [hend.2]
          replace hT := hT.tr0 hfx
          replace hFD := hFD.trans0 hfx
          replace hsz := Nat.le_trans hsz hfx.size
          have hs25 := hvs25 [] (by simp)
          (first | (replace hbb := hbb.tr0 hfx) | skip)
          refine wpList_nil (q_held hT ?_)
          ((first | refine d_tx 5 hT ?_ | refine d_ty 5 hT ?_ | refine d_tn 5 hT ?_); (first | refine d_tx 6 hT ?_ | refine d_ty 6 hT ?_ | refine d_tn 6 hT ?_); (first | refine d_tx 7 hT ?_ | refine d_ty 7 hT ?_ | refine d_tn 7 hT ?_))
      case' qb2 =>
        refine s_allocG rfl (fun bb zz hbg0 hbb hfx => ?_)
        have hbge := Nat.le_trans hsz hbg0
        replace hT := hT.tr0 hfx
        (first | (replace hopD := hopD.tr0 hfx) | skip)
        (first | (replace hnD := hnD.tr0 hfx) | skip)
        replace hFD := hFD.trans0 hfx
        (first | (replace hpa := hpa.tr0 hfx) | skip)
        (first | (replace ho2 := ho2.tr0 hfx) | skip)
        (first | (replace hs25 := hs25.tr0 hfx) | skip)
        replace hsz := Nat.le_trans hsz hfx.size
        refine wpList_nil (q_held hT ?_)
        refine d_one (i := 3) rfl (by kernel_rfl) ?_
        (first | (replace ho2 := ho2.tr0 (Fr.refl _ _)) | skip)
        refine s_append hopD rfl ho2.src rfl rfl (by simp [Value.oneCell']) (by unfold maxLen; omega) (by omega) (fun va zz ho3 hfx hkx _ => ?_)
        replace hT := hT.tr hfx (fun h => (hnpz _ h).2 rfl)
        replace hnD := hnD.tr hfx
        replace hFD := hFD.trans hfx (fun q hq => .inr (by have := (hnpz q hq).1; have := hF3.size; omega))
        replace hsz := Nat.le_trans hsz hfx.size
        (first | (replace hbb := hbb.tr hfx (fun h => by have := hltp _ h; omega)) | skip)
        have hpa : IS zz [] (P ++ [0]) va := Ls.ofSrc (by have := ho3.src; rw [List.length_append, List.map_append]; exact this)
        refine wpList_nil (q_held hT ?_)
        refine d_one (i := 4) rfl (by kernel_rfl) ?_
        refine s_call (valueP t htg.ok htg.len (P ++ [0]) (by rw [List.length_append]; simp only [List.length_cons, List.length_nil]; omega) [] _ _ _ (hnD.mono (by simp)) hpa (hlt0 _)) rfl ?_
        rintro _ zz ⟨s25, rfl, hfx, hvs25⟩
        refine ⟨_, rfl, ?_⟩
        rw [hend.2]
        replace hT := hT.tr0 hfx
        replace hFD := hFD.trans0 hfx
        replace hsz := Nat.le_trans hsz hfx.size
        have hs25 := hvs25 [] (by simp)
        (first | (replace hbb := hbb.tr0 hfx) | skip)
        refine wpList_nil (q_held hT ?_)
        ((first | refine d_tx 5 hT ?_ | refine d_ty 5 hT ?_ | refine d_tn 5 hT ?_); (first | refine d_tx 6 hT ?_ | refine d_ty 6 hT ?_ | refine d_tn 6 hT ?_); (first | refine d_tx 7 hT ?_ | refine d_ty 7 hT ?_ | refine d_tn 7 hT ?_))
    case' qb1 =>
      refine s_allocG rfl (fun bb zz hbg0 hbb hfx => ?_)
      have hbge := Nat.le_trans hsz hbg0
      replace hT := hT.tr0 hfx
      (first | (replace hopD := hopD.tr0 hfx) | skip)
      (first | (replace hnD := hnD.tr0 hfx) | skip)
      replace hFD := hFD.trans0 hfx
      (first | (replace hpa := hpa.tr0 hfx) | skip)
      (first | (replace ho2 := ho2.tr0 hfx) | skip)
      (first | (replace hs25 := hs25.tr0 hfx) | skip)
      replace hsz := Nat.le_trans hsz hfx.size
      refine wpList_nil (q_held hT ?_)
      refine d_one (i := 2) rfl (by kernel_rfl) ?_
      refine s_build1 (v := .int .i64 0) rfl rfl (fun zz ho2 hfx hsx => ?_)
      replace hT := hT.tr0 hfx
      replace hopD := hopD.tr0 hfx
      replace hnD := hnD.tr0 hfx
      replace hFD := hFD.trans0 hfx
      replace hsz := Nat.le_trans hsz hfx.size
      (first | (replace hbb := hbb.tr0 hfx) | skip)
      refine wpList_nil (q_held hT ?_)
      refine d_one (i := 3) rfl (by kernel_rfl) ?_
      (first | (replace ho2 := ho2.tr0 (Fr.refl _ _)) | skip)
      refine s_append hopD rfl ho2.src rfl rfl (by simp [Value.oneCell']) (by unfold maxLen; omega) (by omega) (fun va zz ho3 hfx hkx _ => ?_)
      replace hT := hT.tr hfx (fun h => (hnpz _ h).2 rfl)
      replace hnD := hnD.tr hfx
      replace hFD := hFD.trans hfx (fun q hq => .inr (by have := (hnpz q hq).1; have := hF3.size; omega))
      replace hsz := Nat.le_trans hsz hfx.size
      (first | (replace hbb := hbb.tr hfx (fun h => by have := hltp _ h; omega)) | skip)
      have hpa : IS zz [] (P ++ [0]) va := Ls.ofSrc (by have := ho3.src; rw [List.length_append, List.map_append]; exact this)
      refine wpList_nil (q_held hT ?_)
      refine d_one (i := 4) rfl (by kernel_rfl) ?_
      refine s_call (valueP t htg.ok htg.len (P ++ [0]) (by rw [List.length_append]; simp only [List.length_cons, List.length_nil]; omega) [] _ _ _ (hnD.mono (by simp)) hpa (hlt0 _)) rfl ?_
      rintro _ zz ⟨s25, rfl, hfx, hvs25⟩
      refine ⟨_, rfl, ?_⟩
      rw [hend.2]
      replace hT := hT.tr0 hfx
      replace hFD := hFD.trans0 hfx
      replace hsz := Nat.le_trans hsz hfx.size
      have hs25 := hvs25 [] (by simp)
      (first | (replace hbb := hbb.tr0 hfx) | skip)
      refine wpList_nil (q_held hT ?_)
      ((first | refine d_tx 5 hT ?_ | refine d_ty 5 hT ?_ | refine d_tn 5 hT ?_); (first | refine d_tx 6 hT ?_ | refine d_ty 6 hT ?_ | refine d_tn 6 hT ?_); (first | refine d_tx 7 hT ?_ | refine d_ty 7 hT ?_ | refine d_tn 7 hT ?_))
    all_goals
      refine d_one (i := 9) rfl (by kernel_rfl) ?_
      refine s_storeAggB (cs := vc (valT t (P ++ [0])).1 s25) rfl rfl hbb (fun c hc => by simp only [vc, List.mem_cons, List.not_mem_nil, or_false] at hc; rcases hc with rfl | rfl | rfl | rfl; all_goals first | rfl | exact hs25.one) rfl rfl (fun zy hby hfy hsy => ?_)
      have hTy := hT.tr hfy (by simp; omega)
      have hFy : Fr [] u zy := hFD.trans hfy (by simp; have := hF3.size; have := hFz1.size; omega)
      refine wpList_nil (q_held hTy ?_)
      (refine d_one (i := 10) rfl (by kernel_rfl) ?_; refine rx ?_; refine q_held hTy ?_)
      (refine d_done (by kernel_rfl) ?_)
      refine rx ?_
      refine s_call (livesP zy) rfl ?_
      rintro _ z9 ⟨rfl, hz9⟩
      refine ⟨_, rfl, ?_⟩
      refine rx ?_
      (apply ret1; exact rfl; (conv => lhs; whnf))
      exact ⟨rfl, hFy.trans0 hz9⟩
  obtain ⟨kn, n, c, hstop, hopn, hPi, hcn⟩ := hopt hil
  have hil2 : (P.take i).length = i := by rw [List.length_take]; omega
  have hsrcI : ∀ w, Fr [] z w → IS w [] (P.take i) (.slice ap i cp) := fun w hw => Ls.ofSrc (by
    have := Src.pre (hopz.tr0 hw).src (show i ≤ P.length by omega) (by simp)
    rw [hil2, List.map_take]; exact this)
  have hka : ∃ ad2, ap = some ad2 := own_some hopz (by omega)
  obtain ⟨ad2, rfl⟩ := hka
  have hPc : P[i]'hil = (c : Int) := by rw [List.getElem?_eq_getElem hil] at hPi; exact Option.some.inj hPi
  have hcell : ∀ w, Fr [] z w → w.cell? (ad2.add i) = some (.int .i64 (c : Nat)) := fun w hw => by
    obtain ⟨ad', e', hc'⟩ := Ls.at (Ls.ofSrc (hopz.tr0 hw).src) hil
    cases e'
    rw [hPc] at hc'
    exact hc'
  refine rx ?_
  (refine d_begin (fun y => Fr [] z y) (by kernel_rfl) rfl ?_)
  have hD : Fr [] z z.drew := Fr.drew _ _
  ((first | refine d_tx 0 hD ?_ | refine d_ty 0 hD ?_ | refine d_tn 0 hD ?_); (first | refine d_tx 1 hD ?_ | refine d_ty 1 hD ?_ | refine d_tn 1 hD ?_); (first | refine d_tx 2 hD ?_ | refine d_ty 2 hD ?_ | refine d_tn 2 hD ?_))
  (apply d_take (i := 3); exact rfl; kernel_rfl; kernel_rfl; kernel_rfl; (intro u hu; exact (r_sliceTo (k := i) rfl rfl (by omega))); exact hD)
  refine d_one (i := 4) rfl (by kernel_rfl) ?_
  refine s_call (optionsT t htg.ok htg.len (P.take i) (by omega) [] _ _ z.drew (hnz.tr0 hD) (hsrcI _ hD) (hlt0 _)) rfl ?_
  rintro _ z1 ⟨rfl, hz1⟩
  refine ⟨_, rfl, ?_⟩
  rw [hopn]
  simp only
  have hD1 := hD.trans0 hz1
  refine wpList_nil (q_held hD1 ?_)
  ((first | refine d_tx 5 hD1 ?_ | refine d_ty 5 hD1 ?_ | refine d_tn 5 hD1 ?_); (first | refine d_tx 6 hD1 ?_ | refine d_ty 6 hD1 ?_ | refine d_tn 6 hD1 ?_); (first | refine d_tx 7 hD1 ?_ | refine d_ty 7 hD1 ?_ | refine d_tn 7 hD1 ?_))
  (refine d_one (i := 8) rfl (by kernel_rfl) ?_; refine rx ?_; refine q_held hD1 ?_)
  (refine d_one (i := 9) rfl (by kernel_rfl) ?_; refine rx ?_; refine q_held hD1 ?_)
  (refine d_done (by kernel_rfl) ?_)
  refine rx ?_
  rw [Nat.mul_one]
  refine s_load rfl (hcell _ hD1) ?_
  have hbz1 := hbz.tr0 hD1
  have hnz1 := hnz.tr0 hD1
  have hopz1 := hopz.tr0 hD1
  obtain ⟨mn, hmn⟩ : ∃ mn : Int, (if (6 : Int) < (n : Int) then 6 else (n : Int)) = mn := ⟨_, rfl⟩
  have hmn2 : mn ≤ n ∧ mn ≤ 6 ∧ 0 ≤ mn := by rw [← hmn]; split <;> omega
  refine rx ?_
  refine c_loopK 27 [15, 16, 17, 18, 19, 20, 21, 22] (σ := Nat) (fun k g w => g 15 = .int .i64 (k : Nat) ∧ (k : Int) ≤ mn ∧ Fr [] z1 w) (fun k => 6 - k) 0 ⟨rfl, by omega, Fr.refl _ _⟩ ?_
  rintro k g w ⟨h15, hk, hfw⟩
  rw [eq_upd h15]
  have hbw := hbz1.tr0 hfw
  have hnw := hnz1.tr0 hfw
  have hopw := hopz1.tr0 hfw
  by_cases hkm : (k : Int) < mn
  case neg =>
    refine rx ?_
    refine s_min rfl rfl hmn ?_
    refine rx ?_
    exact q_roundK (i + 1) (by (repeat (first | exact Keep.mrg _ _ _ _ | (refine Keep.hi rfl ?_) | (refine Keep.one rfl ?_) | exact Keep.all rfl | (refine Keep.inn rfl ?_) | (refine Keep.set rfl ?_)))) ⟨rfl, by omega, (hfz.trans0 hD1).trans0 hfw⟩ (by omega)
  have hmore := opt_more hval h0 hstop (c := k) (by omega)
  refine rx ?_
  refine s_min rfl rfl hmn ?_
  refine rx ?_
  refine s_build0 (fun w1 ho1 hf1w hs1w => ?_)
  refine rx ?_
  refine s_run (r_sliceTo (k := i) rfl rfl (by omega)) ?_
  refine s_append ho1 rfl (Src.pre (hopw.tr0 hf1w).src (show i ≤ P.length by omega) (by simp)) rfl (by simp; omega) (fun u hu => map_one u (List.mem_of_mem_take hu)) (by unfold maxLen; omega) (by omega) (fun v2 w2 ho2 hf2w hk2w _ => ?_)
  have hg2 : Fr [] w w2 := hf1w.trans hf2w (by simp [blks, Value.ownBlock])
  have hk2' : ∀ q ∈ blks v2, w.heap.size ≤ q := fun q hq => by
    rcases hk2w q hq with h | h
    · simp [blks, Value.ownBlock] at h; omega
    · have := hf1w.size; omega
  refine rx ?_
  ((with_reducible apply s_build1); (conv => lhs; whnf); exact rfl)
  intro w3 hs3w hf3w hz3w
  refine s_append (ho2.tr0 hf3w) rfl hs3w.src rfl rfl (by simp [Value.oneCell']) (by unfold maxLen; omega) (by omega) (fun v4 w4 ho4 hf4w hk4w _ => ?_)
  have hg4 : Fr [] w w4 := (hg2.trans0 hf3w).trans hf4w (fun q hq => .inr (hk2' q hq))
  have hbl : (P.take i ++ [(k : Int)]).length = 0 + i + 1 := by rw [List.length_append, hil2]; simp
  have hobg : Own w4 3 1 v4 (P.take i ++ [(k : Int)]).length ((P.take i ++ [(k : Int)]).map (.int .i64)) := by
    rw [hbl]
    simpa [List.map_take] using ho4
  clear ho4 ho2 ho1
  generalize P.take i ++ [(k : Int)] = bg at hobg hbl hmore
  obtain ⟨ab, cb, rfl⟩ := hobg.slice
  have hbw4 := hbw.tr0 hg4
  have hnw4 := hnw.tr0 hg4
  refine rx ?_
  refine s_call (optionsT t htg.ok htg.len bg (by omega) [] _ _ w4 hnw4 (Ls.ofSrc hobg.src) (hlt0 _)) rfl ?_
  rintro _ w5 ⟨rfl, hf5w⟩
  refine ⟨_, rfl, ?_⟩
  rw [hmore.1]
  have hbw5 := hbw4.tr0 hf5w
  have hnw5 := hnw4.tr0 hf5w
  have hobg5 := hobg.tr0 hf5w
  refine rx ?_
  refine s_call (fitTP t htg.ok htg.len bg (Nat.zero_le _) [] _ _ w5 hnw5 (Ls.ofSrc hobg5.src) (hlt0 _)) rfl ?_
  rintro _ w6 ⟨fv, rfl, hofv, _, hf6w⟩
  refine ⟨_, rfl, ?_⟩
  have hvf := valT_fit hval h0 bg
  obtain ⟨_, _, _, hef⟩ := fitT_val hval h0 bg
  have hlf : (fitT t bg).1.length ≤ 256 := fitT_len
  obtain ⟨q, hq⟩ := hmore.2
  rw [hef]
  rw [hq] at hofv hvf hlf
  have hbw6 := hbw5.tr0 hf6w
  have hnw6 := hnw5.tr0 hf6w
  obtain ⟨af, cf, rfl⟩ := hofv.slice
  have hcf : (bg ++ q).length ≤ cf := by obtain ⟨_, _, e, h, _⟩ := hofv.src; injection e with _ _ e3; omega
  have hlq : (bg ++ q).length = bg.length + q.length := List.length_append
  refine rx ?_
  refine s_call (valueP t htg.ok htg.len (bg ++ q) (by omega) [] _ _ w6 hnw6 (Ls.ofSrc hofv.src) (hlt0 _)) rfl ?_
  rintro _ w7 ⟨s7', rfl, hf7w, hvs7'⟩
  refine ⟨_, rfl, ?_⟩
  rw [hvf]
  refine rx ?_
  refine s_alloc rfl (fun w8 hb8w hf8w hs8w => ?_)
  refine s_storeAggB (cs := vc (valT t (bg ++ q)).1 s7') rfl rfl hb8w (VR.mem1 (w := w7) (S := []) (valT t (bg ++ q)).1 _ ⟨_, rfl, hvs7' [] (by simp)⟩) rfl rfl (fun w9 hb9w hf9w hs9w => ?_)
  have hf79w : Fr [] w7 w9 := hf8w.trans hf9w (by simp)
  have hf69 := hf7w.trans0 hf79w
  have hobg9 := (hobg5.tr0 hf6w).tr0 hf69
  have hofv9 := hofv.tr0 hf69
  refine rx ?_
  refine s_run (r_sliceTo (k := bg.length) rfl rfl (by omega)) ?_
  refine rx ?_
  refine s_call (sameInts _ _ bg bg w9 (by
    have := Src.pre hofv9.src (show bg.length ≤ (bg ++ q).length by omega) (by simp)
    rw [← List.map_take, List.take_left] at this
    exact this) hobg9.src (by omega)) rfl ?_
  rintro _ w10 ⟨rfl, hf10w⟩
  refine ⟨_, rfl, ?_⟩
  rw [decide_eq_true rfl]
  refine rx ?_
  exact q_roundK (k + 1) (by (repeat (first | exact Keep.mrg _ _ _ _ | (refine Keep.hi rfl ?_) | (refine Keep.one rfl ?_) | exact Keep.all rfl | (refine Keep.inn rfl ?_) | (refine Keep.set rfl ?_)))) ⟨rfl, by omega, ((((hfw.trans0 hg4).trans0 hf5w).trans0 hf6w).trans0 hf69).trans0 hf10w⟩ (by omega)
end Go.Proofs.Ytpochcchekoonaa
