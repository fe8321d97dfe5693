/-
  Packages values, walk: Find (a binary search), Case, Options; the walker's parts.
-/
import Derived.Test.YtpochcchekoonaaGreatRe
namespace Go.Proofs.YtpochcchekoonaaGreat
open Go.Rf Go.RowKit
set_option linter.unusedVariables false
set_option linter.unusedSimpArgs false
attribute [local irreducible] Code.wp wpList Exit.then Exit.inBlock bodyPost A Calls execOp Addr.add
theorem fnd_at {l : List V} {v : V} {i : Nat} (hi : i ≤ l.length) (h1 : ∀ k (hk : k < l.length), k < i → cmpV l[k] v < 0) (h2 : ∀ k (hk : k < l.length), i ≤ k → 0 ≤ cmpV l[k] v) : (fndV l v).1 = i := by
  have hle := fndV_le l v
  rcases Nat.lt_trichotomy (fndV l v).1 i with h | h | h
  · have := (fnd_ge l v (by omega)).1
    have := h1 _ (by omega) h
    omega
  · exact h
  · have := fnd_lt l v i (by omega) h
    have := h2 i (by omega) (Nat.le_refl _)
    omega
set_option maxHeartbeats 8000000 in
theorem bsearchP (l : List V) (v : V) (sl sx : Value) (w : World) (hs : Srt l) (hl : VS w [] l sl) (hx : VS w [] v.kids sx) :
    Calls Tryz.prog 146 #[sl, .agg (vc v sx).toArray, .func (.func 76) #[] #[]] w fun e w' => e = .returned (.tuple #[.int .i64 ((fndV l v).1 : Nat), .bool (fndV l v).2]) ∧ Fr [] w w' := by
  obtain ⟨al, cl, rfl, _⟩ := hl.slice
  have hlen := hl.bound
  refine enter Tryz.func146 rfl Tryz.ntmps146 rfl ?_
  refine rx ?_
  refine s_box rfl rfl (fun w1 hb1 hf1 hs1 => ?_)
  refine rx ?_
  refine c_loopK 12 [9, 10, 11] (σ := Nat × Nat) (fun s g u => g 9 = .int .i64 (s.1 : Nat) ∧ g 10 = .int .i64 (s.2 : Nat) ∧ s.1 ≤ s.2 ∧ s.2 ≤ l.length ∧ (∀ k (hk : k < l.length), k < s.1 → cmpV l[k] v < 0) ∧ (∀ k (hk : k < l.length), s.2 ≤ k → 0 ≤ cmpV l[k] v) ∧ Fr [] w1 u) (fun s => s.2 - s.1) (0, l.length) ⟨rfl, rfl, Nat.zero_le _, Nat.le_refl _, fun k hk h => by omega, fun k hk h => by simp only at h; omega, Fr.refl _ _⟩ ?_
  rintro ⟨i, j⟩ g u ⟨h9, h10, hij, hj, hlo, hhi, hfu⟩
  simp only at h9 h10 hij hj hlo hhi
  rw [eq_upd h9, eq_upd h10]
  have hb2 := hb1.tr0 hfu
  have hF := hf1.trans0 hfu
  have hl2 := hl.tr0 hF
  have hx2 := hx.tr0 hF
  by_cases hlt : i < j
  case neg =>
    have hij' : i = j := by omega
    subst hij'
    have hfi := fnd_at hj hlo hhi
    by_cases hil : i < l.length
    · obtain ⟨ad, cs1, rfl, ⟨sx1, rfl, hx1⟩, hcell1⟩ := Sl.at hl2.sl VR.len hil
      refine rx ?_
      (refine d_begin (fun y => Fr [] u y) (by kernel_rfl) rfl ?_)
      have hS : Fr [] u u.drew := Fr.drew _ _
      ((first | refine d_tx 0 hS ?_ | refine d_ty 0 hS ?_ | refine d_tn 0 hS ?_); (first | refine d_tx 1 hS ?_ | refine d_ty 1 hS ?_ | refine d_tn 1 hS ?_); (first | refine d_tx 2 hS ?_ | refine d_ty 2 hS ?_ | refine d_tn 2 hS ?_); (first | refine d_tx 3 hS ?_ | refine d_ty 3 hS ?_ | refine d_tn 3 hS ?_); (first | refine d_tx 4 hS ?_ | refine d_ty 4 hS ?_ | refine d_tn 4 hS ?_); (first | refine d_tx 5 hS ?_ | refine d_ty 5 hS ?_ | refine d_tn 5 hS ?_); (first | refine d_tx 6 hS ?_ | refine d_ty 6 hS ?_ | refine d_tn 6 hS ?_); (first | refine d_tx 7 hS ?_ | refine d_ty 7 hS ?_ | refine d_tn 7 hS ?_); (first | refine d_tx 8 hS ?_ | refine d_ty 8 hS ?_ | refine d_tn 8 hS ?_); (first | refine d_tx 9 hS ?_ | refine d_ty 9 hS ?_ | refine d_tn 9 hS ?_); (first | refine d_tx 10 hS ?_ | refine d_ty 10 hS ?_ | refine d_tn 10 hS ?_))
      refine d_one (i := 11) rfl (by kernel_rfl) ?_
      refine g_yes rfl ?_
      refine s_callV (first := []) (cap := []) (compareV l[i] v sx1 sx _ (hx1.tr0 hS) (hx2.tr0 hS)) rfl rfl rfl ?_
      rintro _ u1 ⟨rfl, hf2⟩
      refine ⟨_, rfl, ?_⟩
      have hT := hS.trans0 hf2
      refine wpList_nil (q_held hT ?_)
      have hge := fnd_ge l v (by omega)
      have h2e : (fndV l v).2 = decide (cmpV l[i] v = 0) := by
        rw [hge.2]; congr 1; simp only [hfi]
      by_cases hz : cmpV l[i] v = 0
      · rw [decide_eq_true hz] at h2e
        ((first | refine d_tx 12 hT ?_ | refine d_ty 12 hT ?_ | refine d_tn 12 hT ?_); (first | refine d_tx 13 hT ?_ | refine d_ty 13 hT ?_ | refine d_tn 13 hT ?_))
        (refine d_one (i := 14) rfl (by kernel_rfl) ?_; refine rx ?_; refine q_held hT ?_)
        (refine d_one (i := 15) rfl (by kernel_rfl) ?_; refine rx ?_; refine q_held hT ?_)
        (refine d_done (by kernel_rfl) ?_)
        refine rx ?_
        (apply ret2; exact rfl; (conv => lhs; whnf); (conv => lhs; whnf))
        exact ⟨by rw [hfi, h2e], hF.trans0 hT⟩
      · rw [decide_eq_false hz] at h2e
        ((first | refine d_tx 12 hT ?_ | refine d_ty 12 hT ?_ | refine d_tn 12 hT ?_); (first | refine d_tx 13 hT ?_ | refine d_ty 13 hT ?_ | refine d_tn 13 hT ?_))
        (refine d_one (i := 14) rfl (by kernel_rfl) ?_; refine rx ?_; refine q_held hT ?_)
        (refine d_one (i := 15) rfl (by kernel_rfl) ?_; refine rx ?_; refine q_held hT ?_)
        (refine d_done (by kernel_rfl) ?_)
        refine rx ?_
        (apply ret2; exact rfl; (conv => lhs; whnf); (conv => lhs; whnf))
        exact ⟨by rw [hfi, h2e], hF.trans0 hT⟩
    · have h2e := fnd_end l v (by omega)
      refine rx ?_
      (refine d_begin (fun y => Fr [] u y) (by kernel_rfl) rfl ?_)
      have hS : Fr [] u u.drew := Fr.drew _ _
      ((first | refine d_tx 0 hS ?_ | refine d_ty 0 hS ?_ | refine d_tn 0 hS ?_); (first | refine d_tx 1 hS ?_ | refine d_ty 1 hS ?_ | refine d_tn 1 hS ?_); (first | refine d_tx 2 hS ?_ | refine d_ty 2 hS ?_ | refine d_tn 2 hS ?_); (first | refine d_tx 3 hS ?_ | refine d_ty 3 hS ?_ | refine d_tn 3 hS ?_); (first | refine d_tx 4 hS ?_ | refine d_ty 4 hS ?_ | refine d_tn 4 hS ?_); (first | refine d_tx 5 hS ?_ | refine d_ty 5 hS ?_ | refine d_tn 5 hS ?_); (first | refine d_tx 6 hS ?_ | refine d_ty 6 hS ?_ | refine d_tn 6 hS ?_); (first | refine d_tx 7 hS ?_ | refine d_ty 7 hS ?_ | refine d_tn 7 hS ?_); (first | refine d_tx 8 hS ?_ | refine d_ty 8 hS ?_ | refine d_tn 8 hS ?_); (first | refine d_tx 9 hS ?_ | refine d_ty 9 hS ?_ | refine d_tn 9 hS ?_); (first | refine d_tx 10 hS ?_ | refine d_ty 10 hS ?_ | refine d_tn 10 hS ?_); (first | refine d_tx 11 hS ?_ | refine d_ty 11 hS ?_ | refine d_tn 11 hS ?_); (first | refine d_tx 12 hS ?_ | refine d_ty 12 hS ?_ | refine d_tn 12 hS ?_); (first | refine d_tx 13 hS ?_ | refine d_ty 13 hS ?_ | refine d_tn 13 hS ?_))
      (refine d_one (i := 14) rfl (by kernel_rfl) ?_; refine rx ?_; refine q_held hS ?_)
      (refine d_one (i := 15) rfl (by kernel_rfl) ?_; refine rx ?_; refine q_held hS ?_)
      (refine d_done (by kernel_rfl) ?_)
      refine rx ?_
      (apply ret2; exact rfl; (conv => lhs; whnf); (conv => lhs; whnf))
      exact ⟨by rw [hfi, h2e], hF.trans0 hS⟩
  obtain ⟨h, hh⟩ : ∃ h : Nat, h = (i + j) / 2 := ⟨_, rfl⟩
  have hhl : h < l.length := by omega
  obtain ⟨ad, cs1, rfl, ⟨sx1, rfl, hx1⟩, hcell1⟩ := Sl.at hl2.sl VR.len hhl
  refine rx ?_
  refine s_shr (r := (h : Int)) rfl rfl (by omega) (by
    show ((i : Int) + (j : Int)).fdiv (2 ^ 1) = (h : Int)
    rw [Int.fdiv_eq_ediv_of_nonneg _ (by omega)]; omega) ?_
  refine rx ?_
  (refine d_begin (fun y => Fr [] u y) (by kernel_rfl) rfl ?_)
  have hS : Fr [] u u.drew := Fr.drew _ _
  ((first | refine d_tx 0 hS ?_ | refine d_ty 0 hS ?_ | refine d_tn 0 hS ?_); (first | refine d_tx 1 hS ?_ | refine d_ty 1 hS ?_ | refine d_tn 1 hS ?_); (first | refine d_tx 2 hS ?_ | refine d_ty 2 hS ?_ | refine d_tn 2 hS ?_); (first | refine d_tx 3 hS ?_ | refine d_ty 3 hS ?_ | refine d_tn 3 hS ?_); (first | refine d_tx 4 hS ?_ | refine d_ty 4 hS ?_ | refine d_tn 4 hS ?_); (first | refine d_tx 5 hS ?_ | refine d_ty 5 hS ?_ | refine d_tn 5 hS ?_))
  refine d_one (i := 6) rfl (by kernel_rfl) ?_
  refine s_callV (first := []) (cap := []) (compareV l[h] v sx1 sx _ (hx1.tr0 hS) (hx2.tr0 hS)) rfl rfl rfl ?_
  rintro _ u1 ⟨rfl, hf2⟩
  refine ⟨_, rfl, ?_⟩
  have hT := hS.trans0 hf2
  refine wpList_nil (q_held hT ?_)
  by_cases hc : cmpV l[h] v < 0
  · ((first | refine d_tx 7 hT ?_ | refine d_ty 7 hT ?_ | refine d_tn 7 hT ?_))
    (refine d_done (by kernel_rfl) ?_)
    refine rx ?_
    refine q_roundK (h + 1, j) (by (repeat (first | exact Keep.mrg _ _ _ _ | (refine Keep.hi rfl ?_) | (refine Keep.one rfl ?_) | exact Keep.all rfl | (refine Keep.inn rfl ?_) | (refine Keep.set rfl ?_)))) ⟨rfl, rfl, by simp only; omega, hj, fun k hk hlt2 => ?_, hhi, hfu.trans0 hT⟩ (by simp only; omega)
    by_cases e : k = h
    · subst e; exact hc
    · exact cmpV_tr (List.pairwise_iff_getElem.1 hs k h hk hhl (by simp only at hlt2; omega)) hc
  · ((first | refine d_tx 7 hT ?_ | refine d_ty 7 hT ?_ | refine d_tn 7 hT ?_))
    (refine d_done (by kernel_rfl) ?_)
    refine rx ?_
    refine q_roundK (i, h) (by (repeat (first | exact Keep.mrg _ _ _ _ | (refine Keep.hi rfl ?_) | (refine Keep.one rfl ?_) | exact Keep.all rfl | (refine Keep.inn rfl ?_) | (refine Keep.set rfl ?_)))) ⟨rfl, rfl, by simp only; omega, by simp only; omega, hlo, fun k hk hle => ?_, hfu.trans0 hT⟩ (by simp only; omega)
    by_cases e : k = h
    · subst e; omega
    · simp only at hle
      rcases cmpV_tri l[k] v with h1 | h1 | h1
      · have := cmpV_tr (List.pairwise_iff_getElem.1 hs h k hhl hk (by omega)) h1
        omega
      · rw [h1, cmpV_refl]; omega
      · have := cmpV_neg v l[k]; omega
theorem findVP (l : List V) (v : V) (sl sx : Value) (w : World) (hs : Srt l) (hl : VS w [] l sl) (hx : VS w [] v.kids sx) :
    Calls Tryz.prog 138 #[sl, .agg (vc v sx).toArray] w fun e w' => e = .returned (.tuple #[.int .i64 ((fndV l v).1 : Nat), .bool (fndV l v).2]) ∧ Fr [] w w' := by
  refine enter Tryz.func138 rfl Tryz.ntmps138 rfl ?_
  refine rx ?_
  refine s_box rfl rfl (fun w1 hb1 hf1 hs1 => ?_)
  refine rx ?_
  refine s_call (bsearchP l v sl sx w1 hs (hl.tr0 hf1) (hx.tr0 hf1)) rfl ?_
  rintro _ w2 ⟨rfl, hf2⟩
  refine ⟨_, rfl, ?_⟩
  refine rx ?_
  (apply ret2; exact rfl; (conv => lhs; whnf); (conv => lhs; whnf))
  exact ⟨rfl, hf1.trans0 hf2⟩
set_option maxHeartbeats 4000000 in
theorem caseP (x : Nd) (pn : Addr) (v : V) (sx : Value) (w : World) (hs : Srt x.vals) (hlv : x.vals.length ≤ 1000000) (hn : PN w [] x pn) (hx : VS w [] v.kids sx) :
    Calls Tryz.prog 115 #[.pointer (some pn), .agg (vc v sx).toArray] w fun e w' => e = .returned (.int .i64 ((fndV x.vals v).1 + 1 : Nat)) ∧ Fr [] w w' := by
  obtain ⟨_, _, hc, ⟨sw, sl, sv, sk, sx', rfl, _, _, hv, _, _⟩⟩ := hn
  have hle := fndV_le x.vals v
  refine enter Tryz.func115 rfl Tryz.ntmps115 rfl ?_
  refine rx ?_
  refine s_box rfl rfl (fun w1 hb1 hf1 hs1 => ?_)
  have hc1 := hc.tr0 hf1
  refine rx ?_
  (refine d_begin (fun y => Fr [] w1 y) (by kernel_rfl) rfl ?_)
  have hS : Fr [] w1 w1.drew := Fr.drew _ _
  ((first | refine d_tx 0 hS ?_ | refine d_ty 0 hS ?_ | refine d_tn 0 hS ?_); (first | refine d_tx 1 hS ?_ | refine d_ty 1 hS ?_ | refine d_tn 1 hS ?_); (first | refine d_tx 2 hS ?_ | refine d_ty 2 hS ?_ | refine d_tn 2 hS ?_); (first | refine d_tx 3 hS ?_ | refine d_ty 3 hS ?_ | refine d_tn 3 hS ?_); (first | refine d_tx 4 hS ?_ | refine d_ty 4 hS ?_ | refine d_tn 4 hS ?_))
  refine d_one (i := 5) rfl (by kernel_rfl) ?_
  refine s_call (findVP x.vals v sv sx _ hs ((hv.tr0 hf1).tr0 hS) ((hx.tr0 hf1).tr0 hS)) rfl ?_
  rintro _ w2 ⟨rfl, hf2⟩
  refine ⟨_, rfl, ?_⟩
  have hT := hS.trans0 hf2
  refine wpList_nil (q_held hT ?_)
  ((first | refine d_tx 6 hT ?_ | refine d_ty 6 hT ?_ | refine d_tn 6 hT ?_); (first | refine d_tx 7 hT ?_ | refine d_ty 7 hT ?_ | refine d_tn 7 hT ?_); (first | refine d_tx 8 hT ?_ | refine d_ty 8 hT ?_ | refine d_tn 8 hT ?_))
  (refine d_one (i := 9) rfl (by kernel_rfl) ?_; refine rx ?_; refine q_held hT ?_)
  (refine d_one (i := 10) rfl (by kernel_rfl) ?_; refine rx ?_; refine q_held hT ?_)
  (refine d_done (by kernel_rfl) ?_)
  refine rx ?_
  (apply ret1; exact rfl; (conv => lhs; whnf))
  exact ⟨rfl, hf1.trans0 hT⟩
set_option maxHeartbeats 4000000 in
theorem optionsP (x : Nd) (pn : Addr) (w : World) (hlk : x.kids.length ≤ 1000000) (hr : x.lo ≤ x.hi ∧ -4611686018427387904 ≤ x.lo ∧ x.hi ≤ 4611686018427387904 ∧ x.hi < x.lo + 1099511627776) (hn : PN w [] x pn) :
    Calls Tryz.prog 87 #[.pointer (some pn)] w fun e w' => e = .returned (.int .i64 (optN x)) ∧ Fr [] w w' := by
  obtain ⟨_, _, hc, ⟨sw, sl, sv, sk, sx', rfl, _, _, hv, hk, _⟩⟩ := hn
  obtain ⟨ak, ck, rfl, _⟩ := hk.slice
  refine enter Tryz.func87 rfl Tryz.ntmps87 rfl ?_
  by_cases k1 : x.kind = 1
  · have e : ((optN x : Nat) : Int) = x.hi - x.lo + 1 := by unfold optN; rw [if_pos k1]; omega
    refine rx ?_
    (refine d_begin (fun y => Fr [] w y) (by kernel_rfl) rfl ?_)
    have hS : Fr [] w w.drew := Fr.drew _ _
    ((first | refine d_tx 0 hS ?_ | refine d_ty 0 hS ?_ | refine d_tn 0 hS ?_); (first | refine d_tx 1 hS ?_ | refine d_ty 1 hS ?_ | refine d_tn 1 hS ?_); (first | refine d_tx 2 hS ?_ | refine d_ty 2 hS ?_ | refine d_tn 2 hS ?_); (first | refine d_tx 3 hS ?_ | refine d_ty 3 hS ?_ | refine d_tn 3 hS ?_); (first | refine d_tx 4 hS ?_ | refine d_ty 4 hS ?_ | refine d_tn 4 hS ?_); (first | refine d_tx 5 hS ?_ | refine d_ty 5 hS ?_ | refine d_tn 5 hS ?_); (first | refine d_tx 6 hS ?_ | refine d_ty 6 hS ?_ | refine d_tn 6 hS ?_); (first | refine d_tx 7 hS ?_ | refine d_ty 7 hS ?_ | refine d_tn 7 hS ?_); (first | refine d_tx 8 hS ?_ | refine d_ty 8 hS ?_ | refine d_tn 8 hS ?_); (first | refine d_tx 9 hS ?_ | refine d_ty 9 hS ?_ | refine d_tn 9 hS ?_))
    (refine d_one (i := 10) rfl (by kernel_rfl) ?_; refine rx ?_; refine q_held hS ?_)
    (refine d_done (by kernel_rfl) ?_)
    refine rx ?_
    (apply ret1; exact rfl; (conv => lhs; whnf))
    exact ⟨by rw [e], hS⟩
  · have e : optN x = x.kids.length := by unfold optN; rw [if_neg k1]
    refine rx ?_
    (apply ret1; exact rfl; (conv => lhs; whnf))
    exact ⟨by rw [e], Fr.refl _ _⟩

/-! ### a walker in memory -/
structure WalkM (t : List Nd) (S : List Nat) (sn : Value) (wb b A F : Nat) (u : World) : Prop where
  blk : Blk u wb [.pointer (some ⟨b, 0, none⟩), .slice (some ⟨A, 0, none⟩) t.length t.length, .slice (some ⟨F, 0, none⟩) t.length t.length] 133
  set : ∃ x y z, Blk u b [sn, x, y, z] 140
  len : Blk u A ((lensT t).map (.int .i64)) 3
  fix : VS u S (fxsT t) (.slice (some ⟨F, 0, none⟩) t.length t.length)
  out : wb ∉ S ∧ b ∉ S ∧ A ∉ S
section
variable {t : List Nd} {S T : List Nat} {sn : Value} {wb b A F : Nat} {u u' : World}
theorem WalkM.lt (h : WalkM t S sn wb b A F u) : wb < u.heap.size ∧ b < u.heap.size ∧ A < u.heap.size := by
  obtain ⟨x, y, z, hb⟩ := h.set
  exact ⟨h.blk.lt, hb.lt, h.len.lt⟩
theorem WalkM.tr (h : WalkM t S sn wb b A F u) (hf : Fr S u u') : WalkM t S sn wb b A F u' := by
  obtain ⟨x, y, z, hb⟩ := h.set
  exact ⟨h.blk.tr hf h.out.1, ⟨x, y, z, hb.tr hf h.out.2.1⟩, h.len.tr hf h.out.2.2, h.fix.tr hf, h.out⟩
theorem WalkM.mono (h : WalkM t S sn wb b A F u) (hT : ∀ k ∈ T, k ∈ S ∨ u.heap.size ≤ k) : WalkM t T sn wb b A F u := by
  have hl := h.lt
  have ho := h.out
  refine ⟨h.blk, h.set, h.len, h.fix.mono hT, fun hm => ?_, fun hm => ?_, fun hm => ?_⟩
  · rcases hT _ hm with h | h
    · exact ho.1 h
    · omega
  · rcases hT _ hm with h | h
    · exact ho.2.1 h
    · omega
  · rcases hT _ hm with h | h
    · exact ho.2.2 h
    · omega
theorem WalkM.old (h : WalkM t S sn wb b A F u) (hf : Fr T u u') (hT : ∀ k ∈ T, k ∈ S ∨ u.heap.size ≤ k) : WalkM t S sn wb b A F u' := by
  have h1 := h.mono (T := S ++ T) (fun k hk => by rcases List.mem_append.1 hk with h | h; exact .inl h; exact hT k h)
  exact (h1.tr (hf.mono (fun k hk => .inl (by simp [hk])))).mono (fun k hk => .inl (by simp [hk]))
theorem WalkM.tr0 (h : WalkM t S sn wb b A F u) (hf : Fr [] u u') : WalkM t S sn wb b A F u' := h.old hf (by simp)
theorem lens_at {k : Nat} (hk : k < t.length) : ((lensT t).map (Value.int .i64))[k]? = some (.int .i64 (lT t k)) := by
  have := lensT_get (t := t) (n := t.length) hk hk
  rw [List.take_length] at this
  rw [List.getElem?_map, this, lT_eq hk]; rfl
theorem fxs_at {k : Nat} (hk : k < t.length) (hk' : k < (fxsT t).length) : (fxsT t)[k] = fT t k := by
  unfold fT fAt
  rw [Int.toNat_natCast, List.getD_eq_getElem?_getD, List.getElem?_eq_getElem hk']; rfl
theorem choicesP (h : WalkM t S sn wb b A F u) {k : Nat} (hk : k < t.length) :
    Calls Tryz.prog 120 #[.pointer (some ⟨wb, 0, none⟩), .int .i64 k] u fun e u' => e = .returned (.int .i64 (lT t k)) ∧ u = u' := by
  have hb := h.blk
  have hc := Cells.ofBlk h.len
  refine enter Tryz.func120 rfl Tryz.ntmps120 rfl ?_
  refine rx ?_
  rw [Nat.mul_one]
  refine s_loadC rfl hc (lens_at hk) ?_
  refine rx ?_
  (apply ret1; exact rfl; (conv => lhs; whnf))
  exact ⟨rfl, rfl⟩
theorem fixedP (h : WalkM t S sn wb b A F u) {k : Nat} (hk : k < t.length) (hl : t.length ≤ 1000000) :
    Calls Tryz.prog 121 #[.pointer (some ⟨wb, 0, none⟩), .int .i64 k] u fun e u' => ∃ s, e = .returned (.agg (vc (fT t k) s).toArray) ∧ VS u' S (fT t k).kids s ∧ Fr [] u u' := by
  have hb := h.blk
  refine enter Tryz.func121 rfl Tryz.ntmps121 rfl ?_
  refine rx ?_
  refine s_alloc rfl (fun u1 hb1 hf1 hs1 => ?_)
  have hb2 := hb.tr0 hf1
  have hfx := (h.fix.tr0 hf1)
  have hfl := fxsT_len t
  have hk' : k < (fxsT t).length := by omega
  obtain ⟨ad, cs1, e1, ⟨s1, rfl, hs1v⟩, hcell⟩ := Sl.at hfx.sl VR.len hk'
  cases e1
  rw [fxs_at hk hk'] at hs1v hcell
  refine rx ?_
  refine s_storeAggB (cs := vc (fT t k) s1) rfl rfl hb1 (VR.mem1 (w := u1) (S := S) (fT t k) _ ⟨_, rfl, hs1v⟩) rfl rfl (fun u2 hb3 hf3 hs3 => ?_)
  have hF : Fr [] u u2 := hf1.trans hf3 (by simp)
  have hlt : u.heap.size < u1.heap.size := by omega
  refine rx ?_
  refine retc rfl rfl (AggT.load _ (vc (fT t k) s1) rfl (fun j x hx => by rw [add_lit]; exact hb3.cell (by simpa using hx))) ⟨s1, rfl, ?_, hF⟩
  have hv0 : VS u S (fT t k).kids s1 := by
    obtain ⟨ad', cs1', e1', ⟨s1', rfl, hs1v'⟩, hcell'⟩ := Sl.at h.fix.sl VR.len hk'
    cases e1'
    rw [fxs_at hk hk'] at hs1v' hcell'
    have hc' := hcell'.tr0 hf1
    have e3 : s1' = s1 := by
      have a := hcell.get (j := 3) rfl
      have b := hc'.get (j := 3) rfl
      rw [a] at b
      injection b with b
      exact b.symm
    rw [← e3]; exact hs1v'
  exact hv0.tr0 hF
end
end Go.Proofs.YtpochcchekoonaaGreat
