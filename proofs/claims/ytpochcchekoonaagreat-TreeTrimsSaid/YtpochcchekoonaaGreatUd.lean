/-
  Package walk: Follow, Fit.
-/
import Derived.Test.YtpochcchekoonaaGreatUc
namespace Go.Proofs.YtpochcchekoonaaGreat
open Go.Rf Go.RowKit
set_option linter.unusedVariables false
set_option linter.unusedSimpArgs false
attribute [local irreducible] Code.wp wpList Exit.then Exit.inBlock bodyPost A Calls execOp Addr.add
theorem fit_fixed {t : List Nd} (h : VT t) {k : Nat} (hk : k < t.length) (hl : lT t k = 0) (raw p : List Int) : fit raw (tA t k) p = (fT t k, p) := by
  obtain ⟨sp, h1⟩ := fit_rd raw (tA t k) (good h k hk) p []
  obtain ⟨sp2, h2, _⟩ := (fixed h k hk hl).2 ((fit raw (tA t k) p).2 ++ []) p.length
  rw [h2] at h1
  simp only [Res.ok.injEq] at h1
  obtain ⟨q, hq⟩ := fit_ext raw (tA t k) p
  have hq0 : q = [] := by
    have := h1.2.1
    rw [hq, List.length_append] at this
    exact List.eq_nil_of_length_eq_zero (by omega)
  rw [hq0, List.append_nil] at hq
  exact Prod.ext h1.1.symm hq
/-- rows keep where blocks of S2 that are not theirs change; new blocks may be told of -/
theorem ownTurn {w w' : World} {e : Nat} {S2 S3 T : List Nat} {l : List V} {v : Value} (h : OwnR w e 4 (plusR VR S2) l v) (hf : Fr T w w') (hT : ∀ b ∈ T, b ∈ S2) (hd : ∀ b ∈ blks v, b ∉ T) (h3 : ∀ b ∈ S3, b ∈ S2 ∨ w.heap.size ≤ b) : OwnR w' e 4 (plusR VR S3) l v := by
  obtain ⟨ys, h1, h2⟩ := h
  refine ⟨ys, h1.tr hf hd, h2.imp fun x cs _ hr => ?_⟩
  have h4 : VR w (blks v ++ (S2 ++ S3)) x cs := vrStab.mono hr (fun b hb => by
    rcases List.mem_append.1 hb with h | h
    · exact .inl (List.mem_append.2 (.inl h))
    rcases List.mem_append.1 h with h | h
    · exact .inl (List.mem_append.2 (.inr h))
    · rcases h3 b h with h | h
      · exact .inl (List.mem_append.2 (.inr h))
      · exact .inr h)
  have h5 := vrStab.tr h4 (hf.mono (fun b hb => .inl (by
    have := hT b hb
    simp [this])))
  exact vrStab.mono h5 (fun b hb => by
    rcases List.mem_append.1 hb with h | h
    · exact .inl (by simp [h])
    · exact .inl (by simp [h]))

/-- what Follow does for a node, with the closure of Fit -/
def FolC (t : List Nd) (raw : List Int) (k : Nat) : Prop := ∀ (S : List Nat) (sn : Value) (wb b A F rb vb pb : Nat) (u : World) (p : List Int) (pv : Value) (want : Bool), CapK t S sn wb b A F rb vb raw u → PathK pb u p pv → (pb ∈ S ∧ ∀ q ∈ blks pv, q ∈ S) → (∀ q ∈ S, q < u.heap.size) → (p.length : Int) + lT t k ≤ 1000000 →
  Calls Tryz.prog 85 #[.pointer (some ⟨wb, 0, none⟩), .int .i64 k, .bool want, .func (.func 86) #[] #[.pointer (some ⟨pb, 0, none⟩), .pointer (some ⟨rb, 0, none⟩), .pointer (some ⟨vb, 0, none⟩)]] u fun e u' =>
    ∃ v s pv', e = .returned (.agg (vc v s).toArray) ∧ (want = true → v = (fit raw (tA t k) p).1) ∧ VS u' (S ++ blks pv') v.kids s ∧ PathK pb u' (fit raw (tA t k) p).2 pv' ∧ Fr (pb :: blks pv) u u' ∧ (∀ q ∈ blks pv', q ∈ blks pv ∨ u.heap.size ≤ q)

set_option maxHeartbeats 32000000 in
theorem followP (t : List Nd) (hv : VT t) (hok : ∀ x ∈ t, NdOk x) (raw : List Int) : ∀ k, k < t.length → FolC t raw k := by
  refine vInd fun k hk ih => ?_
  intro S sn wb b A F rb vb pb u p pv want hc hp hin hSb hlp
  have hl := hv.l0 hk
  have htl : t.length ≤ 1000000 := by have := hv.len; omega
  have hokx := hok t[k] (by simp)
  have hlk := hokx.lk
  have hrng := hv.rng hk
  have hpS : ∀ q ∈ pb :: blks pv, q ∈ S := fun q hq => by
    rcases List.mem_cons.1 hq with rfl | h
    · exact hin.1
    · exact hin.2 q h
  refine enter Tryz.func85 rfl Tryz.ntmps85 rfl ?_
  refine rx ?_
  refine s_alloc rfl (fun u1 hb1 hf1 hs1 => ?_)
  obtain ⟨N, hN⟩ : ∃ N, N = u.heap.size := ⟨_, rfl⟩
  rw [← hN] at hb1 ⊢
  have hNS : ∀ q ∈ N :: S, q ∈ S ∨ u.heap.size ≤ q := fun q hq => by
    rcases List.mem_cons.1 hq with h | h
    · right; omega
    · exact .inl h
  have hc1 : CapK t (N :: S) sn wb b A F rb vb raw u1 := (hc.mono hNS).tr0 hf1
  have hp1 := hp.tr0 hf1
  have hSb1 : ∀ q ∈ N :: S, q < u1.heap.size := fun q hq => by
    rcases List.mem_cons.1 hq with h | h
    · omega
    · have := hSb q h; omega
  have hNp : N ∉ pb :: blks pv := fun h => by have := hSb _ (hpS _ h); omega
  have hout1 := hc1.walk.out
  have hout2 := hc1.out
  have hwb := hc1.walk.blk
  have hlen := Cells.ofBlk hc1.walk.len
  -- the result is put into its variable, and handed back
  have fin : ∀ (z z' : World) (v : V) (s : Value) (pv' : Value), (want = true → v = (fit raw (tA t k) p).1) → VS z (N :: S ++ blks pv') v.kids s → PathK pb z (fit raw (tA t k) p).2 pv' → Fr (pb :: blks pv) u1 z → (∀ q ∈ blks pv', q ∈ blks pv ∨ u1.heap.size ≤ q) → Fr [N] z z' →
      ∃ v0 s0 pv', Ending.returned (.agg (vc v s).toArray) = .returned (.agg (vc v0 s0).toArray) ∧ (want = true → v0 = (fit raw (tA t k) p).1) ∧ VS z' (S ++ blks pv') v0.kids s0 ∧ PathK pb z' (fit raw (tA t k) p).2 pv' ∧ Fr (pb :: blks pv) u z' ∧ (∀ q ∈ blks pv', q ∈ blks pv ∨ N ≤ q) := by
    intro z z' v s pv' hw hvs hpk hfz hpv hfz'
    refine ⟨v, s, pv', rfl, hw, ?_, ?_, ?_, fun q hq => ?_⟩
    · exact (hvs.tr (hfz'.mono (by simp))).mono (fun q hq => .inl (by
        rcases List.mem_append.1 hq with h | h
        · simp [h]
        · simp [h]))
    · exact hpk.old hfz' (fun q hq => by
        simp only [List.mem_singleton] at hq
        subst hq
        refine ⟨fun h => hNp (by simp [h]), fun h => ?_⟩
        rcases hpv _ h with h | h
        · exact hNp (by simp [h])
        · omega)
    · have h1 : Fr (pb :: blks pv) u z := (hf1.mono (by simp)).trans hfz (fun q hq => .inl hq)
      exact h1.trans hfz' (by simp; omega)
    · rcases hpv q hq with h | h
      · exact .inl h
      · right; omega
  by_cases hl0 : lT t k = 0
  · have hff := fit_fixed hv hk hl0 raw p
    have hfx := hc1.walk.fix
    have hfl := fxsT_len t
    have hk' : k < (fxsT t).length := by omega
    obtain ⟨ad, cs1, e1, ⟨s1, rfl, hs1v⟩, hcell⟩ := Sl.at hfx.sl VR.len hk'
    cases e1
    rw [fxs_at hk hk'] at hs1v hcell
    refine rx ?_
    rw [Nat.mul_one]
    refine s_loadC rfl hlen (lens_at hk) ?_
    refine rx ?_
    refine s_storeAggB (cs := vc (fT t k) s1) rfl rfl hb1 (VR.mem1 (w := u1) (S := N :: S) (fT t k) _ ⟨_, rfl, hs1v⟩) rfl rfl (fun u2 hb3 hf3 hs3 => ?_)
    refine rx ?_
    refine retc rfl rfl (AggT.load _ (vc (fT t k) s1) rfl (fun j x hx => by rw [add_lit]; exact hb3.cell (by simpa using hx))) (fin u1 u2 (fT t k) s1 pv (fun _ => by rw [hff]) (hs1v.mono (fun q hq => .inl ?_)) (by rw [hff]; exact hp1) (Fr.refl _ _) (fun q hq => .inl hq) hf3)
    rcases List.mem_append.1 hq with h | h
    · exact h
    · exact List.mem_cons_of_mem _ (hin.2 q h)
  obtain ⟨s1, s2, s3, hsb⟩ := hc1.walk.set
  have hnodes := hc1.nodes
  obtain ⟨an, cn, rfl, _⟩ := hnodes.slice
  obtain ⟨ad, rfl, hn⟩ := NS.ptr hnodes hk
  generalize hpn : ad.add (k * 12) = pn at hn
  have hn0 := hn
  obtain ⟨hpnS, _, hcn, ⟨sw, sl, sv, sk, sx, rfl, _, _, hvv, hks, _⟩⟩ := hn
  obtain ⟨ak, ck, rfl, _⟩ := hks.slice
  have hTS : ∀ q ∈ N :: pb :: blks pv, q ∈ N :: S := fun q hq => by
    rcases List.mem_cons.1 hq with h | h
    · simp [h]
    · exact List.mem_cons_of_mem _ (hpS q h)
  have hpnT : pn.block ∉ N :: pb :: blks pv := fun h => hpnS (hTS _ h)
  have hcz : ∀ z, Fr (N :: pb :: blks pv) u1 z → Cells z pn (nc t[k] sw sl sv (.slice ak t[k].kids.length ck) sx) := fun z hz => hcn.tr hz hpnT
  have hkz : ∀ z, Fr (N :: pb :: blks pv) u1 z → IS z (N :: S) t[k].kids (.slice ak t[k].kids.length ck) := fun z hz => hks.tr (hz.mono (fun q hq => .inl (hTS q hq)))
  have hout : pb ≠ rb ∧ pb ≠ vb ∧ pb ≠ wb ∧ pb ≠ b := by
    refine ⟨fun e => ?_, fun e => ?_, fun e => ?_, fun e => ?_⟩
    · exact hout2.1 (by rw [← e]; simp [hin.1])
    · exact hout2.2 (by rw [← e]; simp [hin.1])
    · exact hout1.1 (by rw [← e]; simp [hin.1])
    · exact hout1.2.1 (by rw [← e]; simp [hin.1])
  refine rx ?_
  rw [Nat.mul_one]
  refine s_loadC rfl hlen (lens_at hk) ?_
  refine rx ?_
  rw [hpn]
  rcases kind5 hv hk with k0 | k1 | k2 | k3 | k4
  · exfalso
    apply hl0
    rw [lT_eq hk]; unfold lenN; rw [if_pos k0]
  · have hfe : fit raw (tA t k) p = (numV (t[k].lo + clp raw p.length (optN t[k])), p ++ [(clp raw p.length (optN t[k]) : Int)]) := by
      rw [tA_rng hk k1]
      simp only [fit]
      have : optN t[k] = (t[k].hi - t[k].lo + 1).toNat := by unfold optN; rw [if_pos k1]
      rw [this]
    have hopt : 0 < optN t[k] ∧ (optN t[k] : Int) = t[k].hi - t[k].lo + 1 := by unfold optN; rw [if_pos k1]; omega
    have hcl := clp_lt (raw := raw) (k := p.length) hopt.1
    refine rx ?_
    (refine d_begin (fun y => Fr (N :: pb :: blks pv) u1 y) (by kernel_rfl) rfl ?_)
    have hS0 : Fr [] u1 u1.drew := Fr.drew _ _
    have hS : Fr (N :: pb :: blks pv) u1 u1.drew := Fr.drew _ _
    ((first | refine d_tx 0 hS ?_ | refine d_ty 0 hS ?_ | refine d_tn 0 hS ?_); (first | refine d_tx 1 hS ?_ | refine d_ty 1 hS ?_ | refine d_tn 1 hS ?_); (first | refine d_tx 2 hS ?_ | refine d_ty 2 hS ?_ | refine d_tn 2 hS ?_))
    (apply d_take (i := 3); exact rfl; kernel_rfl; kernel_rfl; kernel_rfl; (intro u hu; exact (r_load rfl (Cells.get (hcz _ hu) rfl))); exact hS)
    ((first | refine d_tx 4 hS ?_ | refine d_ty 4 hS ?_ | refine d_tn 4 hS ?_); (first | refine d_tx 5 hS ?_ | refine d_ty 5 hS ?_ | refine d_tn 5 hS ?_))
    refine d_one (i := 6) rfl (by kernel_rfl) ?_
    refine s_callV (first := []) (cap := [.pointer (some ⟨pb, 0, none⟩), .pointer (some ⟨rb, 0, none⟩), .pointer (some ⟨vb, 0, none⟩)]) (fit1P hv hok (hc1.tr0 hS0) (hp1.tr0 hS0) (by omega) hout hk (.inl k1)) rfl rfl rfl ?_
    rintro _ u2 ⟨rfl, pv', hp2, hf2, hk2⟩
    refine ⟨_, rfl, ?_⟩
    generalize clp raw p.length (optN t[k]) = c at *
    have hT : Fr (N :: pb :: blks pv) u1 u2 := hS.trans hf2 (fun q hq => .inl (List.mem_cons_of_mem _ hq))
    have hT2 : Fr (pb :: blks pv) u1 u2 := (hS0.mono (by simp)).trans hf2 (fun q hq => .inl hq)
    refine wpList_nil (q_held hT ?_)
    ((first | refine d_tx 7 hT ?_ | refine d_ty 7 hT ?_ | refine d_tn 7 hT ?_))
    (apply d_take (i := 8) (v := .agg (vc (numV (t[k].lo + c)) (.slice none 0 0)).toArray); exact rfl; kernel_rfl; kernel_rfl; kernel_rfl; (intro u hu; exact r_build (vc (numV (t[k].lo + c)) (.slice none 0 0)) (by rfl)); exact hT)
    refine d_one (i := 9) rfl (by kernel_rfl) ?_
    refine s_storeAggB (cs := vc (numV (t[k].lo + c)) (.slice none 0 0)) rfl rfl (hb1.tr hT2 hNp) (VR.mem1 (w := u2) (S := []) (numV (t[k].lo + c)) _ ⟨_, rfl, VS.nil _ _⟩) rfl rfl (fun u3 hb3 hf3 hs3 => ?_)
    refine wpList_nil (q_held (hT.trans hf3 (by simp)) ?_)
    (refine d_done (by kernel_rfl) ?_)
    refine rx ?_
    exact retc rfl rfl (AggT.load _ (vc (numV (t[k].lo + c)) (.slice none 0 0)) rfl (fun j x hx => by rw [add_lit]; exact hb3.cell (by simpa using hx))) (fin u2 u3 _ _ pv' (fun _ => by rw [hfe]) (VS.nil _ _) (by rw [hfe]; exact hp2) hT2 hk2 hf3)
  · have hcho := hv.cho hk k2
    have hoe : optN t[k] = t[k].kids.length := by unfold optN; rw [if_neg (by omega)]
    have hcl := clp_lt (raw := raw) (k := p.length) (n := optN t[k]) (by omega)
    obtain ⟨c, hcc⟩ : ∃ c, clp raw p.length (optN t[k]) = c := ⟨_, rfl⟩
    rw [hcc] at hcl
    have hcl' : c < t[k].kids.length := by omega
    obtain ⟨q, hq, hqk⟩ := hv.kid hk (List.getElem_mem hcl')
    have hfe : fit raw (tA t k) p = fit raw (tA t q) (p ++ [(c : Int)]) := by
      rw [tA_cho hv hk k2]
      simp only [fit, kidsT_len]
      rw [← hoe, hcc, fitN_get _ _ _ _ (by rw [kidsT_len]; omega)]
      simp only [kidsT, List.getElem_map, hq, Int.toNat_natCast]
    refine rx ?_
    (refine d_begin (fun y => Fr (N :: pb :: blks pv) u1 y) (by kernel_rfl) rfl ?_)
    have hS0 : Fr [] u1 u1.drew := Fr.drew _ _
    have hS : Fr (N :: pb :: blks pv) u1 u1.drew := Fr.drew _ _
    ((first | refine d_tx 0 hS ?_ | refine d_ty 0 hS ?_ | refine d_tn 0 hS ?_); (first | refine d_tx 1 hS ?_ | refine d_ty 1 hS ?_ | refine d_tn 1 hS ?_); (first | refine d_tx 2 hS ?_ | refine d_ty 2 hS ?_ | refine d_tn 2 hS ?_); (first | refine d_tx 3 hS ?_ | refine d_ty 3 hS ?_ | refine d_tn 3 hS ?_))
    (apply d_take (i := 4); exact rfl; kernel_rfl; kernel_rfl; kernel_rfl; (intro u hu; exact (r_load rfl (Cells.get (hcz _ hu) rfl))); exact hS)
    ((first | refine d_tx 5 hS ?_ | refine d_ty 5 hS ?_ | refine d_tn 5 hS ?_); (first | refine d_tx 6 hS ?_ | refine d_ty 6 hS ?_ | refine d_tn 6 hS ?_))
    ((first | refine d_tx 10 hS ?_ | refine d_ty 10 hS ?_ | refine d_tn 10 hS ?_); (first | refine d_tx 11 hS ?_ | refine d_ty 11 hS ?_ | refine d_tn 11 hS ?_))
    refine d_one (i := 7) rfl (by kernel_rfl) ?_
    have h1P := fit1P hv hok (hc1.tr0 hS0) (hp1.tr0 hS0) (by omega) hout hk (.inr k2)
    rw [hcc] at h1P
    refine s_callV (first := []) (cap := [.pointer (some ⟨pb, 0, none⟩), .pointer (some ⟨rb, 0, none⟩), .pointer (some ⟨vb, 0, none⟩)]) h1P rfl rfl rfl ?_
    rintro _ u2 ⟨rfl, pv', hp2, hf2, hk2⟩
    refine ⟨_, rfl, ?_⟩
    have hT : Fr (N :: pb :: blks pv) u1 u2 := hS.trans hf2 (fun q hq => .inl (List.mem_cons_of_mem _ hq))
    have hT2 : Fr (pb :: blks pv) u1 u2 := (hS0.mono (by simp)).trans hf2 (fun q hq => .inl hq)
    have hlq := lT_cho hv hk k2 _ (List.getElem_mem hcl')
    rw [hq, Int.toNat_natCast] at hlq
    have hka : ∃ ad2, ak = some ad2 := by obtain ⟨ad2, e, _⟩ := Ls.at hks hcl'; exact ⟨ad2, e⟩
    obtain ⟨ad2, rfl⟩ := hka
    have hcellz : ∀ z, Fr (N :: pb :: blks pv) u1 z → z.cell? (ad2.add c) = some (.int .i64 q) := fun z hz => by
      obtain ⟨ad', e', hc'⟩ := Ls.at (hkz z hz) hcl'
      cases e'
      rw [hq] at hc'
      exact hc'
    refine wpList_nil (q_held hT ?_)
    (apply d_take (i := 8); exact rfl; kernel_rfl; kernel_rfl; kernel_rfl; (intro u hu; exact (r_index1 (j := c) rfl rfl rfl (by omega) rfl)); exact hT)
    (apply d_take (i := 9); exact rfl; kernel_rfl; kernel_rfl; kernel_rfl; (intro u hu; exact (r_load rfl (hcellz _ hu))); exact hT)
    refine d_one (i := 12) rfl (by kernel_rfl) ?_
    have hS2 : ∀ y ∈ (N :: S) ++ blks pv', y ∈ N :: S ∨ u1.heap.size ≤ y := fun y hy => by
      rcases List.mem_append.1 hy with h | h
      · exact .inl h
      · rcases hk2 y h with h | h
        · exact .inl (List.mem_cons_of_mem _ (hin.2 y h))
        · exact .inr h
    have hc2 := hc1.turn (T := (N :: S) ++ blks pv') (hT.mono (fun y hy => .inl (hTS y hy))) hS2
    have hlt2 := hp2.own.lt
    refine s_call (ih q hqk ((N :: S) ++ blks pv') _ wb b A F rb vb pb u2 (p ++ [(c : Int)]) pv' want hc2 hp2 ⟨by simp [hin.1], fun y hy => by simp [hy]⟩ (fun y hy => ?_) (by simp only [List.length_append, List.length_cons, List.length_nil]; omega)) rfl ?_
    · rcases List.mem_append.1 hy with h | h
      · have := hSb1 y h; have := hT.size; omega
      · exact hlt2 y h
    rintro _ u3 ⟨v, s, pv2, rfl, hw3, hvs3, hp3, hf3, hk3⟩
    refine ⟨_, rfl, ?_⟩
    have hT3 : Fr (pb :: blks pv) u1 u3 := hT2.trans hf3 (fun y hy => by
      rcases List.mem_cons.1 hy with h | h
      · left; simp [h]
      · rcases hk2 y h with h | h
        · left; simp [h]
        · exact .inr h)
    have hT3' : Fr (N :: pb :: blks pv) u1 u3 := hT3.mono (fun y hy => .inl (List.mem_cons_of_mem _ hy))
    refine wpList_nil (q_held hT3' ?_)
    refine d_one (i := 13) rfl (by kernel_rfl) ?_
    refine s_storeAggB (cs := vc v s) rfl rfl (hb1.tr hT3 hNp) (VR.mem1 (w := u3) v _ ⟨_, rfl, hvs3⟩) rfl rfl (fun u4 hb4 hf4 hs4 => ?_)
    refine wpList_nil (q_held (hT3'.trans hf4 (by simp)) ?_)
    (refine d_done (by kernel_rfl) ?_)
    refine rx ?_
    refine retc rfl rfl (AggT.load _ (vc v s) rfl (fun j x hx => by rw [add_lit]; exact hb4.cell (by simpa using hx))) (fin u3 u4 v s pv2 (fun h => by rw [hfe]; exact hw3 h) (hvs3.mono (fun y hy => .inl ?_)) (by rw [hfe]; exact hp3) hT3 (fun y hy => ?_) hf4)
    · rcases List.mem_append.1 hy with h | h
      · simp only [List.append_assoc, List.mem_append]; exact .inl h
      · simp only [List.append_assoc, List.mem_append]; exact .inr (.inr h)
    · rcases hk3 y hy with h | h
      · exact hk2 y h
      · right; have := hT.size; omega
  · have hfe : fit raw (tA t k) p = (madeV t[k] (fitS raw (kidsT t t[k].kids) p).1, (fitS raw (kidsT t t[k].kids) p).2) := by
      rw [tA_seq hv hk k3]
      simp only [fit]
    have hlk3 := lT_seq hv hk k3
    have hsq := hv.seq hk k3
    have hNS1 : ∀ y ∈ pb :: blks pv, y ∈ N :: S := fun y hy => List.mem_cons_of_mem _ (hpS y hy)
    refine rx ?_
    refine c_loopK 15 [11, 13, 14] (σ := Nat × List V × Value × List Int × Value) (fun s g z => g 96 = .slice ak t[k].kids.length ck ∧ g 97 = .int .i64 t[k].kids.length ∧ g 98 = .int .i64 (s.1 : Nat) ∧ g 11 = s.2.2.1 ∧ s.1 ≤ t[k].kids.length ∧ (fitS raw (kidsT t t[k].kids) p).2 = (fitS raw (kidsT t (t[k].kids.drop s.1)) s.2.2.2.1).2 ∧ (want = true → (fitS raw (kidsT t t[k].kids) p).1 = s.2.1 ++ (fitS raw (kidsT t (t[k].kids.drop s.1)) s.2.2.2.1).1) ∧ s.2.1.length ≤ s.1 ∧ (s.2.2.2.1.length : Int) + sumI ((t[k].kids.drop s.1).map fun q => lT t q.toNat) ≤ p.length + lT t k ∧
        OwnR z 33 4 (plusR VR (N :: S ++ blks s.2.2.2.2)) s.2.1 s.2.2.1 ∧ PathK pb z s.2.2.2.1 s.2.2.2.2 ∧ (∀ y ∈ blks s.2.2.2.2, y ∈ blks pv ∨ u1.heap.size ≤ y) ∧ (∀ y ∈ blks s.2.2.1, u1.heap.size ≤ y ∧ y ∉ blks s.2.2.2.2) ∧ Fr (pb :: blks pv) u1 z)
      (fun s => t[k].kids.length - s.1) (0, [], .slice none 0 0, p, pv) ⟨rfl, rfl, rfl, rfl, Nat.zero_le _, rfl, fun _ => rfl, Nat.le_refl _, by simp only [List.drop_zero]; omega, OwnR.nil _ _ _ _, hp1, fun y hy => .inl hy, fun y hy => by simp [blks, Value.ownBlock] at hy, Fr.refl _ _⟩ ?_
    rintro ⟨j, vs, kv, pj, pvj⟩ g z ⟨h96, h97, h98, h11, hj, hpth, hval, hvl, hbd, ho, hpk, hpv, hkv, hfz⟩
    simp only at h98 h11 hj hpth hval hvl hbd ho hpk hpv hkv
    obtain ⟨a11, c11, rfl⟩ := ho.slice
    rw [eq_upd h11, eq_upd h96, eq_upd h97, eq_upd h98]
    have hszz := hfz.size
    have hS2 : ∀ y ∈ N :: S ++ blks pvj, y ∈ N :: S ∨ u1.heap.size ≤ y := fun y hy => by
      rcases List.mem_append.1 hy with h | h
      · exact .inl h
      · rcases hpv y h with h | h
        · exact .inl (hNS1 y (List.mem_cons_of_mem _ h))
        · exact .inr h
    have hlpk := hpk.own.lt
    have hlkv := ho.lt
    have hS2b : ∀ y ∈ N :: S ++ blks pvj, y < z.heap.size := fun y hy => by
      rcases List.mem_append.1 hy with h | h
      · have := hSb1 y h; omega
      · exact hlpk y h
    by_cases hjl : j < t[k].kids.length
    case neg =>
      have hnil : t[k].kids.drop j = [] := List.drop_eq_nil_of_le (by omega)
      rw [hnil] at hpth hval
      simp only [kidsT, List.map_nil, fitS, List.append_nil] at hpth hval
      have hvs := vsP ho (by omega) (fun y hy hm => by
        have h1 := hkv y hy
        rcases List.mem_append.1 hm with h | h
        · have := hSb1 y h; omega
        · exact h1.2 h)
      have hcnz := hcz z (hfz.mono (fun y hy => .inl (List.mem_cons_of_mem _ hy)))
      have hnz : PN z (N :: S) t[k] pn := hn0.tr (hfz.mono (fun y hy => .inl (hNS1 y hy)))
      refine rx ?_
      refine s_call (madeP t[k] pn vs _ z (hnz.mono (by simp)) hvs.any) rfl ?_
      rintro _ z1 ⟨rfl, hf4⟩
      refine ⟨_, rfl, ?_⟩
      have hfz1 := hfz.trans0 hf4
      refine s_storeAggB (cs := vc (madeV t[k] vs) (.slice a11 vs.length c11)) rfl rfl (hb1.tr hfz1 hNp) (VR.mem1 (w := z) (S := []) (madeV t[k] vs) _ ⟨_, rfl, by rw [madeV_kids]; exact hvs.any⟩) rfl rfl (fun z2 hb5 hf5 hs5 => ?_)
      refine rx ?_
      exact retc rfl rfl (AggT.load _ (vc (madeV t[k] vs) (.slice a11 vs.length c11)) rfl (fun j x hx => by rw [add_lit]; exact hb5.cell (by simpa using hx))) (fin z1 z2 _ _ pvj (fun h => by rw [hfe, ← hval h]; rfl) (by rw [madeV_kids]; exact hvs.tr0 hf4) (by rw [hfe, show (fitS raw (kidsT t t[k].kids) p).2 = pj from hpth]; exact hpk.tr0 hf4) hfz1 hpv hf5)
    have hka : ∃ ad2, ak = some ad2 := by obtain ⟨ad2, e, _⟩ := Ls.at hks hjl; exact ⟨ad2, e⟩
    obtain ⟨ad2, rfl⟩ := hka
    obtain ⟨q, hq, hqk⟩ := hv.kid hk (List.getElem_mem hjl)
    obtain ⟨ad', e', hcell⟩ := Ls.at (hkz z (hfz.mono (fun y hy => .inl (List.mem_cons_of_mem _ hy)))) hjl
    cases e'
    rw [hq] at hcell
    rw [List.drop_eq_getElem_cons hjl] at hpth hval hbd
    simp only [kidsT, List.map_cons, fitS, sumI, hq, Int.toNat_natCast] at hpth hval hbd
    have hrest0 : 0 ≤ sumI ((t[k].kids.drop (j + 1)).map fun q => lT t q.toNat) := (sumI_bd (m := 256) (fun a ha => by
      obtain ⟨y, hy, rfl⟩ := List.mem_map.1 ha
      obtain ⟨r, rfl, hr⟩ := hv.kid hk (List.mem_of_mem_drop hy)
      rw [Int.toNat_natCast]; exact hv.l0 (by omega))).1
    have hfl2 := fit_len hv raw q (by omega) pj
    have hcS : CapK t ((N :: S ++ blks pvj) ++ blks (.slice a11 vs.length c11)) (.slice (some ad) t.length cn) wb b A F rb vb raw z := hc1.turn (hfz.mono (fun y hy => .inl (hNS1 y hy))) (fun y hy => by
      rcases List.mem_append.1 hy with h | h
      · exact hS2 y h
      · exact .inr (hkv y h).1)
    refine rx ?_
    rw [Nat.mul_one]
    refine s_load rfl hcell ?_
    refine rx ?_
    refine s_call (ih q hqk ((N :: S ++ blks pvj) ++ blks (.slice a11 vs.length c11)) _ wb b A F rb vb pb z pj pvj want hcS hpk ⟨by simp [hin.1], fun y hy => by simp [hy]⟩ (fun y hy => ?_) (by omega)) rfl ?_
    · rcases List.mem_append.1 hy with h | h
      · exact hS2b y h
      · exact hlkv y h
    rintro _ z1 ⟨v, s, pv2, rfl, hw3, hvs3, hp3, hf3, hk3⟩
    refine ⟨_, rfl, ?_⟩
    have hdis : ∀ y ∈ blks (.slice a11 vs.length c11), y ∉ pb :: blks pvj := fun y hy hm => by
      rcases List.mem_cons.1 hm with h | h
      · have h1 := hkv y hy
        have h2 := hSb1 pb (List.mem_cons_of_mem _ hin.1)
        omega
      · exact (hkv y hy).2 h
    have hfz1 : Fr (pb :: blks pv) u1 z1 := hfz.trans hf3 (fun y hy => by
      rcases List.mem_cons.1 hy with h | h
      · left; simp [h]
      · rcases hpv y h with h | h
        · left; simp [h]
        · exact .inr h)
    have hpv2 : ∀ y ∈ blks pv2, y ∈ blks pv ∨ u1.heap.size ≤ y := fun y hy => by
      rcases hk3 y hy with h | h
      · exact hpv y h
      · right; omega
    have ho3 : OwnR z1 33 4 (plusR VR (N :: S ++ blks pv2)) vs (.slice a11 vs.length c11) := ownTurn ho hf3 (fun y hy => by
      rcases List.mem_cons.1 hy with h | h
      · simp [h, hin.1]
      · simp [h]) hdis (fun y hy => by
      rcases List.mem_append.1 hy with h | h
      · exact .inl (List.mem_append.2 (.inl h))
      · rcases hk3 y h with h | h
        · exact .inl (List.mem_append.2 (.inr h))
        · exact .inr h)
    have hkv3 : ∀ y ∈ blks (.slice a11 vs.length c11), u1.heap.size ≤ y ∧ y ∉ blks pv2 := fun y hy => ⟨(hkv y hy).1, fun hm => by
      rcases hk3 y hm with h | h
      · exact (hkv y hy).2 h
      · have := hlkv y hy; omega⟩
    have hsz1 := hfz1.size
    refine s_alloc rfl (fun z2 hb2 hf2 hs2 => ?_)
    refine s_storeAggB (cs := vc v s) rfl rfl hb2 (VR.mem1 (w := z1) v _ ⟨_, rfl, hvs3⟩) rfl rfl (fun z3 hb3 hf3' hs3 => ?_)
    have hF3 : Fr [] z1 z3 := hf2.trans hf3' (by simp)
    have hfz3 := hfz1.trans0 hF3
    have stP : Stab (plusR VR (N :: S ++ blks pv2)) 4 := plusStab vrStab
    cases want with
    | false =>
      refine rx ?_
      exact q_roundK (j + 1, vs, .slice a11 vs.length c11, (fit raw (tA t q) pj).2, pv2) (by (repeat (first | exact Keep.mrg _ _ _ _ | (refine Keep.hi rfl ?_) | (refine Keep.one rfl ?_) | exact Keep.all rfl | (refine Keep.inn rfl ?_) | (refine Keep.set rfl ?_)))) ⟨rfl, rfl, rfl, rfl, by simp only; omega, hpth, fun h => (by cases h), by simp only; omega, by simp only; omega, ho3.tr0 stP hF3, hp3.tr0 hF3, hpv2, hkv3, hfz3⟩ (by simp only; omega)
    | true =>
      have hve := hw3 rfl
      refine rx ?_
      refine s_pushA (R := plusR VR (N :: S ++ blks pv2)) (a := v) (cs := vc v s) (ho3.tr0 stP hF3) stP rfl rfl rfl ⟨s, rfl, (hvs3.mono (fun y hy => .inl ?_)).tr0 hF3⟩ rfl rfl rfl (by unfold maxLen; omega) (by omega) (fun v4 z4 ho4 hf4 hk4 => ?_)
      · rcases List.mem_append.1 hy with h | h
        · exact List.mem_append.2 (.inl (List.mem_append.2 (.inr h)))
        · rcases List.mem_append.1 h with h | h
          · exact List.mem_append.2 (.inl (List.mem_append.2 (.inl (List.mem_append.2 (.inl h)))))
          · exact List.mem_append.2 (.inr h)
      have hlp3 := (hp3.tr0 hF3).own.lt
      refine rx ?_
      refine q_roundK (j + 1, vs ++ [v], v4, (fit raw (tA t q) pj).2, pv2) (by (repeat (first | exact Keep.mrg _ _ _ _ | (refine Keep.hi rfl ?_) | (refine Keep.one rfl ?_) | exact Keep.all rfl | (refine Keep.inn rfl ?_) | (refine Keep.set rfl ?_)))) ⟨rfl, rfl, rfl, rfl, by simp only; omega, hpth, fun _ => ?_, by simp only [List.length_append, List.length_cons, List.length_nil]; omega, by simp only; omega, ho4, (hp3.tr0 hF3).old hf4 (fun y hy => ⟨fun e => ?_, fun h => ?_⟩), hpv2, fun y hy => ?_, hfz3.trans hf4 (fun y hy => .inr (hkv y hy).1)⟩ (by simp only; omega)
      · simp only
        exact (hval rfl).trans (by rw [hve, List.append_assoc]; rfl)
      · subst e; exact hdis _ hy (by simp)
      · exact (hkv3 y hy).2 h
      · rcases hk4 y hy with h | h
        · exact hkv3 y h
        · refine ⟨by have := hF3.size; omega, fun hm => ?_⟩
          have := hlp3 y hm; omega
  · have hbd4 := hv.bind hk k4
    obtain ⟨q, hq, hqe, hqs⟩ := hv.first hk k4
    have h0 : 0 < t[k].kids.length := by omega
    rw [headD_get h0] at hqe
    have hfe : fit raw (tA t k) p = fitN raw (kidsT t t[k].kids.tail) (fndV t[k].vals (fit raw (tA t q) p).1).1 (fit raw (tA t q) p).2 := by
      rw [tA_bnd hv hk k4, headD_get h0, hqe, Int.toNat_natCast]
      simp only [fit]
    have hkid1 : t[k].kids.tail ≠ [] := by
      intro e
      have := congrArg List.length e
      rw [List.length_tail] at this
      simp at this; omega
    have hlb : lT t q ≤ lT t k := by
      have := lT_bnd hv hk k4 (t[k].kids.tail[0]'(by rw [List.length_tail]; omega)) (List.getElem_mem _)
      rw [headD_get h0, hqe, Int.toNat_natCast] at this
      obtain ⟨r, hr, hrk⟩ := hv.kid hk (List.mem_of_mem_tail (List.getElem_mem (show 0 < t[k].kids.tail.length by rw [List.length_tail]; omega)))
      rw [hr, Int.toNat_natCast] at this
      have := (hv.l0 (t := t) (i := r) (by omega)).1
      omega
    obtain ⟨ad2, e2, hcell⟩ := Ls.at hks h0
    subst e2
    rw [hqe] at hcell
    refine rx ?_
    rw [Nat.zero_mul]
    refine s_load rfl hcell ?_
    refine rx ?_
    refine s_call (ih q hq (N :: S) _ wb b A F rb vb pb u1 p pv true hc1 hp1 ⟨by simp [hin.1], fun y hy => by simp [hin.2 y hy]⟩ hSb1 (by omega)) rfl ?_
    rintro _ u2 ⟨v1, sv1, pv1, rfl, hw1, hvs1, hp2, hf2, hk2⟩
    refine ⟨_, rfl, ?_⟩
    have hv1 := hw1 rfl
    have hsz2 := hf2.size
    refine s_alloc rfl (fun u3 hb3 hf3 hs3 => ?_)
    refine s_storeAggB (cs := vc v1 sv1) rfl rfl hb3 (VR.mem1 (w := u2) v1 _ ⟨_, rfl, hvs1⟩) rfl rfl (fun u4 hb4 hf4 hs4 => ?_)
    obtain ⟨N2, hN2⟩ : ∃ N2, N2 = u2.heap.size := ⟨_, rfl⟩
    rw [← hN2] at hb4 hf4 hb3 ⊢
    have hF4 : Fr [] u2 u4 := hf3.trans hf4 (by simp; omega)
    have hT4 : Fr (pb :: blks pv) u1 u4 := hf2.trans0 hF4
    have hT4' : Fr (N :: pb :: blks pv) u1 u4 := hT4.mono (fun y hy => .inl (List.mem_cons_of_mem _ hy))
    have hN2p : N2 ∉ pb :: blks pv := fun h => by have := hSb1 _ (List.mem_cons_of_mem _ (hpS _ h)); omega
    have hlp2 := hp2.own.lt
    obtain ⟨i1, hi1⟩ : ∃ i1, (fndV t[k].vals v1).1 = i1 := ⟨_, rfl⟩
    have hil : i1 < t[k].vals.length := by
      rw [← hi1]
      obtain ⟨sp, hr⟩ := fit_rd raw (tA t q) (good hv q (by omega)) p []
      rw [← hv1] at hr
      exact fnd_idx hbd4.2.2 (rd_mem hv q (by omega) _ _ _ _ _ hr _ hqs)
    have hil' : i1 + 1 < t[k].kids.length := by omega
    obtain ⟨r, hr, hrk⟩ := hv.kid hk (List.getElem_mem hil')
    have htl : i1 < t[k].kids.tail.length := by rw [List.length_tail]; omega
    have hre : t[k].kids.tail[i1] = (r : Int) := by rw [List.getElem_tail, hr]
    rw [← hv1, hi1, fitN_get _ _ _ _ (by rw [kidsT_len]; exact htl)] at hfe
    simp only [kidsT, List.getElem_map, hre, Int.toNat_natCast] at hfe
    have hlr := lT_bnd hv hk k4 _ (List.getElem_mem htl)
    rw [headD_get h0, hqe, hre, Int.toNat_natCast, Int.toNat_natCast] at hlr
    have hfl2 := fit_len hv raw q (by omega) p
    have hcell1 : ∀ z, Fr (N :: pb :: blks pv) u1 z → z.cell? (ad2.add (i1 + 1)) = some (.int .i64 r) := fun z hz => by
      obtain ⟨ad', e', hc'⟩ := Ls.at (hkz z hz) hil'
      cases e'
      rw [hr] at hc'
      exact hc'
    have hNN : N ≠ N2 := by omega
    refine rx ?_
    (refine d_begin (fun y => Fr (N :: pb :: blks pv) u1 y ∧ Blk y N2 (vc v1 sv1) 33) (by kernel_rfl) rfl ?_)
    have hD0 : Fr [] u4 u4.drew := Fr.drew _ _
    have hS : Fr (N :: pb :: blks pv) u1 u4.drew ∧ Blk u4.drew N2 (vc v1 sv1) 33 := ⟨hT4'.trans0 hD0, hb4.tr0 hD0⟩
    ((first | refine d_tx 0 hS ?_ | refine d_ty 0 hS ?_ | refine d_tn 0 hS ?_); (first | refine d_tx 1 hS ?_ | refine d_ty 1 hS ?_ | refine d_tn 1 hS ?_); (first | refine d_tx 2 hS ?_ | refine d_ty 2 hS ?_ | refine d_tn 2 hS ?_); (first | refine d_tx 3 hS ?_ | refine d_ty 3 hS ?_ | refine d_tn 3 hS ?_))
    (apply d_take (i := 4); exact rfl; kernel_rfl; kernel_rfl; kernel_rfl; (intro u hu; exact (r_load rfl (Cells.get (hcz _ hu.1) rfl))); exact hS)
    ((first | refine d_tx 5 hS ?_ | refine d_ty 5 hS ?_ | refine d_tn 5 hS ?_))
    (apply d_take (i := 6); exact rfl; kernel_rfl; kernel_rfl; kernel_rfl; (intro u hu; exact (r_loadC rfl (Cells.ofBlk hu.2) (by rfl))); exact hS)
    ((first | refine d_tx 10 hS ?_ | refine d_ty 10 hS ?_ | refine d_tn 10 hS ?_); (first | refine d_tx 11 hS ?_ | refine d_ty 11 hS ?_ | refine d_tn 11 hS ?_))
    refine d_one (i := 7) rfl (by kernel_rfl) ?_
    have hn4 : PN u4.drew (N :: S) t[k] pn := hn0.tr (hS.1.mono (fun y hy => .inl (hTS y hy)))
    refine s_call (caseP t[k] pn v1 sv1 u4.drew hbd4.2.2 hokx.lv (hn4.mono (by simp)) (((hvs1.tr0 hF4).tr0 hD0).any)) rfl ?_
    rintro _ u5 ⟨rfl, hf5⟩
    refine ⟨_, rfl, ?_⟩
    rw [hi1]
    have hS5 : Fr (N :: pb :: blks pv) u1 u5 ∧ Blk u5 N2 (vc v1 sv1) 33 := ⟨hS.1.trans0 hf5, hS.2.tr0 hf5⟩
    refine wpList_nil (q_held hS5 ?_)
    (apply d_take (i := 8); exact rfl; kernel_rfl; kernel_rfl; kernel_rfl; (intro u hu; exact (r_index1 (j := i1 + 1) rfl rfl rfl (by omega) rfl)); exact hS5)
    (apply d_take (i := 9); exact rfl; kernel_rfl; kernel_rfl; kernel_rfl; (intro u hu; exact (r_load rfl (hcell1 _ hu.1))); exact hS5)
    refine d_one (i := 12) rfl (by kernel_rfl) ?_
    have hF25 : Fr [] u2 u5 := (hF4.trans0 hD0).trans0 hf5
    have hT5 : Fr (pb :: blks pv) u1 u5 := hf2.trans0 hF25
    have hp5 := hp2.tr0 hF25
    have hS2 : ∀ y ∈ N2 :: ((N :: S) ++ blks pv1), y ∈ N :: S ∨ u1.heap.size ≤ y := fun y hy => by
      rcases List.mem_cons.1 hy with h | h
      · right; omega
      rcases List.mem_append.1 h with h | h
      · exact .inl h
      · rcases hk2 y h with h | h
        · exact .inl (List.mem_cons_of_mem _ (hin.2 y h))
        · exact .inr h
    have hc5 := hc1.turn (T := N2 :: ((N :: S) ++ blks pv1)) (hS5.1.mono (fun y hy => .inl (hTS y hy))) hS2
    refine s_call (ih r hrk (N2 :: ((N :: S) ++ blks pv1)) _ wb b A F rb vb pb u5 (fit raw (tA t q) p).2 pv1 want hc5 hp5 ⟨by simp [hin.1], fun y hy => by simp [hy]⟩ (fun y hy => ?_) (by omega)) rfl ?_
    · have := hF25.size
      rcases List.mem_cons.1 hy with h | h
      · have := hS5.2.lt; omega
      rcases List.mem_append.1 h with h | h
      · have := hSb1 y h; omega
      · have := hlp2 y h; omega
    rintro _ u6 ⟨v, s, pv2, rfl, hw6, hvs6, hp6, hf6, hk6⟩
    refine ⟨_, rfl, ?_⟩
    have hN2pv1 : N2 ∉ pb :: blks pv1 := fun h => by
      rcases List.mem_cons.1 h with h | h
      · exact hN2p (by simp [h])
      · have := hlp2 _ h; omega
    have hT6 : Fr (pb :: blks pv) u1 u6 := hT5.trans hf6 (fun y hy => by
      rcases List.mem_cons.1 hy with h | h
      · left; simp [h]
      · rcases hk2 y h with h | h
        · left; simp [h]
        · exact .inr h)
    have hS6 : Fr (N :: pb :: blks pv) u1 u6 ∧ Blk u6 N2 (vc v1 sv1) 33 := ⟨hT6.mono (fun y hy => .inl (List.mem_cons_of_mem _ hy)), hS5.2.tr hf6 hN2pv1⟩
    refine wpList_nil (q_held hS6 ?_)
    refine d_one (i := 13) rfl (by kernel_rfl) ?_
    refine s_storeAggB (cs := vc v s) rfl rfl (hb1.tr hT6 hNp) (VR.mem1 (w := u6) v _ ⟨_, rfl, hvs6⟩) rfl rfl (fun u7 hb7 hf7 hs7 => ?_)
    refine wpList_nil (q_held ⟨hS6.1.trans hf7 (by simp), hS6.2.tr hf7 (by simp; omega)⟩ ?_)
    (refine d_done (by kernel_rfl) ?_)
    refine rx ?_
    refine retc rfl rfl (AggT.load _ (vc v s) rfl (fun j x hx => by rw [add_lit]; exact hb7.cell (by simpa using hx))) (fin u6 u7 v s pv2 (fun h => by rw [hfe]; exact hw6 h) (hvs6.mono (fun y hy => .inl ?_)) (by rw [hfe]; exact hp6) hT6 (fun y hy => ?_) hf7)
    · rcases List.mem_append.1 hy with h | h
      · exact List.mem_append.2 (.inl (List.mem_cons_of_mem _ (List.mem_append.2 (.inl h))))
      · exact List.mem_append.2 (.inr h)
    · rcases hk6 y hy with h | h
      · exact hk2 y h
      · right; have := hT5.size; omega

/-! ### Fit -/
set_option maxHeartbeats 4000000 in
theorem fitP (t : List Nd) (hv : VT t) (hok : ∀ x ∈ t, NdOk x) (raw : List Int) (hraw : 0 ≤ raw.length) (S : List Nat) (sn sr : Value) (wb b A F : Nat) (u : World) (k : Nat) (hk : k < t.length) (hw : WalkM t S sn wb b A F u) (hn : NS u S t sn) (hr : IS u S raw sr) (hSb : ∀ q ∈ S, q < u.heap.size) :
    Calls Tryz.prog 41 #[.pointer (some ⟨wb, 0, none⟩), .int .i64 k, sr] u fun e u' => ∃ pv, e = .returned pv ∧ Own u' 3 1 pv (fit raw (tA t k) []).2.length ((fit raw (tA t k) []).2.map (.int .i64)) ∧ (∀ q ∈ blks pv, u.heap.size ≤ q) ∧ Fr [] u u' := by
  obtain ⟨ar, cr, rfl, _⟩ := hr.slice
  refine enter Tryz.func41 rfl Tryz.ntmps41 rfl ?_
  refine rx ?_
  refine s_box rfl rfl (fun u1 hb1 hf1 hs1 => ?_)
  refine s_box (l := [.slice ar raw.length cr]) rfl rfl (fun u2 hb2 hf2 hs2 => ?_)
  refine rx ?_
  refine s_alloc rfl (fun u3 hb3 hf3 hs3 => ?_)
  have hF : Fr [] u u3 := (hf1.trans0 hf2).trans0 hf3
  have hb13 := (hb1.tr0 hf2).tr0 hf3
  have hb23 := hb2.tr0 hf3
  obtain ⟨P, hP⟩ : ∃ P, P = u2.heap.size := ⟨_, rfl⟩
  rw [← hP] at hb3 ⊢
  have hmono : ∀ q ∈ P :: S, q ∈ S ∨ u.heap.size ≤ q := fun q hq => by
    rcases List.mem_cons.1 hq with h | h
    · right; omega
    · exact .inl h
  have hcap : CapK t (P :: S) sn wb b A F u1.heap.size u.heap.size raw u3 := ⟨(hw.mono hmono).tr0 hF, (hn.mono hmono).tr0 hF, ⟨_, hb23, (hr.mono hmono).tr0 hF⟩, hb13, ⟨fun h => by
      rcases List.mem_cons.1 h with h | h
      · omega
      · have := hSb _ h; omega, fun h => by
      rcases List.mem_cons.1 h with h | h
      · omega
      · have := hSb _ h; omega⟩, hraw⟩
  have hpk : PathK P u3 [] (.slice none 0 0) := ⟨hb3, Own.nil _ _ _, by simp [blks, Value.ownBlock]⟩
  have hl := hv.l0 hk
  refine rx ?_
  refine s_makeFunc (a := []) (b := [.pointer (some ⟨P, 0, none⟩), .pointer (some ⟨u1.heap.size, 0, none⟩), .pointer (some ⟨u.heap.size, 0, none⟩)]) rfl rfl ?_
  refine s_call (followP t hv hok raw k hk (P :: S) sn wb b A F u1.heap.size u.heap.size P u3 [] (.slice none 0 0) false hcap hpk ⟨by simp, by simp [blks, Value.ownBlock]⟩ (fun q hq => ?_) (by simp; omega)) rfl ?_
  · rcases List.mem_cons.1 hq with h | h
    · omega
    · have := hSb q h; omega
  rintro _ u4 ⟨v, s, pv, rfl, _, _, hp4, hf4, hk4⟩
  refine ⟨_, rfl, ?_⟩
  have hb4 := hp4.blk
  have hF4 : Fr [] u u4 := hF.trans hf4 (by simp [blks, Value.ownBlock]; omega)
  refine rx ?_
  (apply ret1; exact rfl; (conv => lhs; whnf))
  refine ⟨_, rfl, hp4.own, fun q hq => ?_, hF4⟩
  rcases hk4 q hq with h | h
  · exact fresh0 h
  · omega
end Go.Proofs.YtpochcchekoonaaGreat
