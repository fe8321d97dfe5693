/-
  Package walk: Fit$1, Root.
-/
import Derived.Test.YtpochcchekoonaaGreatUb
namespace Go.Rf
section
variable {P : Program} {n : Nat} {f : Env} {w : World} {d : Nat} {ty : TypeId} {ps : String} {af : Array Edge} {x y : Operand} {gd : Option (Nat × Bool)}
theorem r_max {k : IntKind} {a b r : Int} {at_ : Array TypeId} (hx : ev n f x = .int k a) (hy : ev n f y = .int k b) (hr : (if a < b then b else a) = r) :
    (execOp (ev n f) ⟨some d, .call { callee := .builtin .max, args := #[x, y], argTypes := at_ }, ty, ps, af, gd⟩).run P w = .ok (.value (.int k r)) w := by
  subst hr
  by_cases hlt : a < b <;> simp [execOp, resolve, invoke, builtin, Builtin.max_, Builtin.max2, hx, hy, hlt]
theorem r_min {k : IntKind} {a b r : Int} {at_ : Array TypeId} (hx : ev n f x = .int k a) (hy : ev n f y = .int k b) (hr : (if b < a then b else a) = r) :
    (execOp (ev n f) ⟨some d, .call { callee := .builtin .min, args := #[x, y], argTypes := at_ }, ty, ps, af, gd⟩).run P w = .ok (.value (.int k r)) w := by
  subst hr
  by_cases hlt : b < a <;> simp [execOp, resolve, invoke, builtin, Builtin.min_, Builtin.min2, hx, hy, hlt]
end
end Go.Rf
namespace Go.Proofs.YtpochcchekoonaaGreat
open Go.Rf Go.RowKit
set_option linter.unusedVariables false
set_option linter.unusedSimpArgs false
attribute [local irreducible] Code.wp wpList Exit.then Exit.inBlock bodyPost A Calls execOp Addr.add
/-- the path that is being fitted: a variable, and its slice -/
structure PathK (pb : Nat) (u : World) (p : List Int) (pv : Value) : Prop where
  blk : Blk u pb [pv] 22
  own : Own u 3 1 pv p.length (p.map (.int .i64))
  out : pb ∉ blks pv
theorem PathK.tr0 {pb : Nat} {u u' : World} {p : List Int} {pv : Value} (h : PathK pb u p pv) (hf : Fr [] u u') : PathK pb u' p pv := ⟨h.blk.tr0 hf, h.own.tr0 hf, h.out⟩
theorem PathK.old {pb : Nat} {u u' : World} {p : List Int} {pv : Value} {T : List Nat} (h : PathK pb u p pv) (hf : Fr T u u') (hT : ∀ k ∈ T, k ≠ pb ∧ k ∉ blks pv) : PathK pb u' p pv := ⟨h.blk.tr hf (fun hm => (hT _ hm).1 rfl), h.own.tr hf (fun k hk hm => (hT k hm).2 hk), h.out⟩
theorem clp_eq {raw : List Int} {k n : Nat} (hk : k < raw.length) (hn : 0 < n) : (clp raw k n : Int) = min (max raw[k] 0) ((n : Int) - 1) := by
  unfold clp
  rw [List.getD_eq_getElem?_getD, List.getElem?_eq_getElem hk]
  simp only [Option.getD_some]
  omega
theorem clp_zero {raw : List Int} {k n : Nat} (hk : ¬ k < raw.length) (hn : 0 < n) : clp raw k n = 0 := by
  unfold clp
  rw [List.getD_eq_getElem?_getD, List.getElem?_eq_none (by omega)]
  simp only [Option.getD_none]
  omega
/-- what the closure of Fit captures -/
structure CapK (t : List Nd) (S : List Nat) (sn : Value) (wb b A F rb vb : Nat) (raw : List Int) (u : World) : Prop where
  walk : WalkM t S sn wb b A F u
  nodes : NS u S t sn
  rawS : ∃ sr, Blk u rb [sr] 22 ∧ IS u S raw sr
  wv : Blk u vb [.pointer (some ⟨wb, 0, none⟩)] 72
  out : rb ∉ S ∧ vb ∉ S
  len : 0 ≤ raw.length
section
variable {t : List Nd} {S T : List Nat} {sn : Value} {wb b A F rb vb : Nat} {raw : List Int} {u u' : World}
theorem CapK.tr (h : CapK t S sn wb b A F rb vb raw u) (hf : Fr S u u') : CapK t S sn wb b A F rb vb raw u' := by
  obtain ⟨sr, h1, h2⟩ := h.rawS
  exact ⟨h.walk.tr hf, h.nodes.tr hf, ⟨sr, h1.tr hf h.out.1, h2.tr hf⟩, h.wv.tr hf h.out.2, h.out, h.len⟩
theorem CapK.mono (h : CapK t S sn wb b A F rb vb raw u) (hT : ∀ k ∈ T, k ∈ S ∨ u.heap.size ≤ k) : CapK t T sn wb b A F rb vb raw u := by
  obtain ⟨sr, h1, h2⟩ := h.rawS
  have l1 := h1.lt
  have l2 := h.wv.lt
  refine ⟨h.walk.mono hT, h.nodes.mono hT, ⟨sr, h1, h2.mono hT⟩, h.wv, ⟨fun hm => ?_, fun hm => ?_⟩, h.len⟩
  · rcases hT _ hm with h' | h'
    · exact h.out.1 h'
    · omega
  · rcases hT _ hm with h' | h'
    · exact h.out.2 h'
    · omega
theorem CapK.old (h : CapK t S sn wb b A F rb vb raw u) (hf : Fr T u u') (hT : ∀ k ∈ T, k ∈ S ∨ u.heap.size ≤ k) : CapK t S sn wb b A F rb vb raw u' := by
  have h1 := h.mono (T := S ++ T) (fun k hk => by rcases List.mem_append.1 hk with h | h; exact .inl h; exact hT k h)
  exact (h1.tr (hf.mono (fun k hk => .inl (by simp [hk])))).mono (fun k hk => .inl (by simp [hk]))
theorem CapK.tr0 (h : CapK t S sn wb b A F rb vb raw u) (hf : Fr [] u u') : CapK t S sn wb b A F rb vb raw u' := h.old hf (by simp)
theorem CapK.turn (h : CapK t S sn wb b A F rb vb raw u) (hf : Fr S u u') (hT : ∀ k ∈ T, k ∈ S ∨ u.heap.size ≤ k) : CapK t T sn wb b A F rb vb raw u' := by
  have h1 := h.mono (T := S ++ T) (fun k hk => by rcases List.mem_append.1 hk with h | h; exact .inl h; exact hT k h)
  exact (h1.tr (hf.mono (fun k hk => .inl (by simp [hk])))).mono (fun k hk => .inl (by simp [hk]))
set_option maxHeartbeats 8000000 in
theorem fit1P (hv : VT t) (hok : ∀ x ∈ t, NdOk x) (hc : CapK t S sn wb b A F rb vb raw u) {pb : Nat} {p : List Int} {pv : Value} (hp : PathK pb u p pv) (hlp : p.length ≤ 1000000) (hout : pb ≠ rb ∧ pb ≠ vb ∧ pb ≠ wb ∧ pb ≠ b) {k : Nat} (hk : k < t.length) (hk12 : t[k].kind = 1 ∨ t[k].kind = 2) :
    Calls Tryz.prog 86 #[.int .i64 k, .pointer (some ⟨pb, 0, none⟩), .pointer (some ⟨rb, 0, none⟩), .pointer (some ⟨vb, 0, none⟩)] u fun e u' => e = .returned (.int .i64 (clp raw p.length (optN t[k]) : Nat)) ∧ ∃ pv', PathK pb u' (p ++ [(clp raw p.length (optN t[k]) : Int)]) pv' ∧ Fr (pb :: blks pv) u u' ∧ (∀ q ∈ blks pv', q ∈ blks pv ∨ u.heap.size ≤ q) := by
  obtain ⟨av, cv, rfl⟩ := hp.own.slice
  obtain ⟨sr, hrb, hrs⟩ := hc.rawS
  obtain ⟨ar, cr, rfl, _⟩ := hrs.slice
  have hpb := hp.blk
  have hwv := hc.wv
  have hwb := hc.walk.blk
  obtain ⟨s1, s2, s3, hsb⟩ := hc.walk.set
  obtain ⟨an, cn, rfl, _⟩ := hc.nodes.slice
  obtain ⟨ad, rfl, hn⟩ := NS.ptr hc.nodes hk
  have hrl := hc.len
  have hrng := hv.rng hk
  have hok' := hok t[k] (by simp)
  have hopt : 0 < optN t[k] ∧ optN t[k] ≤ 1099511627776 := by
    unfold optN
    rcases hk12 with h | h
    · rw [if_pos h]; omega
    · rw [if_neg (by omega)]; have := hv.cho hk h; omega
  obtain ⟨c, hcc⟩ : ∃ c, clp raw p.length (optN t[k]) = c := ⟨_, rfl⟩
  rw [hcc]
  have hcb : c < 1099511627776 := by have := clp_lt (raw := raw) (k := p.length) hopt.1; omega
  generalize hpn : ad.add (k * 12) = pn at hn
  have hltp := hp.own.lt
  refine enter Tryz.func86 rfl Tryz.ntmps86 rfl ?_
  refine wp_seq ?_
  refine c_region ?_
  refine rr ?_
  refine wpList_nil ?_
  refine q_then ?_
  refine wp_seq ?_
  refine c_region ?_
  refine rr ?_
  refine wpList_nil ?_
  refine q_then ?_
  refine wp_seq ?_
  refine c_cut (fun g z => g 1 = .pointer (some ⟨pb, 0, none⟩) ∧ g 6 = .int .i64 (c : Nat) ∧ Fr [] u z) ?_ ?_
  · by_cases hlt : p.length < raw.length
    · obtain ⟨adr, rfl, hcell⟩ := Ls.at hrs hlt
      have hcl : ∀ z, Fr [] u z → z.cell? (adr.add p.length) = some (.int .i64 raw[p.length]) := fun z hz => by
        rw [hz.cell (World.block_lt_of_cell? u _ hcell) (by simp)]; exact hcell
      have hce := clp_eq hlt hopt.1
      rw [hcc] at hce
      refine rx ?_
      (refine d_begin (fun y => Fr [] u y) (by kernel_rfl) rfl ?_)
      have hS : Fr [] u u.drew := Fr.drew _ _
      ((first | refine d_tx 0 hS ?_ | refine d_ty 0 hS ?_ | refine d_tn 0 hS ?_); (first | refine d_tx 1 hS ?_ | refine d_ty 1 hS ?_ | refine d_tn 1 hS ?_); (first | refine d_tx 2 hS ?_ | refine d_ty 2 hS ?_ | refine d_tn 2 hS ?_))
      (apply d_take (i := 3); exact rfl; kernel_rfl; kernel_rfl; kernel_rfl; (intro u hu; exact (r_index1 (j := p.length) rfl rfl rfl (by omega) rfl)); exact hS)
      (apply d_take (i := 4); exact rfl; kernel_rfl; kernel_rfl; kernel_rfl; (intro u hu; exact (r_load rfl (hcl _ hu))); exact hS)
      (apply d_take (i := 5); exact rfl; kernel_rfl; kernel_rfl; kernel_rfl; (intro u hu; exact (r_max rfl rfl rfl)); exact hS)
      ((first | refine d_tx 6 hS ?_ | refine d_ty 6 hS ?_ | refine d_tn 6 hS ?_); (first | refine d_tx 7 hS ?_ | refine d_ty 7 hS ?_ | refine d_tn 7 hS ?_); (first | refine d_tx 8 hS ?_ | refine d_ty 8 hS ?_ | refine d_tn 8 hS ?_); (first | refine d_tx 9 hS ?_ | refine d_ty 9 hS ?_ | refine d_tn 9 hS ?_); (first | refine d_tx 10 hS ?_ | refine d_ty 10 hS ?_ | refine d_tn 10 hS ?_); (first | refine d_tx 11 hS ?_ | refine d_ty 11 hS ?_ | refine d_tn 11 hS ?_); (first | refine d_tx 12 hS ?_ | refine d_ty 12 hS ?_ | refine d_tn 12 hS ?_); (first | refine d_tx 13 hS ?_ | refine d_ty 13 hS ?_ | refine d_tn 13 hS ?_))
      (apply d_take (i := 14); exact rfl; kernel_rfl; kernel_rfl; kernel_rfl; (intro u hu; exact (r_indexAddr (j := k) rfl rfl rfl (by omega) rfl)); exact hS)
      refine d_one (i := 15) rfl (by kernel_rfl) ?_
      rw [hpn]
      refine s_call (optionsP t[k] pn _ hok'.lk hrng ((hn.mono (by simp)).tr0 hS)) rfl ?_
      rintro _ u1 ⟨rfl, hf1⟩
      refine ⟨_, rfl, ?_⟩
      have hT := hS.trans0 hf1
      refine wpList_nil (q_held hT ?_)
      ((first | refine d_tx 16 hT ?_ | refine d_ty 16 hT ?_ | refine d_tn 16 hT ?_))
      (apply d_take (i := 17); exact rfl; kernel_rfl; kernel_rfl; kernel_rfl; (intro u hu; exact (r_min (r := (c : Int)) rfl rfl (by rw [hce]; repeat' split; all_goals omega))); exact hT)
      (refine d_one (i := 18) rfl (by kernel_rfl) ?_; refine rx ?_; refine q_held hT ?_)
      (refine d_done (by kernel_rfl) ?_)
      exact q_cut ⟨rfl, rfl, hT⟩
    · have hz := clp_zero hlt hopt.1
      rw [hcc] at hz
      subst hz
      refine rx ?_
      exact q_cut ⟨rfl, rfl, Fr.refl _ _⟩
  rintro g z ⟨g1, g6, hfz⟩
  rw [eq_upd g1, eq_upd g6]
  have hpz := hp.tr0 hfz
  have hbz := hpz.blk
  refine rx ?_
  ((with_reducible apply s_build1); (conv => lhs; whnf); exact rfl)
  intro z1 ho1 hf1 hs1
  refine s_append (hpz.own.tr0 hf1) rfl ho1.src rfl rfl one1 (by unfold maxLen; omega) (by omega) (fun v' z2 ho2 hf2 hk2 _ => ?_)
  have hbz2 := (hbz.tr0 hf1).tr hf2 hp.out
  refine rx ?_
  ((with_reducible apply s_storeB); exact rfl; (conv => lhs; whnf); exact ho2.one; exact hbz2; exact rfl)
  intro z3 hb3 hf3 hs3
  have hpbl := hbz.lt
  have hout' : pb ∉ blks v' := fun hm => by
    rcases hk2 _ hm with h | h
    · exact hp.out h
    · have := hf1.size; omega
  refine rx ?_
  (apply ret1; exact rfl; (conv => lhs; whnf))
  refine ⟨rfl, v', ⟨hb3, ?_, hout'⟩, ?_, fun q hq => ?_⟩
  · have h1 := ho2.tr hf3 (fun q hq hm => by simp at hm; subst hm; exact hout' hq)
    simp only [List.length_append, List.length_cons, List.length_nil, List.map_append, List.map_cons, List.map_nil]
    exact h1
  · have h1 : Fr (pb :: blks (.slice av p.length cv)) u z1 := (hfz.trans0 hf1).mono (by simp)
    exact (h1.trans hf2 (fun q hq => .inl (List.mem_cons_of_mem _ hq))).trans hf3 (by simp)
  · rcases hk2 q hq with h | h
    · exact .inl h
    · right; have := (hfz.trans0 hf1).size; omega
theorem rootP (h : WalkM t S sn wb b A F u) (hn : NS u S t sn) (hl : t.length ≤ 1000000) :
    Calls Tryz.prog 42 #[.pointer (some ⟨wb, 0, none⟩)] u fun e u' => e = .returned (.int .i64 ((t.length : Int) - 1)) ∧ u = u' := by
  have hb := h.blk
  obtain ⟨x, y, z, hs⟩ := h.set
  obtain ⟨an, cn, rfl, _⟩ := hn.slice
  refine enter Tryz.func42 rfl Tryz.ntmps42 rfl ?_
  refine rx ?_
  (apply ret1; exact rfl; (conv => lhs; whnf))
  exact ⟨rfl, rfl⟩
end
end Go.Proofs.YtpochcchekoonaaGreat
