/-
  Project of package history.
-/
import Derived.Test.YtcogpedfnnfnaaaHu
namespace Go.Proofs.Ytcogpedfnnfnaaa
open Go.Rf Go.RowKit
set_option linter.unusedVariables false
set_option maxHeartbeats 8000000
attribute [local irreducible] Code.wp wpList Exit.then Exit.inBlock bodyPost A Calls execOp Addr.add

theorem projC (l : List Ev) (sl : Value) (c : Int) (w : World) (hl : EvS w l sl) (hb : l.length ≤ 1000000) :
    Calls Try.prog 27 #[sl, .int .i64 c] w fun e w' => ∃ v', e = .returned v' ∧ OwnR w' 61 8 EvR (l.filter (prj c)) v' ∧ (∀ k ∈ blks v', w.heap.size ≤ k) ∧ Fr [] w w' := by
  obtain ⟨ao, cc, rfl, hcc⟩ := Sl.slice hl
  refine enter Try.func27 rfl Try.ntmps27 rfl ?_
  refine rx ?_
  refine c_loopK 8 [5, 7] (σ := Nat × Value) (fun st g u => g 8 = .slice ao l.length cc ∧ g 9 = .int .i64 l.length ∧ g 10 = .int .i64 st.1 ∧ g 5 = st.2 ∧ st.1 ≤ l.length ∧ OwnR u 61 8 EvR ((l.take st.1).filter (prj c)) st.2 ∧ (∀ k ∈ blks st.2, w.heap.size ≤ k) ∧ Fr [] w u)
    (fun st => l.length - st.1) (0, .slice none 0 0) ⟨rfl, rfl, rfl, rfl, Nat.zero_le _, OwnR.nil _ _ _ _, by simp [blks, Value.ownBlock], Fr.refl _ _⟩ ?_
  rintro ⟨i, v⟩ g u ⟨h8, h9, h10, h5, hi, ho, hk, hf⟩
  simp only at h10 h5 hi ho hk
  rw [eq_upd h8, eq_upd h9, eq_upd h10, eq_upd h5]
  by_cases hlt : i < l.length
  case neg =>
    refine rx ?_
    (apply ret1; exact rfl; (conv => lhs; whnf))
    rw [List.take_of_length_le (by omega)] at ho
    exact ⟨_, rfl, ho, hk, hf⟩
  obtain ⟨ad, cs, rfl, ⟨sa, sr, rfl, ha, hr⟩, hcell⟩ := Sl.at (EvS.tr0 hl hf) evLen hlt
  have hstep : (l.take (i + 1)).filter (prj c) = (l.take i).filter (prj c) ++ if prj c l[i] then [l[i]] else [] := by
    rw [List.take_succ_eq_append_getElem hlt, List.filter_append, List.filter_cons, List.filter_nil]
  have hflen : ((l.take i).filter (prj c)).length ≤ l.length := by
    have := List.length_filter_le (prj c) (l.take i)
    rw [List.length_take] at this; omega
  refine rx ?_
  refine s_alloc rfl (fun u1 hb1 hf1 hs1 => ?_)
  refine s_storeAggB rfl rfl hb1 (evStab.one (w := u) (S := []) ⟨sa, sr, rfl, ha, hr⟩) rfl rfl (fun u2 hb2 hf2 hs2 => ?_)
  have hF2 : Fr [] u u2 := hf1.trans hf2 (by simp)
  have hsz2 := hF2.size
  have hlt0 := ho.lt
  obtain ⟨NX, hNX⟩ : ∃ NX, u.heap.size = NX := ⟨_, rfl⟩
  rw [hNX] at hb2 hf2 ⊢
  have hNXlt := hb2.lt
  have hsz := hf.size
  by_cases hp : l[i].kind = 2 ∨ (l[i].kind = 0 ∨ l[i].kind = 1) ∧ l[i].client = c
  case neg =>
    rw [if_neg (by simpa [prj] using hp), List.append_nil] at hstep
    have h3 : (l[i].kind = 0 ∧ l[i].client ≠ c) ∨ (l[i].kind = 1 ∧ l[i].client ≠ c) ∨ (l[i].kind ≠ 0 ∧ l[i].kind ≠ 1 ∧ l[i].kind ≠ 2) := by omega
    have ho2 := ho.tr0 evStab hF2
    rcases h3 with h | h | h
    all_goals
      refine rx ?_
      exact q_roundK (i + 1, v) (by (repeat (first | exact Keep.mrg _ _ _ _ | (refine Keep.hi rfl ?_) | (refine Keep.one rfl ?_) | exact Keep.all rfl | (refine Keep.inn rfl ?_) | (refine Keep.set rfl ?_)))) ⟨rfl, rfl, rfl, rfl, by simp only; omega, by simp only [hstep]; exact ho2, hk, hf.trans0 hF2⟩ (by simp only; omega)
  rw [if_pos (by simpa [prj] using hp)] at hstep
  have h3 : l[i].kind = 2 ∨ (l[i].kind = 0 ∧ l[i].client = c) ∨ (l[i].kind = 1 ∧ l[i].client = c) := by omega
  rcases h3 with h | h | h
  all_goals
    refine rx ?_
    refine s_call (cloneValues l[i].args sa u2 (ha.tr0 hF2)) rfl ?_
    rintro _ u3 ⟨sa', rfl, hsa', hf3⟩
    refine ⟨_, rfl, ?_⟩
    have hb3 := hb2.tr0 hf3
    obtain ⟨aa, ca, hsl, _⟩ := (hsa' [] (by simp)).slice
    subst hsl
    refine rx ?_
    ((with_reducible apply s_storeB); exact rfl; (conv => lhs; whnf); exact rfl; exact hb3; exact rfl)
    intro u4 hb4 hf4 hs4
    have hF4 : Fr [NX] u2 u4 := (hf3.mono (by simp)).trans hf4 (by simp)
    have hFu4 : Fr [] u u4 := hF2.trans hF4 (by simp; omega)
    clear hb2 hb3
    refine rx ?_
    refine s_call (cloneValue l[i].res sr u4 (hr.tr0 hFu4)) rfl ?_
    rintro _ u5 ⟨sr', rfl, hsr', hf5⟩
    refine ⟨_, rfl, ?_⟩
    have hb5 := hb4.tr0 hf5
    obtain ⟨ar, cr, hsl, _⟩ := (hsr' [] (by simp)).slice
    subst hsl
    clear hb4
    refine rx ?_
    refine s_storeSubB rfl rfl hb5 (VR.mem1 (w := u5) (S := []) l[i].res _ ⟨_, rfl, hsr' [] (by simp)⟩) (by show 4 + 4 ≤ 8; omega) rfl (fun u6 hb6 hf6 hs6 => ?_)
    have hF6 : Fr [] u u6 := (hFu4.trans0 hf5).trans hf6 (by simp; omega)
    clear hb5
    have hs4' := hFu4.size
    have hs24 := hF4.size
    have hvb : ∀ k ∈ blks v, k < u2.heap.size := fun k hk => by have := hlt0 k hk; omega
    have hNXb : NX ∉ blks v := fun hm => by have := hlt0 _ hm; omega
    have hVa : VS u6 (blks v) l[i].args (.slice aa l[i].args.length ca) := by
      have h1 := hsa' (NX :: blks v) (fun k hk => by
        rcases List.mem_cons.1 hk with rfl | hk
        · omega
        · exact hvb k hk)
      have h2 : VS u6 (NX :: blks v) l[i].args (.slice aa l[i].args.length ca) := ((h1.tr (hf4.mono (by simp))).tr0 hf5).tr (hf6.mono (by simp))
      exact h2.mono (fun k hk => .inl (by simp [hk]))
    have hVr : VS u6 (blks v) l[i].res.kids (.slice ar l[i].res.kids.length cr) := by
      have h1 := hsr' (NX :: blks v) (fun k hk => by
        rcases List.mem_cons.1 hk with rfl | hk
        · omega
        · have := hlt0 k hk; omega)
      exact (h1.tr (hf6.mono (by simp))).mono (fun k hk => .inl (by simp [hk]))
    refine rx ?_
    refine s_pushA (a := l[i]) (cs := ec l[i] (.slice aa l[i].args.length ca) (.slice ar l[i].res.kids.length cr)) (ho.tr0 evStab hF6) evStab rfl rfl rfl ⟨_, _, rfl, hVa, hVr⟩ rfl rfl rfl (by unfold maxLen; omega) (by omega) (fun v' u7 ho7 hf7 hk7 => ?_)
    have hs6' := hF6.size
    refine rx ?_
    refine q_roundK (i + 1, v') (by (repeat (first | exact Keep.mrg _ _ _ _ | (refine Keep.hi rfl ?_) | (refine Keep.one rfl ?_) | exact Keep.all rfl | (refine Keep.inn rfl ?_) | (refine Keep.set rfl ?_)))) ⟨rfl, rfl, rfl, rfl, by simp only; omega, by simp only [hstep]; exact ho7, fun k hm => ?_, (hf.trans0 hF6).trans hf7 (fun k hm => .inr (hk k hm))⟩ (by simp only; omega)
    rcases hk7 k hm with h | h
    · exact hk k h
    · omega
end Go.Proofs.Ytcogpedfnnfnaaa
