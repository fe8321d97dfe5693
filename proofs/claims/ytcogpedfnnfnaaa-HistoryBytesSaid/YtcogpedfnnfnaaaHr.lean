/-
  The reference's walks on histories: formed, Valid, Ops.
-/
import Derived.Test.YtcogpedfnnfnaaaHp
namespace Go.Proofs.Ytcogpedfnnfnaaa
open Go.Rf Go.RowKit
set_option linter.unusedVariables false
set_option maxHeartbeats 4000000
attribute [local irreducible] Code.wp wpList Exit.then Exit.inBlock bodyPost A Calls execOp Addr.add

theorem formedER (e : Ev) (sa sr : Value) (w : World) (ha : VS w [] e.args sa) (hr : VS w [] e.res.kids sr) (hok : EvOk e) :
    Calls Try.prog 49 #[.agg (ec e sa sr).toArray] w fun r w' => r = .returned (.int .i64 (fmdE e)) ∧ Fr [] w w' := by
  obtain ⟨aa, ca, rfl, _⟩ := ha.slice
  have hbd := ha.bound
  refine enter Try.func49 rfl Try.ntmps49 rfl ?_
  refine rx ?_
  refine s_box rfl rfl (fun w1 hb1 hf1 hs1 => ?_)
  unfold fmdE
  by_cases hb : e.kind < 0 ∨ 2 < e.kind ∨ e.client < 0 ∨ 3 < e.client
  · rw [if_pos hb]
    (refine rx ?_; repeat' ((first | refine s_eql rfl rfl (fun h => ?_) (fun h => ?_) | refine s_neq rfl rfl (fun h => ?_) (fun h => ?_) | refine s_lss rfl rfl (fun h => ?_) (fun h => ?_) | refine s_leq rfl rfl (fun h => ?_) (fun h => ?_) | refine s_gtr rfl rfl (fun h => ?_) (fun h => ?_) | refine s_geq rfl rfl (fun h => ?_) (fun h => ?_) | refine s_eqlE rfl rfl (fun h => ?_) (fun h => ?_) | refine s_neqE rfl rfl (fun h => ?_) (fun h => ?_) | refine s_lssS rfl rfl (fun h => ?_) (fun h => ?_) | refine s_gtrS rfl rfl (fun h => ?_) (fun h => ?_)) <;> refine rx ?_))
    all_goals
      (apply ret1; exact rfl; (conv => lhs; whnf))
      exact ⟨rfl, hf1⟩
  rw [if_neg hb]
  refine rx ?_
  refine s_call (zeroR e.res sr w1 (hr.tr0 hf1)) rfl ?_
  rintro _ w2 ⟨rfl, hf2⟩
  refine ⟨_, rfl, ?_⟩
  have hF := hf1.trans0 hf2
  have hb2 := hb1.tr0 hf2
  rcases hz : zeroV e.res with _ | _
  all_goals
    by_cases hbad : e.kind = 2 ∧ e.client ≠ 0 ∨ e.kind ≠ 0 ∧ (e.name ≠ ⟨#[]⟩ ∨ 0 < e.args.length)
    · rw [if_pos (by rcases hbad with h | h; exact .inl h; exact .inr (.inl h))]
      (refine rx ?_; repeat' ((first | refine s_eql rfl rfl (fun h => ?_) (fun h => ?_) | refine s_neq rfl rfl (fun h => ?_) (fun h => ?_) | refine s_lss rfl rfl (fun h => ?_) (fun h => ?_) | refine s_leq rfl rfl (fun h => ?_) (fun h => ?_) | refine s_gtr rfl rfl (fun h => ?_) (fun h => ?_) | refine s_geq rfl rfl (fun h => ?_) (fun h => ?_) | refine s_eqlE rfl rfl (fun h => ?_) (fun h => ?_) | refine s_neqE rfl rfl (fun h => ?_) (fun h => ?_) | refine s_lssS rfl rfl (fun h => ?_) (fun h => ?_) | refine s_gtrS rfl rfl (fun h => ?_) (fun h => ?_)) <;> refine rx ?_))
      all_goals
        first
        | ((apply ret1; exact rfl; (conv => lhs; whnf))
           exact ⟨rfl, hF⟩)
        | (exfalso; rcases hbad with ⟨h, h'⟩ | ⟨h, h' | h'⟩ <;> first | omega | exact h' (by assumption))
  · by_cases k1 : e.kind = 1
    case neg =>
      rw [if_pos (.inr (.inr ⟨k1, rfl⟩))]
      by_cases hn : e.name = ⟨#[]⟩
      all_goals
        (refine rx ?_; repeat' ((first | refine s_eql rfl rfl (fun h => ?_) (fun h => ?_) | refine s_neq rfl rfl (fun h => ?_) (fun h => ?_) | refine s_lss rfl rfl (fun h => ?_) (fun h => ?_) | refine s_leq rfl rfl (fun h => ?_) (fun h => ?_) | refine s_gtr rfl rfl (fun h => ?_) (fun h => ?_) | refine s_geq rfl rfl (fun h => ?_) (fun h => ?_) | refine s_eqlE rfl rfl (fun h => ?_) (fun h => ?_) | refine s_neqE rfl rfl (fun h => ?_) (fun h => ?_) | refine s_lssS rfl rfl (fun h => ?_) (fun h => ?_) | refine s_gtrS rfl rfl (fun h => ?_) (fun h => ?_)) <;> refine rx ?_))
        all_goals
          (apply ret1; exact rfl; (conv => lhs; whnf))
          exact ⟨rfl, hF⟩
    have hn : e.name = ⟨#[]⟩ := Decidable.byContradiction fun h => hbad (.inr ⟨by omega, .inl h⟩)
    have hl : e.args.length = 0 := by
      have : ¬ 0 < e.args.length := fun h => hbad (.inr ⟨by omega, .inr h⟩)
      omega
    have hargs : e.args = [] := List.eq_nil_of_length_eq_zero hl
    rw [if_neg (by rintro (h | h | h); exact hbad (.inl h); exact hbad (.inr h); exact h.1 k1), if_neg (by omega)]
    refine rx ?_
    refine c_loopK 6 [4, 5] (σ := Nat) (fun i g u => g 4 = .int .i64 0 ∧ Fr [] w2 u) (fun i => i) 0 ⟨rfl, Fr.refl _ _⟩ ?_
    rintro i g u ⟨h4, hfu⟩
    rw [eq_upd h4]
    have hbu := hb2.tr0 hfu
    refine rx ?_
    refine s_call (validR e.res sr u (hr.tr0 (hF.trans0 hfu)) hok.res.nm hok.res.sz) rfl ?_
    rintro _ w3 ⟨rfl, hf3⟩
    refine ⟨_, rfl, ?_⟩
    refine rx ?_
    (apply ret1; exact rfl; (conv => lhs; whnf))
    exact ⟨by rw [hargs]; simp [firstErr], (hF.trans0 hfu).trans0 hf3⟩
  rw [if_neg (by rintro (h | h | h); exact hbad (.inl h); exact hbad (.inr h); cases h.2)]
  by_cases hb3 : e.kind = 0 ∧ (e.name = ⟨#[]⟩ ∨ 16 < e.name.size ∨ 16 < e.args.length)
  · rw [if_pos hb3]
    obtain ⟨k0, hb3⟩ := hb3
    (refine rx ?_; repeat' ((first | refine s_eql rfl rfl (fun h => ?_) (fun h => ?_) | refine s_neq rfl rfl (fun h => ?_) (fun h => ?_) | refine s_lss rfl rfl (fun h => ?_) (fun h => ?_) | refine s_leq rfl rfl (fun h => ?_) (fun h => ?_) | refine s_gtr rfl rfl (fun h => ?_) (fun h => ?_) | refine s_geq rfl rfl (fun h => ?_) (fun h => ?_) | refine s_eqlE rfl rfl (fun h => ?_) (fun h => ?_) | refine s_neqE rfl rfl (fun h => ?_) (fun h => ?_) | refine s_lssS rfl rfl (fun h => ?_) (fun h => ?_) | refine s_gtrS rfl rfl (fun h => ?_) (fun h => ?_)) <;> refine rx ?_))
    all_goals
      first
      | ((apply ret1; exact rfl; (conv => lhs; whnf))
         exact ⟨rfl, hF⟩)
      | (exfalso; rcases hb3 with h | h | h <;> first | omega | contradiction)
  rw [if_neg hb3]
  have hcond : (e.kind = 0 ∧ ¬ e.name = ⟨#[]⟩ ∧ e.name.size ≤ 16) ∨ (¬ e.kind = 0 ∧ e.name = ⟨#[]⟩ ∧ e.args.length = 0) := by
    by_cases k0 : e.kind = 0
    · exact .inl ⟨k0, fun h => hb3 ⟨k0, .inl h⟩, by
        have : ¬ 16 < e.name.size := fun h => hb3 ⟨k0, .inr (.inl h)⟩
        omega⟩
    · refine .inr ⟨k0, Decidable.byContradiction fun h => hbad (.inr ⟨k0, .inl h⟩), ?_⟩
      have : ¬ 0 < e.args.length := fun h => hbad (.inr ⟨k0, .inr h⟩)
      omega
  have h16 : e.args.length ≤ 16 := by
    rcases hcond with ⟨k0, _, _⟩ | ⟨_, _, h⟩
    · have : ¬ 16 < e.args.length := fun h => hb3 ⟨k0, .inr (.inr h)⟩
      omega
    · omega
  have h20 : e.kind = 2 → e.client = 0 := fun h => Decidable.byContradiction fun h2 => hbad (.inl ⟨h, h2⟩)
  (refine rr ?_; refine wpList_nil ?_; refine q_then ?_; refine wp_seq ?_; refine c_cut (fun g u => g 1 = .pointer (some ⟨w.heap.size, 0, none⟩) ∧ w2 = u) ?_ ?_)
  · rcases hcond with ⟨k0, hn, hsz⟩ | ⟨k0, hn, hl⟩
    all_goals
      (refine rx ?_; repeat' ((first | refine s_eql rfl rfl (fun h => ?_) (fun h => ?_) | refine s_neq rfl rfl (fun h => ?_) (fun h => ?_) | refine s_lss rfl rfl (fun h => ?_) (fun h => ?_) | refine s_leq rfl rfl (fun h => ?_) (fun h => ?_) | refine s_gtr rfl rfl (fun h => ?_) (fun h => ?_) | refine s_geq rfl rfl (fun h => ?_) (fun h => ?_) | refine s_eqlE rfl rfl (fun h => ?_) (fun h => ?_) | refine s_neqE rfl rfl (fun h => ?_) (fun h => ?_) | refine s_lssS rfl rfl (fun h => ?_) (fun h => ?_) | refine s_gtrS rfl rfl (fun h => ?_) (fun h => ?_)) <;> refine rx ?_))
      all_goals exact q_cut ⟨rfl, rfl⟩
  rintro g w2 ⟨q1, rfl⟩
  rw [eq_upd q1]
  (refine wp_seq ?_; refine c_cut (fun g u => g 1 = .pointer (some ⟨w.heap.size, 0, none⟩) ∧ w2 = u) ?_ ?_)
  · rcases hcond with ⟨k0, hn, hsz⟩ | ⟨k0, hn, hl⟩
    all_goals
      refine rx ?_
      exact q_cut ⟨rfl, rfl⟩
  rintro g w2 ⟨q1, rfl⟩
  rw [eq_upd q1]
  refine rx ?_
  refine c_loopK 6 [4, 5] (σ := Nat) (fun i g u => g 4 = .int .i64 i ∧ i ≤ e.args.length ∧ firstErr e.args = firstErr (e.args.drop i) ∧ Fr [] w2 u) (fun i => e.args.length - i) 0 ⟨rfl, by omega, rfl, Fr.refl _ _⟩ ?_
  rintro i g u ⟨h4, hi, hc, hfu⟩
  rw [eq_upd h4]
  have hFu := hF.trans0 hfu
  have hbu := hb2.tr0 hfu
  by_cases hlt : i < e.args.length
  case neg =>
    refine rx ?_
    refine s_call (validR e.res sr u (hr.tr0 hFu) hok.res.nm hok.res.sz) rfl ?_
    rintro _ w3 ⟨rfl, hf3⟩
    refine ⟨_, rfl, ?_⟩
    refine rx ?_
    (apply ret1; exact rfl; (conv => lhs; whnf))
    rw [hc, List.drop_eq_nil_of_le (by omega)]
    exact ⟨rfl, hFu.trans0 hf3⟩
  obtain ⟨ad, cs, rfl, ⟨sx, rfl, hx⟩, hcx⟩ := (ha.tr0 hFu).sl.at VR.len hlt
  have hmem : e.args[i] ∈ e.args := by simp
  refine rx ?_
  refine s_call (validR e.args[i] sx u hx (hok.args _ hmem).nm (hok.args _ hmem).sz) rfl ?_
  rintro _ u3 ⟨rfl, hf3⟩
  refine ⟨_, rfl, ?_⟩
  rw [firstErr_drop hlt] at hc
  refine rx ?_
  refine s_neq rfl rfl (fun h => ?_) (fun h => ?_)
  · refine rx ?_
    (apply ret1; exact rfl; (conv => lhs; whnf))
    rw [hc, if_neg h, if_neg h]
    exact ⟨rfl, hFu.trans0 hf3⟩
  · refine rx ?_
    exact q_roundK (i + 1) (by (repeat (first | exact Keep.mrg _ _ _ _ | (refine Keep.hi rfl ?_) | (refine Keep.one rfl ?_) | exact Keep.all rfl | (refine Keep.inn rfl ?_) | (refine Keep.set rfl ?_)))) ⟨rfl, by omega, by rw [hc, if_pos h], hfu.trans0 hf3⟩ (by omega)

theorem validER (l : List Ev) (sl : Value) (w : World) (hl : EvS w l sl) (hok : ∀ e ∈ l, EvOk e) (hb : l.length ≤ 1000000) :
    Calls Try.prog 22 #[sl] w fun r w' => r = .returned (.int .i64 (validH l)) ∧ Fr [] w w' := by
  obtain ⟨ao, c, rfl, hc⟩ := Sl.slice hl
  refine enter Try.func22 rfl Try.ntmps22 rfl ?_
  refine rx ?_
  refine c_loopK 8 [3, 4] (σ := Nat) (fun i g u => g 3 = .int .i64 (nbeg (l.take i)) ∧ g 4 = .int .i64 i ∧ i ≤ l.length ∧ w = u) (fun i => l.length - i) 0 ⟨rfl, rfl, Nat.zero_le _, rfl⟩ ?_
  rintro i g u ⟨h3, h4, hi, rfl⟩
  rw [eq_upd h3, eq_upd h4]
  by_cases hlt : i < l.length
  · obtain ⟨ad, cs, rfl, ⟨sa, sr, rfl, ha, hr⟩, hcell⟩ := Sl.at hl evLen hlt
    have hn := nbeg_take hlt
    have hle := nbeg_le l i
    by_cases k0 : l[i].kind = 0
    · rw [if_pos k0] at hn
      refine rx ?_
      exact q_roundK (i + 1) (by (repeat (first | exact Keep.mrg _ _ _ _ | (refine Keep.hi rfl ?_) | (refine Keep.one rfl ?_) | exact Keep.all rfl | (refine Keep.inn rfl ?_) | (refine Keep.set rfl ?_)))) ⟨by rw [hn]; rfl, rfl, by omega, rfl⟩ (by omega)
    · rw [if_neg k0] at hn
      refine rx ?_
      exact q_roundK (i + 1) (by (repeat (first | exact Keep.mrg _ _ _ _ | (refine Keep.hi rfl ?_) | (refine Keep.one rfl ?_) | exact Keep.all rfl | (refine Keep.inn rfl ?_) | (refine Keep.set rfl ?_)))) ⟨by rw [hn]; rfl, rfl, by omega, rfl⟩ (by omega)
  have ei : i = l.length := by omega
  subst ei
  rw [List.take_length]
  unfold validH
  by_cases hb4 : 64 < l.length ∨ 16 < nbeg l
  · rw [if_pos hb4]
    (refine rx ?_; repeat' ((first | refine s_eql rfl rfl (fun h => ?_) (fun h => ?_) | refine s_neq rfl rfl (fun h => ?_) (fun h => ?_) | refine s_lss rfl rfl (fun h => ?_) (fun h => ?_) | refine s_leq rfl rfl (fun h => ?_) (fun h => ?_) | refine s_gtr rfl rfl (fun h => ?_) (fun h => ?_) | refine s_geq rfl rfl (fun h => ?_) (fun h => ?_) | refine s_eqlE rfl rfl (fun h => ?_) (fun h => ?_) | refine s_neqE rfl rfl (fun h => ?_) (fun h => ?_) | refine s_lssS rfl rfl (fun h => ?_) (fun h => ?_) | refine s_gtrS rfl rfl (fun h => ?_) (fun h => ?_)) <;> refine rx ?_))
    all_goals
      (apply ret1; exact rfl; (conv => lhs; whnf))
      exact ⟨rfl, Fr.refl _ _⟩
  rw [if_neg hb4]
  refine rx ?_
  refine c_loopK 8 [5, 6, 7] (σ := Nat) (fun i g u => g 5 = .int .i64 i ∧ i ≤ l.length ∧ errL l 0 l = errL l i (l.drop i) ∧ Fr [] w u) (fun i => l.length - i) 0 ⟨rfl, Nat.zero_le _, rfl, Fr.refl _ _⟩ ?_
  rintro i g u ⟨h5, hi, he, hfu⟩
  rw [eq_upd h5]
  by_cases hlt : i < l.length
  case neg =>
    refine rx ?_
    (apply ret1; exact rfl; (conv => lhs; whnf))
    rw [he, List.drop_eq_nil_of_le (by omega)]
    exact ⟨rfl, hfu⟩
  obtain ⟨ad, cs, rfl, ⟨sa, sr, rfl, ha, hr⟩, hcell⟩ := Sl.at (EvS.tr0 hl hfu) evLen hlt
  rw [errL_drop hlt] at he
  have hmem : l[i] ∈ l := by simp
  refine rx ?_
  refine s_call (formedER l[i] sa sr u ha hr (hok _ hmem)) rfl ?_
  rintro _ u1 ⟨rfl, hf1⟩
  refine ⟨_, rfl, ?_⟩
  have hF1 := hfu.trans0 hf1
  have hcell1 := hcell.tr0 hf1
  refine rx ?_
  refine s_neq rfl rfl (fun h => ?_) (fun h => ?_)
  · have hk : chk l i l[i] = fmdE l[i] := by unfold chk; rw [if_pos h]
    rw [hk, if_pos h] at he
    refine rx ?_
    (apply ret1; exact rfl; (conv => lhs; whnf))
    exact ⟨by rw [he], hF1⟩
  have hn : ¬ (fmdE l[i] ≠ 0) := fun h2 => h2 h
  refine rx ?_
  refine s_call (opnC l _ l[i].client i u1 (EvS.tr0 hl hF1) (by omega) (by omega)) rfl ?_
  rintro _ _ ⟨rfl, rfl⟩
  refine ⟨_, rfl, ?_⟩
  by_cases c1 : l[i].kind = 0 ∧ 0 ≤ opn l l[i].client i
  · have hk : chk l i l[i] = 20 := by unfold chk; rw [if_neg hn, if_pos c1]
    rw [hk, if_pos (by decide)] at he
    obtain ⟨c1, c1'⟩ := c1
    refine rx ?_
    (apply ret1; exact rfl; (conv => lhs; whnf))
    rw [he]
    exact ⟨rfl, hF1⟩
  by_cases c2 : l[i].kind = 1 ∧ opn l l[i].client i < 0
  · have hk : chk l i l[i] = 25 := by unfold chk; rw [if_neg hn, if_neg c1, if_pos c2]
    rw [hk, if_pos (by decide)] at he
    obtain ⟨c2, c2'⟩ := c2
    refine rx ?_
    (apply ret1; exact rfl; (conv => lhs; whnf))
    rw [he]
    exact ⟨rfl, hF1⟩
  have hk : chk l i l[i] = 0 := by unfold chk; rw [if_neg hn, if_neg c1, if_neg c2]
  rw [hk, if_neg (by simp)] at he
  (refine rx ?_; repeat' ((first | refine s_eql rfl rfl (fun h => ?_) (fun h => ?_) | refine s_neq rfl rfl (fun h => ?_) (fun h => ?_) | refine s_lss rfl rfl (fun h => ?_) (fun h => ?_) | refine s_leq rfl rfl (fun h => ?_) (fun h => ?_) | refine s_gtr rfl rfl (fun h => ?_) (fun h => ?_) | refine s_geq rfl rfl (fun h => ?_) (fun h => ?_) | refine s_eqlE rfl rfl (fun h => ?_) (fun h => ?_) | refine s_neqE rfl rfl (fun h => ?_) (fun h => ?_) | refine s_lssS rfl rfl (fun h => ?_) (fun h => ?_) | refine s_gtrS rfl rfl (fun h => ?_) (fun h => ?_)) <;> refine rx ?_))
  all_goals exact q_roundK (i + 1) (by (repeat (first | exact Keep.mrg _ _ _ _ | (refine Keep.hi rfl ?_) | (refine Keep.one rfl ?_) | exact Keep.all rfl | (refine Keep.inn rfl ?_) | (refine Keep.set rfl ?_)))) ⟨rfl, by omega, he, hF1⟩ (by omega)
end Go.Proofs.Ytcogpedfnnfnaaa
