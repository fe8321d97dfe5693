/-
  What is wrong with an event by itself: formed of package history and of the reference.
-/
import Derived.Test.YtcogpedfnnfnaaaHg
namespace Go.Proofs.Ytcogpedfnnfnaaa
open Go.Rf Go.RowKit
set_option linter.unusedVariables false
set_option maxHeartbeats 4000000
attribute [local irreducible] Code.wp wpList Exit.then Exit.inBlock bodyPost A Calls execOp Addr.add

def firstErr : List V → Int
  | [] => 0
  | v :: l => if valV v = 0 then firstErr l else valV v
def fmdE (e : Ev) : Int :=
  if e.kind < 0 ∨ 2 < e.kind ∨ e.client < 0 ∨ 3 < e.client then 1
  else if e.kind = 2 ∧ e.client ≠ 0 ∨ e.kind ≠ 0 ∧ (e.name ≠ ⟨#[]⟩ ∨ 0 < e.args.length) ∨ e.kind ≠ 1 ∧ zeroV e.res = false then 1
  else if e.kind = 0 ∧ (e.name = ⟨#[]⟩ ∨ 16 < e.name.size ∨ 16 < e.args.length) then 1
  else if firstErr e.args = 0 then valV e.res else firstErr e.args

structure VOk (v : V) : Prop where
  nm : VNm v
  sz : vsz v ≤ 10000000000000
structure EvOk (e : Ev) : Prop where
  args : ∀ v ∈ e.args, VOk v
  res : VOk e.res

theorem cmp_zero (v : V) : cmpV v V0 = 0 ↔ zeroV v = true := by
  have key : cmpV v V0 = if cmpI v.kind 0 ≠ 0 then cmpI v.kind 0 else if cmpI v.n 0 ≠ 0 then cmpI v.n 0 else if cmpS v.s ⟨#[]⟩ ≠ 0 then cmpS v.s ⟨#[]⟩ else cmpVs v.kids [] := cmpV_eq v V0
  rw [key]
  unfold zeroV
  rw [decide_eq_true_eq]
  have h1 : ∀ a : Int, cmpI a 0 = 0 ↔ a = 0 := by
    intro a; unfold cmpI; constructor
    · intro h; (repeat' split at h) <;> omega
    · intro h; subst h; rfl
  have h2 : ∀ s : ByteArray, cmpS s ⟨#[]⟩ = 0 ↔ s = ⟨#[]⟩ := by
    intro s; unfold cmpS; constructor
    · intro h; (repeat' split at h) <;> simp_all
    · intro h
      subst h
      have : ¬ Op.bytesLess (ByteArray.toList ⟨#[]⟩) (ByteArray.toList ⟨#[]⟩) = true := by rw [ByteArray.toList_eq]; decide
      rw [if_neg this, if_pos rfl]
  have h3 : ∀ l : List V, cmpVs l [] = 0 ↔ l.length = 0 := by
    intro l; cases l <;> simp [cmpVs]
  have e1 := h1 v.kind
  have e2 := h1 v.n
  have e3 := h2 v.s
  have e4 := h3 v.kids
  by_cases a1 : cmpI v.kind 0 = 0
  · by_cases a2 : cmpI v.n 0 = 0
    · by_cases a3 : cmpS v.s ⟨#[]⟩ = 0
      · rw [if_neg (by simp [a1]), if_neg (by simp [a2]), if_neg (by simp [a3]), e4]
        exact ⟨fun h => ⟨e1.1 a1, e2.1 a2, e3.1 a3, h⟩, fun h => h.2.2.2⟩
      · rw [if_neg (by simp [a1]), if_neg (by simp [a2]), if_pos a3]
        exact ⟨fun h => absurd h a3, fun h => absurd (e3.2 h.2.2.1) a3⟩
    · rw [if_neg (by simp [a1]), if_pos a2]
      exact ⟨fun h => absurd h a2, fun h => absurd (e2.2 h.2.1) a2⟩
  · rw [if_pos a1]
    exact ⟨fun h => absurd h a1, fun h => absurd (e1.2 h.1) a1⟩
theorem zero_valid {v : V} (h : zeroV v = true) : valV v = 0 := by
  simp only [zeroV, decide_eq_true_eq] at h
  obtain ⟨h1, h2, h3, h4⟩ := h
  have hk : v.kids = [] := List.eq_nil_of_length_eq_zero h4
  have hF : allF v = true := by rw [allF_eq, hk]; simp [fmd, h1, h3, h4, allFs]
  have hT : allT v = true := by rw [allT_eq, hk]; simp [fts, hk, allTs]
  have hz : vsz v = 1 := by rw [vsz_eq, hk]; rfl
  simp [valV, hF, hT, hz]
theorem firstErr_drop {l : List V} {i : Nat} (h : i < l.length) : firstErr (l.drop i) = if valV l[i] = 0 then firstErr (l.drop (i + 1)) else valV l[i] := by rw [List.drop_eq_getElem_cons h]; rfl

theorem formedE (e : Ev) (sa sr : Value) (w : World) (ha : VS w [] e.args sa) (hr : VS w [] e.res.kids sr) (hok : EvOk e) :
    Calls Try.prog 77 #[.agg (ec e sa sr).toArray] w fun r w' => r = .returned (.int .i64 (fmdE e)) ∧ Fr [] w w' := by
  obtain ⟨aa, ca, rfl, _⟩ := ha.slice
  have hbd := ha.bound
  refine enter Try.func77 rfl Try.ntmps77 rfl ?_
  refine rx ?_
  refine s_box rfl rfl (fun w1 hb1 hf1 hs1 => ?_)
  refine rx ?_
  refine s_build (vc V0 (.slice none 0 0)) rfl ?_
  refine s_call (compareV e.res V0 sr (.slice none 0 0) w1 (hr.tr0 hf1) (VS.nil _ _)) rfl ?_
  rintro _ w2 ⟨rfl, hf2⟩
  refine ⟨_, rfl, ?_⟩
  have hF := hf1.trans0 hf2
  have hb2 := hb1.tr0 hf2
  have hcz := cmp_zero e.res
  unfold fmdE
  by_cases hb : e.kind < 0 ∨ 2 < e.kind ∨ e.client < 0 ∨ 3 < e.client
  · rw [if_pos hb]
    (refine rx ?_; repeat' ((first | refine s_eql rfl rfl (fun h => ?_) (fun h => ?_) | refine s_neq rfl rfl (fun h => ?_) (fun h => ?_) | refine s_lss rfl rfl (fun h => ?_) (fun h => ?_) | refine s_leq rfl rfl (fun h => ?_) (fun h => ?_) | refine s_gtr rfl rfl (fun h => ?_) (fun h => ?_) | refine s_geq rfl rfl (fun h => ?_) (fun h => ?_) | refine s_eqlE rfl rfl (fun h => ?_) (fun h => ?_) | refine s_neqE rfl rfl (fun h => ?_) (fun h => ?_) | refine s_lssS rfl rfl (fun h => ?_) (fun h => ?_) | refine s_gtrS rfl rfl (fun h => ?_) (fun h => ?_)) <;> refine rx ?_))
    all_goals
      (apply ret1; exact rfl; (conv => lhs; whnf))
      exact ⟨rfl, hF⟩
  rw [if_neg hb]
  rcases hz : zeroV e.res with _ | _
  · have hz' : ¬ cmpV e.res V0 = 0 := by rw [hcz, hz]; simp
    by_cases k1 : e.kind = 1
    · have e1 : (e.kind = 2 ∧ e.client ≠ 0 ∨ e.kind ≠ 0 ∧ (e.name ≠ ⟨#[]⟩ ∨ 0 < e.args.length) ∨ e.kind ≠ 1 ∧ false = false) ↔ (e.name ≠ ⟨#[]⟩ ∨ 0 < e.args.length) := by
        constructor
        · rintro (⟨h, _⟩ | ⟨_, h⟩ | ⟨h, _⟩)
          · omega
          · exact h
          · omega
        · intro h; exact .inr (.inl ⟨by omega, h⟩)
      by_cases hbad : e.name ≠ ⟨#[]⟩ ∨ 0 < e.args.length
      · rw [if_pos (e1.2 hbad)]
        (refine rx ?_; repeat' ((first | refine s_eql rfl rfl (fun h => ?_) (fun h => ?_) | refine s_neq rfl rfl (fun h => ?_) (fun h => ?_) | refine s_lss rfl rfl (fun h => ?_) (fun h => ?_) | refine s_leq rfl rfl (fun h => ?_) (fun h => ?_) | refine s_gtr rfl rfl (fun h => ?_) (fun h => ?_) | refine s_geq rfl rfl (fun h => ?_) (fun h => ?_) | refine s_eqlE rfl rfl (fun h => ?_) (fun h => ?_) | refine s_neqE rfl rfl (fun h => ?_) (fun h => ?_) | refine s_lssS rfl rfl (fun h => ?_) (fun h => ?_) | refine s_gtrS rfl rfl (fun h => ?_) (fun h => ?_)) <;> refine rx ?_))
        all_goals
          first
          | ((apply ret1; exact rfl; (conv => lhs; whnf))
             exact ⟨rfl, hF⟩)
          | (exfalso; rcases hbad with h | h <;> first | omega | exact h (by assumption))
      · rw [if_neg (fun h => hbad (e1.1 h)), if_neg (by omega)]
        have hn : e.name = ⟨#[]⟩ := Decidable.byContradiction fun h => hbad (.inl h)
        have hl : e.args.length = 0 := by
          have : ¬ 0 < e.args.length := fun h => hbad (.inr h)
          omega
        have hargs : e.args = [] := List.eq_nil_of_length_eq_zero hl
        refine rx ?_
        refine s_call (validP e.res sr w2 (hr.tr0 hF) hok.res.nm hok.res.sz) rfl ?_
        rintro _ w3 ⟨rfl, hf3⟩
        refine ⟨_, rfl, ?_⟩
        refine rx ?_
        (apply ret1; exact rfl; (conv => lhs; whnf))
        exact ⟨by rw [hargs]; simp [firstErr], hF.trans0 hf3⟩
    · rw [if_pos (.inr (.inr ⟨k1, rfl⟩))]
      (refine rx ?_; repeat' ((first | refine s_eql rfl rfl (fun h => ?_) (fun h => ?_) | refine s_neq rfl rfl (fun h => ?_) (fun h => ?_) | refine s_lss rfl rfl (fun h => ?_) (fun h => ?_) | refine s_leq rfl rfl (fun h => ?_) (fun h => ?_) | refine s_gtr rfl rfl (fun h => ?_) (fun h => ?_) | refine s_geq rfl rfl (fun h => ?_) (fun h => ?_) | refine s_eqlE rfl rfl (fun h => ?_) (fun h => ?_) | refine s_neqE rfl rfl (fun h => ?_) (fun h => ?_) | refine s_lssS rfl rfl (fun h => ?_) (fun h => ?_) | refine s_gtrS rfl rfl (fun h => ?_) (fun h => ?_)) <;> refine rx ?_))
      all_goals
        (apply ret1; exact rfl; (conv => lhs; whnf))
        exact ⟨rfl, hF⟩
  have hz' : cmpV e.res V0 = 0 := hcz.2 hz
  by_cases k0 : e.kind = 0
  case neg =>
    have e1 : (e.kind = 2 ∧ e.client ≠ 0 ∨ e.kind ≠ 0 ∧ (e.name ≠ ⟨#[]⟩ ∨ 0 < e.args.length) ∨ e.kind ≠ 1 ∧ true = false) ↔ (e.kind = 2 ∧ e.client ≠ 0 ∨ (e.name ≠ ⟨#[]⟩ ∨ 0 < e.args.length)) := by
      constructor
      · rintro (h | ⟨_, h⟩ | ⟨_, h⟩)
        · exact .inl h
        · exact .inr h
        · cases h
      · rintro (h | h)
        · exact .inl h
        · exact .inr (.inl ⟨k0, h⟩)
    by_cases hbad : e.name ≠ ⟨#[]⟩ ∨ 0 < e.args.length
    · rw [if_pos (e1.2 (.inr hbad))]
      (refine rx ?_; repeat' ((first | refine s_eql rfl rfl (fun h => ?_) (fun h => ?_) | refine s_neq rfl rfl (fun h => ?_) (fun h => ?_) | refine s_lss rfl rfl (fun h => ?_) (fun h => ?_) | refine s_leq rfl rfl (fun h => ?_) (fun h => ?_) | refine s_gtr rfl rfl (fun h => ?_) (fun h => ?_) | refine s_geq rfl rfl (fun h => ?_) (fun h => ?_) | refine s_eqlE rfl rfl (fun h => ?_) (fun h => ?_) | refine s_neqE rfl rfl (fun h => ?_) (fun h => ?_) | refine s_lssS rfl rfl (fun h => ?_) (fun h => ?_) | refine s_gtrS rfl rfl (fun h => ?_) (fun h => ?_)) <;> refine rx ?_))
      all_goals
        first
        | ((apply ret1; exact rfl; (conv => lhs; whnf))
           exact ⟨rfl, hF⟩)
        | (exfalso; rcases hbad with h | h <;> first | omega | exact h (by assumption))
    have hn : e.name = ⟨#[]⟩ := Decidable.byContradiction fun h => hbad (.inl h)
    have hl : e.args.length = 0 := by
      have : ¬ 0 < e.args.length := fun h => hbad (.inr h)
      omega
    have hargs : e.args = [] := List.eq_nil_of_length_eq_zero hl
    by_cases h2 : e.kind = 2 ∧ e.client ≠ 0
    · rw [if_pos (e1.2 (.inl h2))]
      obtain ⟨h2a, h2b⟩ := h2
      refine rx ?_
      (apply ret1; exact rfl; (conv => lhs; whnf))
      exact ⟨rfl, hF⟩
    rw [if_neg (fun h => by rcases e1.1 h with h | h; exact h2 h; exact hbad h), if_neg (by omega)]
    have hfe : firstErr e.args = 0 := by rw [hargs]; rfl
    rw [if_pos hfe]
    by_cases k2 : e.kind = 2
    all_goals
      refine rx ?_
      refine s_call (validP e.res sr w2 (hr.tr0 hF) hok.res.nm hok.res.sz) rfl ?_
      rintro _ w3 ⟨rfl, hf3⟩
      refine ⟨_, rfl, ?_⟩
      refine rx ?_
      (apply ret1; exact rfl; (conv => lhs; whnf))
      exact ⟨rfl, hF.trans0 hf3⟩
  rw [if_neg (by rintro (⟨h, _⟩ | ⟨h, _⟩ | ⟨_, h⟩); omega; exact h k0; cases h)]
  by_cases hbad : e.name = ⟨#[]⟩ ∨ 16 < e.name.size ∨ 16 < e.args.length
  · rw [if_pos ⟨k0, hbad⟩]
    (refine rx ?_; repeat' ((first | refine s_eql rfl rfl (fun h => ?_) (fun h => ?_) | refine s_neq rfl rfl (fun h => ?_) (fun h => ?_) | refine s_lss rfl rfl (fun h => ?_) (fun h => ?_) | refine s_leq rfl rfl (fun h => ?_) (fun h => ?_) | refine s_gtr rfl rfl (fun h => ?_) (fun h => ?_) | refine s_geq rfl rfl (fun h => ?_) (fun h => ?_) | refine s_eqlE rfl rfl (fun h => ?_) (fun h => ?_) | refine s_neqE rfl rfl (fun h => ?_) (fun h => ?_) | refine s_lssS rfl rfl (fun h => ?_) (fun h => ?_) | refine s_gtrS rfl rfl (fun h => ?_) (fun h => ?_)) <;> refine rx ?_))
    all_goals
      first
      | ((apply ret1; exact rfl; (conv => lhs; whnf))
         exact ⟨rfl, hF⟩)
      | (exfalso; rcases hbad with h | h | h <;> first | omega | contradiction)
  rw [if_neg (fun h => hbad h.2)]
  have hn : ¬ e.name = ⟨#[]⟩ := fun h => hbad (.inl h)
  have h16 : ¬ 16 < e.name.size := fun h => hbad (.inr (.inl h))
  have hl16 : ¬ 16 < e.args.length := fun h => hbad (.inr (.inr h))
  refine rx ?_
  refine c_loopK 7 [5, 6] (σ := Nat) (fun i g u => g 53 = .slice aa e.args.length ca ∧ g 54 = .int .i64 e.args.length ∧ g 55 = .int .i64 i ∧ i ≤ e.args.length ∧ firstErr e.args = firstErr (e.args.drop i) ∧ Fr [] w2 u) (fun i => e.args.length - i) 0 ⟨rfl, rfl, rfl, by omega, rfl, Fr.refl _ _⟩ ?_
  rintro i g u ⟨h53, h54, h55, hi, hc, hfu⟩
  rw [eq_upd h53, eq_upd h54, eq_upd h55]
  have hFu := hF.trans0 hfu
  by_cases hlt : i < e.args.length
  case neg =>
    refine rx ?_
    (apply ret1; exact rfl; (conv => lhs; whnf))
    rw [hc, List.drop_eq_nil_of_le (by omega), zero_valid hz]
    exact ⟨rfl, hFu⟩
  obtain ⟨ad, cs, rfl, ⟨sx, rfl, hx⟩, hcx⟩ := (ha.tr0 hFu).sl.at VR.len hlt
  refine rx ?_
  refine s_alloc rfl (fun u1 hbx hf1' hs1' => ?_)
  refine s_storeAggB rfl rfl hbx (VR.mem1 e.args[i] _ ⟨sx, rfl, hx⟩) rfl rfl (fun u2 hbx2 hf2' hs2' => ?_)
  have hFx : Fr [] u u2 := hf1'.trans hf2' (by simp)
  have hmem : e.args[i] ∈ e.args := by simp
  refine rx ?_
  refine s_call (validP e.args[i] sx u2 (hx.tr0 hFx) (hok.args _ hmem).nm (hok.args _ hmem).sz) rfl ?_
  rintro _ u3 ⟨rfl, hf3⟩
  refine ⟨_, rfl, ?_⟩
  rw [firstErr_drop hlt] at hc
  refine rx ?_
  refine s_neq rfl rfl (fun h => ?_) (fun h => ?_)
  · refine rx ?_
    (apply ret1; exact rfl; (conv => lhs; whnf))
    rw [hc, if_neg h, if_neg h]
    exact ⟨rfl, (hFu.trans0 hFx).trans0 hf3⟩
  · refine rx ?_
    exact q_roundK (i + 1) (by (repeat (first | exact Keep.mrg _ _ _ _ | (refine Keep.hi rfl ?_) | (refine Keep.one rfl ?_) | exact Keep.all rfl | (refine Keep.inn rfl ?_) | (refine Keep.set rfl ?_)))) ⟨rfl, rfl, rfl, by omega, by rw [hc, if_pos h], (hfu.trans0 hFx).trans0 hf3⟩ (by omega)
end Go.Proofs.Ytcogpedfnnfnaaa
