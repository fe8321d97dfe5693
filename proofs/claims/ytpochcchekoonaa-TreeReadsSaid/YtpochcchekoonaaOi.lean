/-
  The reference's Read, Value, At, Spans, Fit.
-/
import Derived.Test.YtpochcchekoonaaOh
namespace Go.Proofs.Ytpochcchekoonaa
open Go.Rf Go.RowKit
set_option linter.unusedVariables false
set_option linter.unusedSimpArgs false
/-- what reading a whole path leads to -/
def readX (t : List Nd) (path : List Int) : Res V := match rd path (tA t (t.length - 1)) 0 with
  | .ok v e sp => if e = path.length then .ok v e sp else .bad
  | .stop i n => .stop i n
  | .bad => .bad
theorem readX_full {t : List Nd} {path : List Int} (hz : validT t = 0) (h0 : 0 < t.length) : fullT t path = match readX t path with
  | .ok v e sp => some (v, sp)
  | _ => none := by
  unfold fullT readX
  rw [if_pos ⟨hz, h0⟩]
  rcases rd path (tA t (t.length - 1)) 0 with ⟨v, e, sp⟩ | ⟨i, n⟩ | _
  · simp only
    split <;> rfl
  · rfl
  · rfl
theorem readX_at {t : List Nd} {path : List Int} (hz : validT t = 0) (h0 : 0 < t.length) : atT t path = match readX t path with
  | .ok v e sp => (-1, 0)
  | .stop i _ => ((i : Nat), 0)
  | .bad => (-1, 11) := by
  unfold atT readX
  rw [if_pos hz, if_pos h0]
  rcases rd path (tA t (t.length - 1)) 0 with ⟨v, e, sp⟩ | ⟨i, n⟩ | _
  · simp only
    split <;> rfl
  · rfl
  · rfl
theorem readX_fit {t : List Nd} (hv : VT t) (h0 : 0 < t.length) (raw : List Int) {j : Nat} (hj : j < (fit raw (tA t (t.length - 1)) []).2.length) :
    ∃ i n, readX t ((fit raw (tA t (t.length - 1)) []).2.take j) = .stop i n ∧ (fit raw (tA t (t.length - 1)) []).2[j]? = some (clp raw j n : Int) := by
  obtain ⟨i, n, h1, h2⟩ := fit_take raw (tA t (t.length - 1)) (good hv _ (by omega)) [] j (Nat.zero_le _) hj
  refine ⟨i, n, ?_, h2⟩
  unfold readX
  simp only [List.length_nil] at h1
  rw [h1]
theorem readX_done {t : List Nd} (hv : VT t) (h0 : 0 < t.length) (raw : List Int) : ∃ v e sp, readX t (fit raw (tA t (t.length - 1)) []).2 = .ok v e sp := by
  obtain ⟨sp, h1⟩ := fit_rd raw (tA t (t.length - 1)) (good hv _ (by omega)) [] []
  simp only [List.append_nil, List.length_nil] at h1
  refine ⟨(fit raw (tA t (t.length - 1)) []).1, (fit raw (tA t (t.length - 1)) []).2.length, sp, ?_⟩
  unfold readX
  rw [h1]
  simp only [if_pos]
theorem readX_stop {t : List Nd} (hv : VT t) (h0 : 0 < t.length) {path : List Int} {i n : Nat} (h : readX t path = .stop i n) : ∃ hi : i < t.length, (t[i].kind = 1 ∨ t[i].kind = 2) ∧ n = optN t[i] := by
  unfold readX at h
  rcases hr : rd path (tA t (t.length - 1)) 0 with ⟨v, e, sp⟩ | ⟨i', n'⟩ | _
  · rw [hr] at h; simp only at h; split at h <;> cases h
  · rw [hr] at h
    simp only [Res.stop.injEq] at h
    obtain ⟨rfl, rfl⟩ := h
    obtain ⟨hi, h1, h2, _⟩ := stops hv _ (by omega) _ _ _ _ hr
    exact ⟨hi, h1, h2⟩
  · rw [hr] at h; cases h
def ReadX (t : List Nd) (path : List Int) (S : List Nat) (u : World) : Ending → World → Prop := fun e u' =>
  ∃ cs, e = .returned (.agg cs.toArray) ∧ RefR S u.heap.size u' 0 path.length (nsp (tA t (t.length - 1))) (readX t path) cs ∧ Fr [] u u'
attribute [local irreducible] Code.wp wpList Exit.then Exit.inBlock bodyPost A Calls execOp Addr.add
set_option maxHeartbeats 4000000 in
theorem ReadP (t : List Nd) (hv : VT t) (h0 : 0 < t.length) (hok : ∀ x ∈ t, NdOk x) (path : List Int) (hpl : path.length ≤ 1000000000) (hm : ∀ k, k < t.length → nsp (tA t k) ≤ 100000000000) (S : List Nat) (sn spv : Value) (u : World) (hn : NS u S t sn) (hp : IS u S path spv) (hSb : ∀ q ∈ S, q < u.heap.size) :
    Calls Try.prog 48 #[.agg #[sn], spv] u (ReadX t path S u) := by
  have hlen := hv.len
  obtain ⟨an, cn, rfl, _⟩ := hn.slice
  obtain ⟨ap, cp, rfl, _⟩ := hp.slice
  refine enter Try.func48 rfl Try.ntmps48 rfl ?_
  refine rx ?_
  refine s_box (l := [.slice an t.length cn]) rfl rfl (fun u1 hb1 hf1 hs1 => ?_)
  refine s_alloc rfl (fun u2 hb2 hf2 hs2 => ?_)
  obtain ⟨rb, hrb⟩ : ∃ y, y = u1.heap.size := ⟨_, rfl⟩
  rw [← hrb] at hb2 ⊢
  have hF2 := hf1.trans0 hf2
  have hb12 := hb1.tr0 hf2
  have hS2 : ∀ b ∈ rb :: S, b ∈ S ∨ u.heap.size ≤ b := fun b hb => by
    rcases List.mem_cons.1 hb with h | h
    · right; omega
    · exact .inl h
  refine rx ?_
  have hm1 : (t.length : Int) - 1 = ((t.length - 1 : Nat) : Int) := by omega
  rw [hm1]
  refine s_call (readR t hv hok path hpl hm (t.length - 1) (by omega) (rb :: S) u2 0 _ _ ((hn.mono hS2).tr0 hF2) ((hp.mono hS2).tr0 hF2) (fun q hq => ?oa) (Nat.zero_le _)) rfl ?_
  case oa =>
    rcases List.mem_cons.1 hq with h | h
    · omega
    · have := hSb q h; omega
  rintro _ u3 ⟨cs, rfl, hR, hf3⟩
  refine ⟨_, rfl, ?_⟩
  obtain ⟨v, kv, us, st, sp, sv, rfl, h1, h2, h3, h4, h5, h6⟩ := hR
  have hkv1 := h1.one
  have hsv1 := h2.one
  refine s_alloc rfl (fun u4 hb4 hf4 hs4 => ?_)
  refine s_storeAggB (cs := rc v kv us st sv) rfl rfl hb4 (rc_one hkv1 hsv1) rfl rfl (fun u5 hb5 hf5 hs5 => ?_)
  obtain ⟨ob, hob⟩ : ∃ y, y = u3.heap.size := ⟨_, rfl⟩
  rw [← hob] at hb5 hf5 ⊢
  have hsz3 := hf3.size
  have hF35 : Fr [] u3 u5 := hf4.trans hf5 (by simp; omega)
  have hrb5 := (hb2.tr0 hf3).tr0 hF35
  have hF5 : Fr [] u u5 := (hF2.trans0 hf3).trans0 hF35
  -- the end, whatever stop is
  have fin : ∀ (st' : Int) (z z' : World), endsR 0 us st' v sp (readX t path) → Fr [ob] u5 z → Fr [rb] z z' → ReadX t path S u (.returned (.agg (rc v kv us st' sv).toArray)) z' := by
    intro st' z z' he hz hz'
    have hlt2 := h2.lt
    have hz3 : Fr [rb] u3 z' := ((hF35.mono (by simp)).trans hz (by simp; omega)).trans hz' (by simp)
    refine ⟨_, rfl, ⟨v, kv, us, st', sp, sv, rfl, (h1.tr (hz3.mono (by simp))).mono (fun b hb => .inl (List.mem_cons_of_mem _ hb)), h2.tr hz3 (fun q hq hmm => (h3 q hq).2 (by simp at hmm; simp [hmm])), fun q hq => ⟨?_, fun hmm => (h3 q hq).2 (List.mem_cons_of_mem _ hmm)⟩, h4, h5, he⟩, (hF2.trans0 hf3).trans hz3 (by simp; omega)⟩
    have := (h3 q hq).1; omega
  by_cases hst : st = -1
  · subst hst
    by_cases hul : us < path.length
    · refine rx ?_
      ((with_reducible apply s_storeB); exact rfl; (conv => lhs; whnf); exact rfl; exact hb5; exact rfl)
      intro u6 hb6 hf6 hs6
      have hb6' : Blk u6 ob (rc v kv us (-2) sv) 78 := hb6
      have hrb6 := hrb5.tr hf6 (by simp; omega)
      refine rx ?_
      refine s_storeAggB (cs := rc v kv us (-2) sv) rfl rfl hrb6 (rc_one hkv1 hsv1) rfl rfl (fun u7 hb7 hf7 hs7 => ?_)
      refine rx ?_
      refine retc rfl rfl (AggT.load _ (rc v kv us (-2) sv) rfl (fun j x hx => by rw [add_lit]; exact hb7.cell (by simpa using hx))) (fin (-2) u6 u7 ?_ hf6 hf7)
      unfold readX
      rcases hr : rd path (tA t (t.length - 1)) 0 with ⟨v', e', sp1⟩ | ⟨i, n⟩ | _
      · rw [hr] at h6
        obtain ⟨rfl, _, he, rfl⟩ := h6
        simp only
        rw [if_neg (by omega)]; rfl
      · rw [hr] at h6; simp only [endsR] at h6; omega
      · rfl
    · refine rx ?_
      refine s_storeAggB (cs := rc v kv us (-1) sv) rfl rfl hrb5 (rc_one hkv1 hsv1) rfl rfl (fun u7 hb7 hf7 hs7 => ?_)
      refine rx ?_
      refine retc rfl rfl (AggT.load _ (rc v kv us (-1) sv) rfl (fun j x hx => by rw [add_lit]; exact hb7.cell (by simpa using hx))) (fin (-1) u5 u7 ?_ (Fr.refl _ _) hf7)
      unfold readX
      rcases hr : rd path (tA t (t.length - 1)) 0 with ⟨v', e', sp1⟩ | ⟨i, n⟩ | _
      · rw [hr] at h6
        obtain ⟨rfl, _, he, rfl⟩ := h6
        simp only
        rw [if_pos (by omega)]; exact ⟨rfl, rfl, he, rfl⟩
      · rw [hr] at h6; simp only [endsR] at h6; omega
      · rw [hr] at h6; simp only [endsR] at h6; omega
  · refine rx ?_
    refine s_storeAggB (cs := rc v kv us st sv) rfl rfl hrb5 (rc_one hkv1 hsv1) rfl rfl (fun u7 hb7 hf7 hs7 => ?_)
    refine rx ?_
    refine retc rfl rfl (AggT.load _ (rc v kv us st sv) rfl (fun j x hx => by rw [add_lit]; exact hb7.cell (by simpa using hx))) (fin st u5 u7 ?_ (Fr.refl _ _) hf7)
    unfold readX
    rcases hr : rd path (tA t (t.length - 1)) 0 with ⟨v', e', sp1⟩ | ⟨i, n⟩ | _
    · rw [hr] at h6; exact absurd h6.2.1 hst
    · rw [hr] at h6; exact h6
    · rw [hr] at h6; exact h6
/-- the trees of this text: valid or not, and not too wide -/
structure TG (t : List Nd) : Prop where
  ok : ∀ x ∈ t, NdOk x
  len : t.length ≤ 1000000
  sp : validT t = 0 → ∀ k, k < t.length → nsp (tA t k) ≤ 100000000000
set_option maxHeartbeats 4000000 in
theorem valueR (t : List Nd) (hg : TG t) (path : List Int) (hpl : path.length ≤ 1000000000) (S : List Nat) (sn spv : Value) (u : World) (hn : NS u S t sn) (hp : IS u S path spv) (hSb : ∀ q ∈ S, q < u.heap.size) :
    Calls Try.prog 25 #[.agg #[sn], spv] u fun e u' => ∃ s, e = .returned (.tuple #[.agg (vc (valT t path).1 s).toArray, .int .i64 (valT t path).2]) ∧ Fr [] u u' ∧ VS u' S (valT t path).1.kids s := by
  obtain ⟨an, cn, rfl, _⟩ := hn.slice
  obtain ⟨ap, cp, rfl, _⟩ := hp.slice
  have hl := hg.len
  refine enter Try.func25 rfl Try.ntmps25 rfl ?_
  refine rx ?_
  refine s_box (l := [.slice an t.length cn]) rfl rfl (fun u1 hb1 hf1 hs1 => ?_)
  refine s_alloc rfl (fun u2 hb2 hf2 hs2 => ?_)
  obtain ⟨rb, hrb⟩ : ∃ y, y = u1.heap.size := ⟨_, rfl⟩
  rw [← hrb] at hb2 ⊢
  have hF2 := hf1.trans0 hf2
  have hb12 := hb1.tr0 hf2
  have hS2 : ∀ b ∈ rb :: S, b ∈ S ∨ u.heap.size ≤ b := fun b hb => by
    rcases List.mem_cons.1 hb with h | h
    · right; omega
    · exact .inl h
  have hn2 := (hn.mono hS2).tr0 hF2
  have hp2 := (hp.mono hS2).tr0 hF2
  refine rx ?_
  refine s_call (validRT t _ u2 (hn2.mono (by simp)) hg.ok hl) rfl ?_
  rintro _ u3 ⟨rfl, hf3⟩
  refine ⟨_, rfl, ?_⟩
  have hb13 := hb12.tr0 hf3
  have hb23 := hb2.tr0 hf3
  have hF3 := hF2.trans0 hf3
  have hsz3 := hF3.size
  have hrbl := hb23.lt
  -- no value
  have fin0 : ∀ (z z' : World) (e : Int), valT t path = (numV 0, e) → Fr [] u z → Fr [rb] z z' → ∃ s, Ending.returned (.tuple #[.agg (vc (numV 0) (.slice none 0 0)).toArray, .int .i64 e]) = .returned (.tuple #[.agg (vc (valT t path).1 s).toArray, .int .i64 (valT t path).2]) ∧ Fr [] u z' ∧ VS z' S (valT t path).1.kids s := fun z z' e he hz hz' => by
    rw [he]
    exact ⟨_, rfl, hz.trans hz' (by simp; omega), VS.nil _ _⟩
  by_cases hz : validT t = 0
  case neg =>
    have hval : valT t path = (numV 0, validT t) := by
      unfold valT fullT errT
      rw [if_neg (by simp [hz])]
      simp only
      rw [if_neg hz]
    refine rx ?_
    refine s_build (vc (numV 0) (.slice none 0 0)) rfl ?_
    refine rx ?_
    refine s_storeAggB (cs := vc (numV 0) (.slice none 0 0)) rfl rfl hb23 (by simp [vc, Value.oneCell']) rfl rfl (fun u4 hb4 hf4 hs4 => ?_)
    refine rx ?_
    exact retct rfl rfl (AggT.load _ (vc (numV 0) (.slice none 0 0)) rfl (fun j x hx => by rw [add_lit]; exact hb4.cell (by simpa using hx))) rfl (fin0 u3 u4 _ hval hF3 hf4)
  by_cases h0 : 0 < t.length
  case neg =>
    have hval : valT t path = (numV 0, 11) := by
      unfold valT fullT errT
      rw [if_neg (by omega)]
      simp only
      rw [if_pos hz]
    refine rx ?_
    refine s_build (vc (numV 0) (.slice none 0 0)) rfl ?_
    refine s_storeAggB (cs := vc (numV 0) (.slice none 0 0)) rfl rfl hb23 (by simp [vc, Value.oneCell']) rfl rfl (fun u4 hb4 hf4 hs4 => ?_)
    refine rx ?_
    exact retct rfl rfl (AggT.load _ (vc (numV 0) (.slice none 0 0)) rfl (fun j x hx => by rw [add_lit]; exact hb4.cell (by simpa using hx))) rfl (fin0 u3 u4 _ hval hF3 hf4)
  have hv := VT.of hz
  refine rx ?_
  refine s_call (ReadP t hv h0 hg.ok path hpl (hg.sp hz) (rb :: S) _ _ u3 (hn2.tr0 hf3) (hp2.tr0 hf3) (fun q hq => ?oa)) rfl ?_
  case oa =>
    rcases List.mem_cons.1 hq with h | h
    · omega
    · have := hSb q h; omega
  rintro _ u4 ⟨cs, rfl, hR, hf4⟩
  refine ⟨_, rfl, ?_⟩
  obtain ⟨v, kv, us, st, sp, sv, rfl, h1, h2, h3, h4, h5, h6⟩ := hR
  have hkv1 := h1.one
  have hsv1 := h2.one
  refine s_alloc rfl (fun u5 hb5 hf5 hs5 => ?_)
  refine s_storeAggB (cs := rc v kv us st sv) rfl rfl hb5 (rc_one hkv1 hsv1) rfl rfl (fun u6 hb6 hf6 hs6 => ?_)
  obtain ⟨ob, hob⟩ : ∃ y, y = u4.heap.size := ⟨_, rfl⟩
  rw [← hob] at hb6 hf6 ⊢
  have hsz4 := hf4.size
  have hF46 : Fr [] u4 u6 := hf5.trans hf6 (by simp; omega)
  have hb26 := (hb23.tr0 hf4).tr0 hF46
  have hF6 := (hF3.trans0 hf4).trans0 hF46
  have hfu := readX_full (path := path) hz h0
  by_cases hst : st = -1
  case neg =>
    have hval : valT t path = (numV 0, 11) := by
      unfold valT errT
      rw [hfu, if_pos hz]
      rcases hr : readX t path with ⟨v', e', sp1⟩ | ⟨i, n⟩ | _
      · rw [hr] at h6; exact absurd h6.2.1 hst
      · rfl
      · rfl
    refine rx ?_
    refine s_build (vc (numV 0) (.slice none 0 0)) rfl ?_
    refine s_storeAggB (cs := vc (numV 0) (.slice none 0 0)) rfl rfl hb26 (by simp [vc, Value.oneCell']) rfl rfl (fun u7 hb7 hf7 hs7 => ?_)
    refine rx ?_
    exact retct rfl rfl (AggT.load _ (vc (numV 0) (.slice none 0 0)) rfl (fun j x hx => by rw [add_lit]; exact hb7.cell (by simpa using hx))) rfl (fin0 u6 u7 _ hval hF6 hf7)
  have hval : valT t path = (v, 0) := by
    unfold valT
    rw [hfu]
    rcases hr : readX t path with ⟨v', e', sp1⟩ | ⟨i, n⟩ | _
    · rw [hr] at h6; obtain ⟨rfl, _⟩ := h6; rfl
    · rw [hr] at h6; simp only [endsR] at h6; omega
    · rw [hr] at h6; simp only [endsR] at h6; omega
  subst hst
  rw [hval]
  refine rx ?_
  refine s_storeAggB (cs := vc v kv) rfl rfl hb26 (VR.mem1 (w := u4) v _ ⟨_, rfl, h1⟩) rfl rfl (fun u7 hb7 hf7 hs7 => ?_)
  refine rx ?_
  exact retct rfl rfl (AggT.load _ (vc v kv) rfl (fun j x hx => by rw [add_lit]; exact hb7.cell (by simpa using hx))) rfl ⟨_, rfl, hF6.trans hf7 (by simp; omega), ((h1.tr0 hF46).tr (hf7.mono (by simp))).mono (fun b hb => .inl (List.mem_cons_of_mem _ hb))⟩
set_option maxHeartbeats 4000000 in
theorem atR (t : List Nd) (hg : TG t) (path : List Int) (hpl : path.length ≤ 1000000000) (S : List Nat) (sn spv : Value) (u : World) (hn : NS u S t sn) (hp : IS u S path spv) (hSb : ∀ q ∈ S, q < u.heap.size) :
    Calls Try.prog 27 #[.agg #[sn], spv] u fun e u' => e = .returned (.tuple #[.int .i64 (atT t path).1, .int .i64 (atT t path).2]) ∧ Fr [] u u' := by
  obtain ⟨an, cn, rfl, _⟩ := hn.slice
  obtain ⟨ap, cp, rfl, _⟩ := hp.slice
  have hl := hg.len
  refine enter Try.func27 rfl Try.ntmps27 rfl ?_
  refine rx ?_
  refine s_box (l := [.slice an t.length cn]) rfl rfl (fun u1 hb1 hf1 hs1 => ?_)
  refine rx ?_
  refine s_call (validRT t _ u1 ((hn.mono (by simp)).tr0 hf1) hg.ok hl) rfl ?_
  rintro _ u3 ⟨rfl, hf3⟩
  refine ⟨_, rfl, ?_⟩
  have hb13 := hb1.tr0 hf3
  have hF3 := hf1.trans0 hf3
  have hsz3 := hF3.size
  by_cases hz : validT t = 0
  case neg =>
    refine rx ?_
    (apply ret2; exact rfl; (conv => lhs; whnf); (conv => lhs; whnf))
    unfold atT
    rw [if_neg hz]
    exact ⟨rfl, hF3⟩
  by_cases h0 : 0 < t.length
  case neg =>
    refine rx ?_
    (apply ret2; exact rfl; (conv => lhs; whnf); (conv => lhs; whnf))
    unfold atT
    rw [if_pos hz, if_neg h0]
    exact ⟨rfl, hF3⟩
  have hv := VT.of hz
  have hat := readX_at (path := path) hz h0
  refine rx ?_
  refine s_call (ReadP t hv h0 hg.ok path hpl (hg.sp hz) S _ _ u3 (hn.tr0 hF3) (hp.tr0 hF3) (fun q hq => by have := hSb q hq; omega)) rfl ?_
  rintro _ u4 ⟨cs, rfl, hR, hf4⟩
  refine ⟨_, rfl, ?_⟩
  obtain ⟨v, kv, us, st, sp, sv, rfl, h1, h2, h3, h4, h5, h6⟩ := hR
  refine s_alloc rfl (fun u5 hb5 hf5 hs5 => ?_)
  refine s_storeAggB (cs := rc v kv us st sv) rfl rfl hb5 (rc_one h1.one h2.one) rfl rfl (fun u6 hb6 hf6 hs6 => ?_)
  have hF46 : Fr [] u4 u6 := hf5.trans hf6 (by simp)
  have hF6 := (hF3.trans0 hf4).trans0 hF46
  by_cases hst : st = -2
  · subst hst
    have hbad : atT t path = (-1, 11) := by
      rw [hat]
      rcases hr : readX t path with ⟨v', e', sp1⟩ | ⟨i, n⟩ | _
      · rw [hr] at h6; have := h6.2.1; omega
      · rw [hr] at h6; simp only [endsR] at h6; omega
      · rfl
    rw [hbad]
    refine rx ?_
    (apply ret2; exact rfl; (conv => lhs; whnf); (conv => lhs; whnf))
    exact ⟨rfl, hF6⟩
  · have hgood : atT t path = (st, 0) := by
      rw [hat]
      rcases hr : readX t path with ⟨v', e', sp1⟩ | ⟨i, n⟩ | _
      · rw [hr] at h6; rw [h6.2.1]
      · rw [hr] at h6; simp only [endsR] at h6; rw [h6]
      · rw [hr] at h6; exact absurd h6 hst
    rw [hgood]
    refine rx ?_
    (apply ret2; exact rfl; (conv => lhs; whnf); (conv => lhs; whnf))
    exact ⟨rfl, hF6⟩
set_option maxHeartbeats 4000000 in
theorem spansR (t : List Nd) (hg : TG t) (path : List Int) (hpl : path.length ≤ 1000000000) (S : List Nat) (sn spv : Value) (u : World) (hn : NS u S t sn) (hp : IS u S path spv) (hSb : ∀ q ∈ S, q < u.heap.size) :
    Calls Try.prog 20 #[.agg #[sn], spv] u fun e u' => ∃ sv, e = .returned (.tuple #[sv, .int .i64 (spanT t path).2]) ∧ Fr [] u u' ∧ Own u' 48 3 sv (spanT t path).1.length (spC (spanT t path).1) ∧ (∀ q ∈ blks sv, u.heap.size ≤ q) := by
  obtain ⟨an, cn, rfl, _⟩ := hn.slice
  obtain ⟨ap, cp, rfl, _⟩ := hp.slice
  have hl := hg.len
  refine enter Try.func20 rfl Try.ntmps20 rfl ?_
  refine rx ?_
  refine s_box (l := [.slice an t.length cn]) rfl rfl (fun u1 hb1 hf1 hs1 => ?_)
  refine rx ?_
  refine s_call (valueR t hg path hpl S _ _ u1 (hn.tr0 hf1) (hp.tr0 hf1) (fun q hq => by have := hSb q hq; omega)) rfl ?_
  rintro _ u2 ⟨s, rfl, hf2, hvs⟩
  refine ⟨_, rfl, ?_⟩
  refine rx ?_
  refine s_alloc rfl (fun u3 hb3 hf3 hs3 => ?_)
  refine s_storeAggB (cs := vc (valT t path).1 s) rfl rfl hb3 (VR.mem1 (w := u2) (valT t path).1 _ ⟨_, rfl, hvs⟩) rfl rfl (fun u4 hb4 hf4 hs4 => ?_)
  have hF24 : Fr [] u2 u4 := hf3.trans hf4 (by simp)
  have hF4 := (hf1.trans0 hf2).trans0 hF24
  have hb14 := (hb1.tr0 hf2).tr0 hF24
  have hsz4 := hF4.size
  rcases hfull : fullT t path with _ | ⟨v, sp⟩
  · have he : (valT t path).2 = (spanT t path).2 ∧ (spanT t path).1 = [] ∧ (spanT t path).2 ≠ 0 := by
      unfold valT spanT
      rw [hfull]
      refine ⟨rfl, rfl, ?_⟩
      show errT t ≠ 0
      unfold errT
      split
      · decide
      · assumption
    obtain ⟨h1, h2, h3⟩ := he
    rw [h1, h2]
    generalize (spanT t path).2 = e at h3 ⊢
    refine rx ?_
    (apply ret2; exact rfl; (conv => lhs; whnf); (conv => lhs; whnf))
    exact ⟨_, rfl, hF4, Own.nil _ _ _, by simp [blks, Value.ownBlock]⟩
  have hz0 : validT t = 0 ∧ 0 < t.length := by
    unfold fullT at hfull
    split at hfull
    · assumption
    · cases hfull
  obtain ⟨hz, h0⟩ := hz0
  have hv := VT.of hz
  have hfu := readX_full (path := path) hz h0
  have he : (valT t path).2 = 0 ∧ spanT t path = (sp, 0) := by
    unfold valT spanT
    rw [hfull]
    exact ⟨rfl, rfl⟩
  obtain ⟨h1, h2⟩ := he
  rw [h1, h2]
  refine rx ?_
  refine s_call (ReadP t hv h0 hg.ok path hpl (hg.sp hz) S _ _ u4 (hn.tr0 hF4) (hp.tr0 hF4) (fun q hq => by have := hSb q hq; omega)) rfl ?_
  rintro _ u5 ⟨cs, rfl, hR, hf5⟩
  refine ⟨_, rfl, ?_⟩
  obtain ⟨v', kv, us, st, sp', sv, rfl, g1, g2, g3, g4, g5, g6⟩ := hR
  refine s_alloc rfl (fun u6 hb6 hf6 hs6 => ?_)
  refine s_storeAggB (cs := rc v' kv us st sv) rfl rfl hb6 (rc_one g1.one g2.one) rfl rfl (fun u7 hb7 hf7 hs7 => ?_)
  have hF57 : Fr [] u5 u7 := hf6.trans hf7 (by simp)
  have hsp : sp' = sp := by
    rw [hfull] at hfu
    rcases hr : readX t path with ⟨v2, e2, sp2⟩ | ⟨i, n⟩ | _
    · rw [hr] at hfu g6
      simp only [Option.some.injEq, Prod.mk.injEq] at hfu
      rw [hfu.2]; exact g6.2.2.2
    · rw [hr] at hfu; cases hfu
    · rw [hr] at hfu; cases hfu
  subst hsp
  refine rx ?_
  (apply ret2; exact rfl; (conv => lhs; whnf); (conv => lhs; whnf))
  exact ⟨_, rfl, (hF4.trans0 hf5).trans0 hF57, g2.tr0 hF57, fun q hq => by have := (g3 q hq).1; omega⟩
end Go.Proofs.Ytpochcchekoonaa
