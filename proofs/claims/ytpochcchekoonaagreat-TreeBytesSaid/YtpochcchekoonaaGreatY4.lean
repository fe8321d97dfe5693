/-
  The reference of trees: word, EncodeValue, SameTexts, SameNode, Equal. The reference of trees: Encode.
-/
import Derived.Test.YtpochcchekoonaaGreatY1
import Derived.Test.YtpochcchekoonaaGreatRf2
import Derived.Test.YtpochcchekoonaaGreatTn
namespace Go.Proofs.YtpochcchekoonaaGreat
open Go.Rf Go.RowKit
set_option linter.unusedVariables false
set_option linter.unusedSimpArgs false
theorem Out.pre {w w1 w2 : World} {v : Value} {bs : List Int} (hf : Fr [] w w1) (h : Out w1 w2 v bs) : Out w w2 v bs :=
  ⟨h.1, hf.trans0 h.2.1, fun k hk => Nat.le_trans hf.size (h.2.2 k hk)⟩
theorem Out.post {w w1 w2 : World} {v : Value} {bs : List Int} (h : Out w w1 v bs) (hf : Fr [] w1 w2) : Out w w2 v bs :=
  ⟨h.1.tr0 hf, h.2.1.trans0 hf, h.2.2⟩
theorem take_snocG {α : Type} {a b : List α} {i : Nat} (h : a.take i = b.take i) (h1 : i < a.length) (h2 : i < b.length) (he : a[i] = b[i]) : a.take (i + 1) = b.take (i + 1) := by
  rw [List.take_succ_eq_append_getElem h1, List.take_succ_eq_append_getElem h2, h, he]
attribute [local irreducible] Code.wp wpList Exit.then Exit.inBlock bodyPost A Calls execOp Addr.add
set_option maxHeartbeats 4000000 in
theorem wordP (s : ByteArray) (w : World) (hs : s.size ≤ 1000000000) :
    Calls Tryz.prog 61 #[.string s] w fun e w' => ∃ v', e = .returned v' ∧ Out w w' v' (txt s) := by
  refine enter Tryz.func61 rfl Tryz.ntmps61 rfl ?_
  refine rx ?_
  refine s_fromStr rfl (fun c w1 hc hsrc hf1 => ?_)
  have hcs : s.data.toList.map (fun c => Value.int .u8 (c.toNat : Int)) = (sb s).map (.int .u8) := by simp [sb]
  refine s_call (refRaw _ (sb s) w1 (by rw [sb_len, ← hcs]; exact hsrc) (by rw [sb_len]; omega)) rfl ?_
  rintro _ w2 ⟨v', rfl, hO⟩
  refine ⟨_, rfl, ?_⟩
  refine rx ?_
  (apply ret1; exact rfl; (conv => lhs; whnf))
  exact ⟨_, rfl, hO.pre hf1⟩
set_option maxHeartbeats 8000000 in
theorem encVP (v : V) (hv : EV v) (sl : Value) (w : World) (hs : VS w [] v.kids sl) (hl : (tvV v).length ≤ 90000000000) :
    Calls Tryz.prog 62 #[.agg (vc v sl).toArray] w fun e w' => ∃ v', e = .returned v' ∧ Out w w' v' (tvV v) := by
  have H : ∀ x ∈ v.kids, ∀ (sx : Value) (u : World), VS u [] x.kids sx → (tvV x).length ≤ 90000000000 →
      Calls Tryz.prog 62 #[.agg (vc x sx).toArray] u fun e u' => ∃ v', e = .returned v' ∧ Out u u' v' (tvV x) := fun x hx sx u h1 h2 => encVP x (hv.kids x hx) sx u h1 h2
  have hE := tvV_eq v
  have hlen : (tvV v).length = (iv v.kind).length + ((iv v.n).length + ((raw (sb v.s)).length + ((iv (v.kids.length : Nat)).length + (tvs v.kids).length))) := by rw [hE]; simp only [List.length_append]
  have hk1 := hv.kind
  have hk2 := hv.n
  have hk3 := hv.s
  have hb := hs.bound
  obtain ⟨ao, c, rfl, hc⟩ := hs.slice
  refine enter Tryz.func62 rfl Tryz.ntmps62 rfl ?_
  refine rx ?_
  refine s_box rfl rfl (fun w1 hb1 hf1 hs1 => ?_)
  have hb1 : Blk w1 w.heap.size (vc v (.slice ao v.kids.length c)) 33 := hb1
  obtain ⟨N, hN⟩ : ∃ y, y = w.heap.size := ⟨_, rfl⟩
  rw [← hN] at hb1 ⊢
  refine rx ?_
  refine s_call (refInt v.kind w1 hk1) rfl ?_
  rintro _ w2 ⟨a2, rfl, h2⟩
  refine ⟨_, rfl, ?_⟩
  have hb2 := hb1.tr0 h2.2.1
  refine rx ?_
  refine s_call (refInt v.n w2 hk2) rfl ?_
  rintro _ w3 ⟨a3, rfl, h3⟩
  refine ⟨_, rfl, ?_⟩
  refine s_append (h2.1.tr0 h3.2.1) rfl h3.1.src rfl (by simp) (ints_one _ _) (by unfold maxLen; omega) (by omega) (fun b3 w4 ho hf hk _ => ?_)
  have h4 := h2.app h3.2.1 ho hf hk
  have hb4 := hb1.tr0 h4.2.1
  refine rx ?_
  refine s_call (wordP v.s w4 (by omega)) rfl ?_
  rintro _ w5 ⟨a5, rfl, h5⟩
  refine ⟨_, rfl, ?_⟩
  have hq5 : txt v.s = raw (sb v.s) := rfl
  rw [hq5] at h5
  refine s_append (h4.1.tr0 h5.2.1) rfl h5.1.src rfl (by simp) (ints_one _ _) (by unfold maxLen; simp only [List.length_append]; omega) (by simp only [List.length_append]; omega) (fun b5 w6 ho hf hk _ => ?_)
  have h6 := h4.app h5.2.1 ho hf hk
  have hb6 := hb1.tr0 h6.2.1
  refine rx ?_
  refine s_call (refInt (v.kids.length : Nat) w6 (by unfold InI64; omega)) rfl ?_
  rintro _ w7 ⟨a7, rfl, h7⟩
  refine ⟨_, rfl, ?_⟩
  refine s_append (h6.1.tr0 h7.2.1) rfl h7.1.src rfl (by simp) (ints_one _ _) (by unfold maxLen; simp only [List.length_append]; omega) (by simp only [List.length_append]; omega) (fun b7 w8 ho hf hk _ => ?_)
  have h8 := h6.app h7.2.1 ho hf hk
  refine rx ?_
  refine c_loopK 5 [3, 4] (σ := Nat × Value) (fun st g z => g 3 = st.2 ∧ g 4 = .int .i64 st.1 ∧ st.1 ≤ v.kids.length ∧ Out w1 z st.2 (iv v.kind ++ iv v.n ++ raw (sb v.s) ++ iv (v.kids.length : Nat) ++ (v.kids.take st.1).flatMap tvV)) (fun st => v.kids.length - st.1) (0, b7)
    ⟨rfl, rfl, Nat.zero_le _, by simpa using h8⟩ ?_
  rintro ⟨i, vi⟩ g z ⟨h24, h25, hi, hO⟩
  simp only at h24 h25 hi hO
  rw [eq_upd h24, eq_upd h25]
  have hbz := hb1.tr0 hO.2.1
  by_cases hlt : i < v.kids.length
  case neg =>
    refine rx ?_
    (apply ret1; exact rfl; (conv => lhs; whnf))
    rw [List.take_of_length_le (by omega), ← tvs_flat] at hO
    refine ⟨_, rfl, ?_⟩
    rw [hE]
    have := hO.pre hf1
    simpa using this
  have hvz : VS z [] v.kids (.slice ao v.kids.length c) := (hs.tr0 hf1).tr0 hO.2.1
  obtain ⟨ad, cs, rfl, ⟨sx, rfl, hx⟩, hcx⟩ := hvz.sl.at VR.len hlt
  have hle1 := flat_take_len tvV v.kids (i + 1)
  rw [flat_take tvV hlt, List.length_append, ← tvs_flat v.kids] at hle1
  refine rx ?_
  refine s_call (H v.kids[i] (by simp) sx z hx (by omega)) rfl ?_
  rintro _ z1 ⟨a9, rfl, h9⟩
  refine ⟨_, rfl, ?_⟩
  refine s_append (hO.1.tr0 h9.2.1) rfl h9.1.src rfl (by simp) (ints_one _ _) (by unfold maxLen; simp only [List.length_append]; omega) (by simp only [List.length_append]; omega) (fun b9 z2 ho hf hk _ => ?_)
  have h10 := hO.app h9.2.1 ho hf hk
  refine rx ?_
  refine q_roundK (i + 1, b9) (by (repeat (first | exact Keep.mrg _ _ _ _ | (refine Keep.hi rfl ?_) | (refine Keep.one rfl ?_) | exact Keep.all rfl | (refine Keep.inn rfl ?_) | (refine Keep.set rfl ?_)))) ⟨rfl, rfl, by simp only; omega, by simp only [flat_take tvV hlt]; simpa using h10⟩ (by simp only; omega)
termination_by SizeOf.sizeOf v
decreasing_by
  have h1 : SizeOf.sizeOf x < SizeOf.sizeOf v.kids := List.sizeOf_lt_of_mem hx
  have h2 : SizeOf.sizeOf v.kids < SizeOf.sizeOf v := by cases v; simp; omega
  omega
set_option maxHeartbeats 4000000 in
theorem sameTexts (x y : Value) (xs ys : List ByteArray) (w : World) (hx : TS w [] xs x) (hy : TS w [] ys y) (hl : xs.length ≤ 1000000000000) :
    Calls Tryz.prog 73 #[x, y] w fun e w' => e = .returned (.bool (decide (xs = ys))) ∧ Fr [] w w' := by
  obtain ⟨ao, c, rfl, _⟩ := hx.slice
  obtain ⟨bo, c2, rfl, _⟩ := hy.slice
  refine enter Tryz.func73 rfl Tryz.ntmps73 rfl ?_
  refine rx ?_
  refine s_neq rfl rfl (fun h => ?_) (fun h => ?_)
  · refine rx ?_
    (apply ret1; exact rfl; (conv => lhs; whnf))
    refine ⟨?_, Fr.refl _ _⟩
    rw [decide_eq_false]
    intro e; subst e; exact h rfl
  · refine rx ?_
    have hlen : xs.length = ys.length := by omega
    refine c_loop (σ := Nat) (fun i g u => g 0 = .slice ao xs.length c ∧ g 1 = .slice bo ys.length c2 ∧ g 5 = .int .i64 i ∧ i ≤ xs.length ∧ xs.take i = ys.take i ∧ Fr [] w u)
      (fun i => xs.length - i) 0 ⟨rfl, rfl, rfl, Nat.zero_le _, rfl, Fr.refl _ _⟩ ?_
    rintro i g u ⟨h0, h1, h5, hi, htk, hfr⟩
    rw [eq_upd h0, eq_upd h1, eq_upd h5]
    refine rx ?_
    refine s_lss rfl rfl (fun hlt => ?_) (fun hge => ?_)
    · have hi1 : i < xs.length := by omega
      have hi2 : i < ys.length := by omega
      obtain ⟨ad, rfl, hca⟩ := Ls.at hx hi1
      obtain ⟨bd, rfl, hcb⟩ := Ls.at hy hi2
      have ha : ∀ z, Fr [] u z → z.cell? (ad.add i) = some (.string xs[i]) := fun z hz => by
        obtain ⟨ad', e, h⟩ := Ls.at (hx.tr0 (hfr.trans0 hz)) hi1
        cases e; exact h
      have hb : ∀ z, Fr [] u z → z.cell? (bd.add i) = some (.string ys[i]) := fun z hz => by
        obtain ⟨ad', e, h⟩ := Ls.at (hy.tr0 (hfr.trans0 hz)) hi2
        cases e; exact h
      refine rx ?_
      (refine d_begin (fun z => Fr [] u z) (by kernel_rfl) rfl ?_)
      have hS : Fr [] u u.drew := Fr.drew _ _
      (refine d_tk 0 hS ?_)
      (refine d_tk 1 hS ?_)
      (apply d_take (i := 2); exact rfl; kernel_rfl; kernel_rfl; kernel_rfl; (intro u hu; exact r_index1 rfl rfl rfl hi1 rfl); exact hS)
      (apply d_take (i := 3); exact rfl; kernel_rfl; kernel_rfl; kernel_rfl; (intro u hu; exact r_load rfl (ha _ hu)); exact hS)
      (refine d_tk 4 hS ?_)
      (refine d_tk 5 hS ?_)
      (apply d_take (i := 6); exact rfl; kernel_rfl; kernel_rfl; kernel_rfl; (intro u hu; exact r_index1 rfl rfl rfl hi2 rfl); exact hS)
      (apply d_take (i := 7); exact rfl; kernel_rfl; kernel_rfl; kernel_rfl; (intro u hu; exact r_load rfl (hb _ hu)); exact hS)
      by_cases he : xs[i] = ys[i]
      · (apply d_take (i := 8); exact rfl; kernel_rfl; kernel_rfl; kernel_rfl; (intro u hu; exact r_neqE rfl rfl (decide_eq_false (by simpa using he))); exact hS)
        (refine d_done (by kernel_rfl) ?_)
        refine rx ?_
        exact q_round (i + 1) ⟨rfl, rfl, rfl, by omega, take_snocG htk hi1 hi2 he, hfr.trans0 hS⟩ (by omega)
      · (apply d_take (i := 8); exact rfl; kernel_rfl; kernel_rfl; kernel_rfl; (intro u hu; exact r_neqE rfl rfl (decide_eq_true he)); exact hS)
        (refine d_done (by kernel_rfl) ?_)
        refine rx ?_
        (apply ret1; exact rfl; (conv => lhs; whnf))
        refine ⟨?_, hfr.trans0 hS⟩
        rw [decide_eq_false]
        intro e; subst e; exact he rfl
    · refine rx ?_
      (apply ret1; exact rfl; (conv => lhs; whnf))
      refine ⟨?_, hfr⟩
      rw [decide_eq_true]
      have h1 : xs.take i = xs := List.take_of_length_le (by omega)
      have h2 : ys.take i = ys := List.take_of_length_le (by omega)
      rw [← h1, ← h2, htk]
/-- two nodes are equal -/
def sameN (x y : Nd) : Bool := decide (x.ws = y.ws) && (decide (x.labs = y.labs) && (sameVs x.vals y.vals && (decide (x.kids = y.kids) && (decide (x.kind = y.kind) && (decide (x.name = y.name) && (decide (x.lo = y.lo) && (decide (x.hi = y.hi) && decide (cmpV x.val y.val = 0))))))))
theorem sameVs_iff : ∀ {a b : List V}, sameVs a b = true ↔ a = b
  | [], [] => by simp [sameVs]
  | [], b :: m => by simp [sameVs]
  | a :: l, [] => by simp [sameVs]
  | a :: l, b :: m => by
    simp only [sameVs, Bool.and_eq_true, decide_eq_true_eq, List.cons.injEq]
    rw [cmpV_iff, sameVs_iff]
theorem sameN_iff {x y : Nd} : sameN x y = true ↔ x = y := by
  obtain ⟨a, b, c, d, e, f, g, h, i⟩ := x
  obtain ⟨a', b', c', d', e', f', g', h', i'⟩ := y
  simp only [sameN, Bool.and_eq_true, decide_eq_true_eq, sameVs_iff, cmpV_iff, Nd.mk.injEq]
  constructor
  · rintro ⟨h1, h2, h3, h4, h5, h6, h7, h8, h9⟩; exact ⟨h5, h6, h7, h8, h1, h2, h3, h4, h9⟩
  · rintro ⟨h5, h6, h7, h8, h1, h2, h3, h4, h9⟩; exact ⟨h1, h2, h3, h4, h5, h6, h7, h8, h9⟩
set_option maxHeartbeats 16000000 in
theorem sameNodeC (x y : Nd) (cx cy : List Value) (u : World) (hx : NdR u [] x cx) (hy : NdR u [] y cy) (hlw : x.ws.length ≤ 1000000000000) (hll : x.labs.length ≤ 1000000000000) (hlk : x.kids.length ≤ 1000000000000) :
    Calls Tryz.prog 35 #[.agg cx.toArray, .agg cy.toArray] u fun e u' => e = .returned (.bool (sameN x y)) ∧ Fr [] u u' := by
  obtain ⟨sw, sl, sv, sk, sx, rfl, h1, h2, h3, h4, h5⟩ := hx
  obtain ⟨sw', sl', sv', sk', sx', rfl, k1, k2, k3, k4, k5⟩ := hy
  refine enter Tryz.func35 rfl Tryz.ntmps35 rfl ?_
  refine rx ?_
  refine s_box (l := nc x sw sl sv sk sx) rfl rfl (fun u1 hb1 hf1 hs1 => ?_)
  refine s_box (l := nc y sw' sl' sv' sk' sx') rfl rfl (fun u2 hb2 hf2 hs2 => ?_)
  have hF2 := hf1.trans0 hf2
  have hb12 := hb1.tr0 hf2
  refine rx ?_
  refine s_call (sameInts sw sw' x.ws y.ws u2 (h1.tr0 hF2).1 (k1.tr0 hF2).1 hlw) rfl ?_
  rintro _ u3 ⟨rfl, hf3⟩
  refine ⟨_, rfl, ?_⟩
  have hF3 := hF2.trans0 hf3
  have hb13 := hb12.tr0 hf3
  have hb23 := hb2.tr0 hf3
  refine rx ?_
  refine s_call (sameTexts sl sl' x.labs y.labs u3 (h2.tr0 hF3) (k2.tr0 hF3) hll) rfl ?_
  rintro _ u4 ⟨rfl, hf4⟩
  refine ⟨_, rfl, ?_⟩
  have hF4 := hF3.trans0 hf4
  have hb14 := hb13.tr0 hf4
  have hb24 := hb23.tr0 hf4
  refine rx ?_
  refine s_call (sameValuesC x.vals y.vals sv sv' u4 (h3.tr0 hF4) (k3.tr0 hF4)) rfl ?_
  rintro _ u5 ⟨rfl, hf5⟩
  refine ⟨_, rfl, ?_⟩
  have hF5 := hF4.trans0 hf5
  have hb15 := hb14.tr0 hf5
  have hb25 := hb24.tr0 hf5
  refine rx ?_
  refine s_call (sameInts sk sk' x.kids y.kids u5 (h4.tr0 hF5).1 (k4.tr0 hF5).1 hlk) rfl ?_
  rintro _ u6 ⟨rfl, hf6⟩
  refine ⟨_, rfl, ?_⟩
  have hF6 := hF5.trans0 hf6
  have hb16 := hb15.tr0 hf6
  have hb26 := hb25.tr0 hf6
  clear hb1 hb2 hb12 hb13 hb23 hb14 hb24 hb15 hb25
  unfold sameN
  rcases decide (x.ws = y.ws) with _ | _
  · refine rx ?_
    (apply ret1; exact rfl; (conv => lhs; whnf))
    exact ⟨rfl, hF6⟩
  rcases decide (x.labs = y.labs) with _ | _
  · refine rx ?_
    (apply ret1; exact rfl; (conv => lhs; whnf))
    exact ⟨rfl, hF6⟩
  rcases sameVs x.vals y.vals with _ | _
  · refine rx ?_
    (apply ret1; exact rfl; (conv => lhs; whnf))
    exact ⟨rfl, hF6⟩
  rcases decide (x.kids = y.kids) with _ | _
  · refine rx ?_
    (apply ret1; exact rfl; (conv => lhs; whnf))
    exact ⟨rfl, hF6⟩
  simp only [Bool.true_and]
  by_cases e1 : x.kind = y.kind
  case neg =>
    rw [decide_eq_false e1]
    refine rx ?_
    (apply ret1; exact rfl; (conv => lhs; whnf))
    exact ⟨rfl, hF6⟩
  rw [decide_eq_true e1]
  by_cases e2 : x.name = y.name
  case neg =>
    rw [decide_eq_false e2]
    refine rx ?_
    (apply ret1; exact rfl; (conv => lhs; whnf))
    exact ⟨rfl, hF6⟩
  rw [decide_eq_true e2]
  by_cases e3 : x.lo = y.lo
  case neg =>
    rw [decide_eq_false e3]
    refine rx ?_
    (apply ret1; exact rfl; (conv => lhs; whnf))
    exact ⟨rfl, hF6⟩
  rw [decide_eq_true e3]
  by_cases e4 : x.hi = y.hi
  case neg =>
    rw [decide_eq_false e4]
    refine rx ?_
    (apply ret1; exact rfl; (conv => lhs; whnf))
    exact ⟨rfl, hF6⟩
  rw [decide_eq_true e4]
  refine rx ?_
  refine s_call (compareR x.val y.val sx sx' u6 (h5.tr0 hF6) (k5.tr0 hF6)) rfl ?_
  rintro _ u7 ⟨rfl, hf7⟩
  refine ⟨_, rfl, ?_⟩
  simp only [Bool.true_and]
  generalize cmpV x.val y.val = cc
  by_cases e5 : cc = 0
  · rw [decide_eq_true e5]
    refine rx ?_
    (apply ret1; exact rfl; (conv => lhs; whnf))
    exact ⟨rfl, hF6.trans0 hf7⟩
  · rw [decide_eq_false e5]
    refine rx ?_
    (apply ret1; exact rfl; (conv => lhs; whnf))
    exact ⟨rfl, hF6.trans0 hf7⟩
set_option maxHeartbeats 8000000 in
theorem equalC (a b : List Nd) (sa sb : Value) (u : World) (ha : NS u [] a sa) (hb : NS u [] b sb) (hal : a.length ≤ 1000000000000) (hla : ∀ x ∈ a, x.ws.length ≤ 1000000000000 ∧ x.labs.length ≤ 1000000000000 ∧ x.kids.length ≤ 1000000000000) :
    Calls Tryz.prog 8 #[.agg #[sa], .agg #[sb]] u fun e u' => ∃ p : Bool, e = .returned (.bool p) ∧ (p = true ↔ a = b) ∧ Fr [] u u' := by
  obtain ⟨aa, ca, rfl, _⟩ := ha.slice
  obtain ⟨ab, cb, rfl, _⟩ := hb.slice
  refine enter Tryz.func8 rfl Tryz.ntmps8 rfl ?_
  refine rx ?_
  refine s_box (l := [.slice aa a.length ca]) rfl rfl (fun u1 hb1 hf1 hs1 => ?_)
  refine s_box (l := [.slice ab b.length cb]) rfl rfl (fun u2 hb2 hf2 hs2 => ?_)
  have hF2 := hf1.trans0 hf2
  have hb12 := hb1.tr0 hf2
  clear hb1
  by_cases hlen : a.length = b.length
  case neg =>
    refine rx ?_
    (apply ret1; exact rfl; (conv => lhs; whnf))
    exact ⟨false, rfl, by simp; intro e; exact hlen (by rw [e]), hF2⟩
  refine rx ?_
  refine c_loopK 6 [5, 6] (σ := Nat) (fun i g z => g 5 = .int .i64 (i : Nat) ∧ i ≤ a.length ∧ a.take i = b.take i ∧ Fr [] u2 z) (fun i => a.length - i) 0 ⟨rfl, Nat.zero_le _, rfl, Fr.refl _ _⟩ ?_
  rintro i g z ⟨h5, hi, htk, hfz⟩
  rw [eq_upd h5]
  have hbz1 := hb12.tr0 hfz
  have hbz2 := hb2.tr0 hfz
  by_cases hlt : i < a.length
  case neg =>
    refine rx ?_
    (apply ret1; exact rfl; (conv => lhs; whnf))
    have h1 : a.take i = a := List.take_of_length_le (by omega)
    have h2 : b.take i = b := List.take_of_length_le (by omega)
    exact ⟨true, rfl, by simp; rw [← h1, ← h2, htk], hF2.trans0 hfz⟩
  have hltb : i < b.length := by omega
  have hna := ha.tr0 (hF2.trans0 hfz)
  have hnb := hb.tr0 (hF2.trans0 hfz)
  obtain ⟨ad, ccs, rfl, hx, hcx⟩ := Sl.at hna ndLen hlt
  obtain ⟨bd, dcs, rfl, hy, hcy⟩ := Sl.at hnb ndLen hltb
  have hcl := ndLen _ _ hx
  have hdl := ndLen _ _ hy
  refine rx ?_
  (refine d_begin (fun y => Fr [] z y) (by kernel_rfl) rfl ?_)
  have hS : Fr [] z z.drew := Fr.drew _ _
  ((first | refine d_tx 0 hS ?_ | refine d_ty 0 hS ?_ | refine d_tn 0 hS ?_))
  (apply d_take (i := 1); exact rfl; kernel_rfl; kernel_rfl; kernel_rfl; (intro u hu; exact (r_load rfl (Blk.cell (hbz1.tr0 hu) rfl))); exact hS)
  ((first | refine d_tx 2 hS ?_ | refine d_ty 2 hS ?_ | refine d_tn 2 hS ?_); (first | refine d_tx 3 hS ?_ | refine d_ty 3 hS ?_ | refine d_tn 3 hS ?_))
  (apply d_take (i := 4); exact rfl; kernel_rfl; kernel_rfl; kernel_rfl; (intro u hu; exact (r_loadAgg ccs rfl hcl (hcx.tr0 hu))); exact hS)
  ((first | refine d_tx 5 hS ?_ | refine d_ty 5 hS ?_ | refine d_tn 5 hS ?_))
  (apply d_take (i := 6); exact rfl; kernel_rfl; kernel_rfl; kernel_rfl; (intro u hu; exact (r_load rfl (Blk.cell (hbz2.tr0 hu) rfl))); exact hS)
  ((first | refine d_tx 7 hS ?_ | refine d_ty 7 hS ?_ | refine d_tn 7 hS ?_); (first | refine d_tx 8 hS ?_ | refine d_ty 8 hS ?_ | refine d_tn 8 hS ?_))
  (apply d_take (i := 9); exact rfl; kernel_rfl; kernel_rfl; kernel_rfl; (intro u hu; exact (r_loadAgg dcs rfl hdl (hcy.tr0 hu))); exact hS)
  refine d_one (i := 10) rfl (by kernel_rfl) ?_
  have hl3 := hla _ (List.getElem_mem hlt)
  refine s_call (sameNodeC a[i] b[i] ccs dcs z.drew (ndStab.old hx hS (by simp)) (ndStab.old hy hS (by simp)) hl3.1 hl3.2.1 hl3.2.2) rfl ?_
  rintro _ z1 ⟨rfl, hf3⟩
  refine ⟨_, rfl, ?_⟩
  have hS1 := hS.trans0 hf3
  refine wpList_nil (q_held hS1 ?_)
  (refine d_one (i := 11) rfl (by kernel_rfl) ?_; refine rx ?_; refine q_held hS1 ?_)
  (refine d_done (by kernel_rfl) ?_)
  rcases hsn : sameN a[i] b[i] with _ | _
  · refine rx ?_
    (apply ret1; exact rfl; (conv => lhs; whnf))
    refine ⟨false, rfl, ?_, (hF2.trans0 hfz).trans0 hS1⟩
    simp only [Bool.false_eq_true, false_iff]
    intro e
    subst e
    rw [sameN_iff.2 rfl] at hsn; cases hsn
  · refine rx ?_
    refine q_roundK (i + 1) (by (repeat (first | exact Keep.mrg _ _ _ _ | (refine Keep.hi rfl ?_) | (refine Keep.one rfl ?_) | exact Keep.all rfl | (refine Keep.inn rfl ?_) | (refine Keep.set rfl ?_)))) ⟨rfl, by omega, take_snocG htk hlt hltb (sameN_iff.1 hsn), hfz.trans0 hS1⟩ (by omega)
end Go.Proofs.YtpochcchekoonaaGreat
namespace Go.Proofs.YtpochcchekoonaaGreat
open Go.Rf Go.RowKit
set_option linter.unusedVariables false
set_option linter.unusedSimpArgs false
attribute [local irreducible] Code.wp wpList Exit.then Exit.inBlock bodyPost A Calls execOp Addr.add
set_option maxHeartbeats 32000000 in
theorem refEncP (t : List Nd) (hok : ∀ x ∈ t, NdOk x) (he : ∀ x ∈ t, NdE x) (htl : t.length ≤ 1000000) (hl : (ttT t).length ≤ 90000000000) (sn : Value) (u : World) (hn : NS u [] t sn) :
    Calls Tryz.prog 23 #[.agg #[sn]] u fun e u' => ∃ v, e = .returned v ∧ Out u u' v (ttT t) := by
  obtain ⟨an, cn, rfl, _⟩ := hn.slice
  have hE : ttT t = iv (t.length : Nat) ++ t.flatMap tnN := rfl
  have hlen : (ttT t).length = (iv (t.length : Nat)).length + (t.flatMap tnN).length := by rw [hE, List.length_append]
  refine enter Tryz.func23 rfl Tryz.ntmps23 rfl ?_
  refine rx ?_
  refine s_box (l := [.slice an t.length cn]) rfl rfl (fun w1 hb1 hf1 hs1 => ?_)
  obtain ⟨rb, hrb⟩ : ∃ y, y = u.heap.size := ⟨_, rfl⟩
  rw [← hrb] at hb1 ⊢
  have hn1 := hn.tr0 hf1
  refine rx ?_
  refine s_call (refInt (t.length : Nat) w1 (by unfold InI64; omega)) rfl ?_
  rintro _ w2 ⟨v2, rfl, h2⟩
  refine ⟨_, rfl, ?_⟩
  refine rx ?_
  refine c_loop (σ := Nat × Value) (fun st g z => g 1 = .pointer (some ⟨rb, 0, none⟩) ∧ g 3 = st.2 ∧ g 4 = .int .i64 (st.1 : Nat) ∧ st.1 ≤ t.length ∧ Out w1 z st.2 (iv (t.length : Nat) ++ (t.take st.1).flatMap tnN)) (fun st => t.length - st.1) (0, v2)
    ⟨rfl, rfl, rfl, Nat.zero_le _, by simpa using h2⟩ ?_
  rintro ⟨i, vi⟩ g z ⟨q1, q3, q4, hi, hO⟩
  simp only at q3 q4 hi hO
  rw [eq_upd q1, eq_upd q3, eq_upd q4]
  have hbz := hb1.tr0 hO.2.1
  by_cases hlt : i < t.length
  case neg =>
    refine rx ?_
    (apply ret1; exact rfl; (conv => lhs; whnf))
    rw [List.take_of_length_le (by omega)] at hO
    rw [hE]
    exact ⟨_, rfl, hO.pre hf1⟩
  obtain ⟨ad, cs, rfl, hx, hcx⟩ := Sl.at hn1 ndLen hlt
  obtain ⟨sw, sl, sv, sk, sx, rfl, hsw, hsl, hsv, hsk, hsx⟩ := hx
  obtain ⟨aw, cw, rfl, _⟩ := hsw.slice
  obtain ⟨al, cl, rfl, _⟩ := hsl.slice
  obtain ⟨av, cv, rfl, _⟩ := hsv.slice
  obtain ⟨ak, ck, rfl, _⟩ := hsk.slice
  obtain ⟨ax, cx, rfl, _⟩ := hsx.slice
  have hcz := hcx.tr0 hO.2.1
  have hokx := hok _ (List.getElem_mem hlt)
  have hex := he _ (List.getElem_mem hlt)
  have hle1 := flat_take_len tnN t (i + 1)
  rw [flat_take tnN hlt, List.length_append] at hle1
  have hlenN : (tnN t[i]).length = (iv t[i].kind).length + ((txt t[i].name).length + ((iv t[i].lo).length + ((iv t[i].hi).length + (((iv (t[i].ws.length : Nat)).length + (t[i].ws.flatMap iv).length) + (((iv (t[i].labs.length : Nat)).length + (t[i].labs.flatMap txt).length) + (((iv (t[i].vals.length : Nat)).length + (t[i].vals.flatMap tvV).length) + (((iv (t[i].kids.length : Nat)).length + (t[i].kids.flatMap iv).length) + (tvV t[i].val).length))))))) := by
    unfold tnN lsE; simp only [List.length_append]
  have a1 := hokx.lw
  have a2 := hokx.ll
  have a3 := hokx.lv
  have a4 := hokx.lk
  have hnm := hex.name
  refine rx ?_
  refine s_alloc rfl (fun z1 hbz1 hfz1 hsz1 => ?_)
  refine s_storeAggB (cs := nc t[i] (.slice aw t[i].ws.length cw) (.slice al t[i].labs.length cl) (.slice av t[i].vals.length cv) (.slice ak t[i].kids.length ck) (.slice ax t[i].val.kids.length cx)) rfl rfl hbz1 (ndStab.one (w := w1) (S := []) (x := t[i]) ⟨_, _, _, _, _, rfl, hsw, hsl, hsv, hsk, hsx⟩) rfl rfl (fun z2 hnb hfz2 hsz2 => ?_)
  obtain ⟨nb, hnbe⟩ : ∃ y, y = z.heap.size := ⟨_, rfl⟩
  rw [← hnbe] at hnb hbz1 hfz2 ⊢
  have hFz2 : Fr [] z z2 := hfz1.trans hfz2 (by simp; omega)
  replace hO := hO.post hFz2
  clear hbz hcz hbz1
  obtain ⟨A, hA0⟩ : ∃ A, A = iv (t.length : Nat) ++ (t.take i).flatMap tnN := ⟨_, rfl⟩
  have hAl : A.length + (tnN t[i]).length ≤ 90000000000 := by rw [hA0, List.length_append]; omega
  rw [← hA0] at hO
  refine rx ?_
  refine s_call (refInt t[i].kind _ hokx.kind) rfl ?_
  rintro _ zA ⟨vA, rfl, hA⟩
  refine ⟨_, rfl, ?_⟩
  refine s_append (hO.1.tr0 hA.2.1) rfl hA.1.src rfl (by simp) (ints_one _ _) (by unfold maxLen; (try simp only [List.length_append]); omega) (by (try simp only [List.length_append]); omega) (fun vB zB ho hf hk _ => ?_)
  have hne := hO.1.ne hnb (by decide)
  replace hnb := (hnb.tr0 hA.2.1).tr hf (fun h => hne _ h rfl)
  replace hO := hO.app hA.2.1 ho hf hk
  clear ho hf hk hne hA
  refine rx ?_
  refine s_call (wordP t[i].name _ (by omega)) rfl ?_
  rintro _ zA ⟨vA, rfl, hA⟩
  refine ⟨_, rfl, ?_⟩
  refine s_append (hO.1.tr0 hA.2.1) rfl hA.1.src rfl (by simp) (ints_one _ _) (by unfold maxLen; (try simp only [List.length_append]); omega) (by (try simp only [List.length_append]); omega) (fun vB zB ho hf hk _ => ?_)
  have hne := hO.1.ne hnb (by decide)
  replace hnb := (hnb.tr0 hA.2.1).tr hf (fun h => hne _ h rfl)
  replace hO := hO.app hA.2.1 ho hf hk
  clear ho hf hk hne hA
  refine rx ?_
  refine s_call (refInt t[i].lo _ hokx.lo) rfl ?_
  rintro _ zA ⟨vA, rfl, hA⟩
  refine ⟨_, rfl, ?_⟩
  refine s_append (hO.1.tr0 hA.2.1) rfl hA.1.src rfl (by simp) (ints_one _ _) (by unfold maxLen; (try simp only [List.length_append]); omega) (by (try simp only [List.length_append]); omega) (fun vB zB ho hf hk _ => ?_)
  have hne := hO.1.ne hnb (by decide)
  replace hnb := (hnb.tr0 hA.2.1).tr hf (fun h => hne _ h rfl)
  replace hO := hO.app hA.2.1 ho hf hk
  clear ho hf hk hne hA
  refine rx ?_
  refine s_call (refInt t[i].hi _ hokx.hi) rfl ?_
  rintro _ zA ⟨vA, rfl, hA⟩
  refine ⟨_, rfl, ?_⟩
  refine s_append (hO.1.tr0 hA.2.1) rfl hA.1.src rfl (by simp) (ints_one _ _) (by unfold maxLen; (try simp only [List.length_append]); omega) (by (try simp only [List.length_append]); omega) (fun vB zB ho hf hk _ => ?_)
  have hne := hO.1.ne hnb (by decide)
  replace hnb := (hnb.tr0 hA.2.1).tr hf (fun h => hne _ h rfl)
  replace hO := hO.app hA.2.1 ho hf hk
  clear ho hf hk hne hA
  refine rx ?_
  refine s_call (refInt (t[i].ws.length : Nat) _ (by unfold InI64; omega)) rfl ?_
  rintro _ zA ⟨vA, rfl, hA⟩
  refine ⟨_, rfl, ?_⟩
  refine s_append (hO.1.tr0 hA.2.1) rfl hA.1.src rfl (by simp) (ints_one _ _) (by unfold maxLen; (try simp only [List.length_append]); omega) (by (try simp only [List.length_append]); omega) (fun vB zB ho hf hk _ => ?_)
  have hne := hO.1.ne hnb (by decide)
  replace hnb := (hnb.tr0 hA.2.1).tr hf (fun h => hne _ h rfl)
  replace hO := hO.app hA.2.1 ho hf hk
  clear ho hf hk hne hA
  (refine rr ?_; refine wpList_nil ?_; refine q_then ?_; refine wp_seq ?_; refine c_cut (fun g z => g 1 = .pointer (some ⟨rb, 0, none⟩) ∧ g 4 = .int .i64 (i : Nat) ∧ g 5 = .pointer (some ⟨nb, 0, none⟩) ∧ ∃ vn, g 3 = vn ∧ Blk z nb (nc t[i] (.slice aw t[i].ws.length cw) (.slice al t[i].labs.length cl) (.slice av t[i].vals.length cv) (.slice ak t[i].kids.length ck) (.slice ax t[i].val.kids.length cx)) 36 ∧ Out w1 z vn (A ++ iv t[i].kind ++ txt t[i].name ++ iv t[i].lo ++ iv t[i].hi ++ iv (t[i].ws.length : Nat) ++ t[i].ws.flatMap iv)) ?_ ?_)
  · refine rx ?_
    refine c_loopK 6 [3] (σ := Nat × Value) (fun st g z => g 3 = st.2 ∧ g 6 = .int .i64 (st.1 : Nat) ∧ st.1 ≤ t[i].ws.length ∧ Blk z nb (nc t[i] (.slice aw t[i].ws.length cw) (.slice al t[i].labs.length cl) (.slice av t[i].vals.length cv) (.slice ak t[i].kids.length ck) (.slice ax t[i].val.kids.length cx)) 36 ∧ Out w1 z st.2 (A ++ iv t[i].kind ++ txt t[i].name ++ iv t[i].lo ++ iv t[i].hi ++ iv (t[i].ws.length : Nat) ++ (t[i].ws.take st.1).flatMap iv)) (fun st => t[i].ws.length - st.1) (0, vB)
      ⟨rfl, rfl, Nat.zero_le _, hnb, by simpa using hO⟩ ?_
    rintro ⟨j, vj⟩ g z ⟨q3, qK, hj, hnb, hO⟩
    simp only at q3 qK hj hO
    rw [eq_upd q3, eq_upd qK]
    by_cases hjl : j < t[i].ws.length
    case neg =>
      refine rx ?_
      rw [List.take_of_length_le (by omega)] at hO
      exact q_cut ⟨rfl, rfl, rfl, _, rfl, hnb, hO⟩
    have hle2 := flat_take_len iv t[i].ws (j + 1)
    rw [flat_take iv hjl, List.length_append] at hle2
    obtain ⟨ad2, rfl, hcell⟩ := Ls.at (hsw.tr0 hO.2.1) hjl
    refine rx ?_
    rw [Nat.mul_one]
    refine s_load rfl hcell ?_
    refine rx ?_
    refine s_call (refInt t[i].ws[j] _ (hokx.ws _ (List.getElem_mem hjl))) rfl ?_
    rintro _ zA ⟨vA, rfl, hA⟩
    refine ⟨_, rfl, ?_⟩
    refine s_append (hO.1.tr0 hA.2.1) rfl hA.1.src rfl (by simp) (ints_one _ _) (by unfold maxLen; (try simp only [List.length_append]); omega) (by (try simp only [List.length_append]); omega) (fun vB zB ho hf hk _ => ?_)
    have hne := hO.1.ne hnb (by decide)
    replace hnb := (hnb.tr0 hA.2.1).tr hf (fun h => hne _ h rfl)
    replace hO := hO.app hA.2.1 ho hf hk
    clear ho hf hk hne hA
    refine rx ?_
    exact q_roundK (j + 1, vB) (by (repeat (first | exact Keep.mrg _ _ _ _ | (refine Keep.hi rfl ?_) | (refine Keep.one rfl ?_) | exact Keep.all rfl | (refine Keep.inn rfl ?_) | (refine Keep.set rfl ?_)))) ⟨rfl, rfl, by simp only; omega, hnb, by simp only [flat_take iv hjl]; simpa using hO⟩ (by simp only; omega)
  clear hO hnb
  rintro g z ⟨q1, q4, q5, vB, q3, hnb, hO⟩
  rw [eq_upd q1, eq_upd q4, eq_upd q5, eq_upd q3]
  refine rx ?_
  refine s_call (refInt (t[i].labs.length : Nat) _ (by unfold InI64; omega)) rfl ?_
  rintro _ zA ⟨vA, rfl, hA⟩
  refine ⟨_, rfl, ?_⟩
  refine s_append (hO.1.tr0 hA.2.1) rfl hA.1.src rfl (by simp) (ints_one _ _) (by unfold maxLen; (try simp only [List.length_append]); omega) (by (try simp only [List.length_append]); omega) (fun vB zB ho hf hk _ => ?_)
  have hne := hO.1.ne hnb (by decide)
  replace hnb := (hnb.tr0 hA.2.1).tr hf (fun h => hne _ h rfl)
  replace hO := hO.app hA.2.1 ho hf hk
  clear ho hf hk hne hA
  (refine rr ?_; refine wpList_nil ?_; refine q_then ?_; refine wp_seq ?_; refine c_cut (fun g z => g 1 = .pointer (some ⟨rb, 0, none⟩) ∧ g 4 = .int .i64 (i : Nat) ∧ g 5 = .pointer (some ⟨nb, 0, none⟩) ∧ ∃ vn, g 3 = vn ∧ Blk z nb (nc t[i] (.slice aw t[i].ws.length cw) (.slice al t[i].labs.length cl) (.slice av t[i].vals.length cv) (.slice ak t[i].kids.length ck) (.slice ax t[i].val.kids.length cx)) 36 ∧ Out w1 z vn (A ++ iv t[i].kind ++ txt t[i].name ++ iv t[i].lo ++ iv t[i].hi ++ iv (t[i].ws.length : Nat) ++ t[i].ws.flatMap iv ++ iv (t[i].labs.length : Nat) ++ t[i].labs.flatMap txt)) ?_ ?_)
  · refine rx ?_
    refine c_loopK 6 [3] (σ := Nat × Value) (fun st g z => g 3 = st.2 ∧ g 7 = .int .i64 (st.1 : Nat) ∧ st.1 ≤ t[i].labs.length ∧ Blk z nb (nc t[i] (.slice aw t[i].ws.length cw) (.slice al t[i].labs.length cl) (.slice av t[i].vals.length cv) (.slice ak t[i].kids.length ck) (.slice ax t[i].val.kids.length cx)) 36 ∧ Out w1 z st.2 (A ++ iv t[i].kind ++ txt t[i].name ++ iv t[i].lo ++ iv t[i].hi ++ iv (t[i].ws.length : Nat) ++ t[i].ws.flatMap iv ++ iv (t[i].labs.length : Nat) ++ (t[i].labs.take st.1).flatMap txt)) (fun st => t[i].labs.length - st.1) (0, vB)
      ⟨rfl, rfl, Nat.zero_le _, hnb, by simpa using hO⟩ ?_
    rintro ⟨j, vj⟩ g z ⟨q3, qK, hj, hnb, hO⟩
    simp only at q3 qK hj hO
    rw [eq_upd q3, eq_upd qK]
    by_cases hjl : j < t[i].labs.length
    case neg =>
      refine rx ?_
      rw [List.take_of_length_le (by omega)] at hO
      exact q_cut ⟨rfl, rfl, rfl, _, rfl, hnb, hO⟩
    have hle2 := flat_take_len txt t[i].labs (j + 1)
    rw [flat_take txt hjl, List.length_append] at hle2
    obtain ⟨ad2, rfl, hcell⟩ := Ls.at (hsl.tr0 hO.2.1) hjl
    refine rx ?_
    rw [Nat.mul_one]
    refine s_load rfl hcell ?_
    refine rx ?_
    refine s_call (wordP t[i].labs[j] _ (Nat.le_trans (hex.labs _ (List.getElem_mem hjl)) (by decide))) rfl ?_
    rintro _ zA ⟨vA, rfl, hA⟩
    refine ⟨_, rfl, ?_⟩
    refine s_append (hO.1.tr0 hA.2.1) rfl hA.1.src rfl (by simp) (ints_one _ _) (by unfold maxLen; (try simp only [List.length_append]); omega) (by (try simp only [List.length_append]); omega) (fun vB zB ho hf hk _ => ?_)
    have hne := hO.1.ne hnb (by decide)
    replace hnb := (hnb.tr0 hA.2.1).tr hf (fun h => hne _ h rfl)
    replace hO := hO.app hA.2.1 ho hf hk
    clear ho hf hk hne hA
    refine rx ?_
    exact q_roundK (j + 1, vB) (by (repeat (first | exact Keep.mrg _ _ _ _ | (refine Keep.hi rfl ?_) | (refine Keep.one rfl ?_) | exact Keep.all rfl | (refine Keep.inn rfl ?_) | (refine Keep.set rfl ?_)))) ⟨rfl, rfl, by simp only; omega, hnb, by simp only [flat_take txt hjl]; simpa using hO⟩ (by simp only; omega)
  clear hO hnb
  rintro g z ⟨q1, q4, q5, vB, q3, hnb, hO⟩
  rw [eq_upd q1, eq_upd q4, eq_upd q5, eq_upd q3]
  refine rx ?_
  refine s_call (refInt (t[i].vals.length : Nat) _ (by unfold InI64; omega)) rfl ?_
  rintro _ zA ⟨vA, rfl, hA⟩
  refine ⟨_, rfl, ?_⟩
  refine s_append (hO.1.tr0 hA.2.1) rfl hA.1.src rfl (by simp) (ints_one _ _) (by unfold maxLen; (try simp only [List.length_append]); omega) (by (try simp only [List.length_append]); omega) (fun vB zB ho hf hk _ => ?_)
  have hne := hO.1.ne hnb (by decide)
  replace hnb := (hnb.tr0 hA.2.1).tr hf (fun h => hne _ h rfl)
  replace hO := hO.app hA.2.1 ho hf hk
  clear ho hf hk hne hA
  (refine rr ?_; refine wpList_nil ?_; refine q_then ?_; refine wp_seq ?_; refine c_cut (fun g z => g 1 = .pointer (some ⟨rb, 0, none⟩) ∧ g 4 = .int .i64 (i : Nat) ∧ g 5 = .pointer (some ⟨nb, 0, none⟩) ∧ ∃ vn, g 3 = vn ∧ Blk z nb (nc t[i] (.slice aw t[i].ws.length cw) (.slice al t[i].labs.length cl) (.slice av t[i].vals.length cv) (.slice ak t[i].kids.length ck) (.slice ax t[i].val.kids.length cx)) 36 ∧ Out w1 z vn (A ++ iv t[i].kind ++ txt t[i].name ++ iv t[i].lo ++ iv t[i].hi ++ iv (t[i].ws.length : Nat) ++ t[i].ws.flatMap iv ++ iv (t[i].labs.length : Nat) ++ t[i].labs.flatMap txt ++ iv (t[i].vals.length : Nat) ++ t[i].vals.flatMap tvV)) ?_ ?_)
  · refine rx ?_
    refine c_loopK 6 [3] (σ := Nat × Value) (fun st g z => g 3 = st.2 ∧ g 8 = .int .i64 (st.1 : Nat) ∧ st.1 ≤ t[i].vals.length ∧ Blk z nb (nc t[i] (.slice aw t[i].ws.length cw) (.slice al t[i].labs.length cl) (.slice av t[i].vals.length cv) (.slice ak t[i].kids.length ck) (.slice ax t[i].val.kids.length cx)) 36 ∧ Out w1 z st.2 (A ++ iv t[i].kind ++ txt t[i].name ++ iv t[i].lo ++ iv t[i].hi ++ iv (t[i].ws.length : Nat) ++ t[i].ws.flatMap iv ++ iv (t[i].labs.length : Nat) ++ t[i].labs.flatMap txt ++ iv (t[i].vals.length : Nat) ++ (t[i].vals.take st.1).flatMap tvV)) (fun st => t[i].vals.length - st.1) (0, vB)
      ⟨rfl, rfl, Nat.zero_le _, hnb, by simpa using hO⟩ ?_
    rintro ⟨j, vj⟩ g z ⟨q3, qK, hj, hnb, hO⟩
    simp only at q3 qK hj hO
    rw [eq_upd q3, eq_upd qK]
    by_cases hjl : j < t[i].vals.length
    case neg =>
      refine rx ?_
      rw [List.take_of_length_le (by omega)] at hO
      exact q_cut ⟨rfl, rfl, rfl, _, rfl, hnb, hO⟩
    have hle2 := flat_take_len tvV t[i].vals (j + 1)
    rw [flat_take tvV hjl, List.length_append] at hle2
    obtain ⟨ad2, cs2, rfl, ⟨sx2, rfl, hx2⟩, hcx2⟩ := (hsv.tr0 hO.2.1).sl.at VR.len hjl
    refine rx ?_
    refine s_call (encVP t[i].vals[j] (hex.vals _ (List.getElem_mem hjl)).1 sx2 _ hx2 (by omega)) rfl ?_
    rintro _ zA ⟨vA, rfl, hA⟩
    refine ⟨_, rfl, ?_⟩
    refine s_append (hO.1.tr0 hA.2.1) rfl hA.1.src rfl (by simp) (ints_one _ _) (by unfold maxLen; (try simp only [List.length_append]); omega) (by (try simp only [List.length_append]); omega) (fun vB zB ho hf hk _ => ?_)
    have hne := hO.1.ne hnb (by decide)
    replace hnb := (hnb.tr0 hA.2.1).tr hf (fun h => hne _ h rfl)
    replace hO := hO.app hA.2.1 ho hf hk
    clear ho hf hk hne hA
    refine rx ?_
    exact q_roundK (j + 1, vB) (by (repeat (first | exact Keep.mrg _ _ _ _ | (refine Keep.hi rfl ?_) | (refine Keep.one rfl ?_) | exact Keep.all rfl | (refine Keep.inn rfl ?_) | (refine Keep.set rfl ?_)))) ⟨rfl, rfl, by simp only; omega, hnb, by simp only [flat_take tvV hjl]; simpa using hO⟩ (by simp only; omega)
  clear hO hnb
  rintro g z ⟨q1, q4, q5, vB, q3, hnb, hO⟩
  rw [eq_upd q1, eq_upd q4, eq_upd q5, eq_upd q3]
  refine rx ?_
  refine s_call (refInt (t[i].kids.length : Nat) _ (by unfold InI64; omega)) rfl ?_
  rintro _ zA ⟨vA, rfl, hA⟩
  refine ⟨_, rfl, ?_⟩
  refine s_append (hO.1.tr0 hA.2.1) rfl hA.1.src rfl (by simp) (ints_one _ _) (by unfold maxLen; (try simp only [List.length_append]); omega) (by (try simp only [List.length_append]); omega) (fun vB zB ho hf hk _ => ?_)
  have hne := hO.1.ne hnb (by decide)
  replace hnb := (hnb.tr0 hA.2.1).tr hf (fun h => hne _ h rfl)
  replace hO := hO.app hA.2.1 ho hf hk
  clear ho hf hk hne hA
  (refine rr ?_; refine wpList_nil ?_; refine q_then ?_; refine wp_seq ?_; refine c_cut (fun g z => g 1 = .pointer (some ⟨rb, 0, none⟩) ∧ g 4 = .int .i64 (i : Nat) ∧ g 5 = .pointer (some ⟨nb, 0, none⟩) ∧ ∃ vn, g 3 = vn ∧ Blk z nb (nc t[i] (.slice aw t[i].ws.length cw) (.slice al t[i].labs.length cl) (.slice av t[i].vals.length cv) (.slice ak t[i].kids.length ck) (.slice ax t[i].val.kids.length cx)) 36 ∧ Out w1 z vn (A ++ iv t[i].kind ++ txt t[i].name ++ iv t[i].lo ++ iv t[i].hi ++ iv (t[i].ws.length : Nat) ++ t[i].ws.flatMap iv ++ iv (t[i].labs.length : Nat) ++ t[i].labs.flatMap txt ++ iv (t[i].vals.length : Nat) ++ t[i].vals.flatMap tvV ++ iv (t[i].kids.length : Nat) ++ t[i].kids.flatMap iv)) ?_ ?_)
  · refine rx ?_
    refine c_loopK 6 [3] (σ := Nat × Value) (fun st g z => g 3 = st.2 ∧ g 9 = .int .i64 (st.1 : Nat) ∧ st.1 ≤ t[i].kids.length ∧ Blk z nb (nc t[i] (.slice aw t[i].ws.length cw) (.slice al t[i].labs.length cl) (.slice av t[i].vals.length cv) (.slice ak t[i].kids.length ck) (.slice ax t[i].val.kids.length cx)) 36 ∧ Out w1 z st.2 (A ++ iv t[i].kind ++ txt t[i].name ++ iv t[i].lo ++ iv t[i].hi ++ iv (t[i].ws.length : Nat) ++ t[i].ws.flatMap iv ++ iv (t[i].labs.length : Nat) ++ t[i].labs.flatMap txt ++ iv (t[i].vals.length : Nat) ++ t[i].vals.flatMap tvV ++ iv (t[i].kids.length : Nat) ++ (t[i].kids.take st.1).flatMap iv)) (fun st => t[i].kids.length - st.1) (0, vB)
      ⟨rfl, rfl, Nat.zero_le _, hnb, by simpa using hO⟩ ?_
    rintro ⟨j, vj⟩ g z ⟨q3, qK, hj, hnb, hO⟩
    simp only at q3 qK hj hO
    rw [eq_upd q3, eq_upd qK]
    by_cases hjl : j < t[i].kids.length
    case neg =>
      refine rx ?_
      rw [List.take_of_length_le (by omega)] at hO
      exact q_cut ⟨rfl, rfl, rfl, _, rfl, hnb, hO⟩
    have hle2 := flat_take_len iv t[i].kids (j + 1)
    rw [flat_take iv hjl, List.length_append] at hle2
    obtain ⟨ad2, rfl, hcell⟩ := Ls.at (hsk.tr0 hO.2.1) hjl
    refine rx ?_
    rw [Nat.mul_one]
    refine s_load rfl hcell ?_
    refine rx ?_
    refine s_call (refInt t[i].kids[j] _ (hokx.kids _ (List.getElem_mem hjl))) rfl ?_
    rintro _ zA ⟨vA, rfl, hA⟩
    refine ⟨_, rfl, ?_⟩
    refine s_append (hO.1.tr0 hA.2.1) rfl hA.1.src rfl (by simp) (ints_one _ _) (by unfold maxLen; (try simp only [List.length_append]); omega) (by (try simp only [List.length_append]); omega) (fun vB zB ho hf hk _ => ?_)
    have hne := hO.1.ne hnb (by decide)
    replace hnb := (hnb.tr0 hA.2.1).tr hf (fun h => hne _ h rfl)
    replace hO := hO.app hA.2.1 ho hf hk
    clear ho hf hk hne hA
    refine rx ?_
    exact q_roundK (j + 1, vB) (by (repeat (first | exact Keep.mrg _ _ _ _ | (refine Keep.hi rfl ?_) | (refine Keep.one rfl ?_) | exact Keep.all rfl | (refine Keep.inn rfl ?_) | (refine Keep.set rfl ?_)))) ⟨rfl, rfl, by simp only; omega, hnb, by simp only [flat_take iv hjl]; simpa using hO⟩ (by simp only; omega)
  clear hO hnb
  rintro g z ⟨q1, q4, q5, vB, q3, hnb, hO⟩
  rw [eq_upd q1, eq_upd q4, eq_upd q5, eq_upd q3]
  refine rx ?_
  refine s_call (encVP t[i].val hex.val.1 _ _ (hsx.tr0 hO.2.1) (by omega)) rfl ?_
  rintro _ zA ⟨vA, rfl, hA⟩
  refine ⟨_, rfl, ?_⟩
  refine s_append (hO.1.tr0 hA.2.1) rfl hA.1.src rfl (by simp) (ints_one _ _) (by unfold maxLen; (try simp only [List.length_append]); omega) (by (try simp only [List.length_append]); omega) (fun vB zB ho hf hk _ => ?_)
  have hne := hO.1.ne hnb (by decide)
  replace hnb := (hnb.tr0 hA.2.1).tr hf (fun h => hne _ h rfl)
  replace hO := hO.app hA.2.1 ho hf hk
  clear ho hf hk hne hA
  refine rx ?_
  refine q_round (i + 1, vB) ⟨rfl, rfl, rfl, by simp only; omega, ?_⟩ (by simp only; omega)
  simp only [flat_take tnN hlt]
  rw [hA0] at hO
  have ht : tnN t[i] = iv t[i].kind ++ txt t[i].name ++ iv t[i].lo ++ iv t[i].hi ++ iv (t[i].ws.length : Nat) ++ t[i].ws.flatMap iv ++ iv (t[i].labs.length : Nat) ++ t[i].labs.flatMap txt ++ iv (t[i].vals.length : Nat) ++ t[i].vals.flatMap tvV ++ iv (t[i].kids.length : Nat) ++ t[i].kids.flatMap iv ++ tvV t[i].val := by unfold tnN lsE; simp only [List.append_assoc]
  rw [ht]
  simp only [List.append_assoc] at hO ⊢
  exact hO
end Go.Proofs.YtpochcchekoonaaGreat
