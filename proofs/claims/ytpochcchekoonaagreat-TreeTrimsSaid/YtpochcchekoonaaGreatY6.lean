/-
  The reference of trees: word, EncodeValue, SameTexts, SameNode, Equal. The reference of trees: Encode. Plain facts on encodings of trees: what was read can be written; what is written is bytes, and short. For every input TreeBytes returns true.
-/
import Derived.Test.YtpochcchekoonaaGreatY1
import Derived.Test.YtpochcchekoonaaGreatRf2
import Derived.Test.YtpochcchekoonaaGreatTn
import Derived.Test.YtpochcchekoonaaGreatY3
import Derived.Test.YtpochcchekoonaaGreatO2
import Derived.Test.YtpochcchekoonaaGreatO3
import Derived.Test.YtpochcchekoonaaGreatA8
import Derived.Test.YtpochcchekoonaaGreatAk
namespace Go.Proofs.YtpochcchekoonaaGreat
open Go.Rf Go.RowKit
set_option linter.unusedVariables false
set_option linter.unusedSimpArgs false
theorem Out.post {w w1 w2 : World} {v : Value} {bs : List Int} (h : Out w w1 v bs) (hf : Fr [] w1 w2) : Out w w2 v bs :=
  ⟨h.1.tr0 hf, h.2.1.trans0 hf, h.2.2⟩
theorem take_snocG {α : Type} {a b : List α} {i : Nat} (h : a.take i = b.take i) (h1 : i < a.length) (h2 : i < b.length) (he : a[i] = b[i]) : a.take (i + 1) = b.take (i + 1) := by
  rw [List.take_succ_eq_append_getElem h1, List.take_succ_eq_append_getElem h2, h, he]
attribute [local irreducible] Code.wp wpList Exit.then Exit.inBlock bodyPost A Calls execOp Addr.add
set_option maxHeartbeats 4000000 in
theorem sameTexts (x y : Value) (xs ys : List ByteArray) (w : World) (hx : TS w [] xs x) (hy : TS w [] ys y) (hl : xs.length ≤ 1000000000000) :
    Calls Tryz.prog 73 #[x, y] w fun e w' => e = .returned (.bool (decide (xs = ys))) ∧ Fr [] w w' := by
  obtain ⟨ao, c, rfl, _⟩ := hx.slice
  obtain ⟨bo, c2, rfl, _⟩ := hy.slice
  refine enter Tryz.func73 rfl Tryz.ntmps73 rfl ?_
  refine rx ?_
  refine s_neq rfl rfl (fun h => ?_) (fun h => ?_)
  · refine rx ?_
    (apply ret1; exact rfl; (conv => lhs; whnf))
    refine ⟨?_, Fr.refl _ _⟩
    rw [decide_eq_false]
    intro e; subst e; exact h rfl
  · refine rx ?_
    have hlen : xs.length = ys.length := by omega
    refine c_loop (σ := Nat) (fun i g u => g 0 = .slice ao xs.length c ∧ g 1 = .slice bo ys.length c2 ∧ g 5 = .int .i64 i ∧ i ≤ xs.length ∧ xs.take i = ys.take i ∧ Fr [] w u)
      (fun i => xs.length - i) 0 ⟨rfl, rfl, rfl, Nat.zero_le _, rfl, Fr.refl _ _⟩ ?_
    rintro i g u ⟨h0, h1, h5, hi, htk, hfr⟩
    rw [eq_upd h0, eq_upd h1, eq_upd h5]
    refine rx ?_
    refine s_lss rfl rfl (fun hlt => ?_) (fun hge => ?_)
    · have hi1 : i < xs.length := by omega
      have hi2 : i < ys.length := by omega
      obtain ⟨ad, rfl, hca⟩ := Ls.at hx hi1
      obtain ⟨bd, rfl, hcb⟩ := Ls.at hy hi2
      have ha : ∀ z, Fr [] u z → z.cell? (ad.add i) = some (.string xs[i]) := fun z hz => by
        obtain ⟨ad', e, h⟩ := Ls.at (hx.tr0 (hfr.trans0 hz)) hi1
        cases e; exact h
      have hb : ∀ z, Fr [] u z → z.cell? (bd.add i) = some (.string ys[i]) := fun z hz => by
        obtain ⟨ad', e, h⟩ := Ls.at (hy.tr0 (hfr.trans0 hz)) hi2
        cases e; exact h
      refine rx ?_
      (refine d_begin (fun z => Fr [] u z) (by kernel_rfl) rfl ?_)
      have hS : Fr [] u u.drew := Fr.drew _ _
      (refine d_tk 0 hS ?_)
      (refine d_tk 1 hS ?_)
      (apply d_take (i := 2); exact rfl; kernel_rfl; kernel_rfl; kernel_rfl; (intro u hu; exact r_index1 rfl rfl rfl hi1 rfl); exact hS)
      (apply d_take (i := 3); exact rfl; kernel_rfl; kernel_rfl; kernel_rfl; (intro u hu; exact r_load rfl (ha _ hu)); exact hS)
      (refine d_tk 4 hS ?_)
      (refine d_tk 5 hS ?_)
      (apply d_take (i := 6); exact rfl; kernel_rfl; kernel_rfl; kernel_rfl; (intro u hu; exact r_index1 rfl rfl rfl hi2 rfl); exact hS)
      (apply d_take (i := 7); exact rfl; kernel_rfl; kernel_rfl; kernel_rfl; (intro u hu; exact r_load rfl (hb _ hu)); exact hS)
      by_cases he : xs[i] = ys[i]
      · (apply d_take (i := 8); exact rfl; kernel_rfl; kernel_rfl; kernel_rfl; (intro u hu; exact r_neqE rfl rfl (decide_eq_false (by simpa using he))); exact hS)
        (refine d_done (by kernel_rfl) ?_)
        refine rx ?_
        exact q_round (i + 1) ⟨rfl, rfl, rfl, by omega, take_snocG htk hi1 hi2 he, hfr.trans0 hS⟩ (by omega)
      · (apply d_take (i := 8); exact rfl; kernel_rfl; kernel_rfl; kernel_rfl; (intro u hu; exact r_neqE rfl rfl (decide_eq_true he)); exact hS)
        (refine d_done (by kernel_rfl) ?_)
        refine rx ?_
        (apply ret1; exact rfl; (conv => lhs; whnf))
        refine ⟨?_, hfr.trans0 hS⟩
        rw [decide_eq_false]
        intro e; subst e; exact he rfl
    · refine rx ?_
      (apply ret1; exact rfl; (conv => lhs; whnf))
      refine ⟨?_, hfr⟩
      rw [decide_eq_true]
      have h1 : xs.take i = xs := List.take_of_length_le (by omega)
      have h2 : ys.take i = ys := List.take_of_length_le (by omega)
      rw [← h1, ← h2, htk]
/-- two nodes are equal -/
def sameN (x y : Nd) : Bool := decide (x.ws = y.ws) && (decide (x.labs = y.labs) && (sameVs x.vals y.vals && (decide (x.kids = y.kids) && (decide (x.kind = y.kind) && (decide (x.name = y.name) && (decide (x.lo = y.lo) && (decide (x.hi = y.hi) && decide (cmpV x.val y.val = 0))))))))
theorem sameVs_iff : ∀ {a b : List V}, sameVs a b = true ↔ a = b
  | [], [] => by simp [sameVs]
  | [], b :: m => by simp [sameVs]
  | a :: l, [] => by simp [sameVs]
  | a :: l, b :: m => by
    simp only [sameVs, Bool.and_eq_true, decide_eq_true_eq, List.cons.injEq]
    rw [cmpV_iff, sameVs_iff]
theorem sameN_iff {x y : Nd} : sameN x y = true ↔ x = y := by
  obtain ⟨a, b, c, d, e, f, g, h, i⟩ := x
  obtain ⟨a', b', c', d', e', f', g', h', i'⟩ := y
  simp only [sameN, Bool.and_eq_true, decide_eq_true_eq, sameVs_iff, cmpV_iff, Nd.mk.injEq]
  constructor
  · rintro ⟨h1, h2, h3, h4, h5, h6, h7, h8, h9⟩; exact ⟨h5, h6, h7, h8, h1, h2, h3, h4, h9⟩
  · rintro ⟨h5, h6, h7, h8, h1, h2, h3, h4, h9⟩; exact ⟨h1, h2, h3, h4, h5, h6, h7, h8, h9⟩
set_option maxHeartbeats 16000000 in
theorem sameNodeC (x y : Nd) (cx cy : List Value) (u : World) (hx : NdR u [] x cx) (hy : NdR u [] y cy) (hlw : x.ws.length ≤ 1000000000000) (hll : x.labs.length ≤ 1000000000000) (hlk : x.kids.length ≤ 1000000000000) :
    Calls Tryz.prog 35 #[.agg cx.toArray, .agg cy.toArray] u fun e u' => e = .returned (.bool (sameN x y)) ∧ Fr [] u u' := by
  obtain ⟨sw, sl, sv, sk, sx, rfl, h1, h2, h3, h4, h5⟩ := hx
  obtain ⟨sw', sl', sv', sk', sx', rfl, k1, k2, k3, k4, k5⟩ := hy
  refine enter Tryz.func35 rfl Tryz.ntmps35 rfl ?_
  refine rx ?_
  refine s_box (l := nc x sw sl sv sk sx) rfl rfl (fun u1 hb1 hf1 hs1 => ?_)
  refine s_box (l := nc y sw' sl' sv' sk' sx') rfl rfl (fun u2 hb2 hf2 hs2 => ?_)
  have hF2 := hf1.trans0 hf2
  have hb12 := hb1.tr0 hf2
  refine rx ?_
  refine s_call (sameInts sw sw' x.ws y.ws u2 (h1.tr0 hF2).1 (k1.tr0 hF2).1 hlw) rfl ?_
  rintro _ u3 ⟨rfl, hf3⟩
  refine ⟨_, rfl, ?_⟩
  have hF3 := hF2.trans0 hf3
  have hb13 := hb12.tr0 hf3
  have hb23 := hb2.tr0 hf3
  refine rx ?_
  refine s_call (sameTexts sl sl' x.labs y.labs u3 (h2.tr0 hF3) (k2.tr0 hF3) hll) rfl ?_
  rintro _ u4 ⟨rfl, hf4⟩
  refine ⟨_, rfl, ?_⟩
  have hF4 := hF3.trans0 hf4
  have hb14 := hb13.tr0 hf4
  have hb24 := hb23.tr0 hf4
  refine rx ?_
  refine s_call (sameValuesC x.vals y.vals sv sv' u4 (h3.tr0 hF4) (k3.tr0 hF4)) rfl ?_
  rintro _ u5 ⟨rfl, hf5⟩
  refine ⟨_, rfl, ?_⟩
  have hF5 := hF4.trans0 hf5
  have hb15 := hb14.tr0 hf5
  have hb25 := hb24.tr0 hf5
  refine rx ?_
  refine s_call (sameInts sk sk' x.kids y.kids u5 (h4.tr0 hF5).1 (k4.tr0 hF5).1 hlk) rfl ?_
  rintro _ u6 ⟨rfl, hf6⟩
  refine ⟨_, rfl, ?_⟩
  have hF6 := hF5.trans0 hf6
  have hb16 := hb15.tr0 hf6
  have hb26 := hb25.tr0 hf6
  clear hb1 hb2 hb12 hb13 hb23 hb14 hb24 hb15 hb25
  unfold sameN
  rcases decide (x.ws = y.ws) with _ | _
  · refine rx ?_
    (apply ret1; exact rfl; (conv => lhs; whnf))
    exact ⟨rfl, hF6⟩
  rcases decide (x.labs = y.labs) with _ | _
  · refine rx ?_
    (apply ret1; exact rfl; (conv => lhs; whnf))
    exact ⟨rfl, hF6⟩
  rcases sameVs x.vals y.vals with _ | _
  · refine rx ?_
    (apply ret1; exact rfl; (conv => lhs; whnf))
    exact ⟨rfl, hF6⟩
  rcases decide (x.kids = y.kids) with _ | _
  · refine rx ?_
    (apply ret1; exact rfl; (conv => lhs; whnf))
    exact ⟨rfl, hF6⟩
  simp only [Bool.true_and]
  by_cases e1 : x.kind = y.kind
  case neg =>
    rw [decide_eq_false e1]
    refine rx ?_
    (apply ret1; exact rfl; (conv => lhs; whnf))
    exact ⟨rfl, hF6⟩
  rw [decide_eq_true e1]
  by_cases e2 : x.name = y.name
  case neg =>
    rw [decide_eq_false e2]
    refine rx ?_
    (apply ret1; exact rfl; (conv => lhs; whnf))
    exact ⟨rfl, hF6⟩
  rw [decide_eq_true e2]
  by_cases e3 : x.lo = y.lo
  case neg =>
    rw [decide_eq_false e3]
    refine rx ?_
    (apply ret1; exact rfl; (conv => lhs; whnf))
    exact ⟨rfl, hF6⟩
  rw [decide_eq_true e3]
  by_cases e4 : x.hi = y.hi
  case neg =>
    rw [decide_eq_false e4]
    refine rx ?_
    (apply ret1; exact rfl; (conv => lhs; whnf))
    exact ⟨rfl, hF6⟩
  rw [decide_eq_true e4]
  refine rx ?_
  refine s_call (compareR x.val y.val sx sx' u6 (h5.tr0 hF6) (k5.tr0 hF6)) rfl ?_
  rintro _ u7 ⟨rfl, hf7⟩
  refine ⟨_, rfl, ?_⟩
  simp only [Bool.true_and]
  generalize cmpV x.val y.val = cc
  by_cases e5 : cc = 0
  · rw [decide_eq_true e5]
    refine rx ?_
    (apply ret1; exact rfl; (conv => lhs; whnf))
    exact ⟨rfl, hF6.trans0 hf7⟩
  · rw [decide_eq_false e5]
    refine rx ?_
    (apply ret1; exact rfl; (conv => lhs; whnf))
    exact ⟨rfl, hF6.trans0 hf7⟩
set_option maxHeartbeats 8000000 in
theorem equalC (a b : List Nd) (sa sb : Value) (u : World) (ha : NS u [] a sa) (hb : NS u [] b sb) (hal : a.length ≤ 1000000000000) (hla : ∀ x ∈ a, x.ws.length ≤ 1000000000000 ∧ x.labs.length ≤ 1000000000000 ∧ x.kids.length ≤ 1000000000000) :
    Calls Tryz.prog 8 #[.agg #[sa], .agg #[sb]] u fun e u' => ∃ p : Bool, e = .returned (.bool p) ∧ (p = true ↔ a = b) ∧ Fr [] u u' := by
  obtain ⟨aa, ca, rfl, _⟩ := ha.slice
  obtain ⟨ab, cb, rfl, _⟩ := hb.slice
  refine enter Tryz.func8 rfl Tryz.ntmps8 rfl ?_
  refine rx ?_
  refine s_box (l := [.slice aa a.length ca]) rfl rfl (fun u1 hb1 hf1 hs1 => ?_)
  refine s_box (l := [.slice ab b.length cb]) rfl rfl (fun u2 hb2 hf2 hs2 => ?_)
  have hF2 := hf1.trans0 hf2
  have hb12 := hb1.tr0 hf2
  clear hb1
  by_cases hlen : a.length = b.length
  case neg =>
    refine rx ?_
    (apply ret1; exact rfl; (conv => lhs; whnf))
    exact ⟨false, rfl, by simp; intro e; exact hlen (by rw [e]), hF2⟩
  refine rx ?_
  refine c_loopK 6 [5, 6] (σ := Nat) (fun i g z => g 5 = .int .i64 (i : Nat) ∧ i ≤ a.length ∧ a.take i = b.take i ∧ Fr [] u2 z) (fun i => a.length - i) 0 ⟨rfl, Nat.zero_le _, rfl, Fr.refl _ _⟩ ?_
  rintro i g z ⟨h5, hi, htk, hfz⟩
  rw [eq_upd h5]
  have hbz1 := hb12.tr0 hfz
  have hbz2 := hb2.tr0 hfz
  by_cases hlt : i < a.length
  case neg =>
    refine rx ?_
    (apply ret1; exact rfl; (conv => lhs; whnf))
    have h1 : a.take i = a := List.take_of_length_le (by omega)
    have h2 : b.take i = b := List.take_of_length_le (by omega)
    exact ⟨true, rfl, by simp; rw [← h1, ← h2, htk], hF2.trans0 hfz⟩
  have hltb : i < b.length := by omega
  have hna := ha.tr0 (hF2.trans0 hfz)
  have hnb := hb.tr0 (hF2.trans0 hfz)
  obtain ⟨ad, ccs, rfl, hx, hcx⟩ := Sl.at hna ndLen hlt
  obtain ⟨bd, dcs, rfl, hy, hcy⟩ := Sl.at hnb ndLen hltb
  have hcl := ndLen _ _ hx
  have hdl := ndLen _ _ hy
  refine rx ?_
  (refine d_begin (fun y => Fr [] z y) (by kernel_rfl) rfl ?_)
  have hS : Fr [] z z.drew := Fr.drew _ _
  ((first | refine d_tx 0 hS ?_ | refine d_ty 0 hS ?_ | refine d_tn 0 hS ?_))
  (apply d_take (i := 1); exact rfl; kernel_rfl; kernel_rfl; kernel_rfl; (intro u hu; exact (r_load rfl (Blk.cell (hbz1.tr0 hu) rfl))); exact hS)
  ((first | refine d_tx 2 hS ?_ | refine d_ty 2 hS ?_ | refine d_tn 2 hS ?_); (first | refine d_tx 3 hS ?_ | refine d_ty 3 hS ?_ | refine d_tn 3 hS ?_))
  (apply d_take (i := 4); exact rfl; kernel_rfl; kernel_rfl; kernel_rfl; (intro u hu; exact (r_loadAgg ccs rfl hcl (hcx.tr0 hu))); exact hS)
  ((first | refine d_tx 5 hS ?_ | refine d_ty 5 hS ?_ | refine d_tn 5 hS ?_))
  (apply d_take (i := 6); exact rfl; kernel_rfl; kernel_rfl; kernel_rfl; (intro u hu; exact (r_load rfl (Blk.cell (hbz2.tr0 hu) rfl))); exact hS)
  ((first | refine d_tx 7 hS ?_ | refine d_ty 7 hS ?_ | refine d_tn 7 hS ?_); (first | refine d_tx 8 hS ?_ | refine d_ty 8 hS ?_ | refine d_tn 8 hS ?_))
  (apply d_take (i := 9); exact rfl; kernel_rfl; kernel_rfl; kernel_rfl; (intro u hu; exact (r_loadAgg dcs rfl hdl (hcy.tr0 hu))); exact hS)
  refine d_one (i := 10) rfl (by kernel_rfl) ?_
  have hl3 := hla _ (List.getElem_mem hlt)
  refine s_call (sameNodeC a[i] b[i] ccs dcs z.drew (ndStab.old hx hS (by simp)) (ndStab.old hy hS (by simp)) hl3.1 hl3.2.1 hl3.2.2) rfl ?_
  rintro _ z1 ⟨rfl, hf3⟩
  refine ⟨_, rfl, ?_⟩
  have hS1 := hS.trans0 hf3
  refine wpList_nil (q_held hS1 ?_)
  (refine d_one (i := 11) rfl (by kernel_rfl) ?_; refine rx ?_; refine q_held hS1 ?_)
  (refine d_done (by kernel_rfl) ?_)
  rcases hsn : sameN a[i] b[i] with _ | _
  · refine rx ?_
    (apply ret1; exact rfl; (conv => lhs; whnf))
    refine ⟨false, rfl, ?_, (hF2.trans0 hfz).trans0 hS1⟩
    simp only [Bool.false_eq_true, false_iff]
    intro e
    subst e
    rw [sameN_iff.2 rfl] at hsn; cases hsn
  · refine rx ?_
    refine q_roundK (i + 1) (by (repeat (first | exact Keep.mrg _ _ _ _ | (refine Keep.hi rfl ?_) | (refine Keep.one rfl ?_) | exact Keep.all rfl | (refine Keep.inn rfl ?_) | (refine Keep.set rfl ?_)))) ⟨rfl, by omega, take_snocG htk hlt hltb (sameN_iff.1 hsn), hfz.trans0 hS1⟩ (by omega)
end Go.Proofs.YtpochcchekoonaaGreat
namespace Go.Proofs.YtpochcchekoonaaGreat
open Go.Rf Go.RowKit
set_option linter.unusedVariables false
set_option linter.unusedSimpArgs false
attribute [local irreducible] Code.wp wpList Exit.then Exit.inBlock bodyPost A Calls execOp Addr.add
end Go.Proofs.YtpochcchekoonaaGreat
namespace Go.Proofs.YtpochcchekoonaaGreat
open Go.Rf Go.RowKit
set_option linter.unusedVariables false
set_option linter.unusedSimpArgs false
--BEGIN
/-! ### what was read can be written -/
def Al {α : Type} (el : DS → α × DS) (P : α → Prop) (B : Nat) : Prop := ∀ s, Bys s.bs → s.bs.length ≤ B → P (el s).1
/-! ### what is written is bytes -/
theorem flat_bys {α : Type} {enc : α → List Int} (h : ∀ x, Bys (enc x)) (l : List α) : Bys (l.flatMap enc) := fun b hb => by
  obtain ⟨x, _, hx⟩ := List.mem_flatMap.1 hb
  exact h x b hx
theorem lsE_bys {α : Type} {enc : α → List Int} (h : ∀ x, Bys (enc x)) (l : List α) : Bys (lsE enc l) := (iv_bys _).append (flat_bys h l)
theorem sb_bys (s : ByteArray) : Bys (sb s) := fun b hb => by
  unfold sb at hb
  obtain ⟨c, _, rfl⟩ := List.mem_map.1 hb
  have := c.toNat_lt
  omega
theorem txt_bys (s : ByteArray) : Bys (txt s) := raw_bys (sb_bys s)
theorem tvV_bys : ∀ v : V, Bys (tvV v)
  | ⟨k, n, s, ks⟩ => by
    rw [tvV_ls]
    refine (iv_bys _).append ((iv_bys _).append ((txt_bys _).append ((iv_bys _).append ?_)))
    intro b hb
    obtain ⟨x, hx, hb⟩ := List.mem_flatMap.1 hb
    have : SizeOf.sizeOf x < SizeOf.sizeOf ks := List.sizeOf_lt_of_mem hx
    exact tvV_bys x b hb
theorem tnN_bys (x : Nd) : Bys (tnN x) := (iv_bys _).append ((txt_bys _).append ((iv_bys _).append ((iv_bys _).append ((lsE_bys iv_bys _).append ((lsE_bys txt_bys _).append ((lsE_bys tvV_bys _).append ((lsE_bys iv_bys _).append (tvV_bys _))))))))
/-! ### and short -/
theorem flat_le {α : Type} {enc : α → List Int} {B : Nat} : ∀ (l : List α), (∀ x ∈ l, (enc x).length ≤ B) → (l.flatMap enc).length ≤ l.length * B
  | [], _ => by simp
  | x :: l, h => by
    simp only [List.flatMap_cons, List.length_append, List.length_cons, Nat.add_mul, Nat.one_mul]
    have h1 := h x (by simp)
    have h2 := flat_le l (fun y hy => h y (by simp [hy]))
    omega
theorem iv_le {n : Int} (h : InI64 n) : (iv n).length ≤ 10 := iv_len h.1 h.2
theorem txt_le {s : ByteArray} (h : s.size ≤ 1000) : (txt s).length ≤ 1010 := by
  unfold txt raw
  rw [List.length_append, sb_len]
  have := uv_len s.size (by omega)
  omega
mutual
theorem tvV_le : ∀ v : V, EV v → vsz v ≤ 1000000 → (tvV v).length ≤ 1040 * vsz v
  | ⟨k, n, s, ks⟩, h, hz => by
    have h1 := iv_le h.kind
    have h2 := iv_le h.n
    have h3 := txt_le h.s
    simp only [vsz] at hz ⊢
    have h4 := tvs_le ks h.kids (by omega)
    have h5 := vszs_len ks
    have h6 : (iv (ks.length : Nat)).length ≤ 10 := iv_le (by unfold InI64; omega)
    have h7 : (raw (sb s)).length ≤ 1010 := h3
    simp only at h1 h2 h7
    simp only [tvV, List.length_append]
    omega
theorem tvs_le : ∀ l : List V, (∀ x ∈ l, EV x) → vszs l ≤ 1000000 → (tvs l).length ≤ 1040 * vszs l
  | [], _, _ => by simp [tvs]
  | v :: l, h, hz => by
    simp only [vszs] at hz ⊢
    have h1 := tvV_le v (h v (by simp)) (by omega)
    have h2 := tvs_le l (fun x hx => h x (by simp [hx])) (by omega)
    simp only [tvs, List.length_append]
    omega
end
theorem tnN_le {m : Nat} {x : Nd} (hg : NdG m x) (hm : m ≤ 100) : (tnN x).length ≤ 300000000 := by
  have hok := hg.ok
  have he := hg.e
  have a1 := hg.lw
  have a2 := hg.ll
  have a3 := hg.lv
  have a4 := hg.lk
  have v1 : ∀ v : V, EV v ∧ vsz v ≤ 2000 → (tvV v).length ≤ 2080000 := fun v hv => by
    have := tvV_le v hv.1 (by omega)
    omega
  have b1 := flat_le (enc := iv) (B := 10) x.ws (fun n hn => iv_le (hok.ws n hn))
  have b2 := flat_le (enc := txt) (B := 1010) x.labs (fun s hs => txt_le (he.labs s hs))
  have b3 := flat_le (enc := tvV) (B := 2080000) x.vals (fun v hv => v1 v (he.vals v hv))
  have b4 := flat_le (enc := iv) (B := 10) x.kids (fun n hn => iv_le (hok.kids n hn))
  have b5 := v1 x.val he.val
  have c1 := iv_le hok.kind
  have c2 := txt_le he.name
  have c3 := iv_le hok.lo
  have c4 := iv_le hok.hi
  have d1 : (iv (x.ws.length : Nat)).length ≤ 10 := iv_le (by unfold InI64; omega)
  have d2 : (iv (x.labs.length : Nat)).length ≤ 10 := iv_le (by unfold InI64; omega)
  have d3 : (iv (x.vals.length : Nat)).length ≤ 10 := iv_le (by unfold InI64; omega)
  have d4 : (iv (x.kids.length : Nat)).length ≤ 10 := iv_le (by unfold InI64; omega)
  have e1 : x.ws.length * 10 ≤ 110 * 10 := Nat.mul_le_mul_right _ (by omega)
  have e2 : x.labs.length * 1010 ≤ 110 * 1010 := Nat.mul_le_mul_right _ (by omega)
  have e3 : x.vals.length * 2080000 ≤ 110 * 2080000 := Nat.mul_le_mul_right _ (by omega)
  have e4 : x.kids.length * 10 ≤ 110 * 10 := Nat.mul_le_mul_right _ (by omega)
  unfold tnN lsE
  simp only [List.length_append]
  omega
--END
end Go.Proofs.YtpochcchekoonaaGreat
namespace Go.Rf
open Go.RowKit
set_option linter.unusedVariables false
section
variable {P : Program} {n : Nat} {f : Env} {w : World} {d : Nat} {ty : TypeId} {ps : String} {af : Array Edge} {gd : Option (Nat × Bool)} {t t2 : Nat} {x y : Operand}
end
end Go.Rf
namespace Go.Proofs.YtpochcchekoonaaGreat
open Go.Rf Go.RowKit
set_option linter.unusedVariables false
set_option linter.unusedSimpArgs false
def bR (w : World) (bs : List Int) (cs : List Value) : Prop := ∃ v, cs = [v] ∧ Src w v bs.length (bs.map (.int .u8))
attribute [local irreducible] Code.wp wpList Exit.then Exit.inBlock bodyPost A Calls execOp Addr.add
end Go.Proofs.YtpochcchekoonaaGreat
