/-
  Contracts of the reference's Valid (refuterref10) and Zero (refuterref28).
-/
import Derived.Test.YtpochcchekoonaaVe
namespace Go.Proofs.Ytpochcchekoonaa
open Go.Rf Go.RowKit
set_option linter.unusedVariables false
attribute [local irreducible] Code.wp wpList Exit.then Exit.inBlock bodyPost A Calls execOp Addr.add

set_option maxHeartbeats 4000000 in
theorem capitalR (s : ByteArray) (w : World) (hs : s.size ≤ 1000000000000) : Calls Try.prog 106 #[.string s] w fun e w' => e = .returned (.bool (capB s.data.toList)) ∧ w = w' := by
  refine enter Try.func106 rfl Try.ntmps106 rfl ?_
  have hlen : s.data.toList.length = s.size := by simp
  rcases hl : s.data.toList with _ | ⟨c, r⟩
  · have e : s.size = 0 := by rw [← hlen, hl]; rfl
    refine rx ?_
    (apply ret1; exact rfl; (conv => lhs; whnf))
    exact ⟨rfl, rfl⟩
  have hsz : s.size = r.length + 1 := by rw [← hlen, hl]; simp
  have h0 : s.data.toList[0]? = some c := by rw [hl]; rfl
  refine rx ?_
  refine s_gtr rfl rfl (fun h => ?_) (fun h => ?_)
  · refine rx ?_
    (apply ret1; exact rfl; (conv => lhs; whnf))
    refine ⟨?_, rfl⟩
    have : ¬ r.length ≤ 15 := by omega
    simp [capB, this]
  have h15 : r.length ≤ 15 := by omega
  refine rx ?_
  refine s_indexStr (j := 0) rfl rfl h0 ?_
  refine rx ?_
  refine s_lss rfl rfl (fun h => ?_) (fun h => ?_)
  · refine rx ?_
    (apply ret1; exact rfl; (conv => lhs; whnf))
    refine ⟨?_, rfl⟩
    have : ¬ 65 ≤ c.toNat := by omega
    simp [capB, this]
  have h65 : 65 ≤ c.toNat := by omega
  refine rx ?_
  refine s_indexStr (j := 0) rfl rfl h0 ?_
  refine rx ?_
  refine s_gtr rfl rfl (fun h => ?_) (fun h => ?_)
  · refine rx ?_
    (apply ret1; exact rfl; (conv => lhs; whnf))
    refine ⟨?_, rfl⟩
    have : ¬ c.toNat ≤ 90 := by omega
    simp [capB, this]
  have h90 : c.toNat ≤ 90 := by omega
  refine rx ?_
  have hcin : inNm c = true := by unfold inNm; exact decide_eq_true (by omega)
  have hc0 : capB (c :: r) = (s.data.toList.drop 0).all inNm := by rw [hl]; simp [capB, h15, h65, h90, hcin]
  refine c_loopK 7 [3, 4, 5, 6] (σ := Nat) (fun i g u => g 3 = .int .i64 i ∧ i ≤ s.size ∧ capB (c :: r) = (s.data.toList.drop i).all inNm ∧ w = u) (fun i => s.size - i) 0 ⟨rfl, by omega, hc0, rfl⟩ ?_
  rintro i g u ⟨h3, hi, hc, rfl⟩
  rw [eq_upd h3]
  by_cases hlt : i < s.size
  case neg =>
    refine rx ?_
    (apply ret1; exact rfl; (conv => lhs; whnf))
    refine ⟨?_, rfl⟩
    rw [hc, List.drop_eq_nil_of_le (by rw [hlen]; omega)]; rfl
  have hlt' : i < s.data.toList.length := by rw [hlen]; exact hlt
  rw [all_drop hlt'] at hc
  refine rx ?_
  refine s_indexStr (j := i) (b := s.data.toList[i]) rfl rfl (by rw [List.getElem?_eq_getElem hlt']) ?_
  generalize s.data.toList[i] = b at hc
  rcases hq : inNm b with _ | _
  · have hq' : ¬ (97 ≤ b.toNat ∧ b.toNat ≤ 122 ∨ 65 ≤ b.toNat ∧ b.toNat ≤ 90 ∨ 48 ≤ b.toNat ∧ b.toNat ≤ 57 ∨ b.toNat = 95) := of_decide_eq_false hq
    (refine rx ?_; repeat' ((first | refine s_eql rfl rfl (fun h => ?_) (fun h => ?_) | refine s_neq rfl rfl (fun h => ?_) (fun h => ?_) | refine s_lss rfl rfl (fun h => ?_) (fun h => ?_) | refine s_leq rfl rfl (fun h => ?_) (fun h => ?_) | refine s_gtr rfl rfl (fun h => ?_) (fun h => ?_) | refine s_geq rfl rfl (fun h => ?_) (fun h => ?_) | refine s_eqlE rfl rfl (fun h => ?_) (fun h => ?_) | refine s_neqE rfl rfl (fun h => ?_) (fun h => ?_) | refine s_lssS rfl rfl (fun h => ?_) (fun h => ?_) | refine s_gtrS rfl rfl (fun h => ?_) (fun h => ?_)) <;> refine rx ?_))
    all_goals
      (apply ret1; exact rfl; (conv => lhs; whnf))
      exact ⟨by rw [hc, hq]; rfl, rfl⟩
  · have hq' : 97 ≤ b.toNat ∧ b.toNat ≤ 122 ∨ 65 ≤ b.toNat ∧ b.toNat ≤ 90 ∨ 48 ≤ b.toNat ∧ b.toNat ≤ 57 ∨ b.toNat = 95 := of_decide_eq_true hq
    (refine rx ?_; repeat' ((first | refine s_eql rfl rfl (fun h => ?_) (fun h => ?_) | refine s_neq rfl rfl (fun h => ?_) (fun h => ?_) | refine s_lss rfl rfl (fun h => ?_) (fun h => ?_) | refine s_leq rfl rfl (fun h => ?_) (fun h => ?_) | refine s_gtr rfl rfl (fun h => ?_) (fun h => ?_) | refine s_geq rfl rfl (fun h => ?_) (fun h => ?_) | refine s_eqlE rfl rfl (fun h => ?_) (fun h => ?_) | refine s_neqE rfl rfl (fun h => ?_) (fun h => ?_) | refine s_lssS rfl rfl (fun h => ?_) (fun h => ?_) | refine s_gtrS rfl rfl (fun h => ?_) (fun h => ?_)) <;> refine rx ?_))
    all_goals
      exact q_roundK (i + 1) (by (repeat (first | exact Keep.mrg _ _ _ _ | (refine Keep.hi rfl ?_) | (refine Keep.one rfl ?_) | exact Keep.all rfl | (refine Keep.inn rfl ?_) | (refine Keep.set rfl ?_)))) ⟨rfl, by omega, (by rw [hc, hq]; simp), rfl⟩ (by omega)


set_option maxHeartbeats 4000000 in
theorem formedR (v : V) (sl : Value) (w : World) (hv : VS w [] v.kids sl) (hn : VNm v) : Calls Try.prog 95 #[.agg (vc v sl).toArray] w fun e w' => e = .returned (.bool (allF v)) ∧ Fr [] w w' := by
  obtain ⟨ao, c, rfl, _⟩ := hv.slice
  have hbd := hv.bound
  refine enter Try.func95 rfl Try.ntmps95 rfl ?_
  refine rx ?_
  refine s_box rfl rfl (fun w1 hb1 hf1 hs1 => ?_)
  refine rx ?_
  refine s_call (capitalR v.s w1 hn.s) rfl ?_
  rintro _ _ ⟨rfl, rfl⟩
  refine ⟨_, rfl, ?_⟩
  rw [allF_eq]
  have bad : fmd v = false → (fmd v && allFs v.kids) = false := fun h => by rw [h]; rfl
  (refine rr ?_; refine wpList_nil ?_; refine q_then ?_; refine wp_seq ?_; refine c_cut (fun g u => g 1 = .pointer (some ⟨w.heap.size, 0, none⟩) ∧ g 3 = .bool (capB v.s.data.toList) ∧ w1 = u ∧ (v.kind = 0 → v.s = ⟨#[]⟩ ∧ v.kids.length = 0)) ?_ ?_)
  · (refine rx ?_; repeat' ((first | refine s_eql rfl rfl (fun h => ?_) (fun h => ?_) | refine s_neq rfl rfl (fun h => ?_) (fun h => ?_) | refine s_lss rfl rfl (fun h => ?_) (fun h => ?_) | refine s_leq rfl rfl (fun h => ?_) (fun h => ?_) | refine s_gtr rfl rfl (fun h => ?_) (fun h => ?_) | refine s_geq rfl rfl (fun h => ?_) (fun h => ?_) | refine s_eqlE rfl rfl (fun h => ?_) (fun h => ?_) | refine s_neqE rfl rfl (fun h => ?_) (fun h => ?_) | refine s_lssS rfl rfl (fun h => ?_) (fun h => ?_) | refine s_gtrS rfl rfl (fun h => ?_) (fun h => ?_)) <;> refine rx ?_))
    all_goals
      first
      | ((apply ret1; exact rfl; (conv => lhs; whnf))
         exact ⟨by rw [bad (by unfold fmd; rw [if_pos (by omega)]; exact decide_eq_false (by rintro ⟨a, b⟩; first | omega | contradiction))], hf1⟩)
      | exact q_cut ⟨rfl, rfl, rfl, fun h => by first | (exfalso; omega) | exact ⟨by assumption, by omega⟩⟩
  rintro g w1 ⟨q1, q3, rfl, c0⟩
  rw [eq_upd q1, eq_upd q3]
  (refine wp_seq ?_; refine c_cut (fun g u => g 1 = .pointer (some ⟨w.heap.size, 0, none⟩) ∧ g 3 = .bool (capB v.s.data.toList) ∧ w1 = u ∧ (v.kind = 1 → v.s = ⟨#[]⟩ ∧ v.kids.length = 0 ∧ (v.n = 0 ∨ v.n = 1))) ?_ ?_)
  · (refine rx ?_; repeat' ((first | refine s_eql rfl rfl (fun h => ?_) (fun h => ?_) | refine s_neq rfl rfl (fun h => ?_) (fun h => ?_) | refine s_lss rfl rfl (fun h => ?_) (fun h => ?_) | refine s_leq rfl rfl (fun h => ?_) (fun h => ?_) | refine s_gtr rfl rfl (fun h => ?_) (fun h => ?_) | refine s_geq rfl rfl (fun h => ?_) (fun h => ?_) | refine s_eqlE rfl rfl (fun h => ?_) (fun h => ?_) | refine s_neqE rfl rfl (fun h => ?_) (fun h => ?_) | refine s_lssS rfl rfl (fun h => ?_) (fun h => ?_) | refine s_gtrS rfl rfl (fun h => ?_) (fun h => ?_)) <;> refine rx ?_))
    all_goals
      first
      | ((apply ret1; exact rfl; (conv => lhs; whnf))
         exact ⟨by rw [bad (by unfold fmd; rw [if_neg (by omega), if_pos (by omega)]; exact decide_eq_false (by rintro ⟨a, b, c⟩; first | omega | contradiction))], hf1⟩)
      | exact q_cut ⟨rfl, rfl, rfl, fun h => by first | (exfalso; omega) | exact ⟨by assumption, by omega, by omega⟩⟩
  rintro g w1 ⟨q1, q3, rfl, c1⟩
  rw [eq_upd q1, eq_upd q3]
  (refine wp_seq ?_; refine c_cut (fun g u => g 1 = .pointer (some ⟨w.heap.size, 0, none⟩) ∧ g 3 = .bool (capB v.s.data.toList) ∧ w1 = u ∧ (v.kind = 2 → v.s = ⟨#[]⟩ ∧ v.n = 0)) ?_ ?_)
  · (refine rx ?_; repeat' ((first | refine s_eql rfl rfl (fun h => ?_) (fun h => ?_) | refine s_neq rfl rfl (fun h => ?_) (fun h => ?_) | refine s_lss rfl rfl (fun h => ?_) (fun h => ?_) | refine s_leq rfl rfl (fun h => ?_) (fun h => ?_) | refine s_gtr rfl rfl (fun h => ?_) (fun h => ?_) | refine s_geq rfl rfl (fun h => ?_) (fun h => ?_) | refine s_eqlE rfl rfl (fun h => ?_) (fun h => ?_) | refine s_neqE rfl rfl (fun h => ?_) (fun h => ?_) | refine s_lssS rfl rfl (fun h => ?_) (fun h => ?_) | refine s_gtrS rfl rfl (fun h => ?_) (fun h => ?_)) <;> refine rx ?_))
    all_goals
      first
      | ((apply ret1; exact rfl; (conv => lhs; whnf))
         exact ⟨by rw [bad (by simp_all [fmd])], hf1⟩)
      | exact q_cut ⟨rfl, rfl, rfl, fun h => by first | (exfalso; omega) | exact ⟨by assumption, by omega⟩⟩
  rintro g w1 ⟨q1, q3, rfl, c2⟩
  rw [eq_upd q1, eq_upd q3]
  rcases hcap : capB v.s.data.toList with _ | _
  all_goals
    (refine wp_seq ?_; refine c_cut (fun g u => g 1 = .pointer (some ⟨w.heap.size, 0, none⟩) ∧ w1 = u ∧ (v.kind = 3 → capB v.s.data.toList = true ∧ v.n = 0)) ?_ ?_)
    · (refine rx ?_; repeat' ((first | refine s_eql rfl rfl (fun h => ?_) (fun h => ?_) | refine s_neq rfl rfl (fun h => ?_) (fun h => ?_) | refine s_lss rfl rfl (fun h => ?_) (fun h => ?_) | refine s_leq rfl rfl (fun h => ?_) (fun h => ?_) | refine s_gtr rfl rfl (fun h => ?_) (fun h => ?_) | refine s_geq rfl rfl (fun h => ?_) (fun h => ?_) | refine s_eqlE rfl rfl (fun h => ?_) (fun h => ?_) | refine s_neqE rfl rfl (fun h => ?_) (fun h => ?_) | refine s_lssS rfl rfl (fun h => ?_) (fun h => ?_) | refine s_gtrS rfl rfl (fun h => ?_) (fun h => ?_)) <;> refine rx ?_))
      all_goals
        first
        | ((apply ret1; exact rfl; (conv => lhs; whnf))
           exact ⟨by rw [bad (by simp_all [fmd])], hf1⟩)
        | exact q_cut ⟨rfl, rfl, fun h => by first | (exfalso; omega) | exact ⟨by assumption, by omega⟩⟩
    rintro g w1 ⟨q1, rfl, c3⟩
    rw [eq_upd q1]
    by_cases hk : v.kind < 0 ∨ 3 < v.kind
    · (refine rx ?_; repeat' ((first | refine s_eql rfl rfl (fun h => ?_) (fun h => ?_) | refine s_neq rfl rfl (fun h => ?_) (fun h => ?_) | refine s_lss rfl rfl (fun h => ?_) (fun h => ?_) | refine s_leq rfl rfl (fun h => ?_) (fun h => ?_) | refine s_gtr rfl rfl (fun h => ?_) (fun h => ?_) | refine s_geq rfl rfl (fun h => ?_) (fun h => ?_) | refine s_eqlE rfl rfl (fun h => ?_) (fun h => ?_) | refine s_neqE rfl rfl (fun h => ?_) (fun h => ?_) | refine s_lssS rfl rfl (fun h => ?_) (fun h => ?_) | refine s_gtrS rfl rfl (fun h => ?_) (fun h => ?_)) <;> refine rx ?_))
      all_goals
        (apply ret1; exact rfl; (conv => lhs; whnf))
        refine ⟨?_, hf1⟩
        rw [bad]
        have h0 : ¬ v.kind = 0 := by omega
        have h1 : ¬ v.kind = 1 := by omega
        have h2 : ¬ v.kind = 2 := by omega
        have h3 : ¬ v.kind = 3 := by omega
        simp [fmd, h0, h1, h2, h3]
    have good : fmd v = true := by
      have : v.kind = 0 ∨ v.kind = 1 ∨ v.kind = 2 ∨ v.kind = 3 := by omega
      rcases this with h | h | h | h
      · have := c0 h; simp_all [fmd]
      · have := c1 h; simp_all [fmd]
      · have := c2 h; simp_all [fmd]
      · have := c3 h; simp_all [fmd]
    rw [good]
    simp only [Bool.true_and]
    refine rx ?_
    refine c_loopK 6 [4, 5] (σ := Nat) (fun i g u => g 4 = .int .i64 i ∧ i ≤ v.kids.length ∧ allFs v.kids = allFs (v.kids.drop i) ∧ Fr [] w1 u) (fun i => v.kids.length - i) 0 ⟨rfl, by omega, rfl, Fr.refl _ _⟩ ?_
    rintro i g u ⟨h4, hi, hc, hfu⟩
    rw [eq_upd h4]
    have hbu := hb1.tr0 hfu
    have hFu := hf1.trans0 hfu
    by_cases hlt : i < v.kids.length
    case neg =>
      refine rx ?_
      (apply ret1; exact rfl; (conv => lhs; whnf))
      rw [hc, List.drop_eq_nil_of_le (by omega)]
      exact ⟨rfl, hFu⟩
    obtain ⟨ad, cs, rfl, ⟨sx, rfl, hx⟩, hcx⟩ := (hv.tr0 hFu).sl.at VR.len hlt
    refine rx ?_
    refine s_call (formedR v.kids[i] sx u hx (hn.kids _ (by simp))) rfl ?_
    rintro _ u1 ⟨rfl, hf2⟩
    refine ⟨_, rfl, ?_⟩
    rw [List.drop_eq_getElem_cons hlt, allFs] at hc
    rcases hq : allF v.kids[i] with _ | _
    · refine rx ?_
      (apply ret1; exact rfl; (conv => lhs; whnf))
      rw [hc, hq]
      exact ⟨rfl, hFu.trans0 hf2⟩
    · refine rx ?_
      exact q_roundK (i + 1) (by (repeat (first | exact Keep.mrg _ _ _ _ | (refine Keep.hi rfl ?_) | (refine Keep.one rfl ?_) | exact Keep.all rfl | (refine Keep.inn rfl ?_) | (refine Keep.set rfl ?_)))) ⟨rfl, by omega, by rw [hc, hq]; simp, hfu.trans0 hf2⟩ (by omega)
termination_by SizeOf.sizeOf v
decreasing_by
  all_goals
    have h1 : SizeOf.sizeOf v.kids[i] < SizeOf.sizeOf v.kids := List.sizeOf_get _ ⟨i, hlt⟩
    have h2 : SizeOf.sizeOf v.kids < SizeOf.sizeOf v := by cases v; simp; omega
    omega

mutual
def wdV : V → Bool
  | ⟨k, n, s, ks⟩ => decide (k = 2 ∧ 256 < ks.length ∨ k = 3 ∧ 16 < ks.length) || wdVs ks
def wdVs : List V → Bool
  | [] => false
  | v :: l => wdV v || wdVs l
end
theorem wdV_eq (v : V) : wdV v = (decide (v.kind = 2 ∧ 256 < v.kids.length ∨ v.kind = 3 ∧ 16 < v.kids.length) || wdVs v.kids) := by cases v; simp only [wdV]
mutual
theorem wd_allT : ∀ v : V, allF v = true → wdV v = !allT v
  | ⟨k, n, s, ks⟩, h => by
    rw [allF_eq] at h
    simp only [Bool.and_eq_true] at h
    rw [wdV_eq, allT_eq, wds_allT ks h.2, Bool.not_and]
    congr 1
    have hf := h.1
    simp only [fts, fmd] at hf ⊢
    rw [Bool.eq_iff_iff]
    simp only [decide_eq_true_eq, Bool.not_eq_true', decide_eq_false_iff_not]
    repeat' split at hf
    all_goals simp at hf
    all_goals (first | omega | ((have h9 : ks.length = 0 := by simp [hf]); omega))
theorem wds_allT : ∀ l : List V, allFs l = true → wdVs l = !allTs l
  | [], _ => rfl
  | v :: l, h => by
    simp only [allFs, Bool.and_eq_true] at h
    simp only [wdVs, allTs, wd_allT v h.1, wds_allT l h.2, Bool.not_and]
end

theorem wideR (v : V) (sl : Value) (w : World) (hv : VS w [] v.kids sl) : Calls Try.prog 96 #[.agg (vc v sl).toArray] w fun e w' => e = .returned (.bool (wdV v)) ∧ Fr [] w w' := by
  obtain ⟨ao, c, rfl, _⟩ := hv.slice
  have hbd := hv.bound
  refine enter Try.func96 rfl Try.ntmps96 rfl ?_
  refine rx ?_
  refine s_box rfl rfl (fun w1 hb1 hf1 hs1 => ?_)
  rw [wdV_eq]
  by_cases hk : v.kind = 2 ∧ 256 < v.kids.length ∨ v.kind = 3 ∧ 16 < v.kids.length
  · (refine rx ?_; repeat' ((first | refine s_eql rfl rfl (fun h => ?_) (fun h => ?_) | refine s_neq rfl rfl (fun h => ?_) (fun h => ?_) | refine s_lss rfl rfl (fun h => ?_) (fun h => ?_) | refine s_leq rfl rfl (fun h => ?_) (fun h => ?_) | refine s_gtr rfl rfl (fun h => ?_) (fun h => ?_) | refine s_geq rfl rfl (fun h => ?_) (fun h => ?_) | refine s_eqlE rfl rfl (fun h => ?_) (fun h => ?_) | refine s_neqE rfl rfl (fun h => ?_) (fun h => ?_) | refine s_lssS rfl rfl (fun h => ?_) (fun h => ?_) | refine s_gtrS rfl rfl (fun h => ?_) (fun h => ?_)) <;> refine rx ?_))
    all_goals
      (apply ret1; exact rfl; (conv => lhs; whnf))
      exact ⟨by rw [decide_eq_true hk]; rfl, hf1⟩
  rw [decide_eq_false hk]
  simp only [Bool.false_or]
  (refine rr ?_; refine wpList_nil ?_; refine q_then ?_; refine wp_seq ?_; refine c_cut (fun g u => g 1 = .pointer (some ⟨w.heap.size, 0, none⟩) ∧ w1 = u) ?_ ?_)
  · (refine rx ?_; repeat' ((first | refine s_eql rfl rfl (fun h => ?_) (fun h => ?_) | refine s_neq rfl rfl (fun h => ?_) (fun h => ?_) | refine s_lss rfl rfl (fun h => ?_) (fun h => ?_) | refine s_leq rfl rfl (fun h => ?_) (fun h => ?_) | refine s_gtr rfl rfl (fun h => ?_) (fun h => ?_) | refine s_geq rfl rfl (fun h => ?_) (fun h => ?_) | refine s_eqlE rfl rfl (fun h => ?_) (fun h => ?_) | refine s_neqE rfl rfl (fun h => ?_) (fun h => ?_) | refine s_lssS rfl rfl (fun h => ?_) (fun h => ?_) | refine s_gtrS rfl rfl (fun h => ?_) (fun h => ?_)) <;> refine rx ?_))
    all_goals exact q_cut ⟨rfl, rfl⟩
  rintro g w1 ⟨q1, rfl⟩
  rw [eq_upd q1]
  refine rx ?_
  refine c_loopK 5 [3, 4] (σ := Nat) (fun i g u => g 3 = .int .i64 i ∧ i ≤ v.kids.length ∧ wdVs v.kids = wdVs (v.kids.drop i) ∧ Fr [] w1 u) (fun i => v.kids.length - i) 0 ⟨rfl, by omega, rfl, Fr.refl _ _⟩ ?_
  rintro i g u ⟨h4, hi, hc, hfu⟩
  rw [eq_upd h4]
  have hbu := hb1.tr0 hfu
  have hFu := hf1.trans0 hfu
  by_cases hlt : i < v.kids.length
  case neg =>
    refine rx ?_
    (apply ret1; exact rfl; (conv => lhs; whnf))
    rw [hc, List.drop_eq_nil_of_le (by omega)]
    exact ⟨rfl, hFu⟩
  obtain ⟨ad, cs, rfl, ⟨sx, rfl, hx⟩, hcx⟩ := (hv.tr0 hFu).sl.at VR.len hlt
  refine rx ?_
  refine s_call (wideR v.kids[i] sx u hx) rfl ?_
  rintro _ u1 ⟨rfl, hf2⟩
  refine ⟨_, rfl, ?_⟩
  rw [List.drop_eq_getElem_cons hlt, wdVs] at hc
  rcases hq : wdV v.kids[i] with _ | _
  · refine rx ?_
    exact q_roundK (i + 1) (by (repeat (first | exact Keep.mrg _ _ _ _ | (refine Keep.hi rfl ?_) | (refine Keep.one rfl ?_) | exact Keep.all rfl | (refine Keep.inn rfl ?_) | (refine Keep.set rfl ?_)))) ⟨rfl, by omega, by rw [hc, hq]; simp, hfu.trans0 hf2⟩ (by omega)
  · refine rx ?_
    (apply ret1; exact rfl; (conv => lhs; whnf))
    rw [hc, hq]
    exact ⟨rfl, hFu.trans0 hf2⟩
termination_by SizeOf.sizeOf v
decreasing_by
  have h1 : SizeOf.sizeOf v.kids[i] < SizeOf.sizeOf v.kids := List.sizeOf_get _ ⟨i, hlt⟩
  have h2 : SizeOf.sizeOf v.kids < SizeOf.sizeOf v := by cases v; simp; omega
  omega

theorem vszs_drop {l : List V} {i : Nat} (h : i < l.length) : vszs (l.drop i) = vsz l[i] + vszs (l.drop (i + 1)) := by rw [List.drop_eq_getElem_cons h]; rfl
theorem sizeR (v : V) (sl : Value) (w : World) (hv : VS w [] v.kids sl) (hz : vsz v ≤ 10000000000000) : Calls Try.prog 71 #[.agg (vc v sl).toArray] w fun e w' => e = .returned (.int .i64 (vsz v)) ∧ Fr [] w w' := by
  obtain ⟨ao, c, rfl, _⟩ := hv.slice
  have hbd := hv.bound
  have hzz := vsz_eq v
  refine enter Try.func71 rfl Try.ntmps71 rfl ?_
  refine rx ?_
  refine s_box rfl rfl (fun w1 hb1 hf1 hs1 => ?_)
  refine rx ?_
  refine c_loopK 5 [3, 4] (σ := Nat × Nat) (fun st g u => g 3 = .int .i64 st.2 ∧ g 4 = .int .i64 st.1 ∧ st.1 ≤ v.kids.length ∧ vsz v = st.2 + vszs (v.kids.drop st.1) ∧ Fr [] w1 u) (fun st => v.kids.length - st.1) (0, 1) ⟨rfl, rfl, by omega, hzz, Fr.refl _ _⟩ ?_
  rintro ⟨i, m⟩ g u ⟨h3, h4, hi, hc, hfu⟩
  simp only at h3 h4 hi hc
  rw [eq_upd h3, eq_upd h4]
  have hbu := hb1.tr0 hfu
  have hFu := hf1.trans0 hfu
  by_cases hlt : i < v.kids.length
  case neg =>
    refine rx ?_
    (apply ret1; exact rfl; (conv => lhs; whnf))
    rw [hc, List.drop_eq_nil_of_le (by omega)]
    exact ⟨rfl, hFu⟩
  obtain ⟨ad, cs, rfl, ⟨sx, rfl, hx⟩, hcx⟩ := (hv.tr0 hFu).sl.at VR.len hlt
  rw [vszs_drop hlt] at hc
  refine rx ?_
  refine s_call (sizeR v.kids[i] sx u hx (by omega)) rfl ?_
  rintro _ u1 ⟨rfl, hf2⟩
  refine ⟨_, rfl, ?_⟩
  refine rx ?_
  refine q_roundK (i + 1, m + vsz v.kids[i]) (by (repeat (first | exact Keep.mrg _ _ _ _ | (refine Keep.hi rfl ?_) | (refine Keep.one rfl ?_) | exact Keep.all rfl | (refine Keep.inn rfl ?_) | (refine Keep.set rfl ?_)))) ⟨by simp; rfl, rfl, by simp only; omega, by simp only; omega, hfu.trans0 hf2⟩ (by simp only; omega)
termination_by SizeOf.sizeOf v
decreasing_by
  have h1 : SizeOf.sizeOf v.kids[i] < SizeOf.sizeOf v.kids := List.sizeOf_get _ ⟨i, hlt⟩
  have h2 : SizeOf.sizeOf v.kids < SizeOf.sizeOf v := by cases v; simp; omega
  omega

theorem validR (v : V) (sl : Value) (w : World) (hv : VS w [] v.kids sl) (hn : VNm v) (hz : vsz v ≤ 10000000000000) :
    Calls Try.prog 69 #[.agg (vc v sl).toArray] w fun e w' => e = .returned (.int .i64 (valV v)) ∧ Fr [] w w' := by
  refine enter Try.func69 rfl Try.ntmps69 rfl ?_
  refine rx ?_
  refine s_box rfl rfl (fun w1 hb1 hf1 hs1 => ?_)
  refine rx ?_
  refine s_call (formedR v sl w1 (hv.tr0 hf1) hn) rfl ?_
  rintro _ w2 ⟨rfl, hf2⟩
  refine ⟨_, rfl, ?_⟩
  have hb2 := hb1.tr0 hf2
  have hF2 := hf1.trans0 hf2
  rcases hq : allF v with _ | _
  · refine rx ?_
    (apply ret1; exact rfl; (conv => lhs; whnf))
    exact ⟨by simp [valV, hq], hF2⟩
  refine rx ?_
  refine s_call (wideR v sl w2 (hv.tr0 hF2)) rfl ?_
  rintro _ w3 ⟨rfl, hf3⟩
  refine ⟨_, rfl, ?_⟩
  have hF3 := hF2.trans0 hf3
  have hb3 := hb2.tr0 hf3
  rw [wd_allT v hq]
  rcases hq2 : allT v with _ | _
  · refine rx ?_
    (apply ret1; exact rfl; (conv => lhs; whnf))
    exact ⟨by simp [valV, hq, hq2], hF3⟩
  refine rx ?_
  refine s_call (sizeR v sl w3 (hv.tr0 hF3) hz) rfl ?_
  rintro _ w4 ⟨rfl, hf4⟩
  refine ⟨_, rfl, ?_⟩
  have hF4 := hF3.trans0 hf4
  refine rx ?_
  refine s_gtr rfl rfl (fun h => ?_) (fun h => ?_)
  · refine rx ?_
    (apply ret1; exact rfl; (conv => lhs; whnf))
    have : ¬ vsz v ≤ 1024 := by omega
    exact ⟨by simp [valV, hq, hq2, this], hF4⟩
  · refine rx ?_
    (apply ret1; exact rfl; (conv => lhs; whnf))
    have : vsz v ≤ 1024 := by omega
    exact ⟨by simp [valV, hq, hq2, this], hF4⟩
end Go.Proofs.Ytpochcchekoonaa
