/-
  Contracts of package values: Valid; of the reference's Valid.
-/
import Derived.Test.YtpochcchekoonaaVd
namespace Go.Proofs.Ytpochcchekoonaa
open Go.Rf Go.RowKit
set_option linter.unusedVariables false
attribute [local irreducible] Code.wp wpList Exit.then Exit.inBlock bodyPost A Calls execOp Addr.add

mutual
def allF : V → Bool
  | ⟨k, n, s, ks⟩ => fmd ⟨k, n, s, ks⟩ && allFs ks
def allFs : List V → Bool
  | [] => true
  | v :: l => allF v && allFs l
end
mutual
def allT : V → Bool
  | ⟨k, n, s, ks⟩ => fts ⟨k, n, s, ks⟩ && allTs ks
def allTs : List V → Bool
  | [] => true
  | v :: l => allT v && allTs l
end
theorem allF_eq (v : V) : allF v = (fmd v && allFs v.kids) := by cases v; simp only [allF]
theorem allT_eq (v : V) : allT v = (fts v && allTs v.kids) := by cases v; simp only [allT]
/-- what Valid returns -/
def valV (v : V) : Int := if allF v = true then (if allT v = true ∧ vsz v ≤ 1024 then 0 else 4) else 1

def vstep (s : Int × Bool × Bool) (v : V) (d : Int) : (Int × Bool × Bool) × Bool := ((IntKind.i64.wrap (s.1 + 1), s.2.1 && fmd v, s.2.2 && fts v), s.2.1 && fmd v)
mutual
theorem walk_valid : ∀ (v : V) (n : Int) (m : Bool) (d : Int), 0 ≤ n → n + vsz v ≤ 1000000000000000 →
    (allF v = true → walkV vstep (n, true, m) v d = ((n + vsz v, true, m && allT v), true)) ∧ (allF v = false → ∃ x, walkV vstep (n, true, m) v d = (x, false) ∧ x.2.1 = false)
  | ⟨k, t, s, ks⟩, n, m, d, h0, h1 => by
    rw [walkV_eq, allF_eq, allT_eq]
    have hs := vsz_eq ⟨k, t, s, ks⟩
    have hw : IntKind.i64.wrap (n + 1) = n + 1 := IntWalk.i64_in _ (by omega)
    simp only [vstep, Bool.true_and, hw]
    rcases hq : fmd ⟨k, t, s, ks⟩ with _ | _
    · simp
    · simp only [Bool.true_and]
      obtain ⟨h2, h3⟩ := walks_valid ks (n + 1) (m && fts ⟨k, t, s, ks⟩) (d + 1) (by omega) (by simp only at hs; omega)
      refine ⟨fun h => ?_, fun h => ?_⟩
      · rw [h2 h, hs]
        simp only [Prod.mk.injEq, and_true, Bool.and_assoc]
        omega
      · exact h3 h
theorem walks_valid : ∀ (l : List V) (n : Int) (m : Bool) (d : Int), 0 ≤ n → n + vszs l ≤ 1000000000000000 →
    (allFs l = true → walkVs vstep (n, true, m) l d = ((n + vszs l, true, m && allTs l), true)) ∧ (allFs l = false → ∃ x, walkVs vstep (n, true, m) l d = (x, false) ∧ x.2.1 = false)
  | [], n, m, d, h0, h1 => by simp [allFs, walkVs, allTs, vszs]
  | v :: l, n, m, d, h0, h1 => by
    simp only [vszs] at h1
    obtain ⟨h2, h3⟩ := walk_valid v n m d h0 (by omega)
    simp only [allFs, walkVs, allTs, vszs]
    rcases hq : allF v with _ | _
    · obtain ⟨x, hx, hx2⟩ := h3 hq
      simp [hx, hx2]
    · rw [h2 hq]
      simp only
      obtain ⟨h4, h5⟩ := walks_valid l (n + vsz v) (m && allT v) d (by omega) (by omega)
      refine ⟨fun h => ?_, fun h => ?_⟩
      · rw [h4 (by simpa using h)]
        simp only [Prod.mk.injEq, and_true, Bool.and_assoc]
        omega
      · exact h5 (by simpa using h)
end

def VK (bn bg bs : Nat) (u : World) (s : Int × Bool × Bool) : Prop := Blk u bn [.int .i64 s.1] 3 ∧ Blk u bg [.bool s.2.1] 4 ∧ Blk u bs [.bool s.2.2] 4

theorem valid1 (bn bg bs : Nat) (h12 : bn ≠ bg) (h13 : bn ≠ bs) (h23 : bg ≠ bs) (v : V) (sl : Value) (d : Int) (w : World) (s : Int × Bool × Bool) (hk : VK bn bg bs w s) (hv : VS w [bn, bg, bs] v.kids sl) (hn : VNm v) :
    Calls Try.prog 58 #[.agg (vc v sl).toArray, .int .i64 d, .pointer (some ⟨bn, 0, none⟩), .pointer (some ⟨bg, 0, none⟩), .pointer (some ⟨bs, 0, none⟩)] w fun e w' => e = .returned (.bool (vstep s v d).2) ∧ VK bn bg bs w' (vstep s v d).1 ∧ Fr [bn, bg, bs] w w' := by
  obtain ⟨n, g, m⟩ := s
  obtain ⟨hb1, hb2, hb3⟩ := hk
  simp only at hb1 hb2 hb3
  have l1 := hb1.lt
  have l2 := hb2.lt
  have l3 := hb3.lt
  refine enter Try.func58 rfl Try.ntmps58 rfl ?_
  refine rx ?_
  refine s_box rfl rfl (fun w1 hbv hf1 hs1 => ?_)
  have hb1' := hb1.tr0 hf1
  have hb2' := hb2.tr0 hf1
  have hb3' := hb3.tr0 hf1
  refine rx ?_
  refine s_add rfl rfl rfl ?_
  ((with_reducible apply s_storeB); exact rfl; (conv => lhs; whnf); exact rfl; exact hb1'; exact rfl)
  intro w2 hb1'' hf2 hs2
  have hbv2 := hbv.tr hf2 (by simp; omega)
  have hb2'' := hb2'.tr hf2 (by simp; omega)
  have hb3'' := hb3'.tr hf2 (by simp; omega)
  have hF2 : Fr [bn, bg, bs] w w2 := (hf1.mono (by simp)).trans hf2 (by simp)
  have hv2 := hv.tr hF2
  have key : ∀ (g' : Bool) (w3 : World), Fr [bn, bg, bs] w w3 → Blk w3 bn [.int .i64 (IntKind.i64.wrap (n + 1))] 3 → Blk w3 bg [.bool g'] 4 → Blk w3 bs [.bool (m && fts v)] 4 → g' = (g && fmd v) →
      VK bn bg bs w3 (vstep (n, g, m) v d).1 ∧ Fr [bn, bg, bs] w w3 := fun g' w3 h1 h2 h3 h4 h5 => ⟨⟨h2, by rw [h5] at h3; exact h3, h4⟩, h1⟩
  refine wpList_nil ?_
  refine q_then ?_
  refine wp_seq ?_
  refine c_cut (fun g1 u => g1 3 = .pointer (some ⟨bg, 0, none⟩) ∧ g1 4 = .pointer (some ⟨bs, 0, none⟩) ∧ g1 5 = .pointer (some ⟨w.heap.size, 0, none⟩) ∧ Fr [bn, bg, bs] w u ∧ Blk u bn [.int .i64 (IntKind.i64.wrap (n + 1))] 3 ∧ Blk u bg [.bool (g && fmd v)] 4 ∧ Blk u bs [.bool m] 4 ∧ Blk u w.heap.size (vc v sl) 37) ?_ ?_
  · cases g
    · refine rx ?_
      ((with_reducible apply s_storeB); exact rfl; (conv => lhs; whnf); exact rfl; exact hb2''; exact rfl)
      intro w4 hbg hf4 hs4
      refine rx ?_
      exact q_cut ⟨rfl, rfl, rfl, hF2.trans hf4 (by simp), hb1''.tr hf4 (by simp; omega), hbg, hb3''.tr hf4 (by simp; omega), hbv2.tr hf4 (by simp; omega)⟩
    · refine rx ?_
      refine s_call (formedP v sl w2 hv2.any hn.s) rfl ?_
      rintro _ w3 ⟨rfl, hf3⟩
      refine ⟨_, rfl, ?_⟩
      refine rx ?_
      ((with_reducible apply s_storeB); exact rfl; (conv => lhs; whnf); exact rfl; exact (hb2''.tr0 hf3); exact rfl)
      intro w4 hbg hf4 hs4
      refine rx ?_
      exact q_cut ⟨rfl, rfl, rfl, (hF2.trans0 hf3).trans hf4 (by simp), (hb1''.tr0 hf3).tr hf4 (by simp; omega), hbg, (hb3''.tr0 hf3).tr hf4 (by simp; omega), (hbv2.tr0 hf3).tr hf4 (by simp; have := hf2.size; have := hf3.size; omega)⟩
  rintro g1 u ⟨q3, q4, q5, hFu, hn1, hg1, hm1, hbv3⟩
  rw [eq_upd q3, eq_upd q4, eq_upd q5]
  have hvu := hv.tr hFu
  have hlu := hFu.size
  refine wp_seq ?_
  refine c_cut (fun g2 u' => g2 3 = .pointer (some ⟨bg, 0, none⟩) ∧ Fr [bn, bg, bs] w u' ∧ Blk u' bn [.int .i64 (IntKind.i64.wrap (n + 1))] 3 ∧ Blk u' bg [.bool (g && fmd v)] 4 ∧ Blk u' bs [.bool (m && fts v)] 4) ?_ ?_
  · cases m
    · refine rx ?_
      ((with_reducible apply s_storeB); exact rfl; (conv => lhs; whnf); exact rfl; exact hm1; exact rfl)
      intro w4 hbg hf4 hs4
      refine rx ?_
      exact q_cut ⟨rfl, hFu.trans hf4 (by simp), hn1.tr hf4 (by simp; omega), hg1.tr hf4 (by simp; omega), hbg⟩
    · refine rx ?_
      refine s_call (fitsP v sl u hvu.any) rfl ?_
      rintro _ w3 ⟨rfl, hf3⟩
      refine ⟨_, rfl, ?_⟩
      refine rx ?_
      ((with_reducible apply s_storeB); exact rfl; (conv => lhs; whnf); exact rfl; exact (hm1.tr0 hf3); exact rfl)
      intro w4 hbg hf4 hs4
      refine rx ?_
      exact q_cut ⟨rfl, (hFu.trans0 hf3).trans hf4 (by simp), (hn1.tr0 hf3).tr hf4 (by simp; omega), (hg1.tr0 hf3).tr hf4 (by simp; omega), hbg⟩
  rintro g2 u' ⟨q3, hFu', hn2, hg2, hm2⟩
  rw [eq_upd q3]
  refine rx ?_
  (apply ret1; exact rfl; (conv => lhs; whnf))
  exact ⟨rfl, ⟨hn2, hg2, hm2⟩, hFu'⟩

theorem validP (v : V) (sl : Value) (w : World) (hv : VS w [] v.kids sl) (hn : VNm v) (hz : vsz v ≤ 10000000000000) :
    Calls Try.prog 31 #[.agg (vc v sl).toArray] w fun e w' => e = .returned (.int .i64 (valV v)) ∧ Fr [] w w' := by
  refine enter Try.func31 rfl Try.ntmps31 rfl ?_
  refine rx ?_
  refine s_box rfl rfl (fun w1 hbv hf1 hs1 => ?_)
  refine rx ?_
  refine s_alloc rfl (fun w2 hb2 hf2 hs2 => ?_)
  refine s_alloc rfl (fun w3 hb3 hf3 hs3 => ?_)
  refine s_alloc rfl (fun w4 hb4 hf4 hs4 => ?_)
  obtain ⟨N, hN⟩ : ∃ N, w.heap.size = N := ⟨_, rfl⟩
  have e1 : w1.heap.size = N + 1 := by omega
  have e2 : w2.heap.size = N + 2 := by omega
  have e3 : w3.heap.size = N + 3 := by omega
  have e4 : w4.heap.size = N + 4 := by omega
  rw [hN] at hbv
  rw [e1] at hb2
  rw [e2] at hb3
  rw [e3] at hb4
  rw [hN, e1, e2, e3]
  have hb2' := (hb2.tr0 hf3).tr0 hf4
  have hb3' := hb3.tr0 hf4
  ((with_reducible apply s_storeB); exact rfl; (conv => lhs; whnf); exact rfl; exact hb2'; exact rfl)
  intro w5 hb5 hf5 hs5
  ((with_reducible apply s_storeB); exact rfl; (conv => lhs; whnf); exact rfl; exact (hb3'.tr hf5 (by simp)); exact rfl)
  intro w6 hb6 hf6 hs6
  ((with_reducible apply s_storeB); exact rfl; (conv => lhs; whnf); exact rfl; exact ((hb4.tr hf5 (by simp)).tr hf6 (by simp)); exact rfl)
  intro w7 hb7 hf7 hs7
  have hF : Fr [] w w7 := ((((((hf1.trans0 hf2).trans0 hf3).trans0 hf4).trans hf5 (by simp; omega)).trans hf6 (by simp; omega)).trans hf7 (by simp; omega))
  have hbv' := (((((hbv.tr0 hf2).tr0 hf3).tr0 hf4).tr hf5 (by simp)).tr hf6 (by simp)).tr hf7 (by simp)
  have hk : VK (N + 1) (N + 2) (N + 3) w7 (0, true, true) := ⟨(hb5.tr hf6 (by simp)).tr hf7 (by simp), hb6.tr hf7 (by simp), hb7⟩
  refine rx ?_
  refine s_makeFunc (a := []) (b := [.pointer (some ⟨N + 1, 0, none⟩), .pointer (some ⟨N + 2, 0, none⟩), .pointer (some ⟨N + 3, 0, none⟩)]) rfl rfl ?_
  refine s_call (visit vstep [N + 1, N + 2, N + 3] (VK (N + 1) (N + 2) (N + 3)) 58 [.pointer (some ⟨N + 1, 0, none⟩), .pointer (some ⟨N + 2, 0, none⟩), .pointer (some ⟨N + 3, 0, none⟩)]
    (fun u u' s h hf => ⟨h.1.tr0 hf, h.2.1.tr0 hf, h.2.2.tr0 hf⟩) (fun u s h k hk => by have l1 := h.1.lt; have l2 := h.2.1.lt; have l3 := h.2.2.lt; simp at hk; omega)
    (fun v sl d u s hk hv hn => valid1 _ _ _ (by omega) (by omega) (by omega) v sl d u s hk hv hn) v sl (0, true, true) w7 ((hv.off (S := [N + 1, N + 2, N + 3]) (by simp; omega)).tr0 hF) hn hk (by omega)) rfl ?_
  rintro _ w8 ⟨rfl, hk8, hf8⟩
  refine ⟨_, rfl, ?_⟩
  have hFF : Fr [] w w8 := hF.trans hf8 (by simp; omega)
  obtain ⟨h1, h2⟩ := walk_valid v 0 true 1 (by omega) (by omega)
  rcases hq : allF v with _ | _
  · obtain ⟨⟨x1, x2, x3⟩, hx, hx2⟩ := h2 hq
    rw [hx] at hk8
    obtain ⟨hn8, hg8, hm8⟩ := hk8
    simp only at hx2 hn8 hg8 hm8
    subst hx2
    refine rx ?_
    (apply ret1; exact rfl; (conv => lhs; whnf))
    exact ⟨by simp [valV, hq], hFF⟩
  · rw [h1 hq] at hk8
    obtain ⟨hn8, hg8, hm8⟩ := hk8
    simp only [Bool.true_and] at hn8 hg8 hm8
    rcases hq2 : allT v with _ | _
    · rw [hq2] at hm8
      refine rx ?_
      (apply ret1; exact rfl; (conv => lhs; whnf))
      exact ⟨by simp [valV, hq, hq2], hFF⟩
    · rw [hq2] at hm8
      refine rx ?_
      refine s_gtr rfl rfl (fun h => ?_) (fun h => ?_)
      · refine rx ?_
        (apply ret1; exact rfl; (conv => lhs; whnf))
        have : ¬ vsz v ≤ 1024 := by omega
        exact ⟨by simp [valV, hq, hq2, this], hFF⟩
      · refine rx ?_
        (apply ret1; exact rfl; (conv => lhs; whnf))
        have : vsz v ≤ 1024 := by omega
        exact ⟨by simp [valV, hq, hq2, this], hFF⟩
end Go.Proofs.Ytpochcchekoonaa
