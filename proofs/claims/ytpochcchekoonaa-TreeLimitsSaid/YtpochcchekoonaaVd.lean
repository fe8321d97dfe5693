/-
  Contracts of package values: visit, Valid; of the reference's Valid.
-/
import Derived.Test.YtpochcchekoonaaVc
namespace Go.Proofs.Ytpochcchekoonaa
open Go.Rf Go.RowKit
set_option linter.unusedVariables false
attribute [local irreducible] Code.wp wpList Exit.then Exit.inBlock bodyPost A Calls execOp Addr.add

mutual
def vsz : V → Nat
  | ⟨_, _, _, ks⟩ => 1 + vszs ks
def vszs : List V → Nat
  | [] => 0
  | v :: l => vsz v + vszs l
end
theorem vsz_eq (v : V) : vsz v = 1 + vszs v.kids := by cases v; rfl
theorem vszs_mem {v : V} {l : List V} (h : v ∈ l) : vsz v ≤ vszs l := by
  induction l with
  | nil => simp at h
  | cons x l ih =>
    simp only [vszs]
    rcases List.mem_cons.1 h with rfl | h
    · omega
    · have := ih h; omega
/-- the names in a value are short enough -/
inductive VNm : V → Prop
  | mk {v : V} : v.s.size ≤ 1000000000000 → (∀ x ∈ v.kids, VNm x) → VNm v
theorem VNm.s {v : V} (h : VNm v) : v.s.size ≤ 1000000000000 := by cases h; assumption
theorem VNm.kids {v : V} (h : VNm v) : ∀ x ∈ v.kids, VNm x := by cases h; assumption

section
variable {σ : Type} (f : σ → V → Int → σ × Bool)
mutual
def walkV : σ → V → Int → σ × Bool
  | s, ⟨k, n, t, ks⟩, d => match f s ⟨k, n, t, ks⟩ d with
    | (s1, true) => walkVs s1 ks (d + 1)
    | (s1, false) => (s1, false)
def walkVs : σ → List V → Int → σ × Bool
  | s, [], _ => (s, true)
  | s, v :: l, d => match walkV s v d with
    | (s1, true) => walkVs s1 l d
    | (s1, false) => (s1, false)
end
theorem walkV_eq (s : σ) (v : V) (d : Int) : walkV f s v d = match f s v d with
    | (s1, true) => walkVs f s1 v.kids (d + 1)
    | (s1, false) => (s1, false) := by cases v; simp only [walkV]
end

theorem visit1 {σ : Type} (f : σ → V → Int → σ × Bool) (S : List Nat) (K : World → σ → Prop) (kf : Nat) (cap : List Value) [FnT Try.prog kf]
    (hK : ∀ u u' s, K u s → Fr [] u u' → K u' s) (hKS : ∀ u s, K u s → ∀ k ∈ S, k < u.heap.size)
    (H : ∀ v sl d u s, K u s → VS u S v.kids sl → VNm v → Calls Try.prog kf ([Value.agg (vc v sl).toArray, Value.int .i64 d] ++ cap).toArray u fun e u' => e = .returned (.bool (f s v d).2) ∧ K u' (f s v d).1 ∧ Fr S u u')
    (b2 b3 : Nat) (h2S : b2 ∉ S) (h3S : b3 ∉ S)
    (v : V) (sl : Value) (d : Int) (s : σ) (w : World) (hv : VS w S v.kids sl) (hn : VNm v) (hk : K w s) (hd : 0 ≤ d) (hd2 : d + vsz v ≤ 1000000000000000)
    (hb2 : Blk w b2 [.func (.func kf) #[] cap.toArray] 94) (hb3 : Blk w b3 [.func (.func 85) #[] #[.pointer (some ⟨b2, 0, none⟩), .pointer (some ⟨b3, 0, none⟩)]] 94) :
    Calls Try.prog 85 #[.agg (vc v sl).toArray, .int .i64 d, .pointer (some ⟨b2, 0, none⟩), .pointer (some ⟨b3, 0, none⟩)] w fun e w' => e = .returned (.bool (walkV f s v d).2) ∧ K w' (walkV f s v d).1 ∧ Fr S w w' := by
  obtain ⟨ao, c, rfl, hc⟩ := hv.slice
  have hbd := hv.bound
  have hsz := vsz_eq v
  refine enter Try.func85 rfl Try.ntmps85 rfl ?_
  refine rx ?_
  refine s_box rfl rfl (fun w1 hb1 hf1 hs1 => ?_)
  have hk1 := hK _ _ _ hk hf1
  have hKw := hKS _ _ hk
  have hb2' := hb2.tr0 hf1
  have hb3' := hb3.tr0 hf1
  have hNS : w.heap.size ∉ S := fun h => by have := hKw _ h; omega
  refine rx ?_
  refine s_callV (first := []) (cap := cap) (H v _ d w1 s hk1 (hv.tr0 hf1) hn) rfl rfl rfl ?_
  rintro _ w2 ⟨rfl, hk2, hf2⟩
  refine ⟨_, rfl, ?_⟩
  rw [walkV_eq]
  rcases hq : f s v d with ⟨s1, _ | _⟩
  · rw [hq] at hk2
    refine rx ?_
    (apply ret1; exact rfl; (conv => lhs; whnf))
    exact ⟨rfl, hk2, (hf1.mono (by simp)).trans hf2 (fun k h => .inl h)⟩
  rw [hq] at hk2
  simp only at hk2 ⊢
  have hb1'' := hb1.tr hf2 hNS
  have hb2'' := hb2'.tr hf2 h2S
  have hb3'' := hb3'.tr hf2 h3S
  have hF2 : Fr S w w2 := (hf1.mono (by simp)).trans hf2 (fun k h => .inl h)
  have hv2 : VS w2 S v.kids (.slice ao v.kids.length c) := (hv.tr0 hf1).tr hf2
  refine rx ?_
  refine c_loopK 9 [8] (σ := Nat × σ) (fun st g u => g 15 = .slice ao v.kids.length c ∧ g 16 = .int .i64 v.kids.length ∧ g 17 = .int .i64 st.1 ∧ st.1 ≤ v.kids.length ∧ walkVs f s1 v.kids (d + 1) = walkVs f st.2 (v.kids.drop st.1) (d + 1) ∧ K u st.2 ∧ Fr S w2 u)
    (fun st => v.kids.length - st.1) (0, s1) ⟨rfl, rfl, rfl, Nat.zero_le _, rfl, hk2, Fr.refl _ _⟩ ?_
  rintro ⟨i, s2⟩ g u ⟨h15, h16, h17, hi, hw, hku, hfu⟩
  simp only at h17 hi hw hku
  rw [eq_upd h15, eq_upd h16, eq_upd h17]
  by_cases hlt : i < v.kids.length
  case neg =>
    refine rx ?_
    (apply ret1; exact rfl; (conv => lhs; whnf))
    rw [hw, List.drop_eq_nil_of_le (by omega)]
    exact ⟨rfl, hku, hF2.trans hfu (fun k h => .inl h)⟩
  have hvu := hv2.tr hfu
  obtain ⟨ad, cs, rfl, ⟨sx, rfl, hx⟩, hcx⟩ := hvu.sl.at VR.len hlt
  have hbu2 := hb2''.tr hfu h2S
  have hbu3 := hb3''.tr hfu h3S
  refine rx ?_
  refine s_alloc rfl (fun u1 hb1 hf1' hs1' => ?_)
  refine s_storeAggB rfl rfl hb1 (VR.mem1 v.kids[i] _ ⟨sx, rfl, hx⟩) rfl rfl (fun u2 hbx hf2' hs2' => ?_)
  have hFu : Fr [] u u2 := hf1'.trans hf2' (by simp)
  have hku2 := hK _ _ _ hku hFu
  have hbu2' := hbu2.tr0 hFu
  have hbu3' := hbu3.tr0 hFu
  have hmem : v.kids[i] ∈ v.kids := by simp
  have hle := vszs_mem hmem
  refine rx ?_
  refine s_callV (first := []) (cap := [.pointer (some ⟨b2, 0, none⟩), .pointer (some ⟨b3, 0, none⟩)]) (visit1 f S K kf cap hK hKS H b2 b3 h2S h3S v.kids[i] sx (d + 1) s2 u2 (hx.tr0 hFu) (hn.kids _ hmem) hku2 (by omega) (by omega) hbu2' hbu3') rfl rfl rfl ?_
  rintro _ u3 ⟨rfl, hk3, hf3⟩
  refine ⟨_, rfl, ?_⟩
  rw [List.drop_eq_getElem_cons hlt, walkVs] at hw
  have hF3 : Fr S w2 u3 := (hfu.trans (hFu.mono (by simp)) (fun k h => .inl h)).trans hf3 (fun k h => .inl h)
  rcases hq3 : walkV f s2 v.kids[i] (d + 1) with ⟨s3, _ | _⟩
  · rw [hq3] at hk3 hw
    refine rx ?_
    (apply ret1; exact rfl; (conv => lhs; whnf))
    rw [hw]
    exact ⟨rfl, hk3, hF2.trans hF3 (fun k h => .inl h)⟩
  · rw [hq3] at hk3 hw
    refine rx ?_
    exact q_roundK (i + 1, s3) (by (repeat (first | exact Keep.mrg _ _ _ _ | (refine Keep.hi rfl ?_) | (refine Keep.one rfl ?_) | exact Keep.all rfl | (refine Keep.inn rfl ?_) | (refine Keep.set rfl ?_)))) ⟨rfl, rfl, rfl, by simp only; omega, hw, hk3, hF3⟩ (by simp only; omega)
termination_by SizeOf.sizeOf v
decreasing_by
  have h1 : SizeOf.sizeOf v.kids[i] < SizeOf.sizeOf v.kids := List.sizeOf_get _ ⟨i, hlt⟩
  have h2 : SizeOf.sizeOf v.kids < SizeOf.sizeOf v := by cases v; simp; omega
  omega

theorem visit {σ : Type} (f : σ → V → Int → σ × Bool) (S : List Nat) (K : World → σ → Prop) (kf : Nat) (cap : List Value) [FnT Try.prog kf]
    (hK : ∀ u u' s, K u s → Fr [] u u' → K u' s) (hKS : ∀ u s, K u s → ∀ k ∈ S, k < u.heap.size)
    (H : ∀ v sl d u s, K u s → VS u S v.kids sl → VNm v → Calls Try.prog kf ([Value.agg (vc v sl).toArray, Value.int .i64 d] ++ cap).toArray u fun e u' => e = .returned (.bool (f s v d).2) ∧ K u' (f s v d).1 ∧ Fr S u u')
    (v : V) (sl : Value) (s : σ) (w : World) (hv : VS w S v.kids sl) (hn : VNm v) (hk : K w s) (hd2 : vsz v ≤ 10000000000000) :
    Calls Try.prog 57 #[.agg (vc v sl).toArray, .func (.func kf) #[] cap.toArray] w fun e w' => e = .returned (.tuple #[]) ∧ K w' (walkV f s v 1).1 ∧ Fr S w w' := by
  refine enter Try.func57 rfl Try.ntmps57 rfl ?_
  refine rx ?_
  refine s_box rfl rfl (fun w1 hb1 hf1 hs1 => ?_)
  refine s_box (l := [.func (.func kf) #[] cap.toArray]) rfl rfl (fun w2 hb2 hf2 hs2 => ?_)
  refine rx ?_
  refine s_alloc rfl (fun w3 hb3 hf3 hs3 => ?_)
  refine rx ?_
  refine s_makeFunc (a := []) (b := [.pointer (some ⟨w1.heap.size, 0, none⟩), .pointer (some ⟨w2.heap.size, 0, none⟩)]) rfl rfl ?_
  ((with_reducible apply s_storeB); exact rfl; (conv => lhs; whnf); exact rfl; exact hb3; exact rfl)
  intro w4 hb4 hf4 hs4
  have hF : Fr [] w w4 := ((hf1.trans0 hf2).trans0 hf3).trans hf4 (by simp; omega)
  have hKw := hKS _ _ hk
  have hb1' : Blk w4 w.heap.size (vc v sl) 37 := ((hb1.tr0 hf2).tr0 hf3).tr hf4 (by simp; omega)
  have hb2' : Blk w4 w1.heap.size [.func (.func kf) #[] cap.toArray] 94 := (hb2.tr0 hf3).tr hf4 (by simp; omega)
  refine rx ?_
  refine s_callV (first := []) (cap := [.pointer (some ⟨w1.heap.size, 0, none⟩), .pointer (some ⟨w2.heap.size, 0, none⟩)]) (visit1 f S K kf cap hK hKS H w1.heap.size w2.heap.size (fun h => by have := hKw _ h; omega) (fun h => by have := hKw _ h; omega) v sl 1 s w4 (hv.tr0 hF) hn (hK _ _ _ hk hF) (by omega) (by omega) hb2' hb4) rfl rfl rfl ?_
  rintro _ w5 ⟨rfl, hk5, hf5⟩
  refine ⟨_, rfl, ?_⟩
  refine rx ?_
  exact end0 rfl ⟨rfl, hk5, (hF.mono (by simp)).trans hf5 (fun k h => .inl h)⟩
end Go.Proofs.Ytpochcchekoonaa
