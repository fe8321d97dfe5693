/-
  Contracts of package clone: Value, Values; of the reference's Zero.
-/
import Derived.Test.YtpochcchekoonaaVg
namespace Go.Proofs.Ytpochcchekoonaa
open Go.Rf Go.RowKit
set_option linter.unusedVariables false
attribute [local irreducible] Code.wp wpList Exit.then Exit.inBlock bodyPost A Calls execOp Addr.add

theorem zeros_drop (z : List Value) (k : Nat) : (zeros z (k + 1)).drop z.length = zeros z k := by simp [zeros]
theorem fill_next {ys cs z : List Value} {i n m : Nat} (hy : ys.length = i * m) (hz : z.length = m) (hi : i < n) : (ys ++ zeros z (n - i)).take (i * m) ++ cs ++ (ys ++ zeros z (n - i)).drop (i * m + m) = ys ++ cs ++ zeros z (n - (i + 1)) := by
  have e : n - i = (n - (i + 1)) + 1 := by omega
  rw [← hy, List.take_left, List.drop_append, List.drop_eq_nil_of_le (by omega), e, List.nil_append, Nat.add_sub_cancel_left, ← hz, zeros_drop]

theorem cloneList (l : List V) (sl : Value) (w : World) (hl : VS w [] l sl)
    (H : ∀ x ∈ l, ∀ (sx : Value) (u : World), VS u [] x.kids sx → Calls Try.prog 53 #[.agg (vc x sx).toArray] u fun e u' => ∃ sx', e = .returned (.agg (vc x sx').toArray) ∧ (∀ S, (∀ k ∈ S, k < u.heap.size) → VS u' S x.kids sx') ∧ Fr [] u u') :
    Calls Try.prog 77 #[sl, .func (.func 53) #[] #[]] w fun e w' => ∃ sl', e = .returned sl' ∧ (∀ S, (∀ k ∈ S, k < w.heap.size) → VS w' S l sl') ∧ Fr [] w w' := by
  obtain ⟨ao, c, rfl, hc⟩ := hl.slice
  have hbd := hl.bound
  refine enter Try.func77 rfl Try.ntmps77 rfl ?_
  by_cases h0 : l.length = 0
  · refine rx ?_
    (apply ret1; exact rfl; (conv => lhs; whnf))
    have : l = [] := List.eq_nil_of_length_eq_zero h0
    subst this
    exact ⟨_, rfl, fun S _ => VS.nil _ _, Fr.refl _ _⟩
  refine rx ?_
  refine s_makeS (k := l.length) rfl rfl (by omega) (by unfold maxLen; omega) (fun w1 ho1 hf1 hs1 => ?_)
  refine rx ?_
  obtain ⟨N, hN⟩ : ∃ N, w.heap.size = N := ⟨_, rfl⟩
  rw [hN] at ho1 hs1 ⊢
  refine c_loopK 7 [6] (σ := Nat × List Value) (fun st g u => g 13 = .slice ao l.length c ∧ g 14 = .int .i64 l.length ∧ g 15 = .int .i64 st.1 ∧ st.1 ≤ l.length ∧ st.2.length = st.1 * 4 ∧
      Own u 37 4 (.slice (some ⟨N, 0, none⟩) l.length l.length) l.length (st.2 ++ zeros [.int .i64 0, .int .i64 0, .string .empty, .slice none 0 0] (l.length - st.1)) ∧ (∀ S, (∀ k ∈ S, k < N) → Rws (VR u (N :: S)) (l.take st.1) st.2) ∧ Fr [N] w1 u)
    (fun st => l.length - st.1) (0, []) ⟨rfl, rfl, rfl, Nat.zero_le _, rfl, ho1, fun S _ => by simpa using Rws.nil, Fr.refl _ _⟩ ?_
  rintro ⟨i, ys⟩ g u ⟨h13, h14, h15, hi, hys, hou, hru, hfu⟩
  simp only at h15 hi hys hou hru
  rw [eq_upd h13, eq_upd h14, eq_upd h15]
  have hF : Fr [] w u := hf1.trans hfu (by simp; omega)
  by_cases hlt : i < l.length
  case neg =>
    refine rx ?_
    (apply ret1; exact rfl; (conv => lhs; whnf))
    have ei : i = l.length := by omega
    subst ei
    rw [Nat.sub_self, show zeros [.int .i64 0, .int .i64 0, .string .empty, .slice none 0 0] 0 = [] from rfl, List.append_nil] at hou
    refine ⟨_, rfl, fun S hS => VS.of hbd hou.src (fun ad n c e hp hk => ?_) ?_, hF⟩
    · simp only [Value.slice.injEq, Option.some.injEq] at e
      have hb := congrArg Addr.block e.1
      have := hS _ hk
      simp only at hb
      omega
    · have := hru S hS
      rw [List.take_length] at this
      exact this.imp (fun x cs _ h => h.mono (fun k hk => .inl (by simp [hk])))
  obtain ⟨ad, cs, rfl, ⟨sx, rfl, hx⟩, hcx⟩ := (hl.tr0 hF).sl.at VR.len hlt
  refine rx ?_
  refine s_callV (first := []) (cap := []) (H l[i] (by simp) sx u hx) rfl rfl rfl ?_
  rintro _ u1 ⟨sx', rfl, hx', hf1'⟩
  refine ⟨_, rfl, ?_⟩
  have hou1 := hou.tr0 hf1'
  have hszu := hfu.size
  have hx0 : VS u1 [] l[i].kids sx' := hx' [] (by simp)
  refine rx ?_
  refine s_storeRowA (q := i * 4) (m := 4) (cs := vc l[i] sx') hou1 rfl rfl rfl rfl rfl (VR.mem1 l[i] _ ⟨sx', rfl, hx0⟩) (by omega) (fun u2 hou2 hf2 hs2 => ?_)
  rw [fill_next hys rfl hlt] at hou2
  have hblk : blks (.slice (some ⟨N, 0, none⟩) l.length l.length) = [N] := rfl
  rw [hblk] at hf2
  refine rx ?_
  refine q_roundK (i + 1, ys ++ vc l[i] sx') (by (repeat (first | exact Keep.mrg _ _ _ _ | (refine Keep.hi rfl ?_) | (refine Keep.one rfl ?_) | exact Keep.all rfl | (refine Keep.inn rfl ?_) | (refine Keep.set rfl ?_)))) ⟨rfl, rfl, rfl, by simp only; omega, by simp [hys, vc]; omega, hou2, fun S hS => ?_, (hfu.trans0 hf1').trans hf2 (by simp)⟩ (by simp only; omega)
  simp only
  rw [List.take_succ_eq_append_getElem hlt]
  refine Rws.app ((hru S hS).imp (fun x cs _ h => (h.old hf1' (by simp)).tr (hf2.mono (by simp)))) (Rws.one ⟨sx', rfl, ?_⟩)
  refine (hx' (N :: S) ?_).tr (hf2.mono (by simp))
  intro k hk
  rcases List.mem_cons.1 hk with rfl | hk
  · omega
  · have := hS k hk; omega

theorem cloneValue (v : V) (sl : Value) (w : World) (hv : VS w [] v.kids sl) : Calls Try.prog 53 #[.agg (vc v sl).toArray] w fun e w' => ∃ sl', e = .returned (.agg (vc v sl').toArray) ∧ (∀ S, (∀ k ∈ S, k < w.heap.size) → VS w' S v.kids sl') ∧ Fr [] w w' := by
  refine enter Try.func53 rfl Try.ntmps53 rfl ?_
  refine rx ?_
  refine s_box rfl rfl (fun w1 hb1 hf1 hs1 => ?_)
  refine s_alloc rfl (fun w2 hb2 hf2 hs2 => ?_)
  have hb1' := hb1.tr0 hf2
  have hF2 := hf1.trans0 hf2
  refine rx ?_
  refine s_call (cloneList v.kids sl w2 (hv.tr0 hF2) (fun x hx sx u h => cloneValue x sx u h)) rfl ?_
  rintro _ w3 ⟨sl', rfl, hsl, hf3⟩
  refine ⟨_, rfl, ?_⟩
  have hb3 := hb1'.tr0 hf3
  have hb4 := hb2.tr0 hf3
  have h0 : VS w3 [] v.kids sl' := hsl [] (by simp)
  refine rx ?_
  ((with_reducible apply s_storeB); exact rfl; (conv => lhs; whnf); exact h0.one; exact hb3; exact rfl)
  intro w4 hb5 hf4 hs4
  have hb6 := hb4.tr hf4 (by simp; omega)
  refine rx ?_
  refine s_storeAggB rfl rfl hb6 (VR.mem1 v _ ⟨sl', rfl, h0⟩) rfl rfl (fun w5 hb7 hf5 hs5 => ?_)
  have hs3 := hf3.size
  have hb7' : Blk w5 w1.heap.size (vc v sl') 37 := hb7
  refine rx ?_
  refine retc rfl rfl (AggT.load _ (vc v sl') rfl (fun j x hx => by rw [add_lit]; exact hb7'.cell (by simpa using hx))) ⟨sl', rfl, fun S hS => ?_, ?_⟩
  · have h1 := hsl (S ++ [w.heap.size, w1.heap.size]) (by
      intro k hk
      rcases List.mem_append.1 hk with h | h
      · have := hS k h; omega
      · simp at h; omega)
    exact ((h1.tr (hf4.mono (by simp))).tr (hf5.mono (by simp))).mono (fun k hk => .inl (by simp [hk]))
  · exact ((hF2.trans0 hf3).trans hf4 (by simp)).trans hf5 (by simp; omega)
termination_by SizeOf.sizeOf v
decreasing_by
  have h1 := List.sizeOf_lt_of_mem hx
  have h2 : SizeOf.sizeOf v.kids < SizeOf.sizeOf v := by cases v; simp; omega
  omega


def zeroV (v : V) : Bool := decide (v.kind = 0 ∧ v.n = 0 ∧ v.s = ⟨#[]⟩ ∧ v.kids.length = 0)
end Go.Proofs.Ytpochcchekoonaa
