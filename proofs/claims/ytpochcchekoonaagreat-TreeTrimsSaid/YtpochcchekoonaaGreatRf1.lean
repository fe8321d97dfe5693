/-
  Contracts of the reference's small functions (refuterref01).
-/
import Derived.Test.YtpochcchekoonaaGreatWr
namespace Go.Proofs.YtpochcchekoonaaGreat
open Go.Rf Go.RowKit
attribute [local irreducible] Code.wp wpList Exit.then Exit.inBlock bodyPost A Calls execOp Addr.add

theorem few (x : Value) (bs : List Int) (m : Nat) (w : World) (hx : Src w x bs.length (bs.map (.int .u8))) (hm : m ≤ 1000000) :
    Calls Tryz.prog 26 #[x, .int .i64 m] w fun e w' => ∃ v', e = .returned v' ∧ Own w' 5 1 v' (bs.take m).length ((bs.take m).map (.int .u8)) ∧ Fr [] w w' ∧ (∀ k ∈ blks v', w.heap.size ≤ k) := by
  obtain ⟨ao, c, hxe, hlc, hnil, hcells⟩ := id hx
  subst hxe
  refine enter Tryz.func26 rfl Tryz.ntmps26 rfl ?_
  refine rn ?_
  refine s_min rfl rfl (show _ = ((min m bs.length : Nat) : Int) by split <;> omega) ?_
  refine s_cut 0 (min m bs.length) hx rfl (by simp) rfl ⟨_, rfl⟩ (Nat.zero_le _) (by omega) (fun ao' c' hcut _ _ => ?_)
  simp only [Nat.mul_one, Nat.sub_zero, List.drop_zero, ← List.map_take] at hcut ⊢
  refine s_append (Own.nil _ _ _) rfl hcut rfl (by simp) (ints_one _ _) (by unfold maxLen; omega) (by omega) (fun v2 w2 ho2 hf2 hk2 hn2 => ?_)
  refine rn ?_
  (apply ret1; exact rfl; (conv => lhs; whnf))
  have e : bs.take (min m bs.length) = bs.take m := by
    rcases Nat.le_total m bs.length with h | h
    · rw [Nat.min_eq_left h]
    · rw [Nat.min_eq_right h, List.take_length, List.take_of_length_le h]
  refine ⟨v2, rfl, ?_, ?_, ?_⟩
  · have e2 : (bs.take m).length = 0 + min m bs.length := by simp
    rw [e2, ← e]; simpa using ho2
  · exact hf2.mono (fun x hx => by simp [blks, Value.ownBlock] at hx)
  · intro k hk
    rcases hk2 k hk with h | h
    · simp [blks, Value.ownBlock] at h
    · exact h


theorem take_snoc_eq {xs ys : List Int} {i : Nat} (h : xs.take i = ys.take i) (hi : i < xs.length) (hj : i < ys.length) (e : xs[i] = ys[i]) : xs.take (i + 1) = ys.take (i + 1) := by
  rw [List.take_succ_eq_append_getElem hi, List.take_succ_eq_append_getElem hj, h, e]

theorem sameBytes (x y : Value) (xs ys : List Int) (w : World) (hx : Src w x xs.length (xs.map (.int .u8))) (hy : Src w y ys.length (ys.map (.int .u8))) (hl : xs.length ≤ 1000000000000) :
    Calls Tryz.prog 22 #[x, y] w fun e w' => e = .returned (.bool (decide (xs = ys))) ∧ Fr [] w w' := by
  obtain ⟨ao, c, hxe, _⟩ := id hx
  obtain ⟨bo, c2, hye, _⟩ := id hy
  subst hxe hye
  refine enter Tryz.func22 rfl Tryz.ntmps22 rfl ?_
  refine rn ?_
  refine s_neq rfl rfl (fun h => ?_) (fun h => ?_)
  · refine rn ?_
    (apply ret1; exact rfl; (conv => lhs; whnf))
    refine ⟨?_, Fr.refl _ _⟩
    rw [decide_eq_false]
    intro e; subst e; exact h rfl
  · refine rn ?_
    have hlen : xs.length = ys.length := by omega
    refine c_loop (σ := Nat) (fun i g u => g 0 = .slice ao xs.length c ∧ g 1 = .slice bo ys.length c2 ∧ g 5 = .int .i64 i ∧ i ≤ xs.length ∧ xs.take i = ys.take i ∧ Fr [] w u)
      (fun i => xs.length - i) 0 ⟨rfl, rfl, rfl, Nat.zero_le _, rfl, Fr.refl _ _⟩ ?_
    rintro i g u ⟨h0, h1, h5, hi, htk, hfr⟩
    rw [eq_upd h0, eq_upd h1, eq_upd h5]
    refine rn ?_
    refine s_lss rfl rfl (fun hlt => ?_) (fun hge => ?_)
    · have hi1 : i < xs.length := by omega
      have hi2 : i < ys.length := by omega
      obtain ⟨ad, rfl, hca⟩ := src_at (j := i) (u := .int .u8 xs[i]) hx (by simp [hi1])
      obtain ⟨bd, rfl, hcb⟩ := src_at (j := i) (u := .int .u8 ys[i]) hy (by simp [hi2])
      have ha := fun (z : World) (hz : Fr [] u z) => src_cell (hx.tr0 (hfr.trans0 hz)) (j := i) (u := .int .u8 xs[i]) (by simp [hi1])
      have hb := fun (z : World) (hz : Fr [] u z) => src_cell (hy.tr0 (hfr.trans0 hz)) (j := i) (u := .int .u8 ys[i]) (by simp [hi2])
      refine rn ?_
      (refine d_begin (fun z => Fr [] u z) (by kernel_rfl) rfl ?_)
      have hS : Fr [] u u.drew := Fr.drew _ _
      (refine d_tk 0 hS ?_)
      (refine d_tk 1 hS ?_)
      (apply d_take (i := 2); exact rfl; kernel_rfl; kernel_rfl; kernel_rfl; (intro u hu; exact r_index1 rfl rfl rfl hi1 rfl); exact hS)
      (apply d_take (i := 3); exact rfl; kernel_rfl; kernel_rfl; kernel_rfl; (intro u hu; exact r_load rfl (ha _ hu)); exact hS)
      (refine d_tk 4 hS ?_)
      (refine d_tk 5 hS ?_)
      (apply d_take (i := 6); exact rfl; kernel_rfl; kernel_rfl; kernel_rfl; (intro u hu; exact r_index1 rfl rfl rfl hi2 rfl); exact hS)
      (apply d_take (i := 7); exact rfl; kernel_rfl; kernel_rfl; kernel_rfl; (intro u hu; exact r_load rfl (hb _ hu)); exact hS)
      by_cases he : xs[i] = ys[i]
      · (apply d_take (i := 8); exact rfl; kernel_rfl; kernel_rfl; kernel_rfl; (intro u hu; exact r_neq rfl rfl (decide_eq_false (by simpa using he))); exact hS)
        (refine d_done (by kernel_rfl) ?_)
        refine rn ?_
        exact q_round (i + 1) ⟨rfl, rfl, rfl, by omega, take_snoc_eq htk hi1 hi2 he, hfr.trans0 hS⟩ (by omega)
      · (apply d_take (i := 8); exact rfl; kernel_rfl; kernel_rfl; kernel_rfl; (intro u hu; exact r_neq rfl rfl (decide_eq_true he)); exact hS)
        (refine d_done (by kernel_rfl) ?_)
        refine rn ?_
        (apply ret1; exact rfl; (conv => lhs; whnf))
        refine ⟨?_, hfr.trans0 hS⟩
        rw [decide_eq_false]
        intro e; subst e; exact he rfl
    · refine rn ?_
      (apply ret1; exact rfl; (conv => lhs; whnf))
      refine ⟨?_, hfr⟩
      rw [decide_eq_true]
      have h1 : xs.take i = xs := List.take_of_length_le (by omega)
      have h2 : ys.take i = ys := List.take_of_length_le (by omega)
      rw [← h1, ← h2, htk]
theorem sameInts (x y : Value) (xs ys : List Int) (w : World) (hx : Src w x xs.length (xs.map (.int .i64))) (hy : Src w y ys.length (ys.map (.int .i64))) (hl : xs.length ≤ 1000000000000) :
    Calls Tryz.prog 15 #[x, y] w fun e w' => e = .returned (.bool (decide (xs = ys))) ∧ Fr [] w w' := by
  obtain ⟨ao, c, hxe, _⟩ := id hx
  obtain ⟨bo, c2, hye, _⟩ := id hy
  subst hxe hye
  refine enter Tryz.func15 rfl Tryz.ntmps15 rfl ?_
  refine rn ?_
  refine s_neq rfl rfl (fun h => ?_) (fun h => ?_)
  · refine rn ?_
    (apply ret1; exact rfl; (conv => lhs; whnf))
    refine ⟨?_, Fr.refl _ _⟩
    rw [decide_eq_false]
    intro e; subst e; exact h rfl
  · refine rn ?_
    have hlen : xs.length = ys.length := by omega
    refine c_loop (σ := Nat) (fun i g u => g 0 = .slice ao xs.length c ∧ g 1 = .slice bo ys.length c2 ∧ g 5 = .int .i64 i ∧ i ≤ xs.length ∧ xs.take i = ys.take i ∧ Fr [] w u)
      (fun i => xs.length - i) 0 ⟨rfl, rfl, rfl, Nat.zero_le _, rfl, Fr.refl _ _⟩ ?_
    rintro i g u ⟨h0, h1, h5, hi, htk, hfr⟩
    rw [eq_upd h0, eq_upd h1, eq_upd h5]
    refine rn ?_
    refine s_lss rfl rfl (fun hlt => ?_) (fun hge => ?_)
    · have hi1 : i < xs.length := by omega
      have hi2 : i < ys.length := by omega
      obtain ⟨ad, rfl, hca⟩ := src_at (j := i) (u := .int .i64 xs[i]) hx (by simp [hi1])
      obtain ⟨bd, rfl, hcb⟩ := src_at (j := i) (u := .int .i64 ys[i]) hy (by simp [hi2])
      have ha := fun (z : World) (hz : Fr [] u z) => src_cell (hx.tr0 (hfr.trans0 hz)) (j := i) (u := .int .i64 xs[i]) (by simp [hi1])
      have hb := fun (z : World) (hz : Fr [] u z) => src_cell (hy.tr0 (hfr.trans0 hz)) (j := i) (u := .int .i64 ys[i]) (by simp [hi2])
      refine rn ?_
      (refine d_begin (fun z => Fr [] u z) (by kernel_rfl) rfl ?_)
      have hS : Fr [] u u.drew := Fr.drew _ _
      (refine d_tk 0 hS ?_)
      (refine d_tk 1 hS ?_)
      (apply d_take (i := 2); exact rfl; kernel_rfl; kernel_rfl; kernel_rfl; (intro u hu; exact r_index1 rfl rfl rfl hi1 rfl); exact hS)
      (apply d_take (i := 3); exact rfl; kernel_rfl; kernel_rfl; kernel_rfl; (intro u hu; exact r_load rfl (ha _ hu)); exact hS)
      (refine d_tk 4 hS ?_)
      (refine d_tk 5 hS ?_)
      (apply d_take (i := 6); exact rfl; kernel_rfl; kernel_rfl; kernel_rfl; (intro u hu; exact r_index1 rfl rfl rfl hi2 rfl); exact hS)
      (apply d_take (i := 7); exact rfl; kernel_rfl; kernel_rfl; kernel_rfl; (intro u hu; exact r_load rfl (hb _ hu)); exact hS)
      by_cases he : xs[i] = ys[i]
      · (apply d_take (i := 8); exact rfl; kernel_rfl; kernel_rfl; kernel_rfl; (intro u hu; exact r_neq rfl rfl (decide_eq_false (by simpa using he))); exact hS)
        (refine d_done (by kernel_rfl) ?_)
        refine rn ?_
        exact q_round (i + 1) ⟨rfl, rfl, rfl, by omega, take_snoc_eq htk hi1 hi2 he, hfr.trans0 hS⟩ (by omega)
      · (apply d_take (i := 8); exact rfl; kernel_rfl; kernel_rfl; kernel_rfl; (intro u hu; exact r_neq rfl rfl (decide_eq_true he)); exact hS)
        (refine d_done (by kernel_rfl) ?_)
        refine rn ?_
        (apply ret1; exact rfl; (conv => lhs; whnf))
        refine ⟨?_, hfr.trans0 hS⟩
        rw [decide_eq_false]
        intro e; subst e; exact he rfl
    · refine rn ?_
      (apply ret1; exact rfl; (conv => lhs; whnf))
      refine ⟨?_, hfr⟩
      rw [decide_eq_true]
      have h1 : xs.take i = xs := List.take_of_length_le (by omega)
      have h2 : ys.take i = ys := List.take_of_length_le (by omega)
      rw [← h1, ← h2, htk]
end Go.Proofs.YtpochcchekoonaaGreat
