/-
  The generator Raw; for every input TreeValid returns true.
-/
import Derived.Test.YtpochcchekoonaaOe
namespace Go.Proofs.Ytpochcchekoonaa
open Go.Rf Go.RowKit
set_option linter.unusedVariables false
set_option linter.unusedSimpArgs false
def rawN (l : List Int) (n : Nat) : List Int := (List.range n).map fun (i : Nat) => pk l (i : Int) 9 - pk l ((i : Int) + 1) 20 / 19
theorem rawN_succ (l : List Int) (n : Nat) : rawN l (n + 1) = rawN l n ++ [pk l n 9 - pk l (n + 1) 20 / 19] := by
  unfold rawN
  rw [List.range_succ, List.map_append]; rfl
theorem rawN_len (l : List Int) (n : Nat) : (rawN l n).length = n := by simp [rawN]
theorem rawN_in {l : List Int} {n : Nat} : ∀ x ∈ rawN l n, -1 ≤ x ∧ x ≤ 8 := fun x hx => by
  obtain ⟨i, _, rfl⟩ := List.mem_map.1 hx
  have h1 := pk_range (l := l) (i := i) (m := 9) (by omega)
  have h2 := pk_range (l := l) (i := (i : Int) + 1) (m := 20) (by omega)
  omega
attribute [local irreducible] Code.wp wpList Exit.then Exit.inBlock bodyPost A Calls execOp Addr.add
theorem rawP (l : List Int) (hl : ∀ n ∈ l, InI64 n) (x : Value) (n : Nat) (hn : n ≤ 1000) (u : World) (hx : Src u x l.length (l.map (.int .i64))) :
    Calls Try.prog 18 #[x, .int .i64 n] u fun e u' => ∃ v, e = .returned v ∧ Own u' 3 1 v n ((rawN l n).map (.int .i64)) ∧ (∀ b ∈ blks v, u.heap.size ≤ b) ∧ Fr [] u u' := by
  obtain ⟨ax, cx, rfl, _⟩ := id hx
  refine enter Try.func18 rfl Try.ntmps18 rfl ?_
  refine rx ?_
  refine c_loopK 7 [5, 6] (σ := Nat × Value) (fun s g z => g 5 = s.2 ∧ g 6 = .int .i64 (s.1 : Nat) ∧ s.1 ≤ n ∧ Own z 3 1 s.2 s.1 ((rawN l s.1).map (.int .i64)) ∧ (∀ b ∈ blks s.2, u.heap.size ≤ b) ∧ Fr [] u z) (fun s => n - s.1) (0, .slice none 0 0) ⟨rfl, rfl, Nat.zero_le _, Own.nil _ _ _, by simp [blks, Value.ownBlock], Fr.refl _ _⟩ ?_
  rintro ⟨i, v⟩ g z ⟨h5, h6, hi, ho, hk, hf⟩
  simp only at h5 h6 hi ho hk
  obtain ⟨a, c, rfl⟩ := ho.slice
  rw [eq_upd h5, eq_upd h6]
  by_cases hlt : i < n
  case neg =>
    have e : i = n := by omega
    subst e
    refine rx ?_
    (apply ret1; exact rfl; (conv => lhs; whnf))
    exact ⟨_, rfl, ho, hk, hf⟩
  have hxz := hx.tr0 hf
  refine rx ?_
  refine s_call (pick _ l i 9 z hxz hl (by omega)) rfl ?_
  rintro _ _ ⟨rfl, rfl⟩
  refine ⟨_, rfl, ?_⟩
  have h1 := pk_range (l := l) (i := i) (m := 9) (by omega)
  refine rx ?_
  refine s_call (pick _ l (i + 1) 20 z hxz hl (by omega)) rfl ?_
  rintro _ _ ⟨rfl, rfl⟩
  refine ⟨_, rfl, ?_⟩
  have h2 := pk_range (l := l) (i := (i : Int) + 1) (m := 20) (by omega)
  have hs := rawN_succ l i
  generalize pk l i 9 = p1 at h1 hs
  generalize pk l ((i : Int) + 1) 20 = p2 at h2 hs
  refine rx ?_
  ((with_reducible apply s_build1); (conv => lhs; whnf); exact rfl)
  intro z1 hs1 hf1 hz1
  refine s_append (ho.tr0 hf1) rfl hs1.src rfl rfl (by simp [Value.oneCell']) (by unfold maxLen; omega) (by omega) (fun v' z2 ho2 hf2 hk2 _ => ?_)
  refine rx ?_
  refine q_roundK (i + 1, v') (by (repeat (first | exact Keep.mrg _ _ _ _ | (refine Keep.hi rfl ?_) | (refine Keep.one rfl ?_) | exact Keep.all rfl | (refine Keep.inn rfl ?_) | (refine Keep.set rfl ?_)))) ⟨rfl, rfl, by simp only; omega, by simp only; rw [hs]; simpa using ho2, fun b hb => ?_, (hf.trans0 hf1).trans hf2 (fun b hb => .inr (hk b hb))⟩ (by simp only; omega)
  rcases hk2 b hb with h | h
  · exact hk b h
  · have := hf.size; omega
/-- trees, each one cell -/
def TrR (w : World) (t : List Nd) (cs : List Value) : Prop := ∃ sn, cs = [sn] ∧ NS w [] t sn
theorem quo7 {a : Int} (h : InI64 a) : IntKind.i64.wrap (a.tdiv 7) = a.tdiv 7 ∧ InI64 (a.tdiv 7) := by
  have h1 : InI64 (a.tdiv 7) := by
    unfold InI64 at *
    rcases Int.le_total 0 a with h0 | h0
    · rw [Int.tdiv_eq_ediv_of_nonneg h0]; omega
    · have e : a = -(-a) := by omega
      rw [e, Int.neg_tdiv, Int.tdiv_eq_ediv_of_nonneg (by omega)]; omega
  exact ⟨IntWalk.i64_in _ (by unfold InI64 at h1; omega), h1⟩
set_option maxHeartbeats 8000000 in
theorem treeValid_walk (x : Value) (l : List Int) (a h n k : Int) (u : World) (hx : Src u x l.length (l.map (.int .i64))) (hl : ∀ n ∈ l, InI64 n) (ha : InI64 a) (hh : InI64 h) (hn : InI64 n) (hk : InI64 k) :
    Calls Try.prog 3 #[x, .int .i64 a, .int .i64 h, .int .i64 n, .int .i64 k] u fun e u' => e = .returned (.bool true) ∧ Fr [] u u' := by
  obtain ⟨ax, cx, rfl, _⟩ := id hx
  refine enter Try.func3 rfl Try.ntmps3 rfl ?_
  refine rx ?_
  refine s_call (treeP l hl _ u hx) rfl ?_
  rintro _ u1 ⟨t, sn, rfl, hns, hval, hg, hlen, hf1⟩
  refine ⟨_, rfl, ?_⟩
  refine s_alloc rfl (fun u2 hb2 hf2 hs2 => ?_)
  refine s_storeAggB (cs := [sn]) rfl rfl hb2 (fun c hc => by simp at hc; subst hc; exact Sl.one hns) rfl rfl (fun u3 hb3 hf3 hs3 => ?_)
  obtain ⟨tb, htb⟩ : ∃ y, y = u1.heap.size := ⟨_, rfl⟩
  rw [← htb] at hb3 hf3 ⊢
  have hf13 : Fr [] u1 u3 := hf2.trans hf3 (by simp; omega)
  have hn3 := hns.tr0 hf13
  refine rx ?_
  refine s_call (spoiltT t 0 (by omega) hg (by omega) a h n ha hh hn sn u3 hn3) rfl ?_
  rintro _ u4 ⟨tx, sx, rfl, hnx, hlx, hgx, hf4⟩
  refine ⟨_, rfl, ?_⟩
  refine s_alloc rfl (fun u5 hb5 hf5 hs5 => ?_)
  refine s_storeAggB (cs := [sx]) rfl rfl hb5 (fun c hc => by simp at hc; subst hc; exact Sl.one hnx) rfl rfl (fun u6 hb6 hf6 hs6 => ?_)
  obtain ⟨xb, hxb⟩ : ∃ y, y = u4.heap.size := ⟨_, rfl⟩
  rw [← hxb] at hb6 hf6 ⊢
  have hf46 : Fr [] u4 u6 := hf5.trans hf6 (by simp; omega)
  have hb36 := (hb3.tr0 hf4).tr0 hf46
  have hn6 := (hn3.tr0 hf4).tr0 hf46
  have hnx6 := hnx.tr0 hf46
  obtain ⟨hq1, hq2⟩ := quo7 ha
  obtain ⟨hq3, hq4⟩ := quo7 hh
  refine rx ?_
  (refine d_begin (fun y => Fr [] u6 y) (by kernel_rfl) rfl ?_)
  have hS : Fr [] u6 u6.drew := Fr.drew _ _
  ((first | refine d_tx 0 hS ?_ | refine d_ty 0 hS ?_ | refine d_tn 0 hS ?_); (first | refine d_tx 1 hS ?_ | refine d_ty 1 hS ?_ | refine d_tn 1 hS ?_); (first | refine d_tx 2 hS ?_ | refine d_ty 2 hS ?_ | refine d_tn 2 hS ?_); (first | refine d_tx 3 hS ?_ | refine d_ty 3 hS ?_ | refine d_tn 3 hS ?_))
  (apply d_take (i := 4); exact rfl; kernel_rfl; kernel_rfl; kernel_rfl; (intro u hu; exact (r_quo rfl rfl (by omega) hq1)); exact hS)
  ((first | refine d_tx 5 hS ?_ | refine d_ty 5 hS ?_ | refine d_tn 5 hS ?_))
  (apply d_take (i := 6); exact rfl; kernel_rfl; kernel_rfl; kernel_rfl; (intro u hu; exact (r_quo rfl rfl (by omega) hq3)); exact hS)
  ((first | refine d_tx 7 hS ?_ | refine d_ty 7 hS ?_ | refine d_tn 7 hS ?_))
  ((first | refine d_tx 9 hS ?_ | refine d_ty 9 hS ?_ | refine d_tn 9 hS ?_); (first | refine d_tx 10 hS ?_ | refine d_ty 10 hS ?_ | refine d_tn 10 hS ?_); (first | refine d_tx 11 hS ?_ | refine d_ty 11 hS ?_ | refine d_tn 11 hS ?_); (first | refine d_tx 12 hS ?_ | refine d_ty 12 hS ?_ | refine d_tn 12 hS ?_))
  refine d_one (i := 8) rfl (by kernel_rfl) ?_
  refine s_call (spoiltT tx 1 (by omega) hgx (by omega) (a.tdiv 7) (h.tdiv 7) k hq2 hq4 hk sx u6.drew (hnx6.tr0 hS)) rfl ?_
  rintro _ u7 ⟨ty, sy, rfl, hny, hly, hgy, hf7⟩
  refine ⟨_, rfl, ?_⟩
  have hS7 := hS.trans0 hf7
  refine wpList_nil (q_held hS7 ?_)
  refine d_one (i := 13) rfl (by kernel_rfl) ?_
  refine s_call (around n 16 u7 hn.1 hn.2 (by omega)) rfl ?_
  rintro _ _ ⟨rfl, rfl⟩
  refine ⟨_, rfl, ?_⟩
  refine wpList_nil (q_held hS7 ?_)
  have hr := arnd_range (a := n) (m := 16) (by omega)
  generalize arnd n 16 = n16 at hr
  ((first | refine d_tx 14 hS7 ?_ | refine d_ty 14 hS7 ?_ | refine d_tn 14 hS7 ?_))
  refine d_one (i := 15) rfl (by kernel_rfl) ?_
  refine s_call (spoiltT t 0 (by omega) hg (by omega) a h (n16 - 2) ha hh (by unfold InI64; omega) sn u7 (hn6.tr0 hS7)) rfl ?_
  rintro _ u8 ⟨tz, sz, rfl, hnz, hlz, hgz, hf8⟩
  refine ⟨_, rfl, ?_⟩
  have hS8 := hS7.trans0 hf8
  refine wpList_nil (q_held hS8 ?_)
  refine d_one (i := 16) rfl (by kernel_rfl) ?_
  refine s_buildS [sn, sx, sy, sz] rfl rfl rfl rfl (fun u9 ho9 hf9 hs9 => ?_)
  have hS9 := hS8.trans0 hf9
  refine wpList_nil (q_held hS9 ?_)
  (refine d_one (i := 17) rfl (by kernel_rfl) ?_; refine rx ?_; refine q_held hS9 ?_)
  (refine d_done (by kernel_rfl) ?_)
  have hrws : Rws (TrR u9) [t, tx, ty, tz] [sn, sx, sy, sz] := by
    have r1 : TrR u9 t [sn] := ⟨sn, rfl, hn6.tr0 hS9⟩
    have r2 : TrR u9 tx [sx] := ⟨sx, rfl, hnx6.tr0 hS9⟩
    have r3 : TrR u9 ty [sy] := ⟨sy, rfl, (hny.tr0 hf8).tr0 hf9⟩
    have r4 : TrR u9 tz [sz] := ⟨sz, rfl, hnz.tr0 hf9⟩
    exact .cons r1 (.cons r2 (.cons r3 (Rws.one r4)))
  have hall : Sl u9 [] (TrR u9) [t, tx, ty, tz] (.slice (some ⟨u8.heap.size, 0, none⟩) 4 4) := ⟨[sn, sx, sy, sz], ho9.src, fun _ _ _ _ _ => by simp, hrws⟩
  have hokl : ∀ tt ∈ [t, tx, ty, tz], (∀ y ∈ tt, NdOk y) ∧ tt.length ≤ 1000000 := by
    intro tt htt
    simp only [List.mem_cons, List.not_mem_nil, or_false] at htt
    rcases htt with rfl | rfl | rfl | rfl
    · exact ⟨fun y hy => (hg y hy).ok, by omega⟩
    · exact ⟨fun y hy => (hgx y hy).ok, by omega⟩
    · exact ⟨fun y hy => (hgy y hy).ok, by omega⟩
    · exact ⟨fun y hy => (hgz y hy).ok, by omega⟩
  have hF9 : Fr [] u u9 := ((((hf1.trans0 hf13).trans0 hf4).trans0 hf46)).trans0 hS9
  have hb9 := hb36.tr0 hS9
  have hn9 := hn6.tr0 hS9
  generalize u8.heap.size = N8 at hall
  refine rx ?_
  refine c_loopK 15 [14] (σ := Nat) (fun i g z => g 14 = .int .i64 (i : Nat) ∧ i ≤ 4 ∧ Fr [] u9 z) (fun i => 4 - i) 0 ⟨rfl, Nat.zero_le _, Fr.refl _ _⟩ ?_
  rintro i g z ⟨h14, hi, hfz⟩
  rw [eq_upd h14]
  have hbz := hb9.tr0 hfz
  have hFz := hF9.trans0 hfz
  by_cases hi4 : i < 4
  case neg =>
    refine rx ?_
    refine s_call (validPT t sn z (hn9.tr0 hfz) (fun y hy => (hg y hy).ok) (by omega)) rfl ?_
    rintro _ z1 ⟨rfl, hz1⟩
    refine ⟨_, rfl, ?_⟩
    rw [hval]
    refine rx ?_
    refine s_call (livesP z1) rfl ?_
    rintro _ z2 ⟨rfl, hz2⟩
    refine ⟨_, rfl, ?_⟩
    refine rx ?_
    (apply ret1; exact rfl; (conv => lhs; whnf))
    exact ⟨rfl, (hFz.trans0 hz1).trans0 hz2⟩
  have hi4' : i < [t, tx, ty, tz].length := hi4
  obtain ⟨ad, cs, e8, ⟨sq, rfl, hnq⟩, hcq⟩ := Sl.at hall (fun x cs h => by obtain ⟨_, rfl, _⟩ := h; rfl) hi4'
  obtain ⟨hok, hll⟩ := hokl _ (List.getElem_mem hi4')
  generalize [t, tx, ty, tz][i] = tq at hnq hok hll
  cases e8
  replace hnq := hnq.tr0 hfz
  replace hcq := hcq.tr0 hfz
  refine rx ?_
  (refine d_begin (fun y => Fr [] z y) (by kernel_rfl) rfl ?_)
  have hD : Fr [] z z.drew := Fr.drew _ _
  ((first | refine d_tx 0 hD ?_ | refine d_ty 0 hD ?_ | refine d_tn 0 hD ?_); (first | refine d_tx 1 hD ?_ | refine d_ty 1 hD ?_ | refine d_tn 1 hD ?_))
  (apply d_take (i := 2); exact rfl; kernel_rfl; kernel_rfl; kernel_rfl; (intro u hu; exact (r_indexAddr (j := i) rfl rfl rfl hi4 rfl)); exact hD)
  (apply d_take (i := 3); exact rfl; kernel_rfl; kernel_rfl; kernel_rfl; (intro u hu; exact (r_loadC rfl (hcq.tr0 hu) (by rfl))); exact hD)
  ((first | refine d_tx 5 hD ?_ | refine d_ty 5 hD ?_ | refine d_tn 5 hD ?_); (first | refine d_tx 6 hD ?_ | refine d_ty 6 hD ?_ | refine d_tn 6 hD ?_))
  (apply d_take (i := 7); exact rfl; kernel_rfl; kernel_rfl; kernel_rfl; (intro u hu; exact (r_indexAddr (j := i) rfl rfl rfl hi4 rfl)); exact hD)
  (apply d_take (i := 8); exact rfl; kernel_rfl; kernel_rfl; kernel_rfl; (intro u hu; exact (r_loadC rfl (hcq.tr0 hu) (by rfl))); exact hD)
  refine d_one (i := 4) rfl (by kernel_rfl) ?_
  refine s_call (validPT tq sq z.drew (hnq.tr0 hD) hok hll) rfl ?_
  rintro _ z1 ⟨rfl, hz1⟩
  refine ⟨_, rfl, ?_⟩
  have hD1 := hD.trans0 hz1
  refine wpList_nil (q_held hD1 ?_)
  refine d_one (i := 9) rfl (by kernel_rfl) ?_
  refine s_call (validRT tq sq z1 (hnq.tr0 hD1) hok hll) rfl ?_
  rintro _ z2 ⟨rfl, hz2⟩
  refine ⟨_, rfl, ?_⟩
  have hD2 := hD1.trans0 hz2
  refine wpList_nil (q_held hD2 ?_)
  (apply d_take (i := 10); exact rfl; kernel_rfl; kernel_rfl; kernel_rfl; (intro u hu; exact (r_neq rfl rfl (decide_eq_false (by simp)))); exact hD2)
  (refine d_done (by kernel_rfl) ?_)
  refine rx ?_
  exact q_roundK (i + 1) (by (repeat (first | exact Keep.mrg _ _ _ _ | (refine Keep.hi rfl ?_) | (refine Keep.one rfl ?_) | exact Keep.all rfl | (refine Keep.inn rfl ?_) | (refine Keep.set rfl ?_)))) ⟨rfl, by omega, hfz.trans0 hD2⟩ (by omega)
end Go.Proofs.Ytpochcchekoonaa
