/-
  Orders of package history; lists and lives of the law package.
-/
import Derived.Test.YtcogpedfnnfnaaaHk
namespace Go.Proofs.Ytcogpedfnnfnaaa
open Go.Rf Go.RowKit
set_option linter.unusedVariables false
set_option maxHeartbeats 8000000
attribute [local irreducible] Code.wp wpList Exit.then Exit.inBlock bodyPost A Calls execOp Addr.add

def ended (l : List Cl) : Nat := l.countP (fun o => decide (o.fin ≠ -1))
def ordersP (l : List Cl) (most : Int) : List (List Nat) := if most ≤ 0 then [] else growP l most.toNat l.length [] (ended l) []
theorem ended_take {l : List Cl} {i : Nat} (h : i < l.length) : ended (l.take (i + 1)) = ended (l.take i) + if l[i].fin ≠ -1 then 1 else 0 := by
  rw [List.take_succ_eq_append_getElem h]
  unfold ended
  rw [List.countP_append]
  by_cases hk : l[i].fin = -1
  · simp [hk]
  · simp [hk]
theorem ended_le (l : List Cl) : ended l ≤ l.length := List.countP_le_length

theorem ordersC (l : List Cl) (sl : Value) (most : Int) (w : World) (hl : OcS w l sl) (hord : Ord l) (hb : l.length ≤ 1000000) (hm : most ≤ 1000000) :
    Calls Try.prog 29 #[sl, .int .i64 most] w fun r w' => ∃ v', r = .returned v' ∧ OwnR w' 22 1 IR (ordersP l most) v' ∧ (∀ k ∈ blks v', w.heap.size ≤ k) ∧ Fr [] w w' := by
  obtain ⟨ao, c, rfl, hc⟩ := Sl.slice hl
  refine enter Try.func29 rfl Try.ntmps29 rfl ?_
  refine rx ?_
  refine s_box rfl rfl (fun w1 hb1 hf1 hs1 => ?_)
  refine s_box rfl rfl (fun w2 hb2 hf2 hs2 => ?_)
  have hF2 := hf1.trans0 hf2
  obtain ⟨M, hM⟩ : ∃ M, w.heap.size = M := ⟨_, rfl⟩
  have hM1 : w1.heap.size = M + 1 := by omega
  rw [hM] at hb1
  rw [hM1] at hb2
  rw [hM, hM1]
  have hb1' := hb1.tr0 hf2
  unfold ordersP
  by_cases hm0 : most ≤ 0
  · rw [if_pos hm0]
    refine rx ?_
    (apply ret1; exact rfl; (conv => lhs; whnf))
    exact ⟨_, rfl, OwnR.nil _ _ _ _, by simp [blks, Value.ownBlock], hF2⟩
  rw [if_neg hm0]
  obtain ⟨mn, hmn⟩ : ∃ mn : Nat, most = (mn : Int) := ⟨most.toNat, by omega⟩
  subst hmn
  rw [Int.toNat_natCast]
  refine rx ?_
  refine s_call (sortableC l _ w2 (OcS.tr0 hl hF2) hord hb) rfl ?_
  rintro _ w3 ⟨rfl, hf3⟩
  refine ⟨_, rfl, ?_⟩
  have hF3 := hF2.trans0 hf3
  have hb1'' := hb1'.tr0 hf3
  have hb2'' := hb2.tr0 hf3
  have hs3 := hf3.size
  obtain ⟨K, hK⟩ : ∃ K, w3.heap.size = K := ⟨_, rfl⟩
  refine rx ?_
  refine s_alloc rfl (fun w4 hb4 hf4 hs4 => ?_)
  rw [hK] at hb4 hs4 ⊢
  refine rx ?_
  refine s_alloc rfl (fun w5 hb5 hf5 hs5 => ?_)
  rw [hs4] at hb5 hs5 ⊢
  have hb1a := (hb1''.tr0 hf4).tr0 hf5
  clear hb1'' hb1' hb1
  refine rx ?_
  refine s_makeS (k := l.length) rfl rfl (by omega) (by unfold maxLen; omega) (fun w6 ho6 hf6 hs6 => ?_)
  rw [hs5] at ho6 hs6 ⊢
  refine s_alloc rfl (fun w7 hb7 hf7 hs7 => ?_)
  rw [hs6] at hb7 hs7 ⊢
  ((with_reducible apply s_storeB); exact rfl; (conv => lhs; whnf); exact rfl; exact hb7; exact rfl)
  intro w8 hb8 hf8 hs8
  refine rx ?_
  refine s_makeFunc (a := []) (b := [.pointer (some ⟨M, 0, none⟩), .pointer (some ⟨K + 1 + 1 + 1, 0, none⟩)]) rfl rfl ?_
  refine s_alloc rfl (fun w9 hb9 hf9 hs9 => ?_)
  rw [show w8.heap.size = K + 4 by omega] at hb9 hs9 ⊢
  ((with_reducible apply s_storeB); exact rfl; (conv => lhs; whnf); exact rfl; exact hb9; exact rfl)
  intro w10 hb10 hf10 hs10
  refine rx ?_
  refine s_alloc rfl (fun w11 hb11 hf11 hs11 => ?_)
  rw [show w10.heap.size = K + 5 by omega] at hb11 hs11 ⊢
  refine rx ?_
  refine s_makeFunc (a := []) (b := [.pointer (some ⟨K, 0, none⟩), .pointer (some ⟨K + 1, 0, none⟩), .pointer (some ⟨M, 0, none⟩), .pointer (some ⟨M + 1, 0, none⟩), .pointer (some ⟨K + 4, 0, none⟩), .pointer (some ⟨K + 3, 0, none⟩), .pointer (some ⟨K + 5, 0, none⟩)]) rfl rfl ?_
  ((with_reducible apply s_storeB); exact rfl; (conv => lhs; whnf); exact rfl; exact hb11; exact rfl)
  intro w12 hb12 hf12 hs12
  have hF12 : Fr [] w w12 := ((((((((hF3.trans0 hf4).trans0 hf5).trans0 hf6).trans0 hf7).trans hf8 (by simp; omega)).trans0 hf9).trans hf10 (by simp; omega)).trans0 hf11).trans hf12 (by simp; omega)
  have hg : GS w l mn M K (.slice ao l.length c) w12 [] [] [] (.slice none 0 0) (.slice none 0 0) [] := by
    have up : ∀ {b t : Nat} {x : List Value}, Blk w6 b x t → b < K + 3 → Blk w12 b x t := fun h hlt => (((((h.tr0 hf7).tr hf8 (by simp; omega)).tr0 hf9).tr hf10 (by simp; omega)).tr0 hf11).tr hf12 (by simp; omega)
    refine ⟨up ((hb4.tr0 hf5).tr0 hf6) (by omega), up (hb5.tr0 hf6) (by omega), up (hb1a.tr0 hf6) (by omega), up (((hb2''.tr0 hf4).tr0 hf5).tr0 hf6) (by omega), ?_, (hb10.tr0 hf11).tr hf12 (by simp), hb12, ?_, Own.nil _ _ _, Own.nil _ _ _, .nil, by simp [blks, Value.ownBlock], by simp [blks, Value.ownBlock], by omega, hF12, by omega⟩
    · exact (((hb8.tr0 hf9).tr hf10 (by simp)).tr0 hf11).tr hf12 (by simp)
    · have h0 : Own w6 4 1 (.slice (some ⟨K + 2, 0, none⟩) l.length l.length) l.length ((thr l.length []).map .bool) := by
        have e : (zeros [Value.bool false] l.length) = (thr l.length []).map .bool := by
          rw [dn_zero]
          apply List.ext_getElem (by simp [dn, thr])
          intro i h1 h2
          simp [dn, thr]
        rw [← e]; exact ho6
      have hne : ∀ k ∈ blks (.slice (some ⟨K + 2, 0, none⟩) l.length l.length), k = K + 2 := fun k hk => by simp [blks, Value.ownBlock] at hk; omega
      exact (((((h0.tr0 hf7).tr hf8 (fun k hk => by have := hne k hk; simp; omega)).tr0 hf9).tr hf10 (fun k hk => by have := hne k hk; simp; omega)).tr0 hf11).tr hf12 (fun k hk => by have := hne k hk; simp; omega)
  have hbl := hg.bl
  clear hb1a hb2'' hb4 hb5 hb7 hb8 hb9 hb10 hb11 hb12 hb2
  refine rx ?_
  refine c_loopK 13 [10, 12] (σ := Nat) (fun i g u => g 10 = .int .i64 (ended (l.take i)) ∧ g 25 = .slice ao l.length c ∧ g 26 = .int .i64 l.length ∧ g 27 = .int .i64 i ∧ i ≤ l.length ∧ Fr [] w12 u) (fun i => l.length - i) 0 ⟨rfl, rfl, rfl, rfl, Nat.zero_le _, Fr.refl _ _⟩ ?_
  rintro i g u ⟨h10, h25, h26, h27, hi, hfu⟩
  rw [eq_upd h10, eq_upd h25, eq_upd h26, eq_upd h27]
  by_cases hlt : i < l.length
  · have hn := ended_take hlt
    have hle := ended_le (l.take i)
    rw [List.length_take] at hle
    obtain ⟨ad, cs, hao, ⟨sa, sr, rfl, ha, hr⟩, hcw⟩ := Sl.at hl ocLen hlt
    subst hao
    have hcell := hcw.tr0 (hF12.trans0 hfu)
    refine rx ?_
    refine s_alloc rfl (fun u1 hbu1 hfu1 hsu1 => ?_)
    refine s_storeAggB rfl rfl hbu1 (ocOne ⟨sa, sr, rfl, ha, hr⟩) rfl rfl (fun u2 hbu2 hfu2 hsu2 => ?_)
    have hFu2 : Fr [] u u2 := hfu1.trans hfu2 (by simp)
    by_cases hfn : l[i].fin = -1
    · rw [if_neg (by simpa using hfn)] at hn
      refine rx ?_
      exact q_roundK (i + 1) (by (repeat (first | exact Keep.mrg _ _ _ _ | (refine Keep.hi rfl ?_) | (refine Keep.one rfl ?_) | exact Keep.all rfl | (refine Keep.inn rfl ?_) | (refine Keep.set rfl ?_)))) ⟨by rw [hn]; rfl, rfl, rfl, rfl, by omega, hfu.trans0 hFu2⟩ (by omega)
    · rw [if_pos hfn] at hn
      refine rx ?_
      exact q_roundK (i + 1) (by (repeat (first | exact Keep.mrg _ _ _ _ | (refine Keep.hi rfl ?_) | (refine Keep.one rfl ?_) | exact Keep.all rfl | (refine Keep.inn rfl ?_) | (refine Keep.set rfl ?_)))) ⟨by rw [hn]; rfl, rfl, rfl, rfl, by omega, hfu.trans0 hFu2⟩ (by omega)
  have ei : i = l.length := by omega
  subst ei
  rw [List.take_length]
  have hgu := hg.tr0 hfu
  have hbg := hgu.bg
  have hle := ended_le l
  clear hbl
  refine rx ?_
  refine s_callV (first := []) (cap := [.pointer (some ⟨K, 0, none⟩), .pointer (some ⟨K + 1, 0, none⟩), .pointer (some ⟨M, 0, none⟩), .pointer (some ⟨M + 1, 0, none⟩), .pointer (some ⟨K + 4, 0, none⟩), .pointer (some ⟨K + 3, 0, none⟩), .pointer (some ⟨K + 5, 0, none⟩)]) (growC w l mn M K _ hl hb (by omega) l.length [] (ended l) [] _ _ _ u hgu (by simp) (by simp) (by simp) (by simp; omega) (by omega) (by omega)) rfl rfl rfl ?_
  rintro _ z ⟨rfl, vo, vr, ys, hgz⟩
  refine ⟨_, rfl, ?_⟩
  have hbo := hgz.bo
  refine rx ?_
  (apply ret1; exact rfl; (conv => lhs; whnf))
  refine ⟨vo, rfl, ⟨ys, hgz.oo, hgz.rows.imp (fun x cs _ h => irStab.mono h (fun b hb => .inl (by simp [hb])))⟩, fun k hk => ?_, hgz.fr⟩
  have := hgz.ko k hk
  omega
end Go.Proofs.Ytcogpedfnnfnaaa
