/-
  The reference of trees: numbers, formed, node.
-/
import Derived.Test.YtpochcchekoonaaGreatA1
namespace Go.Proofs.YtpochcchekoonaaGreat
open Go.Rf Go.RowKit
set_option linter.unusedVariables false
set_option linter.unusedSimpArgs false
attribute [local irreducible] Code.wp wpList Exit.then Exit.inBlock bodyPost A Calls execOp Addr.add

def numsN (x : Nd) : Bool := decide (x.lo ≤ x.hi ∧ -4611686018427387904 ≤ x.lo ∧ x.hi ≤ 4611686018427387904 ∧ x.hi < x.lo + 1099511627776) && x.ws.all fun k => decide (1 ≤ k ∧ k ≤ 1000)
theorem all_dropI {α : Type} {p : α → Bool} {l : List α} {i : Nat} (h : i < l.length) : (l.drop i).all p = (p l[i] && (l.drop (i + 1)).all p) := by rw [List.drop_eq_getElem_cons h]; rfl

set_option maxHeartbeats 8000000 in
theorem numbersC (x : Nd) (sw sl sv sk sx : Value) (w : World) (hok : NdOk x) (hw : IS w [] x.ws sw) :
    Calls Tryz.prog 110 #[.agg (nc x sw sl sv sk sx).toArray] w fun e w' => e = .returned (.bool (numsN x)) ∧ Fr [] w w' := by
  obtain ⟨aw, cw, rfl, _⟩ := hw.slice
  have hlo := hok.lo
  have hhi := hok.hi
  have hlw := hok.lw
  unfold InI64 at hlo hhi
  refine enter Tryz.func110 rfl Tryz.ntmps110 rfl ?_
  refine rx ?_
  refine s_box rfl rfl (fun w1 hb1 hf1 hs1 => ?_)
  have hw1 := hw.tr0 hf1
  by_cases hbad : x.lo ≤ x.hi ∧ -4611686018427387904 ≤ x.lo ∧ x.hi ≤ 4611686018427387904 ∧ x.hi < x.lo + 1099511627776
  case neg =>
    have e0 : numsN x = false := by unfold numsN; rw [decide_eq_false hbad]; rfl
    rw [e0]
    (refine rx ?_; repeat' ((first | refine s_eql rfl rfl (fun h => ?_) (fun h => ?_) | refine s_neq rfl rfl (fun h => ?_) (fun h => ?_) | refine s_lss rfl rfl (fun h => ?_) (fun h => ?_) | refine s_leq rfl rfl (fun h => ?_) (fun h => ?_) | refine s_gtr rfl rfl (fun h => ?_) (fun h => ?_) | refine s_geq rfl rfl (fun h => ?_) (fun h => ?_) | refine s_eqlE rfl rfl (fun h => ?_) (fun h => ?_) | refine s_neqE rfl rfl (fun h => ?_) (fun h => ?_) | refine s_lssS rfl rfl (fun h => ?_) (fun h => ?_) | refine s_gtrS rfl rfl (fun h => ?_) (fun h => ?_)) <;> refine rx ?_))
    all_goals
      (apply ret1; exact rfl; (conv => lhs; whnf))
      exact ⟨rfl, hf1⟩
  have e0 : numsN x = (x.ws.drop 0).all fun k => decide (1 ≤ k ∧ k ≤ 1000) := by unfold numsN; rw [decide_eq_true hbad]; rfl
  obtain ⟨b1, b2, b3, b4⟩ := hbad
  refine rx ?_
  refine c_loopK 4 [3] (σ := Nat) (fun i g u => g 3 = .int .i64 i ∧ i ≤ x.ws.length ∧ numsN x = ((x.ws.drop i).all fun k => decide (1 ≤ k ∧ k ≤ 1000)) ∧ w1 = u) (fun i => x.ws.length - i) 0 ⟨rfl, Nat.zero_le _, e0, rfl⟩ ?_
  rintro i g u ⟨h3, hi, hc, rfl⟩
  rw [eq_upd h3]
  by_cases hlt : i < x.ws.length
  case neg =>
    refine rx ?_
    (apply ret1; exact rfl; (conv => lhs; whnf))
    refine ⟨?_, hf1⟩
    rw [hc, List.drop_eq_nil_of_le (by omega)]; rfl
  obtain ⟨ad, rfl, hcell⟩ := Ls.at hw1 hlt
  rw [all_dropI hlt] at hc
  refine rx ?_
  rw [Nat.mul_one]
  refine s_load rfl hcell ?_
  refine s_lss rfl rfl (fun h => ?_) (fun h => ?_)
  · refine rx ?_
    (apply ret1; exact rfl; (conv => lhs; whnf))
    refine ⟨?_, hf1⟩
    rw [hc, decide_eq_false (by omega)]; rfl
  refine rx ?_
  rw [Nat.mul_one]
  refine s_load rfl hcell ?_
  refine rx ?_
  refine s_gtr rfl rfl (fun h => ?_) (fun h => ?_)
  · refine rx ?_
    (apply ret1; exact rfl; (conv => lhs; whnf))
    refine ⟨?_, hf1⟩
    rw [hc, decide_eq_false (by omega)]; rfl
  refine rx ?_
  exact q_roundK (i + 1) (by (repeat (first | exact Keep.mrg _ _ _ _ | (refine Keep.hi rfl ?_) | (refine Keep.one rfl ?_) | exact Keep.all rfl | (refine Keep.inn rfl ?_) | (refine Keep.set rfl ?_)))) ⟨rfl, by omega, (by rw [hc, decide_eq_true (by omega)]; simp), rfl⟩ (by omega)

def incV : List V → Bool
  | [] => true
  | [_] => true
  | a :: b :: l => decide (cmpV a b < 0) && incV (b :: l)
theorem incV_drop {l : List V} {k : Nat} (hk : k + 1 < l.length) : incV (l.drop k) = (decide (cmpV l[k] l[k + 1] < 0) && incV (l.drop (k + 1))) := by
  rw [List.drop_eq_getElem_cons (show k < l.length by omega), List.drop_eq_getElem_cons hk, incV]
theorem incV_end {l : List V} {k : Nat} (hk : l.length ≤ k + 1) : incV (l.drop k) = true := by
  by_cases h : k < l.length
  · rw [List.drop_eq_getElem_cons h, List.drop_eq_nil_of_le (by omega), incV]
  · rw [List.drop_eq_nil_of_le (by omega), incV]
def formN (i : Int) (x : Nd) : Bool := unusedN x && (decide (0 ≤ x.kind ∧ x.kind ≤ 4) && ((x.kids.all fun k => decide (0 ≤ k ∧ k < i)) && (decide ((x.kind = 2 → 1 ≤ x.kids.length ∧ x.kids.length ≤ 256 ∧ x.ws.length = x.kids.length ∧ (x.labs.length = 0 ∨ x.labs.length = x.kids.length)) ∧
  (x.kind = 3 → x.kids.length ≤ 256 ∧ (x.name = ⟨#[]⟩ ∨ capB x.name.data.toList = true ∧ x.kids.length ≤ 16)) ∧ (x.kind = 4 → x.kids.length = x.vals.length + 1)) && incV x.vals)))

set_option maxHeartbeats 8000000 in
theorem formedC (i : Int) (x : Nd) (sw sl sv sk sx : Value) (w : World) (hok : NdOk x) (hw : IS w [] x.ws sw) (hl : TS w [] x.labs sl) (hv : VS w [] x.vals sv) (hk : IS w [] x.kids sk) (hx : VS w [] x.val.kids sx) :
    Calls Tryz.prog 108 #[.int .i64 i, .agg (nc x sw sl sv sk sx).toArray] w fun e w' => e = .returned (.bool (formN i x)) ∧ Fr [] w w' := by
  obtain ⟨aw, cw, rfl, _⟩ := hw.slice
  obtain ⟨al, cl, rfl, _⟩ := hl.slice
  obtain ⟨av, cv, rfl, _⟩ := hv.slice
  obtain ⟨ak, ck, rfl, _⟩ := hk.slice
  obtain ⟨ax, cx, rfl, _⟩ := hx.slice
  have hlw := hok.lw
  have hll := hok.ll
  have hlv := hok.lv
  have hlk := hok.lk
  refine enter Tryz.func108 rfl Tryz.ntmps108 rfl ?_
  refine rx ?_
  refine s_box rfl rfl (fun w1 hb1 hf1 hs1 => ?_)
  refine rx ?_
  refine s_call (unusedC x _ _ _ _ _ w1 (hw.tr0 hf1) (hl.tr0 hf1) (hv.tr0 hf1) (hk.tr0 hf1) (hx.tr0 hf1)) rfl ?_
  rintro _ w2 ⟨rfl, hf2⟩
  refine ⟨_, rfl, ?_⟩
  have hb2 := hb1.tr0 hf2
  have hF2 := hf1.trans0 hf2
  have hk2 := hk.tr0 hF2
  have hv2 := hv.tr0 hF2
  rcases hun : unusedN x with _ | _
  · have e0 : formN i x = false := by unfold formN; rw [hun]; rfl
    rw [e0]
    refine rx ?_
    (apply ret1; exact rfl; (conv => lhs; whnf))
    exact ⟨rfl, hF2⟩
  by_cases hkd : 0 ≤ x.kind ∧ x.kind ≤ 4
  case neg =>
    have e0 : formN i x = false := by unfold formN; rw [decide_eq_false hkd]; simp
    rw [e0]
    (refine rx ?_; repeat' ((first | refine s_eql rfl rfl (fun h => ?_) (fun h => ?_) | refine s_neq rfl rfl (fun h => ?_) (fun h => ?_) | refine s_lss rfl rfl (fun h => ?_) (fun h => ?_) | refine s_leq rfl rfl (fun h => ?_) (fun h => ?_) | refine s_gtr rfl rfl (fun h => ?_) (fun h => ?_) | refine s_geq rfl rfl (fun h => ?_) (fun h => ?_) | refine s_eqlE rfl rfl (fun h => ?_) (fun h => ?_) | refine s_neqE rfl rfl (fun h => ?_) (fun h => ?_) | refine s_lssS rfl rfl (fun h => ?_) (fun h => ?_) | refine s_gtrS rfl rfl (fun h => ?_) (fun h => ?_)) <;> refine rx ?_))
    all_goals
      (apply ret1; exact rfl; (conv => lhs; whnf))
      exact ⟨rfl, hF2⟩
  obtain ⟨k1, k2⟩ := hkd
  have e0 : formN i x = (((x.kids.drop 0).all fun k => decide (0 ≤ k ∧ k < i)) && (decide ((x.kind = 2 → 1 ≤ x.kids.length ∧ x.kids.length ≤ 256 ∧ x.ws.length = x.kids.length ∧ (x.labs.length = 0 ∨ x.labs.length = x.kids.length)) ∧
  (x.kind = 3 → x.kids.length ≤ 256 ∧ (x.name = ⟨#[]⟩ ∨ capB x.name.data.toList = true ∧ x.kids.length ≤ 16)) ∧ (x.kind = 4 → x.kids.length = x.vals.length + 1)) && incV x.vals)) := by
    unfold formN; rw [hun, decide_eq_true ⟨k1, k2⟩]; simp
  refine rx ?_
  generalize hR : (decide ((x.kind = 2 → 1 ≤ x.kids.length ∧ x.kids.length ≤ 256 ∧ x.ws.length = x.kids.length ∧ (x.labs.length = 0 ∨ x.labs.length = x.kids.length)) ∧
  (x.kind = 3 → x.kids.length ≤ 256 ∧ (x.name = ⟨#[]⟩ ∨ capB x.name.data.toList = true ∧ x.kids.length ≤ 16)) ∧ (x.kind = 4 → x.kids.length = x.vals.length + 1)) && incV x.vals) = rst at e0
  refine c_loopK 10 [6] (σ := Nat) (fun j g u => g 6 = .int .i64 j ∧ j ≤ x.kids.length ∧ formN i x = (((x.kids.drop j).all fun k => decide (0 ≤ k ∧ k < i)) && rst) ∧ w2 = u) (fun j => x.kids.length - j) 0 ⟨rfl, Nat.zero_le _, e0, rfl⟩ ?_
  rintro j g u ⟨h6, hj, hc, rfl⟩
  rw [eq_upd h6]
  by_cases hlt : j < x.kids.length
  case pos =>
    obtain ⟨ad, rfl, hcell⟩ := Ls.at hk2 hlt
    rw [all_dropI hlt] at hc
    refine rx ?_
    rw [Nat.mul_one]
    refine s_load rfl hcell ?_
    refine s_lss rfl rfl (fun h => ?_) (fun h => ?_)
    · refine rx ?_
      (apply ret1; exact rfl; (conv => lhs; whnf))
      refine ⟨?_, hF2⟩
      rw [hc, decide_eq_false (by omega)]; rfl
    refine rx ?_
    rw [Nat.mul_one]
    refine s_load rfl hcell ?_
    refine rx ?_
    refine s_geq rfl rfl (fun h => ?_) (fun h => ?_)
    · refine rx ?_
      (apply ret1; exact rfl; (conv => lhs; whnf))
      refine ⟨?_, hF2⟩
      rw [hc, decide_eq_false (by omega)]; rfl
    refine rx ?_
    exact q_roundK (j + 1) (by (repeat (first | exact Keep.mrg _ _ _ _ | (refine Keep.hi rfl ?_) | (refine Keep.one rfl ?_) | exact Keep.all rfl | (refine Keep.inn rfl ?_) | (refine Keep.set rfl ?_)))) ⟨rfl, by omega, (by rw [hc, decide_eq_true (by omega)]; simp), rfl⟩ (by omega)
  have hc1 : formN i x = rst := by rw [hc, List.drop_eq_nil_of_le (by omega)]; rfl
  clear hc e0
  refine rx ?_
  refine w_cut (fun g u => g 3 = .pointer (some ⟨w.heap.size, 0, none⟩) ∧ g 7 = .int .i64 x.kids.length ∧ g 79 = .bool (decide (x.kind = 2 ∧ ¬ (1 ≤ x.kids.length ∧ x.kids.length ≤ 256 ∧ x.ws.length = x.kids.length ∧ (x.labs.length = 0 ∨ x.labs.length = x.kids.length)))) ∧ w2 = u) ?_ ?_
  · (refine rx ?_; repeat' ((first | refine s_eql rfl rfl (fun h => ?_) (fun h => ?_) | refine s_neq rfl rfl (fun h => ?_) (fun h => ?_) | refine s_lss rfl rfl (fun h => ?_) (fun h => ?_) | refine s_leq rfl rfl (fun h => ?_) (fun h => ?_) | refine s_gtr rfl rfl (fun h => ?_) (fun h => ?_) | refine s_geq rfl rfl (fun h => ?_) (fun h => ?_) | refine s_eqlE rfl rfl (fun h => ?_) (fun h => ?_) | refine s_neqE rfl rfl (fun h => ?_) (fun h => ?_) | refine s_lssS rfl rfl (fun h => ?_) (fun h => ?_) | refine s_gtrS rfl rfl (fun h => ?_) (fun h => ?_)) <;> refine rx ?_))
    all_goals
      refine q_cut ⟨rfl, rfl, ?_, rfl⟩
      first
      | exact congrArg Value.bool (decide_eq_true (by omega)).symm
      | exact congrArg Value.bool (decide_eq_false (by omega)).symm
  rintro g u ⟨g3, g7, g79, rfl⟩
  by_cases hch : x.kind = 2 ∧ ¬ (1 ≤ x.kids.length ∧ x.kids.length ≤ 256 ∧ x.ws.length = x.kids.length ∧ (x.labs.length = 0 ∨ x.labs.length = x.kids.length))
  · have e1 : formN i x = false := by rw [hc1, ← hR, decide_eq_false (fun h => hch.2 (h.1 hch.1))]; rfl
    rw [decide_eq_true hch] at g79
    rw [eq_upd g3, eq_upd g7, eq_upd g79]
    rw [e1]
    refine rx ?_
    (apply ret1; exact rfl; (conv => lhs; whnf))
    exact ⟨rfl, hF2⟩
  rw [decide_eq_false hch] at g79
  have hch' : x.kind = 2 → 1 ≤ x.kids.length ∧ x.kids.length ≤ 256 ∧ x.ws.length = x.kids.length ∧ (x.labs.length = 0 ∨ x.labs.length = x.kids.length) := fun h => Decidable.byContradiction fun h2 => hch ⟨h, h2⟩
  clear hch
  rw [eq_upd g3, eq_upd g7, eq_upd g79]
  refine rx ?_
  refine s_call (capital14 x.name w2 hok.name) rfl ?_
  rintro _ _ ⟨rfl, rfl⟩
  refine ⟨_, rfl, ?_⟩
  refine rx ?_
  generalize hcap : capB x.name.data.toList = cp at hR
  refine w_cut (fun g u' => g 3 = .pointer (some ⟨w.heap.size, 0, none⟩) ∧ g 115 = .bool (decide ((x.kind = 3 ∧ (256 < x.kids.length ∨ x.name ≠ ⟨#[]⟩ ∧ (cp = false ∨ 16 < x.kids.length))) ∨ x.kind = 4 ∧ x.kids.length ≠ x.vals.length + 1)) ∧ w2 = u') ?_ ?_
  · by_cases hn : x.name = ⟨#[]⟩
    all_goals
      cases cp
      all_goals
        simp only [hn, ne_eq, not_true_eq_false, not_false_eq_true, true_and, false_and, or_false, or_true, and_true, Bool.true_eq_false, Bool.false_eq_true, true_or, false_or]
        (refine rx ?_; repeat' ((first | refine s_eql rfl rfl (fun h => ?_) (fun h => ?_) | refine s_neq rfl rfl (fun h => ?_) (fun h => ?_) | refine s_lss rfl rfl (fun h => ?_) (fun h => ?_) | refine s_leq rfl rfl (fun h => ?_) (fun h => ?_) | refine s_gtr rfl rfl (fun h => ?_) (fun h => ?_) | refine s_geq rfl rfl (fun h => ?_) (fun h => ?_) | refine s_eqlE rfl rfl (fun h => ?_) (fun h => ?_) | refine s_neqE rfl rfl (fun h => ?_) (fun h => ?_) | refine s_lssS rfl rfl (fun h => ?_) (fun h => ?_) | refine s_gtrS rfl rfl (fun h => ?_) (fun h => ?_)) <;> refine rx ?_))
        all_goals
          refine q_cut ⟨rfl, ?_, rfl⟩
          first
          | exact congrArg Value.bool (decide_eq_true (by omega)).symm
          | exact congrArg Value.bool (decide_eq_false (by omega)).symm
  rintro g u' ⟨g3, g115, rfl⟩
  by_cases hsq : (x.kind = 3 ∧ (256 < x.kids.length ∨ x.name ≠ ⟨#[]⟩ ∧ (cp = false ∨ 16 < x.kids.length))) ∨ x.kind = 4 ∧ x.kids.length ≠ x.vals.length + 1
  · have e1 : formN i x = false := by
      rw [hc1, ← hR, decide_eq_false]
      · rfl
      · rintro ⟨a, b, c⟩
        rcases hsq with ⟨q1, q2⟩ | ⟨q1, q2⟩
        · obtain ⟨b1, b2⟩ := b q1
          rcases q2 with q2 | ⟨q2, q3⟩
          · omega
          · rcases b2 with b2 | ⟨b2, b3⟩
            · exact q2 b2
            · rcases q3 with q3 | q3
              · rw [q3] at b2; cases b2
              · omega
        · exact q2 (c q1)
    rw [decide_eq_true hsq] at g115
    rw [eq_upd g3, eq_upd g115]
    rw [e1]
    refine rx ?_
    (apply ret1; exact rfl; (conv => lhs; whnf))
    exact ⟨rfl, hF2⟩
  have e1 : formN i x = incV (x.vals.drop 0) := by
    rw [hc1, ← hR, decide_eq_true, Bool.true_and, List.drop_zero]
    refine ⟨hch', fun h3 => ?_, fun h4 => Decidable.byContradiction fun h => hsq (.inr ⟨h4, h⟩)⟩
    refine ⟨Decidable.byContradiction fun h => hsq (.inl ⟨h3, .inl (by omega)⟩), ?_⟩
    by_cases hn : x.name = ⟨#[]⟩
    · exact .inl hn
    · right
      refine ⟨?_, Decidable.byContradiction fun h => hsq (.inl ⟨h3, .inr ⟨hn, .inr (by omega)⟩⟩)⟩
      cases cp
      · exact absurd (.inl ⟨h3, .inr ⟨hn, .inl rfl⟩⟩) hsq
      · rfl
  rw [decide_eq_false hsq] at g115
  rw [eq_upd g3, eq_upd g115]
  refine rx ?_
  refine c_loopK 10 [9] (σ := Nat) (fun j g z => g 9 = .int .i64 ((j + 1 : Nat) : Int) ∧ j ≤ x.vals.length ∧ formN i x = incV (x.vals.drop j) ∧ Fr [] w2 z) (fun j => x.vals.length - j) 0 ⟨rfl, Nat.zero_le _, e1, Fr.refl _ _⟩ ?_
  rintro j g z ⟨h9, hj, hc, hfz⟩
  rw [eq_upd h9]
  have hb3 := hb2.tr0 hfz
  have hv3 := hv2.tr0 hfz
  by_cases hlt : j + 1 < x.vals.length
  case neg =>
    refine rx ?_
    (apply ret1; exact rfl; (conv => lhs; whnf))
    refine ⟨?_, hF2.trans0 hfz⟩
    rw [hc, incV_end (by omega)]
  rw [incV_drop hlt] at hc
  obtain ⟨ad, cs1, rfl, ⟨sx1, rfl, hx1⟩, hcell1⟩ := Sl.at hv3.sl VR.len (show j < x.vals.length by omega)
  obtain ⟨ad2, cs2, ead, ⟨sx2, rfl, hx2⟩, hcell2⟩ := Sl.at hv3.sl VR.len hlt
  cases ead
  refine rx ?_
  (refine d_begin (fun y => Fr [] z y) (by kernel_rfl) rfl ?_)
  have hS : Fr [] z z.drew := Fr.drew _ _
  ((first | refine d_tx 0 hS ?_ | refine d_ty 0 hS ?_ | refine d_tn 0 hS ?_); (first | refine d_tx 1 hS ?_ | refine d_ty 1 hS ?_ | refine d_tn 1 hS ?_); (first | refine d_tx 2 hS ?_ | refine d_ty 2 hS ?_ | refine d_tn 2 hS ?_))
  (apply d_take (i := 3); exact rfl; kernel_rfl; kernel_rfl; kernel_rfl; (intro u hu; exact (r_sub (r := (j : Int)) rfl rfl (by rw [IntWalk.i64_in _ (by omega)]; omega))); exact hS)
  ((first | refine d_tx 4 hS ?_ | refine d_ty 4 hS ?_ | refine d_tn 4 hS ?_); (first | refine d_tx 5 hS ?_ | refine d_ty 5 hS ?_ | refine d_tn 5 hS ?_); (first | refine d_tx 6 hS ?_ | refine d_ty 6 hS ?_ | refine d_tn 6 hS ?_); (first | refine d_tx 7 hS ?_ | refine d_ty 7 hS ?_ | refine d_tn 7 hS ?_); (first | refine d_tx 8 hS ?_ | refine d_ty 8 hS ?_ | refine d_tn 8 hS ?_); (first | refine d_tx 9 hS ?_ | refine d_ty 9 hS ?_ | refine d_tn 9 hS ?_); (first | refine d_tx 10 hS ?_ | refine d_ty 10 hS ?_ | refine d_tn 10 hS ?_))
  refine d_one (i := 11) rfl (by kernel_rfl) ?_
  refine s_call (compareR x.vals[j] x.vals[j + 1] sx1 sx2 _ (hx1.tr0 hS) (hx2.tr0 hS)) rfl ?_
  rintro _ u1 ⟨rfl, hf1⟩
  refine ⟨_, rfl, ?_⟩
  refine wpList_nil (q_held (hS.trans0 hf1) ?_)
  by_cases hge : 0 ≤ cmpV x.vals[j] x.vals[j + 1]
  · refine d_one (i := 12) rfl (by kernel_rfl) ?_
    refine rx ?_
    refine q_held (hS.trans0 hf1) ?_
    (refine d_done (by kernel_rfl) ?_)
    refine rx ?_
    (apply ret1; exact rfl; (conv => lhs; whnf))
    refine ⟨?_, hF2.trans0 (hfz.trans0 (hS.trans0 hf1))⟩
    rw [hc, decide_eq_false (by omega)]; rfl
  · refine d_one (i := 12) rfl (by kernel_rfl) ?_
    refine rx ?_
    refine q_held (hS.trans0 hf1) ?_
    (refine d_done (by kernel_rfl) ?_)
    refine rx ?_
    exact q_roundK (j + 1) (by (repeat (first | exact Keep.mrg _ _ _ _ | (refine Keep.hi rfl ?_) | (refine Keep.one rfl ?_) | exact Keep.all rfl | (refine Keep.inn rfl ?_) | (refine Keep.set rfl ?_)))) ⟨rfl, by omega, (by rw [hc, decide_eq_true (by omega)]; simp), hfz.trans0 (hS.trans0 hf1)⟩ (by omega)
end Go.Proofs.YtpochcchekoonaaGreat
