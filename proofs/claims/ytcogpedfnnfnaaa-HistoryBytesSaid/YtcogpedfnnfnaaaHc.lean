/-
  Concurrent of package history and of the reference.
-/
import Derived.Test.YtcogpedfnnfnaaaHn
namespace Go.Rf
open Go.RowKit
theorem equalIn_int {P : Program} {w : World} {t : Nat} (dd : Nat) {k k' : IntKind} {a b : Int} (hu : P.underlying t = some (.int k')) : (Op.equalIn (dd + 1) t (.int k a) (.int k b)).run P w = .ok (a == b) w := by
  simp [Op.equalIn, run_underlying hu]
theorem equal_two {P : Program} {w : World} {t e : Nat} {k k' : IntKind} {a b c d : Int} (hu : P.underlying t = some (.array 2 e)) (he : P.underlying e = some (.int k')) (hs : (sizeOf e).run P w = .ok 1 w) : (Op.equal t (.agg #[.int k a, .int k b]) (.agg #[.int k c, .int k d])).run P w = .ok (a == c && b == d) w := by
  have h1 : ∀ x y : Int, (Op.equalIn 9999 e (.int k x) (.int k y)).run P w = .ok (x == y) w := fun x y => equalIn_int 9998 he
  have h2 : (isAgg e).run P w = .ok false w := by simp [isAgg, run_underlying he]
  show (Op.equalIn (9999 + 1) t _ _).run P w = _
  unfold Op.equalIn
  simp only [Sem.run_bind, run_underlying hu, Result.andThen_ok, hs, Std.Legacy.Range.forIn_eq_forIn_range', Std.Legacy.Range.size, Nat.sub_zero, Nat.add_sub_cancel, Nat.div_one, List.range'_succ, List.range'_zero, List.forIn_cons, List.forIn_nil]
  simp [part, h2, h1]
  by_cases e1 : a = c <;> by_cases e2 : b = d <;> simp [e1, e2]
theorem equalB {P : Program} {w : World} {t : Nat} {a b : Bool} (hu : P.underlying t = some .bool) : (Op.equal t (.bool a) (.bool b)).run P w = .ok (a == b) w := by
  have : ∀ dd, (Op.equalIn (dd + 1) t (.bool a) (.bool b)).run P w = .ok (a == b) w := fun dd => by simp [Op.equalIn, run_underlying hu]
  exact this 9999
section
variable {P : Program} {n : Nat} {f : Env} {w : World} {d : Nat} {ty : TypeId} {ps : String} {af : Array Edge} {gd : Option (Nat × Bool)} {x y : Operand} {t t2 : Nat}
theorem r_neqB {a b p : Bool} (hu : P.underlying t = some .bool) (hx : ev n f x = .bool a) (hy : ev n f y = .bool b) (hp : (!(a == b)) = p) :
    (execOp (ev n f) ⟨some d, .binOp .neq t x y t2, ty, ps, af, gd⟩).run P w = .ok (.value (.bool p)) w := by
  subst hp
  have := equalB (P := P) (w := w) (a := a) (b := b) hu
  simp [execOp, eqGuard, binOp, hx, hy, this]
theorem r_neqA {k k' : IntKind} {e : Nat} {a b c c' : Int} {p : Bool} [R : ArrT P t 2 e 1] (hg : P.eqGuardType P.depth t = false) (he : P.underlying e = some (.int k')) (hx : ev n f x = .agg #[.int k a, .int k b]) (hy : ev n f y = .agg #[.int k c, .int k c']) (hp : (!(a == c && b == c')) = p) :
    (execOp (ev n f) ⟨some d, .binOp .neq t x y t2, ty, ps, af, gd⟩).run P w = .ok (.value (.bool p)) w := by
  subst hp
  obtain ⟨i, hi, hz⟩ := R.inf
  have hs : (sizeOf e).run P w = .ok 1 w := by simp [sizeOf, typeInfo, hi, hz]
  have := equal_two (P := P) (w := w) (k := k) (a := a) (b := b) (c := c) (d := c') R.u he hs
  simp [execOp, eqGuard, binOp, hx, hy, this, hg]
end
end Go.Rf
namespace Go.Proofs.Ytcogpedfnnfnaaa
open Go.Rf Go.RowKit
set_option linter.unusedVariables false
set_option maxHeartbeats 4000000
attribute [local irreducible] Code.wp wpList Exit.then Exit.inBlock bodyPost A Calls execOp Addr.add

def PR : World → List Nat → Nat × Nat → List Value → Prop := fun _ _ p cs => cs = [.int .i64 p.1, .int .i64 p.2]
theorem prStab : Stab PR 2 := ⟨fun h _ => h, fun h _ => h, fun h => by rw [h]; rfl, fun h u hu => by rw [h] at hu; simp at hu; rcases hu with rfl | rfl <;> rfl⟩
def bf (l : List Cl) (i j : Nat) : Bool := match l[i]?, l[j]? with
  | some a, some b => bef a b
  | _, _ => false
theorem bf_eq {l : List Cl} {i j : Nat} (hi : i < l.length) (hj : j < l.length) : bf l i j = bef l[i] l[j] := by
  simp [bf, hi, hj]
def cc (l : List Cl) (i j : Nat) : Bool := !bf l i j && !bf l j i
def cI (l : List Cl) (i : Nat) : Nat → List (Nat × Nat)
  | 0 => []
  | k + 1 => cI l i k ++ if cc l i (i + 1 + k) then [(i, i + 1 + k)] else []
def cO (l : List Cl) : Nat → List (Nat × Nat)
  | 0 => []
  | m + 1 => cO l m ++ cI l m (l.length - (m + 1))
theorem cI_len (l : List Cl) (i k : Nat) : (cI l i k).length ≤ k := by
  induction k with
  | zero => simp [cI]
  | succ k ih =>
    rw [cI, List.length_append]
    have : (if cc l i (i + 1 + k) then [(i, i + 1 + k)] else []).length ≤ 1 := by split <;> simp
    omega
theorem cO_len (l : List Cl) (m : Nat) : (cO l m).length ≤ m * l.length := by
  induction m with
  | zero => simp [cO]
  | succ m ih =>
    rw [cO, List.length_append, Nat.succ_mul]
    have := cI_len l m (l.length - (m + 1))
    omega
theorem cIO_len (l : List Cl) (m k : Nat) (hm : m < l.length) (hk : m + 1 + k ≤ l.length) (hl : l.length ≤ 1000) : (cO l m ++ cI l m k).length ≤ 1001000 := by
  have h1 := cO_len l m
  have h2 := cI_len l m k
  have h3 : m * l.length ≤ 1000 * 1000 := Nat.mul_le_mul (by omega) hl
  rw [List.length_append]; omega
def conc (l : List Cl) : List (Nat × Nat) := cO l l.length

set_option maxRecDepth 4000 in
theorem concurrentC (l : List Cl) (sl : Value) (w : World) (hl : OcS w l sl) (hb : l.length ≤ 1000) :
    Calls Try.prog 23 #[sl] w fun r w' => ∃ v, r = .returned v ∧ OwnR w' 52 2 PR (conc l) v ∧ Fr [] w w' ∧ (∀ b ∈ blks v, w.heap.size ≤ b) := by
  obtain ⟨ao, c, rfl, hc⟩ := Sl.slice hl
  refine enter Try.func23 rfl Try.ntmps23 rfl ?_
  refine rx ?_
  refine c_loopK 6 [3, 4, 5] (σ := Nat × Value) (fun st g u => g 7 = .int .i64 l.length ∧ g 8 = .int .i64 st.1 ∧ g 3 = st.2 ∧ st.1 ≤ l.length ∧ OwnR u 52 2 PR (cO l st.1) st.2 ∧ Fr [] w u ∧ (∀ b ∈ blks st.2, w.heap.size ≤ b))
    (fun st => l.length - st.1) (0, .slice none 0 0) ⟨rfl, rfl, rfl, Nat.zero_le _, OwnR.nil _ _ _ _, Fr.refl _ _, by simp [blks, Value.ownBlock]⟩ ?_
  rintro ⟨i, v⟩ g u ⟨h7, h8, h3, hi, ho, hF, hv⟩
  simp only at h8 h3 hi ho hv
  rw [eq_upd h7, eq_upd h8, eq_upd h3]
  by_cases hil : i < l.length
  case neg =>
    have hin : i = l.length := by omega
    subst hin
    refine rx ?_
    (apply ret1; exact rfl; (conv => lhs; whnf))
    exact ⟨v, rfl, ho, hF, hv⟩
  refine rx ?_
  refine c_loopK 13 [3, 5] (σ := Nat × Value) (fun st g u' => g 5 = .int .i64 (i + 1 + st.1 : Nat) ∧ g 3 = st.2 ∧ i + 1 + st.1 ≤ l.length ∧ OwnR u' 52 2 PR (cO l i ++ cI l i st.1) st.2 ∧ Fr [] w u' ∧ (∀ b ∈ blks st.2, w.heap.size ≤ b))
    (fun st => l.length - st.1) (0, v) ⟨by rfl, rfl, by simp only; omega, by rw [cI, List.append_nil]; exact ho, hF, hv⟩ ?_
  rintro ⟨k, v⟩ g2 u2 ⟨h5, h3, hk, ho2, hF2, hv2⟩
  simp only at h5 h3 hk ho2 hv2
  obtain ⟨j, hj⟩ : ∃ j, i + 1 + k = j := ⟨_, rfl⟩
  rw [hj] at h5 hk
  rw [eq_upd h5, eq_upd h3]
  by_cases hjl : j < l.length
  case neg =>
    have hkn : k = l.length - (i + 1) := by omega
    refine rx ?_
    refine q_roundK (i + 1, v) (by (repeat (first | exact Keep.mrg _ _ _ _ | (refine Keep.hi rfl ?_) | (refine Keep.one rfl ?_) | exact Keep.all rfl | (refine Keep.inn rfl ?_) | (refine Keep.set rfl ?_)))) ⟨rfl, rfl, rfl, by simp only; omega, ?_, hF2, hv2⟩ (by simp only; omega)
    rw [hkn] at ho2; exact ho2
  have hlen := cIO_len l i k hil (by omega) hb
  obtain ⟨ad, cs, rfl, ⟨sa, sr, rfl, _, _⟩, hcw⟩ := Sl.at hl ocLen hil
  obtain ⟨adj, cs, e, ⟨saj, srj, rfl, _, _⟩, hcjw⟩ := Sl.at hl ocLen hjl
  simp only [Option.some.injEq] at e
  subst e
  have hci := hcw.tr0 hF2
  have hcj := hcjw.tr0 hF2
  have hcc : cc l i j = (!bef l[i] l[j] && !bef l[j] l[i]) := by rw [cc, bf_eq hil hjl, bf_eq hjl hil]
  have hnx : Value.int .i64 ((j : Int) + 1) = .int .i64 ((i + 1 + (k + 1) : Nat) : Int) := by congr 1; omega
  have hstep : cI l i (k + 1) = cI l i k ++ if cc l i j then [(i, j)] else [] := by rw [cI, hj]
  refine rx ?_
  (refine d_begin (fun z => Fr [] u2 z) (by kernel_rfl) rfl ?_)
  have hS : Fr [] u2 u2.drew := Fr.drew _ _
  ((first | refine d_tx 0 hS ?_ | refine d_ty 0 hS ?_ | refine d_tn 0 hS ?_); (first | refine d_tx 1 hS ?_ | refine d_ty 1 hS ?_ | refine d_tn 1 hS ?_); (first | refine d_tx 2 hS ?_ | refine d_ty 2 hS ?_ | refine d_tn 2 hS ?_); (first | refine d_tx 3 hS ?_ | refine d_ty 3 hS ?_ | refine d_tn 3 hS ?_); (first | refine d_tx 4 hS ?_ | refine d_ty 4 hS ?_ | refine d_tn 4 hS ?_); (first | refine d_tx 5 hS ?_ | refine d_ty 5 hS ?_ | refine d_tn 5 hS ?_); (first | refine d_tx 6 hS ?_ | refine d_ty 6 hS ?_ | refine d_tn 6 hS ?_); (first | refine d_tx 7 hS ?_ | refine d_ty 7 hS ?_ | refine d_tn 7 hS ?_))
  refine d_one (i := 8) rfl (by kernel_rfl) ?_
  refine s_call (beforeC l[i] l[j] sa sr saj srj _) rfl ?_
  rintro _ u3 ⟨rfl, hf3⟩
  refine ⟨_, rfl, ?_⟩
  have hS3 := hS.trans0 hf3
  refine wpList_nil (q_held hS3 ?_)
  cases hb1 : bef l[i] l[j]
  case true =>
    ((first | refine d_tx 9 hS3 ?_ | refine d_ty 9 hS3 ?_ | refine d_tn 9 hS3 ?_); (first | refine d_tx 10 hS3 ?_ | refine d_ty 10 hS3 ?_ | refine d_tn 10 hS3 ?_); (first | refine d_tx 11 hS3 ?_ | refine d_ty 11 hS3 ?_ | refine d_tn 11 hS3 ?_); (first | refine d_tx 12 hS3 ?_ | refine d_ty 12 hS3 ?_ | refine d_tn 12 hS3 ?_); (first | refine d_tx 13 hS3 ?_ | refine d_ty 13 hS3 ?_ | refine d_tn 13 hS3 ?_); (first | refine d_tx 14 hS3 ?_ | refine d_ty 14 hS3 ?_ | refine d_tn 14 hS3 ?_); (first | refine d_tx 15 hS3 ?_ | refine d_ty 15 hS3 ?_ | refine d_tn 15 hS3 ?_); (first | refine d_tx 16 hS3 ?_ | refine d_ty 16 hS3 ?_ | refine d_tn 16 hS3 ?_); (first | refine d_tx 17 hS3 ?_ | refine d_ty 17 hS3 ?_ | refine d_tn 17 hS3 ?_); (first | refine d_tx 18 hS3 ?_ | refine d_ty 18 hS3 ?_ | refine d_tn 18 hS3 ?_); (first | refine d_tx 19 hS3 ?_ | refine d_ty 19 hS3 ?_ | refine d_tn 19 hS3 ?_); (first | refine d_tx 20 hS3 ?_ | refine d_ty 20 hS3 ?_ | refine d_tn 20 hS3 ?_); (first | refine d_tx 21 hS3 ?_ | refine d_ty 21 hS3 ?_ | refine d_tn 21 hS3 ?_))
    (refine d_done (by kernel_rfl) ?_)
    refine rx ?_
    refine q_roundK (k + 1, v) (by (repeat (first | exact Keep.mrg _ _ _ _ | (refine Keep.hi rfl ?_) | (refine Keep.one rfl ?_) | exact Keep.all rfl | (refine Keep.inn rfl ?_) | (refine Keep.set rfl ?_)))) ⟨hnx, rfl, by simp only; omega, ?_, hF2.trans0 hS3, hv2⟩ (by simp only; omega)
    rw [hb1] at hcc
    rw [hstep, hcc]
    simpa using ho2.tr0 prStab hS3
  case false =>
    ((first | refine d_tx 9 hS3 ?_ | refine d_ty 9 hS3 ?_ | refine d_tn 9 hS3 ?_); (first | refine d_tx 10 hS3 ?_ | refine d_ty 10 hS3 ?_ | refine d_tn 10 hS3 ?_); (first | refine d_tx 11 hS3 ?_ | refine d_ty 11 hS3 ?_ | refine d_tn 11 hS3 ?_); (first | refine d_tx 12 hS3 ?_ | refine d_ty 12 hS3 ?_ | refine d_tn 12 hS3 ?_); (first | refine d_tx 13 hS3 ?_ | refine d_ty 13 hS3 ?_ | refine d_tn 13 hS3 ?_); (first | refine d_tx 14 hS3 ?_ | refine d_ty 14 hS3 ?_ | refine d_tn 14 hS3 ?_); (first | refine d_tx 15 hS3 ?_ | refine d_ty 15 hS3 ?_ | refine d_tn 15 hS3 ?_); (first | refine d_tx 16 hS3 ?_ | refine d_ty 16 hS3 ?_ | refine d_tn 16 hS3 ?_); (first | refine d_tx 17 hS3 ?_ | refine d_ty 17 hS3 ?_ | refine d_tn 17 hS3 ?_); (first | refine d_tx 18 hS3 ?_ | refine d_ty 18 hS3 ?_ | refine d_tn 18 hS3 ?_))
    refine d_one (i := 19) rfl (by kernel_rfl) ?_
    refine g_yes rfl ?_
    refine s_call (beforeC l[j] l[i] saj srj sa sr _) rfl ?_
    rintro _ u4 ⟨rfl, hf4⟩
    refine ⟨_, rfl, ?_⟩
    have hS4 := hS3.trans0 hf4
    refine wpList_nil (q_held hS4 ?_)
    cases hb2 : bef l[j] l[i]
    case true =>
      ((first | refine d_tx 20 hS4 ?_ | refine d_ty 20 hS4 ?_ | refine d_tn 20 hS4 ?_); (first | refine d_tx 21 hS4 ?_ | refine d_ty 21 hS4 ?_ | refine d_tn 21 hS4 ?_))
      (refine d_done (by kernel_rfl) ?_)
      refine rx ?_
      refine q_roundK (k + 1, v) (by (repeat (first | exact Keep.mrg _ _ _ _ | (refine Keep.hi rfl ?_) | (refine Keep.one rfl ?_) | exact Keep.all rfl | (refine Keep.inn rfl ?_) | (refine Keep.set rfl ?_)))) ⟨hnx, rfl, by simp only; omega, ?_, hF2.trans0 hS4, hv2⟩ (by simp only; omega)
      rw [hb1, hb2] at hcc
      rw [hstep, hcc]
      simpa using ho2.tr0 prStab hS4
    case false =>
      ((first | refine d_tx 20 hS4 ?_ | refine d_ty 20 hS4 ?_ | refine d_tn 20 hS4 ?_); (first | refine d_tx 21 hS4 ?_ | refine d_ty 21 hS4 ?_ | refine d_tn 21 hS4 ?_))
      (refine d_done (by kernel_rfl) ?_)
      refine rx ?_
      refine s_buildA [.int .i64 i, .int .i64 j] rfl ?_
      refine s_pushA (a := (i, j)) (ho2.tr0 prStab hS4) prStab rfl rfl rfl rfl rfl rfl rfl (by unfold maxLen; omega) (by omega) (fun v' u5 ho5 hf5 hk5 => ?_)
      refine rx ?_
      have hN := (hF2.trans0 hS4).size
      refine q_roundK (k + 1, v') (by (repeat (first | exact Keep.mrg _ _ _ _ | (refine Keep.hi rfl ?_) | (refine Keep.one rfl ?_) | exact Keep.all rfl | (refine Keep.inn rfl ?_) | (refine Keep.set rfl ?_)))) ⟨hnx, rfl, by simp only; omega, ?_, (hF2.trans0 hS4).trans hf5 (fun b hb => .inr (hv2 b hb)), fun b hb => ?_⟩ (by simp only; omega)
      · rw [hb1, hb2] at hcc
        rw [hstep, hcc, ← List.append_assoc]
        exact ho5
      · rcases hk5 b hb with h | h
        · exact hv2 b h
        · omega

set_option maxRecDepth 4000 in
theorem concurrentR (l : List Cl) (sl : Value) (w : World) (hl : OcS w l sl) (hb : l.length ≤ 1000) :
    Calls Try.prog 24 #[sl] w fun r w' => ∃ v, r = .returned v ∧ OwnR w' 52 2 PR (conc l) v ∧ Fr [] w w' ∧ (∀ b ∈ blks v, w.heap.size ≤ b) := by
  obtain ⟨ao, c, rfl, hc⟩ := Sl.slice hl
  refine enter Try.func24 rfl Try.ntmps24 rfl ?_
  refine rx ?_
  refine c_loopK 8 [3, 4, 5, 6, 7] (σ := Nat × Value) (fun st g u => g 4 = .int .i64 st.1 ∧ g 3 = st.2 ∧ st.1 ≤ l.length ∧ OwnR u 52 2 PR (cO l st.1) st.2 ∧ Fr [] w u ∧ (∀ b ∈ blks st.2, w.heap.size ≤ b))
    (fun st => l.length - st.1) (0, .slice none 0 0) ⟨rfl, rfl, Nat.zero_le _, OwnR.nil _ _ _ _, Fr.refl _ _, by simp [blks, Value.ownBlock]⟩ ?_
  rintro ⟨i, v⟩ g u ⟨h4, h3, hi, ho, hF, hv⟩
  simp only at h4 h3 hi ho hv
  rw [eq_upd h4, eq_upd h3]
  by_cases hil : i < l.length
  case neg =>
    have hin : i = l.length := by omega
    subst hin
    refine rx ?_
    (apply ret1; exact rfl; (conv => lhs; whnf))
    exact ⟨v, rfl, ho, hF, hv⟩
  refine rx ?_
  refine c_loopK 16 [3, 5, 6, 7] (σ := Nat × Value) (fun st g u' => g 5 = .int .i64 (i + 1 + st.1 : Nat) ∧ g 3 = st.2 ∧ i + 1 + st.1 ≤ l.length ∧ OwnR u' 52 2 PR (cO l i ++ cI l i st.1) st.2 ∧ Fr [] w u' ∧ (∀ b ∈ blks st.2, w.heap.size ≤ b))
    (fun st => l.length - st.1) (0, v) ⟨by rfl, rfl, by simp only; omega, by rw [cI, List.append_nil]; exact ho, hF, hv⟩ ?_
  rintro ⟨k, v⟩ g2 u2 ⟨h5, h3, hk, ho2, hF2, hv2⟩
  simp only at h5 h3 hk ho2 hv2
  obtain ⟨j, hj⟩ : ∃ j, i + 1 + k = j := ⟨_, rfl⟩
  rw [hj] at h5 hk
  rw [eq_upd h5, eq_upd h3]
  by_cases hjl : j < l.length
  case neg =>
    have hkn : k = l.length - (i + 1) := by omega
    refine rx ?_
    refine q_roundK (i + 1, v) (by (repeat (first | exact Keep.mrg _ _ _ _ | (refine Keep.hi rfl ?_) | (refine Keep.one rfl ?_) | exact Keep.all rfl | (refine Keep.inn rfl ?_) | (refine Keep.set rfl ?_)))) ⟨rfl, rfl, by simp only; omega, ?_, hF2, hv2⟩ (by simp only; omega)
    rw [hkn] at ho2; exact ho2
  have hlen := cIO_len l i k hil (by omega) hb
  obtain ⟨ad, cs, rfl, ⟨sa, sr, rfl, _, _⟩, hcw⟩ := Sl.at hl ocLen hil
  obtain ⟨adj, cs, e, ⟨saj, srj, rfl, _, _⟩, hcjw⟩ := Sl.at hl ocLen hjl
  simp only [Option.some.injEq] at e
  subst e
  have hci := hcw.tr0 hF2
  have hcj := hcjw.tr0 hF2
  have hcc : cc l i j = (!bef l[i] l[j] && !bef l[j] l[i]) := by rw [cc, bf_eq hil hjl, bf_eq hjl hil]
  have hnx : Value.int .i64 ((j : Int) + 1) = .int .i64 ((i + 1 + (k + 1) : Nat) : Int) := by congr 1; omega
  have hstep : cI l i (k + 1) = cI l i k ++ if cc l i j then [(i, j)] else [] := by rw [cI, hj]
  refine rx ?_
  (refine d_begin (fun z => Fr [] u2 z) (by kernel_rfl) rfl ?_)
  have hS : Fr [] u2 u2.drew := Fr.drew _ _
  ((first | refine d_tx 0 hS ?_ | refine d_ty 0 hS ?_ | refine d_tn 0 hS ?_); (first | refine d_tx 1 hS ?_ | refine d_ty 1 hS ?_ | refine d_tn 1 hS ?_); (first | refine d_tx 2 hS ?_ | refine d_ty 2 hS ?_ | refine d_tn 2 hS ?_); (first | refine d_tx 3 hS ?_ | refine d_ty 3 hS ?_ | refine d_tn 3 hS ?_); (first | refine d_tx 4 hS ?_ | refine d_ty 4 hS ?_ | refine d_tn 4 hS ?_); (first | refine d_tx 5 hS ?_ | refine d_ty 5 hS ?_ | refine d_tn 5 hS ?_); (first | refine d_tx 6 hS ?_ | refine d_ty 6 hS ?_ | refine d_tn 6 hS ?_); (first | refine d_tx 7 hS ?_ | refine d_ty 7 hS ?_ | refine d_tn 7 hS ?_))
  refine d_one (i := 8) rfl (by kernel_rfl) ?_
  refine s_call (beforeR l[i] l[j] sa sr saj srj _) rfl ?_
  rintro _ u3 ⟨rfl, hf3⟩
  refine ⟨_, rfl, ?_⟩
  have hS3 := hS.trans0 hf3
  refine wpList_nil (q_held hS3 ?_)
  (refine d_one (i := 9) rfl (by kernel_rfl) ?_; refine rx ?_; refine q_held hS3 ?_)
  (refine d_done (by kernel_rfl) ?_)
  have hci3 := hci.tr0 hS3
  have hcj3 := hcj.tr0 hS3
  clear hci hcj
  refine rx ?_
  (refine d_begin (fun z => Fr [] u3 z) (by kernel_rfl) rfl ?_)
  have hT : Fr [] u3 u3.drew := Fr.drew _ _
  ((first | refine d_tx 0 hT ?_ | refine d_ty 0 hT ?_ | refine d_tn 0 hT ?_); (first | refine d_tx 1 hT ?_ | refine d_ty 1 hT ?_ | refine d_tn 1 hT ?_); (first | refine d_tx 2 hT ?_ | refine d_ty 2 hT ?_ | refine d_tn 2 hT ?_); (first | refine d_tx 3 hT ?_ | refine d_ty 3 hT ?_ | refine d_tn 3 hT ?_); (first | refine d_tx 4 hT ?_ | refine d_ty 4 hT ?_ | refine d_tn 4 hT ?_); (first | refine d_tx 5 hT ?_ | refine d_ty 5 hT ?_ | refine d_tn 5 hT ?_); (first | refine d_tx 6 hT ?_ | refine d_ty 6 hT ?_ | refine d_tn 6 hT ?_); (first | refine d_tx 7 hT ?_ | refine d_ty 7 hT ?_ | refine d_tn 7 hT ?_))
  refine d_one (i := 8) rfl (by kernel_rfl) ?_
  refine s_call (beforeR l[j] l[i] saj srj sa sr _) rfl ?_
  rintro _ u4 ⟨rfl, hf4⟩
  refine ⟨_, rfl, ?_⟩
  have hT4 := hT.trans0 hf4
  refine wpList_nil (q_held hT4 ?_)
  (refine d_one (i := 9) rfl (by kernel_rfl) ?_; refine rx ?_; refine q_held hT4 ?_)
  (refine d_done (by kernel_rfl) ?_)
  have hS4 := hS3.trans0 hT4
  cases hb1 : bef l[i] l[j] <;> cases hb2 : bef l[j] l[i]
  case false.false =>
    refine rx ?_
    refine s_buildA [.int .i64 i, .int .i64 j] rfl ?_
    refine s_pushA (a := (i, j)) (ho2.tr0 prStab hS4) prStab rfl rfl rfl rfl rfl rfl rfl (by unfold maxLen; omega) (by omega) (fun v' u5 ho5 hf5 hk5 => ?_)
    refine rx ?_
    have hN := (hF2.trans0 hS4).size
    refine q_roundK (k + 1, v') (by (repeat (first | exact Keep.mrg _ _ _ _ | (refine Keep.hi rfl ?_) | (refine Keep.one rfl ?_) | exact Keep.all rfl | (refine Keep.inn rfl ?_) | (refine Keep.set rfl ?_)))) ⟨hnx, rfl, by simp only; omega, ?_, (hF2.trans0 hS4).trans hf5 (fun b hb => .inr (hv2 b hb)), fun b hb => ?_⟩ (by simp only; omega)
    · rw [hb1, hb2] at hcc
      rw [hstep, hcc, ← List.append_assoc]
      exact ho5
    · rcases hk5 b hb with h | h
      · exact hv2 b h
      · omega
  all_goals
    refine rx ?_
    refine q_roundK (k + 1, v) (by (repeat (first | exact Keep.mrg _ _ _ _ | (refine Keep.hi rfl ?_) | (refine Keep.one rfl ?_) | exact Keep.all rfl | (refine Keep.inn rfl ?_) | (refine Keep.set rfl ?_)))) ⟨hnx, rfl, by simp only; omega, ?_, hF2.trans0 hS4, hv2⟩ (by simp only; omega)
    rw [hb1, hb2] at hcc
    rw [hstep, hcc]
    simpa using ho2.tr0 prStab hS4
end Go.Proofs.Ytcogpedfnnfnaaa
