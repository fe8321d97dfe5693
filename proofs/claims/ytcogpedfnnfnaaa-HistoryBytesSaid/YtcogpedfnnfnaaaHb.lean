/-
  Before and sortable of package history; Before of the reference.
-/
import Derived.Test.YtcogpedfnnfnaaaHv
namespace Go.Proofs.Ytcogpedfnnfnaaa
open Go.Rf Go.RowKit
set_option linter.unusedVariables false
set_option maxHeartbeats 4000000
attribute [local irreducible] Code.wp wpList Exit.then Exit.inBlock bodyPost A Calls execOp Addr.add

/-- the cells of a call, whatever hangs on them -/
def OcR (o : Cl) (cs : List Value) : Prop := ∃ sa sr, cs = oc o sa sr ∧ sa.oneCell' = true ∧ sr.oneCell' = true
theorem ocLen : ∀ x cs, OcR x cs → cs.length = 10 := by rintro x _ ⟨sa, sr, rfl, _, _⟩; rfl
theorem ocOne {o : Cl} {cs : List Value} (h : OcR o cs) : ∀ u ∈ cs, u.oneCell' = true := by
  obtain ⟨sa, sr, rfl, h1, h2⟩ := h
  intro u hu
  simp only [oc, List.mem_cons, List.not_mem_nil, or_false] at hu
  rcases hu with rfl | rfl | rfl | rfl | rfl | rfl | rfl | rfl | rfl | rfl
  all_goals first | rfl | exact h1 | exact h2
def OcS (w : World) (l : List Cl) (sl : Value) : Prop := Sl w [] OcR l sl
theorem OcS.tr0 {w w' : World} {l : List Cl} {sl : Value} (h : OcS w l sl) (hf : Fr [] w w') : OcS w' l sl := Sl.tr0 h hf
theorem OpR.oc {w : World} {S : List Nat} {o : Cl} {cs : List Value} (h : OpR w S o cs) : OcR o cs := by
  obtain ⟨sa, sr, rfl, h1, h2⟩ := h; exact ⟨sa, sr, rfl, h1.one, h2.one⟩
theorem OwnR.oc {w : World} {e : Nat} {l : List Cl} {v : Value} (h : OwnR w e 10 OpR l v) : OcS w l v := by
  obtain ⟨ys, h1, h2⟩ := h
  exact ⟨ys, h1.src, fun _ _ _ _ _ => by simp, h2.imp (fun x cs _ hr => hr.oc)⟩

def bef (a b : Cl) : Bool := decide (0 ≤ a.fin ∧ a.fin < b.beg ∨ 0 ≤ a.lost ∧ a.lost < b.beg)
theorem beforeC (a b : Cl) (sa sr sa' sr' : Value) (w : World) : Calls Try.prog 25 #[.agg (oc a sa sr).toArray, .agg (oc b sa' sr').toArray] w fun r w' => r = .returned (.bool (bef a b)) ∧ Fr [] w w' := by
  refine enter Try.func25 rfl Try.ntmps25 rfl ?_
  refine rx ?_
  refine s_box rfl rfl (fun w1 hb1 hf1 hs1 => ?_)
  refine s_box rfl rfl (fun w2 hb2 hf2 hs2 => ?_)
  have hb1' := hb1.tr0 hf2
  (refine rx ?_; repeat' ((first | refine s_eql rfl rfl (fun h => ?_) (fun h => ?_) | refine s_neq rfl rfl (fun h => ?_) (fun h => ?_) | refine s_lss rfl rfl (fun h => ?_) (fun h => ?_) | refine s_leq rfl rfl (fun h => ?_) (fun h => ?_) | refine s_gtr rfl rfl (fun h => ?_) (fun h => ?_) | refine s_geq rfl rfl (fun h => ?_) (fun h => ?_) | refine s_eqlE rfl rfl (fun h => ?_) (fun h => ?_) | refine s_neqE rfl rfl (fun h => ?_) (fun h => ?_) | refine s_lssS rfl rfl (fun h => ?_) (fun h => ?_) | refine s_gtrS rfl rfl (fun h => ?_) (fun h => ?_)) <;> refine rx ?_))
  all_goals
    (apply ret1; exact rfl; (conv => lhs; whnf))
    refine ⟨?_, hf1.trans0 hf2⟩
    simp only [bef, Ending.returned.injEq, Value.bool.injEq]
    first | exact (decide_eq_true (by omega)).symm | exact (decide_eq_false (by omega)).symm
theorem beforeR (a b : Cl) (sa sr sa' sr' : Value) (w : World) : Calls Try.prog 26 #[.agg (oc a sa sr).toArray, .agg (oc b sa' sr').toArray] w fun r w' => r = .returned (.bool (bef a b)) ∧ Fr [] w w' := by
  refine enter Try.func26 rfl Try.ntmps26 rfl ?_
  refine rx ?_
  refine s_box rfl rfl (fun w1 hb1 hf1 hs1 => ?_)
  refine s_box rfl rfl (fun w2 hb2 hf2 hs2 => ?_)
  have hb1' := hb1.tr0 hf2
  (refine rx ?_; repeat' ((first | refine s_eql rfl rfl (fun h => ?_) (fun h => ?_) | refine s_neq rfl rfl (fun h => ?_) (fun h => ?_) | refine s_lss rfl rfl (fun h => ?_) (fun h => ?_) | refine s_leq rfl rfl (fun h => ?_) (fun h => ?_) | refine s_gtr rfl rfl (fun h => ?_) (fun h => ?_) | refine s_geq rfl rfl (fun h => ?_) (fun h => ?_) | refine s_eqlE rfl rfl (fun h => ?_) (fun h => ?_) | refine s_neqE rfl rfl (fun h => ?_) (fun h => ?_) | refine s_lssS rfl rfl (fun h => ?_) (fun h => ?_) | refine s_gtrS rfl rfl (fun h => ?_) (fun h => ?_)) <;> refine rx ?_))
  all_goals
    (apply ret1; exact rfl; (conv => lhs; whnf))
    refine ⟨?_, hf1.trans0 hf2⟩
    simp only [bef, Ending.returned.injEq, Value.bool.injEq]
    first | exact (decide_eq_true (by omega)).symm | exact (decide_eq_false (by omega)).symm

/-- no call that ended comes before an earlier one -/
def Ord (l : List Cl) : Prop := ∀ j i (hj : j < l.length) (hi : i < l.length), j ≠ i → l[j].fin ≠ -1 → bef l[j] l[i] = true → j < i
def dn (l : List Cl) (m : Nat) : List Bool := (List.range l.length).map fun k => decide (k < m ∧ (l[k]?.map (·.fin)).getD (-1) ≠ -1)
theorem dn_len (l : List Cl) (m : Nat) : (dn l m).length = l.length := by simp [dn]
theorem dn_get (l : List Cl) (m : Nat) {k : Nat} (hk : k < l.length) : (dn l m)[k]? = some (decide (k < m ∧ l[k].fin ≠ -1)) := by simp [dn, hk]
theorem dn_zero (l : List Cl) : (zeros [.bool false] l.length) = (dn l 0).map .bool := by
  have : ∀ n, zeros [Value.bool false] n = List.replicate n (.bool false) := by
    intro n
    induction n with
    | zero => rfl
    | succ n ih => simp [zeros, ih, List.replicate_succ]
  rw [this]
  apply List.ext_getElem (by simp [dn])
  intro i h1 h2
  simp [dn]
theorem dn_skip {l : List Cl} {i : Nat} (hi : i < l.length) (h : l[i].fin = -1) : dn l (i + 1) = dn l i := by
  apply List.ext_getElem (by simp [dn])
  intro k h1 h2
  have hk : k < l.length := by simpa [dn] using h1
  simp only [dn, List.getElem_map, List.getElem_range, List.getElem?_eq_getElem hk, Option.map_some, Option.getD_some]
  by_cases e : k = i
  · subst e; simp [h]
  · have : (k < i + 1) ↔ (k < i) := by omega
    simp [this]
theorem dn_set {l : List Cl} {i : Nat} (hi : i < l.length) (h : l[i].fin ≠ -1) : dn l (i + 1) = (dn l i).set i true := by
  apply List.ext_getElem (by simp [dn])
  intro k h1 h2
  have hk : k < l.length := by simpa [dn] using h1
  rw [List.getElem_set]
  simp only [dn, List.getElem_map, List.getElem_range, List.getElem?_eq_getElem hk, Option.map_some, Option.getD_some]
  by_cases e : i = k
  · subst e; simp [h]
  · have : (k < i + 1) ↔ (k < i) := by omega
    simp [e, this]

set_option maxRecDepth 4000 in
theorem sortableC (l : List Cl) (sl : Value) (w : World) (hl : OcS w l sl) (hord : Ord l) (hb : l.length ≤ 1000000) :
    Calls Try.prog 53 #[sl] w fun r w' => r = .returned (.bool true) ∧ Fr [] w w' := by
  obtain ⟨ao, c, rfl, hc⟩ := Sl.slice hl
  refine enter Try.func53 rfl Try.ntmps53 rfl ?_
  refine rx ?_
  refine s_makeS (k := l.length) rfl rfl (by omega) (by unfold maxLen; omega) (fun w1 ho1 hf1 hs1 => ?_)
  obtain ⟨N, hN⟩ : ∃ N, w.heap.size = N := ⟨_, rfl⟩
  rw [hN] at ho1 hs1 ⊢
  rw [dn_zero] at ho1
  have hblk : blks (.slice (some ⟨N, 0, none⟩) l.length l.length) = [N] := rfl
  refine rx ?_
  have getA : ∀ {u : World} {m k : Nat}, Own u 4 1 (.slice (some ⟨N, 0, none⟩) l.length l.length) l.length ((dn l m).map .bool) → (hk : k < l.length) → u.cell? ((⟨N, 0, none⟩ : Addr).add k) = some (.bool (decide (k < m ∧ l[k].fin ≠ -1))) := fun ho hk =>
    src_cell ho.src (by rw [List.getElem?_map, dn_get l _ hk]; rfl)
  -- the rounds
  refine c_loopK 7 [4, 5] (σ := Nat × Nat) (fun st g u => g 11 = .int .i64 l.length ∧ g 12 = .int .i64 st.1 ∧ st.1 ≤ l.length ∧ (st.1 = 0 ∧ st.2 = 0 ∨ st.2 = l.length) ∧ Own u 4 1 (.slice (some ⟨N, 0, none⟩) l.length l.length) l.length ((dn l st.2).map .bool) ∧ Fr [N] w1 u)
    (fun st => l.length - st.1) (0, 0) ⟨rfl, rfl, Nat.zero_le _, .inl ⟨rfl, rfl⟩, ho1, Fr.refl _ _⟩ ?_
  rintro ⟨r, m⟩ g u ⟨h11, h12, hr, hm, ho, hf⟩
  simp only at h12 hr hm ho
  rw [eq_upd h11, eq_upd h12]
  have hF : Fr [] w u := hf1.trans hf (by simp; omega)
  by_cases hlt : r < l.length
  case neg =>
    have hmn : m = l.length := by omega
    subst hmn
    refine rx ?_
    refine c_loopK 7 [6] (σ := Nat) (fun i g u' => g 75 = .int .i64 l.length ∧ g 76 = .int .i64 i ∧ i ≤ l.length ∧ u = u') (fun i => l.length - i) 0 ⟨rfl, rfl, Nat.zero_le _, rfl⟩ ?_
    rintro i g u' ⟨h75, h76, hi, rfl⟩
    rw [eq_upd h75, eq_upd h76]
    by_cases hil : i < l.length
    case neg =>
      refine rx ?_
      (apply ret1; exact rfl; (conv => lhs; whnf))
      exact ⟨rfl, hF⟩
    have hg := getA ho hil
    obtain ⟨ad, cs, rfl, ⟨sa, sr, rfl, _, _⟩, hcell⟩ := Sl.at (OcS.tr0 hl hF) ocLen hil
    by_cases hfin : l[i].fin = -1
    · rw [decide_eq_false (by simp [hfin])] at hg
      refine rx ?_
      rw [Nat.mul_one]
      refine s_load rfl hg ?_
      refine rx ?_
      exact q_roundK (i + 1) (by (repeat (first | exact Keep.mrg _ _ _ _ | (refine Keep.hi rfl ?_) | (refine Keep.one rfl ?_) | exact Keep.all rfl | (refine Keep.inn rfl ?_) | (refine Keep.set rfl ?_)))) ⟨rfl, rfl, by omega, rfl⟩ (by omega)
    · rw [decide_eq_true ⟨hil, hfin⟩] at hg
      refine rx ?_
      rw [Nat.mul_one]
      refine s_load rfl hg ?_
      refine rx ?_
      exact q_roundK (i + 1) (by (repeat (first | exact Keep.mrg _ _ _ _ | (refine Keep.hi rfl ?_) | (refine Keep.one rfl ?_) | exact Keep.all rfl | (refine Keep.inn rfl ?_) | (refine Keep.set rfl ?_)))) ⟨rfl, rfl, by omega, rfl⟩ (by omega)
  refine rx ?_
  refine c_loopK 14 [4, 5] (σ := Nat) (fun i g u' => g 15 = .int .i64 l.length ∧ g 16 = .int .i64 i ∧ i ≤ l.length ∧ Own u' 4 1 (.slice (some ⟨N, 0, none⟩) l.length l.length) l.length ((dn l (max i m)).map .bool) ∧ Fr [N] u u') (fun i => l.length - i) 0 ⟨rfl, rfl, Nat.zero_le _, by rw [Nat.zero_max]; exact ho, Fr.refl _ _⟩ ?_
  rintro i g2 u2 ⟨h15, h16, hi, ho2, hf2⟩
  rw [eq_upd h15, eq_upd h16]
  have hF2 : Fr [] w u2 := hF.trans hf2 (by simp; omega)
  by_cases hil : i < l.length
  case neg =>
    refine rx ?_
    refine q_roundK (r + 1, l.length) (by (repeat (first | exact Keep.mrg _ _ _ _ | (refine Keep.hi rfl ?_) | (refine Keep.one rfl ?_) | exact Keep.all rfl | (refine Keep.inn rfl ?_) | (refine Keep.set rfl ?_)))) ⟨rfl, rfl, by simp only; omega, .inr rfl, ?_, hf.trans hf2 (by simp)⟩ (by simp only; omega)
    have e1 : max i m = l.length := by omega
    rw [e1] at ho2; exact ho2
  have hg := getA ho2 hil
  obtain ⟨ad, cs, rfl, ⟨sa, sr, rfl, _, _⟩, hcw⟩ := Sl.at hl ocLen hil
  have hcell := hcw.tr0 hF2
  by_cases hfin : l[i].fin = -1
  · rw [decide_eq_false (by simp [hfin])] at hg
    refine rx ?_
    rw [Nat.mul_one]
    refine s_load rfl hg ?_
    refine rx ?_
    refine q_roundK (i + 1) (by (repeat (first | exact Keep.mrg _ _ _ _ | (refine Keep.hi rfl ?_) | (refine Keep.one rfl ?_) | exact Keep.all rfl | (refine Keep.inn rfl ?_) | (refine Keep.set rfl ?_)))) ⟨rfl, rfl, by omega, ?_, hf2⟩ (by omega)
    rcases hm with ⟨_, rfl⟩ | rfl
    · rw [Nat.max_zero] at ho2 ⊢; rw [dn_skip hil hfin]; exact ho2
    · rw [Nat.max_eq_right (by omega)] at ho2 ⊢; exact ho2
  by_cases hmi : i < m
  · rw [decide_eq_true ⟨by omega, hfin⟩] at hg
    refine rx ?_
    rw [Nat.mul_one]
    refine s_load rfl hg ?_
    refine rx ?_
    refine q_roundK (i + 1) (by (repeat (first | exact Keep.mrg _ _ _ _ | (refine Keep.hi rfl ?_) | (refine Keep.one rfl ?_) | exact Keep.all rfl | (refine Keep.inn rfl ?_) | (refine Keep.set rfl ?_)))) ⟨rfl, rfl, by omega, ?_, hf2⟩ (by omega)
    have e1 : max i m = max (i + 1) m := by omega
    rw [← e1]; exact ho2
  have hm0 : m = 0 := by omega
  subst hm0
  rw [Nat.max_zero] at ho2 hg
  rw [decide_eq_false (by omega)] at hg
  refine rx ?_
  rw [Nat.mul_one]
  refine s_load rfl hg ?_
  refine rx ?_
  rw [Nat.mul_one]
  refine s_storeOwn (j := i) (u := .bool true) ho2 rfl hil rfl rfl rfl (fun u3 ho3 hf3 hs3 => ?_)
  rw [← List.map_set, ← dn_set hil hfin] at ho3
  rw [hblk] at hf3
  refine rx ?_
  refine c_loopK 17 [5] (σ := Nat) (fun j g u' => g 35 = .int .i64 l.length ∧ g 36 = .int .i64 j ∧ j ≤ l.length ∧ Fr [] u3 u') (fun j => l.length - j) 0 ⟨rfl, rfl, Nat.zero_le _, Fr.refl _ _⟩ ?_
  rintro j g3 u4 ⟨h35, h36, hj, hf4⟩
  rw [eq_upd h35, eq_upd h36]
  have ho4 := ho3.tr0 hf4
  have hF4 : Fr [] w u4 := (hF2.trans hf3 (by simp; omega)).trans0 hf4
  by_cases hjl : j < l.length
  case neg =>
    refine rx ?_
    refine q_roundK (i + 1) (by (repeat (first | exact Keep.mrg _ _ _ _ | (refine Keep.hi rfl ?_) | (refine Keep.one rfl ?_) | exact Keep.all rfl | (refine Keep.inn rfl ?_) | (refine Keep.set rfl ?_)))) ⟨rfl, rfl, by omega, by rw [Nat.max_zero]; exact ho4, (hf2.trans hf3 (by simp)).trans0 hf4⟩ (by omega)
  have hgj := getA ho4 hjl
  obtain ⟨adj, cs, e, ⟨saj, srj, rfl, _, _⟩, hcjw⟩ := Sl.at hl ocLen hjl
  simp only [Option.some.injEq] at e
  subst e
  have hcj := hcjw.tr0 hF4
  have hci := hcw.tr0 hF4
  clear hcell
  have hgq : ∀ (b : Bool), decide (j < i + 1 ∧ l[j].fin ≠ -1) = b → ∀ q, Fr [] u4 q → q.cell? ((⟨N, 0, none⟩ : Addr).add (j * 1)) = some (.bool b) := fun b hb q hq => by
    rw [Nat.mul_one]
    have := getA (ho4.tr0 hq) hjl
    rwa [hb] at this
  refine rx ?_
  (refine d_begin (fun z => Fr [] u4 z) (by kernel_rfl) rfl ?_)
  have hS : Fr [] u4 u4.drew := Fr.drew _ _
  by_cases hij : j = i
  · ((first | refine d_tx 0 hS ?_ | refine d_ty 0 hS ?_ | refine d_tn 0 hS ?_); (first | refine d_tx 1 hS ?_ | refine d_ty 1 hS ?_ | refine d_tn 1 hS ?_); (first | refine d_tx 2 hS ?_ | refine d_ty 2 hS ?_ | refine d_tn 2 hS ?_); (first | refine d_tx 3 hS ?_ | refine d_ty 3 hS ?_ | refine d_tn 3 hS ?_); (first | refine d_tx 4 hS ?_ | refine d_ty 4 hS ?_ | refine d_tn 4 hS ?_); (first | refine d_tx 5 hS ?_ | refine d_ty 5 hS ?_ | refine d_tn 5 hS ?_); (first | refine d_tx 6 hS ?_ | refine d_ty 6 hS ?_ | refine d_tn 6 hS ?_); (first | refine d_tx 7 hS ?_ | refine d_ty 7 hS ?_ | refine d_tn 7 hS ?_); (first | refine d_tx 8 hS ?_ | refine d_ty 8 hS ?_ | refine d_tn 8 hS ?_); (first | refine d_tx 9 hS ?_ | refine d_ty 9 hS ?_ | refine d_tn 9 hS ?_); (first | refine d_tx 10 hS ?_ | refine d_ty 10 hS ?_ | refine d_tn 10 hS ?_); (first | refine d_tx 11 hS ?_ | refine d_ty 11 hS ?_ | refine d_tn 11 hS ?_); (first | refine d_tx 12 hS ?_ | refine d_ty 12 hS ?_ | refine d_tn 12 hS ?_); (first | refine d_tx 13 hS ?_ | refine d_ty 13 hS ?_ | refine d_tn 13 hS ?_); (first | refine d_tx 14 hS ?_ | refine d_ty 14 hS ?_ | refine d_tn 14 hS ?_); (first | refine d_tx 15 hS ?_ | refine d_ty 15 hS ?_ | refine d_tn 15 hS ?_); (first | refine d_tx 16 hS ?_ | refine d_ty 16 hS ?_ | refine d_tn 16 hS ?_); (first | refine d_tx 17 hS ?_ | refine d_ty 17 hS ?_ | refine d_tn 17 hS ?_); (first | refine d_tx 18 hS ?_ | refine d_ty 18 hS ?_ | refine d_tn 18 hS ?_); (first | refine d_tx 19 hS ?_ | refine d_ty 19 hS ?_ | refine d_tn 19 hS ?_); (first | refine d_tx 20 hS ?_ | refine d_ty 20 hS ?_ | refine d_tn 20 hS ?_); (first | refine d_tx 21 hS ?_ | refine d_ty 21 hS ?_ | refine d_tn 21 hS ?_); (first | refine d_tx 22 hS ?_ | refine d_ty 22 hS ?_ | refine d_tn 22 hS ?_); (first | refine d_tx 23 hS ?_ | refine d_ty 23 hS ?_ | refine d_tn 23 hS ?_); (first | refine d_tx 24 hS ?_ | refine d_ty 24 hS ?_ | refine d_tn 24 hS ?_); (first | refine d_tx 25 hS ?_ | refine d_ty 25 hS ?_ | refine d_tn 25 hS ?_); (first | refine d_tx 26 hS ?_ | refine d_ty 26 hS ?_ | refine d_tn 26 hS ?_); (first | refine d_tx 27 hS ?_ | refine d_ty 27 hS ?_ | refine d_tn 27 hS ?_); (first | refine d_tx 28 hS ?_ | refine d_ty 28 hS ?_ | refine d_tn 28 hS ?_))
    (refine d_done (by kernel_rfl) ?_)
    refine rx ?_
    exact q_roundK (j + 1) (by (repeat (first | exact Keep.mrg _ _ _ _ | (refine Keep.hi rfl ?_) | (refine Keep.one rfl ?_) | exact Keep.all rfl | (refine Keep.inn rfl ?_) | (refine Keep.set rfl ?_)))) ⟨rfl, rfl, by omega, hf4.trans0 hS⟩ (by omega)
  ((first | refine d_tx 0 hS ?_ | refine d_ty 0 hS ?_ | refine d_tn 0 hS ?_); (first | refine d_tx 1 hS ?_ | refine d_ty 1 hS ?_ | refine d_tn 1 hS ?_); (first | refine d_tx 2 hS ?_ | refine d_ty 2 hS ?_ | refine d_tn 2 hS ?_); (first | refine d_tx 3 hS ?_ | refine d_ty 3 hS ?_ | refine d_tn 3 hS ?_); (first | refine d_tx 4 hS ?_ | refine d_ty 4 hS ?_ | refine d_tn 4 hS ?_); (first | refine d_tx 5 hS ?_ | refine d_ty 5 hS ?_ | refine d_tn 5 hS ?_); (first | refine d_tx 6 hS ?_ | refine d_ty 6 hS ?_ | refine d_tn 6 hS ?_))
  by_cases hd : j < i + 1 ∧ l[j].fin ≠ -1
  · (apply d_yes (i := 7); exact rfl; exact rfl; kernel_rfl; kernel_rfl; kernel_rfl; (intro u hu; exact r_load rfl (hgq true (decide_eq_true hd) _ hu)); exact hS)
    ((first | refine d_tx 8 hS ?_ | refine d_ty 8 hS ?_ | refine d_tn 8 hS ?_); (first | refine d_tx 9 hS ?_ | refine d_ty 9 hS ?_ | refine d_tn 9 hS ?_); (first | refine d_tx 10 hS ?_ | refine d_ty 10 hS ?_ | refine d_tn 10 hS ?_); (first | refine d_tx 11 hS ?_ | refine d_ty 11 hS ?_ | refine d_tn 11 hS ?_); (first | refine d_tx 12 hS ?_ | refine d_ty 12 hS ?_ | refine d_tn 12 hS ?_); (first | refine d_tx 13 hS ?_ | refine d_ty 13 hS ?_ | refine d_tn 13 hS ?_); (first | refine d_tx 14 hS ?_ | refine d_ty 14 hS ?_ | refine d_tn 14 hS ?_); (first | refine d_tx 15 hS ?_ | refine d_ty 15 hS ?_ | refine d_tn 15 hS ?_); (first | refine d_tx 16 hS ?_ | refine d_ty 16 hS ?_ | refine d_tn 16 hS ?_); (first | refine d_tx 17 hS ?_ | refine d_ty 17 hS ?_ | refine d_tn 17 hS ?_); (first | refine d_tx 18 hS ?_ | refine d_ty 18 hS ?_ | refine d_tn 18 hS ?_); (first | refine d_tx 19 hS ?_ | refine d_ty 19 hS ?_ | refine d_tn 19 hS ?_); (first | refine d_tx 20 hS ?_ | refine d_ty 20 hS ?_ | refine d_tn 20 hS ?_); (first | refine d_tx 21 hS ?_ | refine d_ty 21 hS ?_ | refine d_tn 21 hS ?_); (first | refine d_tx 22 hS ?_ | refine d_ty 22 hS ?_ | refine d_tn 22 hS ?_); (first | refine d_tx 23 hS ?_ | refine d_ty 23 hS ?_ | refine d_tn 23 hS ?_); (first | refine d_tx 24 hS ?_ | refine d_ty 24 hS ?_ | refine d_tn 24 hS ?_); (first | refine d_tx 25 hS ?_ | refine d_ty 25 hS ?_ | refine d_tn 25 hS ?_); (first | refine d_tx 26 hS ?_ | refine d_ty 26 hS ?_ | refine d_tn 26 hS ?_); (first | refine d_tx 27 hS ?_ | refine d_ty 27 hS ?_ | refine d_tn 27 hS ?_); (first | refine d_tx 28 hS ?_ | refine d_ty 28 hS ?_ | refine d_tn 28 hS ?_))
    (refine d_done (by kernel_rfl) ?_)
    refine rx ?_
    exact q_roundK (j + 1) (by (repeat (first | exact Keep.mrg _ _ _ _ | (refine Keep.hi rfl ?_) | (refine Keep.one rfl ?_) | exact Keep.all rfl | (refine Keep.inn rfl ?_) | (refine Keep.set rfl ?_)))) ⟨rfl, rfl, by omega, hf4.trans0 hS⟩ (by omega)
  (apply d_yes (i := 7); exact rfl; exact rfl; kernel_rfl; kernel_rfl; kernel_rfl; (intro u hu; exact r_load rfl (hgq false (decide_eq_false hd) _ hu)); exact hS)
  by_cases hfj : l[j].fin = -1
  · ((first | refine d_tx 8 hS ?_ | refine d_ty 8 hS ?_ | refine d_tn 8 hS ?_); (first | refine d_tx 9 hS ?_ | refine d_ty 9 hS ?_ | refine d_tn 9 hS ?_); (first | refine d_tx 10 hS ?_ | refine d_ty 10 hS ?_ | refine d_tn 10 hS ?_); (first | refine d_tx 11 hS ?_ | refine d_ty 11 hS ?_ | refine d_tn 11 hS ?_); (first | refine d_tx 12 hS ?_ | refine d_ty 12 hS ?_ | refine d_tn 12 hS ?_); (first | refine d_tx 13 hS ?_ | refine d_ty 13 hS ?_ | refine d_tn 13 hS ?_); (first | refine d_tx 14 hS ?_ | refine d_ty 14 hS ?_ | refine d_tn 14 hS ?_); (first | refine d_tx 15 hS ?_ | refine d_ty 15 hS ?_ | refine d_tn 15 hS ?_); (first | refine d_tx 16 hS ?_ | refine d_ty 16 hS ?_ | refine d_tn 16 hS ?_); (first | refine d_tx 17 hS ?_ | refine d_ty 17 hS ?_ | refine d_tn 17 hS ?_); (first | refine d_tx 18 hS ?_ | refine d_ty 18 hS ?_ | refine d_tn 18 hS ?_); (first | refine d_tx 19 hS ?_ | refine d_ty 19 hS ?_ | refine d_tn 19 hS ?_); (first | refine d_tx 20 hS ?_ | refine d_ty 20 hS ?_ | refine d_tn 20 hS ?_); (first | refine d_tx 21 hS ?_ | refine d_ty 21 hS ?_ | refine d_tn 21 hS ?_); (first | refine d_tx 22 hS ?_ | refine d_ty 22 hS ?_ | refine d_tn 22 hS ?_); (first | refine d_tx 23 hS ?_ | refine d_ty 23 hS ?_ | refine d_tn 23 hS ?_); (first | refine d_tx 24 hS ?_ | refine d_ty 24 hS ?_ | refine d_tn 24 hS ?_); (first | refine d_tx 25 hS ?_ | refine d_ty 25 hS ?_ | refine d_tn 25 hS ?_); (first | refine d_tx 26 hS ?_ | refine d_ty 26 hS ?_ | refine d_tn 26 hS ?_); (first | refine d_tx 27 hS ?_ | refine d_ty 27 hS ?_ | refine d_tn 27 hS ?_); (first | refine d_tx 28 hS ?_ | refine d_ty 28 hS ?_ | refine d_tn 28 hS ?_))
    (refine d_done (by kernel_rfl) ?_)
    refine rx ?_
    exact q_roundK (j + 1) (by (repeat (first | exact Keep.mrg _ _ _ _ | (refine Keep.hi rfl ?_) | (refine Keep.one rfl ?_) | exact Keep.all rfl | (refine Keep.inn rfl ?_) | (refine Keep.set rfl ?_)))) ⟨rfl, rfl, by omega, hf4.trans0 hS⟩ (by omega)
  have hnb : bef l[j] l[i] = false := by
    cases hq : bef l[j] l[i] with
    | false => rfl
    | true => have := hord j i hjl hil hij hfj hq; exact absurd ⟨by omega, hfj⟩ hd
  ((first | refine d_tx 8 hS ?_ | refine d_ty 8 hS ?_ | refine d_tn 8 hS ?_); (first | refine d_tx 9 hS ?_ | refine d_ty 9 hS ?_ | refine d_tn 9 hS ?_); (first | refine d_tx 10 hS ?_ | refine d_ty 10 hS ?_ | refine d_tn 10 hS ?_); (first | refine d_tx 11 hS ?_ | refine d_ty 11 hS ?_ | refine d_tn 11 hS ?_); (first | refine d_tx 12 hS ?_ | refine d_ty 12 hS ?_ | refine d_tn 12 hS ?_); (first | refine d_tx 13 hS ?_ | refine d_ty 13 hS ?_ | refine d_tn 13 hS ?_); (first | refine d_tx 14 hS ?_ | refine d_ty 14 hS ?_ | refine d_tn 14 hS ?_); (first | refine d_tx 15 hS ?_ | refine d_ty 15 hS ?_ | refine d_tn 15 hS ?_); (first | refine d_tx 16 hS ?_ | refine d_ty 16 hS ?_ | refine d_tn 16 hS ?_); (first | refine d_tx 17 hS ?_ | refine d_ty 17 hS ?_ | refine d_tn 17 hS ?_); (first | refine d_tx 18 hS ?_ | refine d_ty 18 hS ?_ | refine d_tn 18 hS ?_); (first | refine d_tx 19 hS ?_ | refine d_ty 19 hS ?_ | refine d_tn 19 hS ?_); (first | refine d_tx 20 hS ?_ | refine d_ty 20 hS ?_ | refine d_tn 20 hS ?_); (first | refine d_tx 21 hS ?_ | refine d_ty 21 hS ?_ | refine d_tn 21 hS ?_); (first | refine d_tx 22 hS ?_ | refine d_ty 22 hS ?_ | refine d_tn 22 hS ?_); (first | refine d_tx 23 hS ?_ | refine d_ty 23 hS ?_ | refine d_tn 23 hS ?_); (first | refine d_tx 24 hS ?_ | refine d_ty 24 hS ?_ | refine d_tn 24 hS ?_); (first | refine d_tx 25 hS ?_ | refine d_ty 25 hS ?_ | refine d_tn 25 hS ?_); (first | refine d_tx 26 hS ?_ | refine d_ty 26 hS ?_ | refine d_tn 26 hS ?_))
  refine d_one (i := 27) rfl (by kernel_rfl) ?_
  refine g_yes rfl ?_
  refine s_call (beforeC l[j] l[i] saj srj sa sr _) rfl ?_
  rintro _ u5 ⟨rfl, hf5⟩
  refine ⟨_, rfl, ?_⟩
  rw [hnb]
  have hS5 := hS.trans0 hf5
  refine wpList_nil (q_held hS5 ?_)
  ((first | refine d_tx 28 hS5 ?_ | refine d_ty 28 hS5 ?_ | refine d_tn 28 hS5 ?_))
  (refine d_done (by kernel_rfl) ?_)
  refine rx ?_
  exact q_roundK (j + 1) (by (repeat (first | exact Keep.mrg _ _ _ _ | (refine Keep.hi rfl ?_) | (refine Keep.one rfl ?_) | exact Keep.all rfl | (refine Keep.inn rfl ?_) | (refine Keep.set rfl ?_)))) ⟨rfl, rfl, by omega, hf4.trans0 hS5⟩ (by omega)
end Go.Proofs.Ytcogpedfnnfnaaa
