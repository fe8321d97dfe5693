/-
  Orders of package history: whether a call fits.
-/
import Derived.Test.YtcogpedfnnfnaaaHb
namespace Go.Proofs.Ytcogpedfnnfnaaa
open Go.Rf Go.RowKit
set_option linter.unusedVariables false
set_option maxHeartbeats 8000000
attribute [local irreducible] Code.wp wpList Exit.then Exit.inBlock bodyPost A Calls execOp Addr.add

def gt (l : List Cl) (j : Nat) : Cl := (l[j]?).getD ⟨0, 0, 0, 0, ⟨#[]⟩, [], V0⟩
theorem gt_eq {l : List Cl} {j : Nat} (h : j < l.length) : gt l j = l[j] := by simp [gt, h]
def badB (l : List Cl) (order : List Nat) (i j : Nat) : Bool := (decide (j ∈ order) && bef (gt l i) (gt l j)) || (!decide (j ∈ order) && (decide ((gt l j).fin ≠ -1) && bef (gt l j) (gt l i)))
def fitFrom (l : List Cl) (order : List Nat) (i : Nat) (js : List Nat) : Bool := js.all (fun j => decide (j = i) || !badB l order i j)
def fitB (l : List Cl) (order : List Nat) (i : Nat) : Bool := fitFrom l order i (List.range l.length) && !decide (i ∈ order)
def thr (n : Nat) (order : List Nat) : List Bool := (List.range n).map fun j => decide (j ∈ order)
theorem thr_get {n : Nat} (order : List Nat) {k : Nat} (hk : k < n) : (thr n order)[k]? = some (decide (k ∈ order)) := by simp [thr, hk]
theorem fitFrom_drop {l : List Cl} {order : List Nat} {i j : Nat} (h : j < l.length) : fitFrom l order i ((List.range l.length).drop j) = ((decide (j = i) || !badB l order i j) && fitFrom l order i ((List.range l.length).drop (j + 1))) := by
  rw [List.drop_eq_getElem_cons (by simpa using h), List.getElem_range]; rfl

theorem own_at1 {w : World} {e k c j : Nat} {ao : Option Addr} {xs : List Value} (h : Own w e 1 (.slice ao k c) k xs) (hj : j < k) : ∃ a, ao = some a := by
  rcases h.2 with ⟨h0, h1⟩ | ⟨g, cap, cur, hv, _⟩
  · omega
  · simp only [Value.slice.injEq] at hv
    exact ⟨_, hv.1⟩

set_option maxRecDepth 4000 in
theorem fitsC (l : List Cl) (order : List Nat) (i : Nat) (BL BT : Nat) (sl tv : Value) (w : World) (hl : OcS w l sl) (hb : l.length ≤ 1000000) (hi : i < l.length)
    (hBL : Blk w BL [sl] 28) (hBT : Blk w BT [tv] 95) (hT : Own w 4 1 tv l.length ((thr l.length order).map .bool)) :
    Calls Try.prog 54 #[.int .i64 i, .pointer (some ⟨BL, 0, none⟩), .pointer (some ⟨BT, 0, none⟩)] w fun r w' => r = .returned (.bool (fitB l order i)) ∧ Fr [] w w' := by
  obtain ⟨ao, c, rfl, hc⟩ := Sl.slice hl
  obtain ⟨at_, ct, htv⟩ := hT.slice
  subst htv
  obtain ⟨adi, cs, hadi, ⟨sai, sri, rfl, _, _⟩, hciw⟩ := Sl.at hl ocLen hi
  subst hadi
  obtain ⟨tt, htt⟩ : ∃ tt, at_ = some tt := own_at1 hT hi
  subst htt
  refine enter Try.func54 rfl Try.ntmps54 rfl ?_
  refine rx ?_
  have getT : ∀ {u : World} {k : Nat}, Fr [] w u → (hk : k < l.length) → u.cell? (tt.add (k * 1)) = some (.bool (decide (k ∈ order))) := fun hf hk => by
    rw [Nat.mul_one]
    exact src_cell (hT.src.tr0 hf) (by rw [List.getElem?_map, thr_get _ hk]; rfl)
  refine c_loopK 6 [5] (σ := Nat) (fun j g u => g 7 = .int .i64 l.length ∧ g 8 = .int .i64 j ∧ j ≤ l.length ∧ fitFrom l order i (List.range l.length) = fitFrom l order i ((List.range l.length).drop j) ∧ Fr [] w u) (fun j => l.length - j) 0 ⟨rfl, rfl, Nat.zero_le _, rfl, Fr.refl _ _⟩ ?_
  rintro j g u ⟨h7, h8, hj, hfit, hf⟩
  rw [eq_upd h7, eq_upd h8]
  have hBLu := hBL.tr0 hf
  have hBTu := hBT.tr0 hf
  by_cases hjl : j < l.length
  case neg =>
    have hg := getT hf hi
    rw [List.drop_eq_nil_of_le (by simp; omega)] at hfit
    refine rx ?_
    refine s_load rfl hg ?_
    refine rx ?_
    (apply ret1; exact rfl; (conv => lhs; whnf))
    refine ⟨?_, hf⟩
    unfold fitB
    rw [hfit]; rfl
  rw [fitFrom_drop hjl] at hfit
  by_cases hij : j = i
  · refine rx ?_
    refine q_roundK (j + 1) (by (repeat (first | exact Keep.mrg _ _ _ _ | (refine Keep.hi rfl ?_) | (refine Keep.one rfl ?_) | exact Keep.all rfl | (refine Keep.inn rfl ?_) | (refine Keep.set rfl ?_)))) ⟨rfl, rfl, by omega, ?_, hf⟩ (by omega)
    rw [hfit]; simp [hij]
  rw [decide_eq_false hij, Bool.false_or] at hfit
  obtain ⟨adj, cs, e, ⟨saj, srj, rfl, _, _⟩, hcjw⟩ := Sl.at hl ocLen hjl
  simp only [Option.some.injEq] at e
  subst e
  have hcj := hcjw.tr0 hf
  have hci := hciw.tr0 hf
  have hbad : badB l order i j = ((decide (j ∈ order) && bef l[i] l[j]) || (!decide (j ∈ order) && (decide (l[j].fin ≠ -1) && bef l[j] l[i]))) := by
    unfold badB; rw [gt_eq hi, gt_eq hjl]
  have hgq : ∀ (b : Bool), decide (j ∈ order) = b → ∀ q, Fr [] u q → q.cell? (tt.add (j * 1)) = some (.bool b) := fun b hb q hq => by
    have := getT (hf.trans0 hq) hjl
    rwa [hb] at this
  refine rx ?_
  (refine d_begin (fun z => Fr [] u z) (by kernel_rfl) rfl ?_)
  have hS : Fr [] u u.drew := Fr.drew _ _
  ((first | refine d_tx 0 hS ?_ | refine d_ty 0 hS ?_ | refine d_tn 0 hS ?_); (first | refine d_tx 1 hS ?_ | refine d_ty 1 hS ?_ | refine d_tn 1 hS ?_); (first | refine d_tx 2 hS ?_ | refine d_ty 2 hS ?_ | refine d_tn 2 hS ?_))
  have stop : fitFrom l order i ((List.range l.length)) = false → fitB l order i = false := fun h => by unfold fitB; rw [h]; rfl
  by_cases hin : j ∈ order
  · rw [decide_eq_true hin] at hbad
    (apply d_take (i := 3); exact rfl; kernel_rfl; kernel_rfl; kernel_rfl; (intro u hu; exact r_load rfl (hgq true (decide_eq_true hin) _ hu)); exact hS)
    ((first | refine d_tx 4 hS ?_ | refine d_ty 4 hS ?_ | refine d_tn 4 hS ?_); (first | refine d_tx 5 hS ?_ | refine d_ty 5 hS ?_ | refine d_tn 5 hS ?_); (first | refine d_tx 6 hS ?_ | refine d_ty 6 hS ?_ | refine d_tn 6 hS ?_); (first | refine d_tx 7 hS ?_ | refine d_ty 7 hS ?_ | refine d_tn 7 hS ?_); (first | refine d_tx 8 hS ?_ | refine d_ty 8 hS ?_ | refine d_tn 8 hS ?_); (first | refine d_tx 9 hS ?_ | refine d_ty 9 hS ?_ | refine d_tn 9 hS ?_); (first | refine d_tx 10 hS ?_ | refine d_ty 10 hS ?_ | refine d_tn 10 hS ?_); (first | refine d_tx 11 hS ?_ | refine d_ty 11 hS ?_ | refine d_tn 11 hS ?_); (first | refine d_tx 12 hS ?_ | refine d_ty 12 hS ?_ | refine d_tn 12 hS ?_))
    refine d_one (i := 13) rfl (by kernel_rfl) ?_
    refine g_yes rfl ?_
    refine s_call (beforeC l[i] l[j] sai sri saj srj _) rfl ?_
    rintro _ u5 ⟨rfl, hf5⟩
    refine ⟨_, rfl, ?_⟩
    have hS5 := hS.trans0 hf5
    refine wpList_nil (q_held hS5 ?_)
    cases hq : bef l[i] l[j] with
    | true =>
      rw [hq] at hbad
      rw [hbad] at hfit
      ((first | refine d_tx 14 hS5 ?_ | refine d_ty 14 hS5 ?_ | refine d_tn 14 hS5 ?_); (first | refine d_tx 15 hS5 ?_ | refine d_ty 15 hS5 ?_ | refine d_tn 15 hS5 ?_); (first | refine d_tx 16 hS5 ?_ | refine d_ty 16 hS5 ?_ | refine d_tn 16 hS5 ?_); (first | refine d_tx 17 hS5 ?_ | refine d_ty 17 hS5 ?_ | refine d_tn 17 hS5 ?_); (first | refine d_tx 18 hS5 ?_ | refine d_ty 18 hS5 ?_ | refine d_tn 18 hS5 ?_); (first | refine d_tx 19 hS5 ?_ | refine d_ty 19 hS5 ?_ | refine d_tn 19 hS5 ?_); (first | refine d_tx 20 hS5 ?_ | refine d_ty 20 hS5 ?_ | refine d_tn 20 hS5 ?_); (first | refine d_tx 21 hS5 ?_ | refine d_ty 21 hS5 ?_ | refine d_tn 21 hS5 ?_); (first | refine d_tx 22 hS5 ?_ | refine d_ty 22 hS5 ?_ | refine d_tn 22 hS5 ?_); (first | refine d_tx 23 hS5 ?_ | refine d_ty 23 hS5 ?_ | refine d_tn 23 hS5 ?_); (first | refine d_tx 24 hS5 ?_ | refine d_ty 24 hS5 ?_ | refine d_tn 24 hS5 ?_); (first | refine d_tx 25 hS5 ?_ | refine d_ty 25 hS5 ?_ | refine d_tn 25 hS5 ?_); (first | refine d_tx 26 hS5 ?_ | refine d_ty 26 hS5 ?_ | refine d_tn 26 hS5 ?_); (first | refine d_tx 27 hS5 ?_ | refine d_ty 27 hS5 ?_ | refine d_tn 27 hS5 ?_); (first | refine d_tx 28 hS5 ?_ | refine d_ty 28 hS5 ?_ | refine d_tn 28 hS5 ?_); (first | refine d_tx 29 hS5 ?_ | refine d_ty 29 hS5 ?_ | refine d_tn 29 hS5 ?_); (first | refine d_tx 30 hS5 ?_ | refine d_ty 30 hS5 ?_ | refine d_tn 30 hS5 ?_); (first | refine d_tx 31 hS5 ?_ | refine d_ty 31 hS5 ?_ | refine d_tn 31 hS5 ?_); (first | refine d_tx 32 hS5 ?_ | refine d_ty 32 hS5 ?_ | refine d_tn 32 hS5 ?_); (first | refine d_tx 33 hS5 ?_ | refine d_ty 33 hS5 ?_ | refine d_tn 33 hS5 ?_); (first | refine d_tx 34 hS5 ?_ | refine d_ty 34 hS5 ?_ | refine d_tn 34 hS5 ?_); (first | refine d_tx 35 hS5 ?_ | refine d_ty 35 hS5 ?_ | refine d_tn 35 hS5 ?_); (first | refine d_tx 36 hS5 ?_ | refine d_ty 36 hS5 ?_ | refine d_tn 36 hS5 ?_); (first | refine d_tx 37 hS5 ?_ | refine d_ty 37 hS5 ?_ | refine d_tn 37 hS5 ?_); (first | refine d_tx 38 hS5 ?_ | refine d_ty 38 hS5 ?_ | refine d_tn 38 hS5 ?_); (first | refine d_tx 39 hS5 ?_ | refine d_ty 39 hS5 ?_ | refine d_tn 39 hS5 ?_); (first | refine d_tx 40 hS5 ?_ | refine d_ty 40 hS5 ?_ | refine d_tn 40 hS5 ?_))
      (refine d_done (by kernel_rfl) ?_)
      refine rx ?_
      (apply ret1; exact rfl; (conv => lhs; whnf))
      exact ⟨by rw [stop (by rw [hfit]; rfl)], hf.trans0 hS5⟩
    | false =>
      rw [hq] at hbad
      rw [hbad] at hfit
      ((first | refine d_tx 14 hS5 ?_ | refine d_ty 14 hS5 ?_ | refine d_tn 14 hS5 ?_); (first | refine d_tx 15 hS5 ?_ | refine d_ty 15 hS5 ?_ | refine d_tn 15 hS5 ?_); (first | refine d_tx 16 hS5 ?_ | refine d_ty 16 hS5 ?_ | refine d_tn 16 hS5 ?_); (first | refine d_tx 17 hS5 ?_ | refine d_ty 17 hS5 ?_ | refine d_tn 17 hS5 ?_); (first | refine d_tx 18 hS5 ?_ | refine d_ty 18 hS5 ?_ | refine d_tn 18 hS5 ?_))
      (apply d_yes (i := 19); exact rfl; exact rfl; kernel_rfl; kernel_rfl; kernel_rfl; (intro u hu; exact r_load rfl (hgq true (decide_eq_true hin) _ hu)); exact hS5)
      ((first | refine d_tx 20 hS5 ?_ | refine d_ty 20 hS5 ?_ | refine d_tn 20 hS5 ?_); (first | refine d_tx 21 hS5 ?_ | refine d_ty 21 hS5 ?_ | refine d_tn 21 hS5 ?_); (first | refine d_tx 22 hS5 ?_ | refine d_ty 22 hS5 ?_ | refine d_tn 22 hS5 ?_); (first | refine d_tx 23 hS5 ?_ | refine d_ty 23 hS5 ?_ | refine d_tn 23 hS5 ?_); (first | refine d_tx 24 hS5 ?_ | refine d_ty 24 hS5 ?_ | refine d_tn 24 hS5 ?_); (first | refine d_tx 25 hS5 ?_ | refine d_ty 25 hS5 ?_ | refine d_tn 25 hS5 ?_); (first | refine d_tx 26 hS5 ?_ | refine d_ty 26 hS5 ?_ | refine d_tn 26 hS5 ?_); (first | refine d_tx 27 hS5 ?_ | refine d_ty 27 hS5 ?_ | refine d_tn 27 hS5 ?_); (first | refine d_tx 28 hS5 ?_ | refine d_ty 28 hS5 ?_ | refine d_tn 28 hS5 ?_); (first | refine d_tx 29 hS5 ?_ | refine d_ty 29 hS5 ?_ | refine d_tn 29 hS5 ?_); (first | refine d_tx 30 hS5 ?_ | refine d_ty 30 hS5 ?_ | refine d_tn 30 hS5 ?_); (first | refine d_tx 31 hS5 ?_ | refine d_ty 31 hS5 ?_ | refine d_tn 31 hS5 ?_); (first | refine d_tx 32 hS5 ?_ | refine d_ty 32 hS5 ?_ | refine d_tn 32 hS5 ?_); (first | refine d_tx 33 hS5 ?_ | refine d_ty 33 hS5 ?_ | refine d_tn 33 hS5 ?_); (first | refine d_tx 34 hS5 ?_ | refine d_ty 34 hS5 ?_ | refine d_tn 34 hS5 ?_); (first | refine d_tx 35 hS5 ?_ | refine d_ty 35 hS5 ?_ | refine d_tn 35 hS5 ?_); (first | refine d_tx 36 hS5 ?_ | refine d_ty 36 hS5 ?_ | refine d_tn 36 hS5 ?_); (first | refine d_tx 37 hS5 ?_ | refine d_ty 37 hS5 ?_ | refine d_tn 37 hS5 ?_); (first | refine d_tx 38 hS5 ?_ | refine d_ty 38 hS5 ?_ | refine d_tn 38 hS5 ?_); (first | refine d_tx 39 hS5 ?_ | refine d_ty 39 hS5 ?_ | refine d_tn 39 hS5 ?_); (first | refine d_tx 40 hS5 ?_ | refine d_ty 40 hS5 ?_ | refine d_tn 40 hS5 ?_))
      (refine d_done (by kernel_rfl) ?_)
      refine rx ?_
      exact q_roundK (j + 1) (by (repeat (first | exact Keep.mrg _ _ _ _ | (refine Keep.hi rfl ?_) | (refine Keep.one rfl ?_) | exact Keep.all rfl | (refine Keep.inn rfl ?_) | (refine Keep.set rfl ?_)))) ⟨rfl, rfl, by omega, by rw [hfit]; simp, hf.trans0 hS5⟩ (by omega)
  · rw [decide_eq_false hin] at hbad
    (apply d_take (i := 3); exact rfl; kernel_rfl; kernel_rfl; kernel_rfl; (intro u hu; exact r_load rfl (hgq false (decide_eq_false hin) _ hu)); exact hS)
    ((first | refine d_tx 4 hS ?_ | refine d_ty 4 hS ?_ | refine d_tn 4 hS ?_); (first | refine d_tx 5 hS ?_ | refine d_ty 5 hS ?_ | refine d_tn 5 hS ?_); (first | refine d_tx 6 hS ?_ | refine d_ty 6 hS ?_ | refine d_tn 6 hS ?_); (first | refine d_tx 7 hS ?_ | refine d_ty 7 hS ?_ | refine d_tn 7 hS ?_); (first | refine d_tx 8 hS ?_ | refine d_ty 8 hS ?_ | refine d_tn 8 hS ?_); (first | refine d_tx 9 hS ?_ | refine d_ty 9 hS ?_ | refine d_tn 9 hS ?_); (first | refine d_tx 10 hS ?_ | refine d_ty 10 hS ?_ | refine d_tn 10 hS ?_); (first | refine d_tx 11 hS ?_ | refine d_ty 11 hS ?_ | refine d_tn 11 hS ?_); (first | refine d_tx 12 hS ?_ | refine d_ty 12 hS ?_ | refine d_tn 12 hS ?_); (first | refine d_tx 13 hS ?_ | refine d_ty 13 hS ?_ | refine d_tn 13 hS ?_); (first | refine d_tx 14 hS ?_ | refine d_ty 14 hS ?_ | refine d_tn 14 hS ?_); (first | refine d_tx 15 hS ?_ | refine d_ty 15 hS ?_ | refine d_tn 15 hS ?_); (first | refine d_tx 16 hS ?_ | refine d_ty 16 hS ?_ | refine d_tn 16 hS ?_); (first | refine d_tx 17 hS ?_ | refine d_ty 17 hS ?_ | refine d_tn 17 hS ?_); (first | refine d_tx 18 hS ?_ | refine d_ty 18 hS ?_ | refine d_tn 18 hS ?_))
    (apply d_yes (i := 19); exact rfl; exact rfl; kernel_rfl; kernel_rfl; kernel_rfl; (intro u hu; exact r_load rfl (hgq false (decide_eq_false hin) _ hu)); exact hS)
    by_cases hfj : l[j].fin = -1
    · rw [decide_eq_false (by simpa using hfj)] at hbad
      rw [hbad] at hfit
      ((first | refine d_tx 20 hS ?_ | refine d_ty 20 hS ?_ | refine d_tn 20 hS ?_); (first | refine d_tx 21 hS ?_ | refine d_ty 21 hS ?_ | refine d_tn 21 hS ?_); (first | refine d_tx 22 hS ?_ | refine d_ty 22 hS ?_ | refine d_tn 22 hS ?_); (first | refine d_tx 23 hS ?_ | refine d_ty 23 hS ?_ | refine d_tn 23 hS ?_); (first | refine d_tx 24 hS ?_ | refine d_ty 24 hS ?_ | refine d_tn 24 hS ?_); (first | refine d_tx 25 hS ?_ | refine d_ty 25 hS ?_ | refine d_tn 25 hS ?_); (first | refine d_tx 26 hS ?_ | refine d_ty 26 hS ?_ | refine d_tn 26 hS ?_); (first | refine d_tx 27 hS ?_ | refine d_ty 27 hS ?_ | refine d_tn 27 hS ?_); (first | refine d_tx 28 hS ?_ | refine d_ty 28 hS ?_ | refine d_tn 28 hS ?_); (first | refine d_tx 29 hS ?_ | refine d_ty 29 hS ?_ | refine d_tn 29 hS ?_); (first | refine d_tx 30 hS ?_ | refine d_ty 30 hS ?_ | refine d_tn 30 hS ?_); (first | refine d_tx 31 hS ?_ | refine d_ty 31 hS ?_ | refine d_tn 31 hS ?_); (first | refine d_tx 32 hS ?_ | refine d_ty 32 hS ?_ | refine d_tn 32 hS ?_); (first | refine d_tx 33 hS ?_ | refine d_ty 33 hS ?_ | refine d_tn 33 hS ?_); (first | refine d_tx 34 hS ?_ | refine d_ty 34 hS ?_ | refine d_tn 34 hS ?_); (first | refine d_tx 35 hS ?_ | refine d_ty 35 hS ?_ | refine d_tn 35 hS ?_); (first | refine d_tx 36 hS ?_ | refine d_ty 36 hS ?_ | refine d_tn 36 hS ?_); (first | refine d_tx 37 hS ?_ | refine d_ty 37 hS ?_ | refine d_tn 37 hS ?_); (first | refine d_tx 38 hS ?_ | refine d_ty 38 hS ?_ | refine d_tn 38 hS ?_); (first | refine d_tx 39 hS ?_ | refine d_ty 39 hS ?_ | refine d_tn 39 hS ?_); (first | refine d_tx 40 hS ?_ | refine d_ty 40 hS ?_ | refine d_tn 40 hS ?_))
      (refine d_done (by kernel_rfl) ?_)
      refine rx ?_
      exact q_roundK (j + 1) (by (repeat (first | exact Keep.mrg _ _ _ _ | (refine Keep.hi rfl ?_) | (refine Keep.one rfl ?_) | exact Keep.all rfl | (refine Keep.inn rfl ?_) | (refine Keep.set rfl ?_)))) ⟨rfl, rfl, by omega, by rw [hfit]; simp, hf.trans0 hS⟩ (by omega)
    rw [decide_eq_true hfj] at hbad
    ((first | refine d_tx 20 hS ?_ | refine d_ty 20 hS ?_ | refine d_tn 20 hS ?_); (first | refine d_tx 21 hS ?_ | refine d_ty 21 hS ?_ | refine d_tn 21 hS ?_); (first | refine d_tx 22 hS ?_ | refine d_ty 22 hS ?_ | refine d_tn 22 hS ?_); (first | refine d_tx 23 hS ?_ | refine d_ty 23 hS ?_ | refine d_tn 23 hS ?_); (first | refine d_tx 24 hS ?_ | refine d_ty 24 hS ?_ | refine d_tn 24 hS ?_); (first | refine d_tx 25 hS ?_ | refine d_ty 25 hS ?_ | refine d_tn 25 hS ?_); (first | refine d_tx 26 hS ?_ | refine d_ty 26 hS ?_ | refine d_tn 26 hS ?_); (first | refine d_tx 27 hS ?_ | refine d_ty 27 hS ?_ | refine d_tn 27 hS ?_); (first | refine d_tx 28 hS ?_ | refine d_ty 28 hS ?_ | refine d_tn 28 hS ?_); (first | refine d_tx 29 hS ?_ | refine d_ty 29 hS ?_ | refine d_tn 29 hS ?_); (first | refine d_tx 30 hS ?_ | refine d_ty 30 hS ?_ | refine d_tn 30 hS ?_); (first | refine d_tx 31 hS ?_ | refine d_ty 31 hS ?_ | refine d_tn 31 hS ?_); (first | refine d_tx 32 hS ?_ | refine d_ty 32 hS ?_ | refine d_tn 32 hS ?_); (first | refine d_tx 33 hS ?_ | refine d_ty 33 hS ?_ | refine d_tn 33 hS ?_); (first | refine d_tx 34 hS ?_ | refine d_ty 34 hS ?_ | refine d_tn 34 hS ?_); (first | refine d_tx 35 hS ?_ | refine d_ty 35 hS ?_ | refine d_tn 35 hS ?_); (first | refine d_tx 36 hS ?_ | refine d_ty 36 hS ?_ | refine d_tn 36 hS ?_); (first | refine d_tx 37 hS ?_ | refine d_ty 37 hS ?_ | refine d_tn 37 hS ?_))
    refine d_one (i := 38) rfl (by kernel_rfl) ?_
    refine g_yes rfl ?_
    refine s_call (beforeC l[j] l[i] saj srj sai sri _) rfl ?_
    rintro _ u5 ⟨rfl, hf5⟩
    refine ⟨_, rfl, ?_⟩
    have hS5 := hS.trans0 hf5
    refine wpList_nil (q_held hS5 ?_)
    cases hq : bef l[j] l[i] with
    | true =>
      rw [hq] at hbad
      rw [hbad] at hfit
      ((first | refine d_tx 39 hS5 ?_ | refine d_ty 39 hS5 ?_ | refine d_tn 39 hS5 ?_); (first | refine d_tx 40 hS5 ?_ | refine d_ty 40 hS5 ?_ | refine d_tn 40 hS5 ?_))
      (refine d_done (by kernel_rfl) ?_)
      refine rx ?_
      (apply ret1; exact rfl; (conv => lhs; whnf))
      exact ⟨by rw [stop (by rw [hfit]; rfl)], hf.trans0 hS5⟩
    | false =>
      rw [hq] at hbad
      rw [hbad] at hfit
      ((first | refine d_tx 39 hS5 ?_ | refine d_ty 39 hS5 ?_ | refine d_tn 39 hS5 ?_); (first | refine d_tx 40 hS5 ?_ | refine d_ty 40 hS5 ?_ | refine d_tn 40 hS5 ?_))
      (refine d_done (by kernel_rfl) ?_)
      refine rx ?_
      exact q_roundK (j + 1) (by (repeat (first | exact Keep.mrg _ _ _ _ | (refine Keep.hi rfl ?_) | (refine Keep.one rfl ?_) | exact Keep.all rfl | (refine Keep.inn rfl ?_) | (refine Keep.set rfl ?_)))) ⟨rfl, rfl, by omega, by rw [hfit]; simp, hf.trans0 hS5⟩ (by omega)
end Go.Proofs.Ytcogpedfnnfnaaa
