/-
  The plain law of generated histories: they are valid; the calls of any history lie in the order of their beginnings.
-/
import Derived.Test.YtcogpedfnnfnaaaHw
namespace Go.Proofs.Ytcogpedfnnfnaaa
open Go.Rf Go.RowKit
set_option linter.unusedVariables false

theorem findEnd_ge (c : Int) : ∀ (r : List Ev) (k : Nat), (0 ≤ (findEnd c k r).1 → (k : Int) ≤ (findEnd c k r).1) ∧ (0 ≤ (findEnd c k r).2.1 → (k : Int) ≤ (findEnd c k r).2.1) ∧ -1 ≤ (findEnd c k r).1 ∧ -1 ≤ (findEnd c k r).2.1 := by
  intro r
  induction r with
  | nil => intro k; simp [findEnd]
  | cons x r ih =>
    intro k
    simp only [findEnd]
    split
    · simp
    · split
      · simp
      · obtain ⟨h1, h2, h3, h4⟩ := ih (k + 1)
        refine ⟨fun h => ?_, fun h => ?_, h3, h4⟩
        · have := h1 h; omega
        · have := h2 h; omega
theorem opsFrom_beg : ∀ (l : List Ev) (i : Nat), (∀ o ∈ opsFrom i l, (i : Int) ≤ o.beg ∧ (0 ≤ o.fin → o.beg < o.fin) ∧ (0 ≤ o.lost → o.beg < o.lost) ∧ o.beg < (i + l.length : Nat) ∧ -1 ≤ o.fin ∧ -1 ≤ o.lost) ∧ (opsFrom i l).Pairwise (fun a b => a.beg < b.beg) := by
  intro l
  induction l with
  | nil => intro i; simp [opsFrom]
  | cons e l ih =>
    intro i
    obtain ⟨h1, h2⟩ := ih (i + 1)
    have hfe := findEnd_ge e.client l (i + 1)
    simp only [opsFrom]
    split
    · refine ⟨fun o ho => ?_, ?_⟩
      · rcases List.mem_cons.1 ho with rfl | ho
        · simp only [mkCl]
          refine ⟨by omega, fun h => ?_, fun h => ?_, ?_, hfe.2.2.1, hfe.2.2.2⟩
          · have := hfe.1 h; omega
          · have := hfe.2.1 h; omega
          · simp; omega
        · obtain ⟨a, b, c, d, e1, e2⟩ := h1 o ho
          refine ⟨by omega, b, c, ?_, e1, e2⟩
          simp at d ⊢; omega
      · rw [List.pairwise_cons]
        refine ⟨fun o ho => ?_, h2⟩
        have := (h1 o ho).1
        simp only [mkCl]; omega
    · refine ⟨fun o ho => ?_, h2⟩
      obtain ⟨a, b, c, d, e1, e2⟩ := h1 o ho
      refine ⟨by omega, b, c, ?_, e1, e2⟩
      simp at d ⊢; omega
theorem ord_of {l : List Cl} (h1 : ∀ o ∈ l, (0 ≤ o.fin → o.beg < o.fin) ∧ (0 ≤ o.lost → o.beg < o.lost)) (h2 : l.Pairwise (fun a b => a.beg < b.beg)) : Ord l := by
  intro j i hj hi hne hf hb
  have h3 : l[j].beg < l[i].beg := by
    have h4 := of_decide_eq_true hb
    have h5 := h1 l[j] (by simp)
    omega
  rw [List.pairwise_iff_getElem] at h2
  rcases Nat.lt_or_ge j i with h | h
  · exact h
  · have := h2 i j hi hj (by omega)
    omega
theorem opsFrom_ord (l : List Ev) : Ord (opsFrom 0 l) := ord_of (fun o ho => ⟨((opsFrom_beg l 0).1 o ho).2.1, ((opsFrom_beg l 0).1 o ho).2.2.1⟩) (opsFrom_beg l 0).2

/-! ### generated histories are valid -/
theorem opn_append (l m : List Ev) (c : Int) : ∀ i, i ≤ l.length → opn (l ++ m) c i = opn l c i := by
  intro i
  induction i with
  | zero => intro _; rfl
  | succ i ih =>
    intro hi
    have hlt : i < l.length := by omega
    rw [opn, opn, List.getElem?_append_left hlt, List.getElem?_eq_getElem hlt]
    simp only
    rw [ih (by omega)]
theorem chk_append (l m : List Ev) {i : Nat} (e : Ev) (hi : i ≤ l.length) : chk (l ++ m) i e = chk l i e := by
  unfold chk; rw [opn_append l m _ i hi]
def AllOk (l : List Ev) : Prop := ∀ i (h : i < l.length), chk l i l[i] = 0
theorem AllOk.snoc {l : List Ev} {e : Ev} (h : AllOk l) (he : chk l l.length e = 0) : AllOk (l ++ [e]) := by
  intro i hi
  by_cases hlt : i < l.length
  · rw [List.getElem_append_left hlt, chk_append l [e] _ (by omega)]; exact h i hlt
  · have : i = l.length := by simp at hi; omega
    subst this
    rw [chk_append l [e] _ (Nat.le_refl _)]
    simpa using he
theorem AllOk.err {l : List Ev} (h : AllOk l) : ∀ i, i ≤ l.length → errL l i (l.drop i) = 0 := by
  intro i hi
  induction hn : l.length - i generalizing i with
  | zero => rw [List.drop_eq_nil_of_le (by omega)]; rfl
  | succ n ih =>
    have hlt : i < l.length := by omega
    rw [errL_drop hlt, h i hlt, if_neg (by simp)]
    exact ih (i + 1) (by omega) (by omega)
theorem vN_valid (n : Int) : valV (vN n) = 0 := by
  simp [valV, allF, allFs, fmd, vN, allT, allTs, fts, vsz, vszs]
theorem zero_V0 : zeroV V0 = true := by decide
theorem fmd_crash : fmdE evCrash = 0 := by decide +kernel
theorem fmd_end {k : Int} : fmdE (evEnd k) = 0 := by
  have h1 : (evEnd k).kind = 1 := rfl
  have h2 : (evEnd k).client = k % 4 := rfl
  have h3 : (evEnd k).name = ⟨#[]⟩ := rfl
  have h4 : (evEnd k).args = [] := rfl
  have h5 : (evEnd k).res = vN (k / 52 % 3) := rfl
  unfold fmdE
  rw [h1, h2, h3, h4, h5]
  rw [if_neg (by omega), if_neg (by simp), if_neg (by simp), if_pos (by rfl), vN_valid]
theorem nms_ok (j : Nat) (h : j < 3) : nms.getD j ⟨#[]⟩ ≠ ⟨#[]⟩ ∧ (nms.getD j ⟨#[]⟩).size ≤ 16 := by
  have : j = 0 ∨ j = 1 ∨ j = 2 := by omega
  rcases this with rfl | rfl | rfl <;> decide +kernel
theorem fmd_beg {k : Int} (hk : 0 ≤ k) : fmdE (evBeg k) = 0 := by
  have h1 : (evBeg k).kind = 0 := rfl
  have h2 : (evBeg k).client = k % 4 := rfl
  have h5 : (evBeg k).res = V0 := rfl
  obtain ⟨h3, h4⟩ := nms_ok (k / 52 % 3).toNat (by omega)
  have h3' : (evBeg k).name ≠ ⟨#[]⟩ := h3
  have h4' : (evBeg k).name.size ≤ 16 := h4
  have h6 : (evBeg k).args.length ≤ 1 := by unfold evBeg; simp only; split <;> simp
  have h7 : firstErr (evBeg k).args = 0 := by
    unfold evBeg; simp only
    split
    · simp [firstErr, vN_valid]
    · rfl
  unfold fmdE
  rw [h1, h2, h5, h7, zero_V0]
  rw [if_neg (by omega), if_neg (by simp), if_neg (by rintro ⟨_, h | h | h⟩; exact h3' h; omega; omega), if_pos rfl, zero_valid zero_V0]
theorem gen_ok (l : List Int) (i : Nat) : AllOk (genN l i).1 ∧ nbeg (genN l i).1 = (genN l i).2 := by
  induction i with
  | zero => exact ⟨fun i h => by simp [genN] at h, rfl⟩
  | succ i ih =>
    obtain ⟨h1, h2⟩ := ih
    have hp := pk_range (l := l) (i := (i : Int)) (m := 1000000) (by omega)
    simp only [genN, genStep]
    generalize pk l i 1000000 = k at hp
    split
    · refine ⟨h1.snoc ?_, ?_⟩
      · unfold chk; rw [fmd_crash]; simp [evCrash]
      · unfold nbeg at h2 ⊢; rw [List.countP_append, h2]; simp [evCrash]
    · split
      · rename_i hopn
        refine ⟨h1.snoc ?_, ?_⟩
        · unfold chk; rw [fmd_end]
          have e2 : (evEnd k).client = k % 4 := rfl
          have e1 : (evEnd k).kind = 1 := rfl
          rw [e1, e2, if_neg (by simp), if_neg (by omega), if_neg (by omega)]
        · unfold nbeg at h2 ⊢; rw [List.countP_append, h2]; simp [evEnd]
      · rename_i hopn
        split
        · refine ⟨h1.snoc ?_, ?_⟩
          · unfold chk; rw [fmd_beg hp.1]
            have e2 : (evBeg k).client = k % 4 := rfl
            have e1 : (evBeg k).kind = 0 := rfl
            rw [e1, e2, if_neg (by simp), if_neg (fun h => hopn h.2), if_neg (by omega)]
          · unfold nbeg at h2 ⊢; rw [List.countP_append, h2]; simp [evBeg]
        · exact ⟨h1, h2⟩
theorem gen_valid (l : List Int) {m : Nat} (hm : m ≤ 64) : validH (genN l m).1 = 0 := by
  obtain ⟨h1, h2⟩ := gen_ok l m
  obtain ⟨h3, h4⟩ := genN_len l m
  unfold validH
  rw [if_neg (by omega)]
  exact h1.err 0 (Nat.zero_le _)
theorem gen_evOk (l : List Int) (m : Nat) : ∀ e ∈ (genN l m).1, EvOk e := by
  induction m with
  | zero => intro e he; simp [genN] at he
  | succ i ih =>
    intro e he
    simp only [genN, genStep] at he
    split at he
    · rcases List.mem_append.1 he with h | h
      · exact ih e h
      · simp at h; subst h; exact ⟨fun v hv => (by cases hv), leafOk 0 0⟩
    · split at he
      · rcases List.mem_append.1 he with h | h
        · exact ih e h
        · simp at h; subst h; exact ⟨fun v hv => (by cases hv), leafOk 0 _⟩
      · split at he
        · rcases List.mem_append.1 he with h | h
          · exact ih e h
          · simp at h
            subst h
            refine ⟨fun v hv => ?_, leafOk 0 0⟩
            unfold evBeg at hv
            simp only at hv
            split at hv
            · simp at hv; subst hv; exact leafOk 0 _
            · cases hv
        · exact ih e he
end Go.Proofs.Ytcogpedfnnfnaaa
