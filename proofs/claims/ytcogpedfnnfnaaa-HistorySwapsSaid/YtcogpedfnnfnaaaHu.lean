/-
  The plain law of projections.
-/
import Derived.Test.YtcogpedfnnfnaaaHt
namespace Go.Proofs.Ytcogpedfnnfnaaa
open Go.Rf Go.RowKit
set_option linter.unusedVariables false

def hop (c : Int) : List Ev → Bool
  | [] => false
  | e :: r => if e.kind = 2 ∨ e.kind = 1 ∧ e.client = c then false else if e.kind = 0 ∧ e.client = c then true else hop c r
theorem opn_hop (l : List Ev) (c : Int) : ∀ i, i ≤ l.length → (0 ≤ opn l c i ↔ hop c (l.take i).reverse = true) := by
  intro i
  induction i with
  | zero => intro _; simp [opn, hop]
  | succ i ih =>
    intro hi
    have hlt : i < l.length := by omega
    rw [List.take_succ_eq_append_getElem hlt, List.reverse_append, opn, List.getElem?_eq_getElem hlt]
    simp only [List.reverse_cons, List.reverse_nil, List.nil_append, List.singleton_append, hop]
    split
    · simp
    · split
      · simp
      · exact ih (by omega)
def prj (c : Int) (e : Ev) : Bool := decide (e.kind = 2 ∨ (e.kind = 0 ∨ e.kind = 1) ∧ e.client = c)
theorem hop_filter (c : Int) (r : List Ev) : hop c (r.filter (prj c)) = hop c r := by
  induction r with
  | nil => rfl
  | cons e r ih =>
    rw [List.filter_cons]
    by_cases h : e.kind = 2 ∨ (e.kind = 0 ∨ e.kind = 1) ∧ e.client = c
    · rw [if_pos (by simpa [prj] using h)]
      simp only [hop, ih]
    · rw [if_neg (by simpa [prj] using h), ih]
      simp only [hop]
      rw [if_neg (by omega), if_neg (by omega)]
theorem proj_ok (c : Int) {l : List Ev} (h : AllOk l) : ∀ i, i ≤ l.length → AllOk ((l.take i).filter (prj c)) := by
  intro i
  induction i with
  | zero => intro _ j hj; simp at hj
  | succ i ih =>
    intro hi
    have hlt : i < l.length := by omega
    rw [List.take_succ_eq_append_getElem hlt, List.filter_append]
    by_cases hp : prj c l[i] = true
    case neg =>
      rw [List.filter_cons_of_neg hp]
      simpa using ih (by omega)
    rw [List.filter_cons_of_pos hp, List.filter_nil]
    refine (ih (by omega)).snoc ?_
    have hc := h i hlt
    have e1 := opn_hop l c i (by omega)
    have e2 := opn_hop ((l.take i).filter (prj c)) c _ (Nat.le_refl _)
    rw [List.take_length, ← List.filter_reverse, hop_filter, ← e1] at e2
    simp only [prj, decide_eq_true_eq] at hp
    unfold chk at hc ⊢
    by_cases hf : fmdE l[i] ≠ 0
    · rw [if_pos hf] at hc; exact absurd hc hf
    rw [if_neg hf] at hc ⊢
    rcases hp with hp | ⟨hk, hcl⟩
    · rw [if_neg (by omega), if_neg (by omega)]
    · rw [hcl] at hc ⊢
      have e3 : opn ((l.take i).filter (prj c)) c ((l.take i).filter (prj c)).length < 0 ↔ opn l c i < 0 := by omega
      by_cases g1 : l[i].kind = 0 ∧ 0 ≤ opn l c i
      · rw [if_pos g1] at hc; omega
      · rw [if_neg g1] at hc
        by_cases g2 : l[i].kind = 1 ∧ opn l c i < 0
        · rw [if_pos g2] at hc; omega
        · rw [if_neg (by omega), if_neg (by omega)]
theorem nbeg_filter (p : Ev → Bool) (l : List Ev) : nbeg (l.filter p) ≤ nbeg l := by
  unfold nbeg
  rw [List.countP_filter]
  exact List.countP_mono_left (fun x _ h => by simp at h; simpa using h.1)
theorem proj_valid (c : Int) {l : List Ev} (h : AllOk l) (h1 : l.length ≤ 64) (h2 : nbeg l ≤ 16) : validH (l.filter (prj c)) = 0 := by
  have h3 := List.length_filter_le (prj c) l
  have h4 := nbeg_filter (prj c) l
  have h5 := proj_ok c h l.length (Nat.le_refl _)
  rw [List.take_length] at h5
  unfold validH
  rw [if_neg (by omega)]
  exact h5.err 0 (Nat.zero_le _)

/-- calls that are alike but for the numbers of their events -/
structure Alike (a b : Cl) : Prop where
  name : a.name = b.name
  args : a.args = b.args
  res : a.res = b.res
  fin : a.fin < 0 ↔ b.fin < 0
  lost : a.lost < 0 ↔ b.lost < 0
inductive Likes : List Cl → List Cl → Prop
  | nil : Likes [] []
  | cons {a b : Cl} {l m : List Cl} : Alike a b → Likes l m → Likes (a :: l) (b :: m)
theorem Likes.len {l m : List Cl} (h : Likes l m) : l.length = m.length := by
  induction h with
  | nil => rfl
  | cons _ _ ih => simp [ih]
theorem Likes.get {l m : List Cl} (h : Likes l m) : ∀ i (h1 : i < l.length) (h2 : i < m.length), Alike l[i] m[i] := by
  induction h with
  | nil => intro i h1; simp at h1
  | cons h0 _ ih =>
    intro i h1 h2
    cases i with
    | zero => exact h0
    | succ i => exact ih i (by simpa using h1) (by simpa using h2)
theorem find_filter (c : Int) : ∀ (r : List Ev) (k k' : Nat), ((findEnd c k (r.filter (prj c))).1 < 0 ↔ (findEnd c k' r).1 < 0) ∧ ((findEnd c k (r.filter (prj c))).2.1 < 0 ↔ (findEnd c k' r).2.1 < 0) ∧ (findEnd c k (r.filter (prj c))).2.2 = (findEnd c k' r).2.2 := by
  intro r
  induction r with
  | nil => intro k k'; simp [findEnd]
  | cons e r ih =>
    intro k k'
    rw [List.filter_cons]
    by_cases h : e.kind = 2 ∨ (e.kind = 0 ∨ e.kind = 1) ∧ e.client = c
    · rw [if_pos (by simpa [prj] using h)]
      simp only [findEnd]
      by_cases h2 : e.kind = 2
      · rw [if_pos h2, if_pos h2]; exact ⟨by simp, by simp only; omega, rfl⟩
      · simp only [if_neg h2]
        by_cases h1 : e.kind = 1 ∧ e.client = c
        · rw [if_pos h1, if_pos h1]; exact ⟨by simp only; omega, by simp, rfl⟩
        · simp only [if_neg h1]; exact ih _ _
    · rw [if_neg (by simpa [prj] using h)]
      simp only [findEnd]
      rw [if_neg (by omega), if_neg (by omega)]
      exact ih _ _
theorem proj_ops (c : Int) : ∀ (l : List Ev) (i i' : Nat), Likes (opsFrom i (l.filter (prj c))) ((opsFrom i' l).filter (fun o => decide (o.client = c))) := by
  intro l
  induction l with
  | nil => intro i i'; exact .nil
  | cons e l ih =>
    intro i i'
    rw [List.filter_cons]
    by_cases h : e.kind = 2 ∨ (e.kind = 0 ∨ e.kind = 1) ∧ e.client = c
    · rw [if_pos (by simpa [prj] using h)]
      simp only [opsFrom]
      by_cases h0 : e.kind = 0
      · have hc : e.client = c := by omega
        simp only [if_pos h0]
        rw [List.filter_cons_of_pos (by simp [mkCl, hc])]
        refine .cons ?_ (ih _ _)
        have := find_filter c l (i + 1) (i' + 1)
        rw [hc]
        exact ⟨rfl, rfl, this.2.2, this.1, this.2.1⟩
      · simp only [if_neg h0]; exact ih _ _
    · rw [if_neg (by simpa [prj] using h)]
      simp only [opsFrom]
      by_cases h0 : e.kind = 0
      · simp only [if_pos h0]
        have hc : e.client ≠ c := by omega
        rw [List.filter_cons_of_neg (by simp [mkCl, hc])]
        exact ih _ _
      · simp only [if_neg h0]; exact ih _ _

/-! ### calls of one client are not concurrent -/
theorem hop_split (c : Int) : ∀ (r : List Ev), hop c r = false → ∀ p e, r = p ++ e :: [] → e.kind = 0 → e.client = c → ∃ x ∈ p, x.kind = 2 ∨ x.kind = 1 ∧ x.client = c := by
  intro r
  induction r with
  | nil => intro _ p e he; simp at he
  | cons x r ih =>
    intro h p e he hk hc
    simp only [hop] at h
    by_cases h1 : x.kind = 2 ∨ x.kind = 1 ∧ x.client = c
    · cases p with
      | nil => simp only [List.nil_append, List.cons.injEq] at he; rw [he.1] at h1; omega
      | cons y p => simp only [List.cons_append, List.cons.injEq] at he; exact ⟨y, by simp, he.1 ▸ h1⟩
    · rw [if_neg h1] at h
      by_cases h2 : x.kind = 0 ∧ x.client = c
      · rw [if_pos h2] at h; cases h
      · rw [if_neg h2] at h
        cases p with
        | nil => simp only [List.nil_append, List.cons.injEq] at he; rw [he.1] at h2; exact absurd ⟨hk, hc⟩ h2
        | cons y p =>
          simp only [List.cons_append, List.cons.injEq] at he
          obtain ⟨z, hz, hz2⟩ := ih h p e he.2 hk hc
          exact ⟨z, by simp [hz], hz2⟩
theorem findEnd_lt (c : Int) : ∀ (r s : List Ev) (k : Nat), (∃ x ∈ r, x.kind = 2 ∨ x.kind = 1 ∧ x.client = c) → 0 ≤ (findEnd c k (r ++ s)).1 ∧ (findEnd c k (r ++ s)).1 < (k + r.length : Nat) ∨ 0 ≤ (findEnd c k (r ++ s)).2.1 ∧ (findEnd c k (r ++ s)).2.1 < (k + r.length : Nat) := by
  intro r s
  induction r with
  | nil => rintro k ⟨x, hx, _⟩; simp at hx
  | cons e r ih =>
    intro k hx
    rw [List.cons_append]
    simp only [findEnd, List.length_cons]
    by_cases h2 : e.kind = 2
    · rw [if_pos h2]; right; simp only; omega
    · rw [if_neg h2]
      by_cases h1 : e.kind = 1 ∧ e.client = c
      · rw [if_pos h1]; left; simp only; omega
      · rw [if_neg h1]
        have := ih (k + 1) (by
          obtain ⟨x, hx, h⟩ := hx
          rcases List.mem_cons.1 hx with rfl | hx
          · omega
          · exact ⟨x, hx, h⟩)
        omega
/-- each call is where its Begin is -/
theorem ops_at : ∀ (l : List Ev) (i : Nat), ∀ o ∈ opsFrom i l, ∃ p e s, l = p ++ e :: s ∧ e.kind = 0 ∧ o = mkCl (i + p.length) e (findEnd e.client (i + p.length + 1) s) := by
  intro l
  induction l with
  | nil => intro i o ho; simp [opsFrom] at ho
  | cons x l ih =>
    intro i o ho
    simp only [opsFrom] at ho
    split at ho
    · rename_i hk
      rcases List.mem_cons.1 ho with rfl | ho
      · exact ⟨[], x, l, rfl, hk, by simp⟩
      · obtain ⟨p, e, s, h1, h2, h3⟩ := ih (i + 1) o ho
        refine ⟨x :: p, e, s, by rw [h1]; rfl, h2, ?_⟩
        rw [h3, List.length_cons]
        have e1 : i + 1 + p.length = i + (p.length + 1) := by omega
        rw [e1]
    · obtain ⟨p, e, s, h1, h2, h3⟩ := ih (i + 1) o ho
      refine ⟨x :: p, e, s, by rw [h1]; rfl, h2, ?_⟩
      rw [h3, List.length_cons]
      have e1 : i + 1 + p.length = i + (p.length + 1) := by omega
      rw [e1]
theorem ops_client (c : Int) {l : List Ev} (h : ∀ e ∈ l, e.kind = 0 → e.client = c) : ∀ o ∈ opsFrom 0 l, o.client = c := by
  intro o ho
  obtain ⟨p, e, s, h1, h2, h3⟩ := ops_at l 0 o ho
  rw [h3]
  exact h e (by rw [h1]; simp) h2
/-- two calls of one client do not overlap -/
theorem one_client {l : List Ev} (hok : AllOk l) {a b : Cl} (ha : a ∈ opsFrom 0 l) (hb : b ∈ opsFrom 0 l) (hc : a.client = b.client) (hlt : a.beg < b.beg) : bef a b = true := by
  obtain ⟨p, e, s, h1, h2, h3⟩ := ops_at l 0 a ha
  obtain ⟨p', e', s', h1', h2', h3'⟩ := ops_at l 0 b hb
  have hpl : p.length < p'.length := by
    rw [h3, h3'] at hlt
    simp only [mkCl, Nat.zero_add] at hlt
    omega
  have hcc : e.client = e'.client := by rw [h3, h3'] at hc; exact hc
  -- the events between
  obtain ⟨q, hq⟩ : ∃ q, p' = p ++ e :: q := by
    have e1 : (p ++ e :: s).take p'.length = p' := by rw [← h1, h1']; simp
    refine ⟨s.take (p'.length - p.length - 1), ?_⟩
    have e2 : p'.length = p.length + ((p'.length - p.length - 1) + 1) := by omega
    conv => lhs; rw [← e1, e2, List.take_length_add_append, List.take_succ_cons]
  have hs : s = q ++ e' :: s' := by
    have : p ++ e :: s = p ++ e :: (q ++ e' :: s') := by rw [← h1, h1', hq]; simp
    simpa using this
  have hok' := hok p'.length (by rw [h1']; simp)
  have hget : l[p'.length]'(by rw [h1']; simp) = e' := by simp [h1']
  rw [hget] at hok'
  have hop' : ¬ 0 ≤ opn l e'.client p'.length := by
    intro hh
    unfold chk at hok'
    by_cases hf : fmdE e' ≠ 0
    · rw [if_pos hf] at hok'; exact hf hok'
    · rw [if_neg hf, if_pos ⟨h2', hh⟩] at hok'; omega
  have e1 : l.take p'.length = p' := by rw [h1']; simp
  rw [opn_hop l _ _ (by rw [h1']; simp), e1, hq] at hop'
  have hmem : ∃ x ∈ q, x.kind = 2 ∨ x.kind = 1 ∧ x.client = e.client := by
    have hh : hop e'.client (q.reverse ++ [e] ++ p.reverse) = false := by
      have : (p ++ e :: q).reverse = q.reverse ++ [e] ++ p.reverse := by simp
      rw [this] at hop'; simpa using hop'
    rw [← hcc] at hh
    have key : ∀ (r t : List Ev), hop e.client (r ++ [e] ++ t) = false → hop e.client (r ++ [e]) = false := by
      intro r t
      induction r with
      | nil =>
        intro h6
        exfalso
        rw [List.nil_append, List.singleton_append, hop, if_neg (by omega), if_pos ⟨h2, rfl⟩] at h6
        cases h6
      | cons x r ih =>
        intro h6
        simp only [List.cons_append, hop] at h6 ⊢
        split
        · rfl
        · rename_i h7
          rw [if_neg h7] at h6
          split
          · rename_i h8; rw [if_pos h8] at h6; exact h6
          · rename_i h8; rw [if_neg h8] at h6; exact ih h6
    obtain ⟨x, hx, hx2⟩ := hop_split e.client _ (key _ _ hh) q.reverse e rfl h2 rfl
    exact ⟨x, by simpa using hx, hx2⟩
  have hf := findEnd_lt e.client q (e' :: s') (0 + p.length + 1) hmem
  rw [← hs] at hf
  have hb' : b.beg = ((p.length + 1 + q.length : Nat) : Int) := by
    rw [h3', hq]; simp [mkCl]; omega
  unfold bef
  rw [decide_eq_true_eq, hb', h3]
  simp only [mkCl]
  omega
theorem conc_nil {l : List Cl} (h : ∀ i j (hi : i < l.length) (hj : j < l.length), i < j → bef l[i] l[j] = true) : conc l = [] := by
  have hI : ∀ i k, i < l.length → i + 1 + k ≤ l.length → cI l i k = [] := by
    intro i k hi
    induction k with
    | zero => intro _; rfl
    | succ k ih =>
      intro hk
      have hj : i + 1 + k < l.length := by omega
      rw [cI, ih (by omega), cc, bf_eq hi hj, h i _ hi hj (by omega)]
      simp
  have hO : ∀ m, m ≤ l.length → cO l m = [] := by
    intro m
    induction m with
    | zero => intro _; rfl
    | succ m ih => intro hm; rw [cO, ih (by omega), hI m _ (by omega) (by omega)]; rfl
  exact hO _ (Nat.le_refl _)
theorem proj_conc (c : Int) {l : List Ev} (h : AllOk l) : conc (opsFrom 0 (l.filter (prj c))) = [] := by
  have h5 := proj_ok c h l.length (Nat.le_refl _)
  rw [List.take_length] at h5
  have hc := ops_client c (l := l.filter (prj c)) (fun e he hk => by
    have := (List.mem_filter.1 he).2
    simp only [prj, decide_eq_true_eq] at this
    omega)
  apply conc_nil
  intro i j hi hj hij
  refine one_client h5 (List.getElem_mem hi) (List.getElem_mem hj) ?_ ((timed_ops _).inc i j hi hj hij)
  rw [hc _ (List.getElem_mem hi), hc _ (List.getElem_mem hj)]
end Go.Proofs.Ytcogpedfnnfnaaa
