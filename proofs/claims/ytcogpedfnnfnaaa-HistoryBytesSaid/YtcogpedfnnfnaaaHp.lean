/-
  The plain law of histories: the calls of a history, event by event; what is wrong with it.
-/
import Derived.Test.YtcogpedfnnfnaaaHf
namespace Go.Proofs.Ytcogpedfnnfnaaa
open Go.Rf Go.RowKit
set_option linter.unusedVariables false

def findEnd (c : Int) : Nat → List Ev → Int × Int × V
  | _, [] => (-1, -1, V0)
  | k, x :: r => if x.kind = 2 then (-1, (k : Int), V0) else if x.kind = 1 ∧ x.client = c then ((k : Int), -1, x.res) else findEnd c (k + 1) r
def mkCl (i : Nat) (e : Ev) (q : Int × Int × V) : Cl := ⟨e.client, i, q.1, q.2.1, e.name, e.args, q.2.2⟩
def opsFrom : Nat → List Ev → List Cl
  | _, [] => []
  | i, e :: r => if e.kind = 0 then mkCl i e (findEnd e.client (i + 1) r) :: opsFrom (i + 1) r else opsFrom (i + 1) r
def isOpen (o : Cl) : Prop := o.fin = -1 ∧ o.lost = -1
instance (o : Cl) : Decidable (isOpen o) := by unfold isOpen; infer_instance
def updCl (i : Nat) (e : Ev) (o : Cl) : Cl :=
  if isOpen o then (if e.kind = 2 then { o with lost := i } else if e.kind = 1 ∧ e.client = o.client then { o with fin := i, res := e.res } else o) else o
def newCl (i : Nat) (e : Ev) : Cl := mkCl i e (-1, -1, V0)

theorem findEnd_snoc (c : Int) (e : Ev) : ∀ (r : List Ev) (k : Nat), findEnd c k (r ++ [e]) =
    if (findEnd c k r).1 = -1 ∧ (findEnd c k r).2.1 = -1 then (if e.kind = 2 then (-1, ((k + r.length : Nat) : Int), V0) else if e.kind = 1 ∧ e.client = c then (((k + r.length : Nat) : Int), -1, e.res) else (-1, -1, V0)) else findEnd c k r := by
  intro r
  induction r with
  | nil => intro k; simp [findEnd]
  | cons x r ih =>
    intro k
    rw [List.cons_append]
    by_cases h1 : x.kind = 2
    · have q : ∀ r, findEnd c k (x :: r) = (-1, (k : Int), V0) := fun r => by rw [findEnd, if_pos h1]
      simp only [q]
      rw [if_neg (by simp)]
    · by_cases h2 : x.kind = 1 ∧ x.client = c
      · have q : ∀ r, findEnd c k (x :: r) = ((k : Int), -1, x.res) := fun r => by rw [findEnd, if_neg h1, if_pos h2]
        simp only [q]
        rw [if_neg (by simp)]
      · have q : ∀ r, findEnd c k (x :: r) = findEnd c (k + 1) r := fun r => by rw [findEnd, if_neg h1, if_neg h2]
        simp only [q]
        rw [ih]
        have e1 : k + 1 + r.length = k + (x :: r).length := by simp; omega
        rw [e1]
theorem findEnd_open (c : Int) : ∀ (r : List Ev) (k : Nat), (findEnd c k r).1 = -1 ∧ (findEnd c k r).2.1 = -1 → (findEnd c k r) = (-1, -1, V0) := by
  intro r
  induction r with
  | nil => intro k _; rfl
  | cons x r ih =>
    intro k h
    simp only [findEnd] at h ⊢
    by_cases h1 : x.kind = 2
    · rw [if_pos h1] at h; simp at h
    · rw [if_neg h1] at h ⊢
      by_cases h2 : x.kind = 1 ∧ x.client = c
      · rw [if_pos h2] at h; simp at h
      · rw [if_neg h2] at h ⊢; exact ih _ h
theorem upd_mk (N j : Nat) (e x : Ev) (q : Int × Int × V) (hq : q.1 = -1 ∧ q.2.1 = -1 → q = (-1, -1, V0)) :
    updCl N e (mkCl j x q) = mkCl j x (if q.1 = -1 ∧ q.2.1 = -1 then (if e.kind = 2 then (-1, (N : Int), V0) else if e.kind = 1 ∧ e.client = x.client then ((N : Int), -1, e.res) else (-1, -1, V0)) else q) := by
  by_cases ho : q.1 = -1 ∧ q.2.1 = -1
  · rw [if_pos ho]
    have hq' := hq ho
    subst hq'
    have hop : isOpen (mkCl j x (-1, -1, V0)) := ⟨rfl, rfl⟩
    unfold updCl
    rw [if_pos hop]
    by_cases h2 : e.kind = 2
    · rw [if_pos h2, if_pos h2]; rfl
    · rw [if_neg h2, if_neg h2]
      by_cases h3 : e.kind = 1 ∧ e.client = x.client
      · have h3' : e.kind = 1 ∧ e.client = (mkCl j x (-1, -1, V0)).client := h3
        rw [if_pos h3, if_pos h3']; rfl
      · have h3' : ¬ (e.kind = 1 ∧ e.client = (mkCl j x (-1, -1, V0)).client) := h3
        rw [if_neg h3, if_neg h3']
  · rw [if_neg ho]
    have hop : ¬ isOpen (mkCl j x q) := ho
    unfold updCl
    rw [if_neg hop]
theorem opsFrom_snoc (e : Ev) : ∀ (p : List Ev) (j : Nat), opsFrom j (p ++ [e]) = (opsFrom j p).map (updCl (j + p.length) e) ++ (if e.kind = 0 then [newCl (j + p.length) e] else []) := by
  intro p
  induction p with
  | nil => intro j; simp only [List.nil_append, opsFrom, List.map_nil, List.length_nil, Nat.add_zero]; split <;> rfl
  | cons x p ih =>
    intro j
    have e1 : j + (x :: p).length = j + 1 + p.length := by simp; omega
    simp only [List.cons_append, opsFrom]
    by_cases hx : x.kind = 0
    · rw [if_pos hx, if_pos hx, List.map_cons, List.cons_append, ih, e1]
      congr 1
      rw [findEnd_snoc, upd_mk _ _ _ _ _ (findEnd_open _ _ _)]
    · rw [if_neg hx, if_neg hx, ih, e1]

theorem upd_client (i : Nat) (e : Ev) (o : Cl) : (updCl i e o).client = o.client := by
  unfold updCl; (repeat' split) <;> rfl
theorem upd_open (i : Nat) (e : Ev) (o : Cl) : isOpen (updCl i e o) ↔ isOpen o ∧ ¬ (e.kind = 2 ∨ e.kind = 1 ∧ e.client = o.client) := by
  unfold updCl
  by_cases h : isOpen o
  · rw [if_pos h]
    by_cases h2 : e.kind = 2
    · rw [if_pos h2]
      simp [isOpen, h2]
    · rw [if_neg h2]
      by_cases h3 : e.kind = 1 ∧ e.client = o.client
      · rw [if_pos h3]
        simp [isOpen, h3]
      · rw [if_neg h3]
        simp [h, h2, h3]
  · rw [if_neg h]; simp [h]

/-- whether a client has an open call -/
def hasOpen (ops : List Cl) (c : Int) : Prop := ∃ o ∈ ops, isOpen o ∧ o.client = c
theorem hasOpen_snoc (p : List Ev) (e : Ev) (c : Int) : hasOpen (opsFrom 0 (p ++ [e])) c ↔ (e.kind = 0 ∧ e.client = c) ∨ (hasOpen (opsFrom 0 p) c ∧ ¬ (e.kind = 2 ∨ e.kind = 1 ∧ e.client = c)) := by
  rw [opsFrom_snoc]
  unfold hasOpen
  constructor
  · rintro ⟨o, ho, h1, h2⟩
    rcases List.mem_append.1 ho with h | h
    · obtain ⟨o', ho', rfl⟩ := List.mem_map.1 h
      rw [upd_open] at h1
      rw [upd_client] at h2
      subst h2
      exact .inr ⟨⟨o', ho', h1.1, rfl⟩, h1.2⟩
    · split at h
      · rename_i hk
        simp at h
        subst h
        exact .inl ⟨hk, h2⟩
      · simp at h
  · rintro (⟨h1, h2⟩ | ⟨⟨o, ho, h1, h2⟩, h3⟩)
    · exact ⟨newCl (0 + p.length) e, by simp [h1], ⟨rfl, rfl⟩, h2⟩
    · refine ⟨updCl (0 + p.length) e o, List.mem_append.2 (.inl (List.mem_map.2 ⟨o, ho, rfl⟩)), ?_, by rw [upd_client]; exact h2⟩
      rw [upd_open]
      subst h2
      exact ⟨h1, h3⟩
theorem opn_hasOpen (l : List Ev) (c : Int) : ∀ i, i ≤ l.length → (0 ≤ opn l c i ↔ hasOpen (opsFrom 0 (l.take i)) c) := by
  intro i
  induction i with
  | zero => intro _; simp [opn, hasOpen, opsFrom]
  | succ i ih =>
    intro hi
    have hlt : i < l.length := by omega
    rw [List.take_succ_eq_append_getElem hlt, hasOpen_snoc, ← ih (by omega), opn, List.getElem?_eq_getElem hlt]
    simp only
    by_cases h1 : l[i].kind = 2 ∨ l[i].kind = 1 ∧ l[i].client = c
    · rw [if_pos h1]
      constructor
      · intro h; omega
      · rintro (⟨h2, h3⟩ | ⟨_, h2⟩)
        · omega
        · exact absurd h1 h2
    · rw [if_neg h1]
      by_cases h2 : l[i].kind = 0 ∧ l[i].client = c
      · rw [if_pos h2]
        exact ⟨fun _ => .inl h2, fun _ => by omega⟩
      · rw [if_neg h2]
        exact ⟨fun h => .inr ⟨h, h1⟩, fun h => by rcases h with h | h; exact absurd h h2; exact h.1⟩

/-! ### what is wrong with a history -/
def nbeg (l : List Ev) : Nat := l.countP (fun e => decide (e.kind = 0))
def chk (l : List Ev) (i : Nat) (e : Ev) : Int :=
  if fmdE e ≠ 0 then fmdE e else if e.kind = 0 ∧ 0 ≤ opn l e.client i then 20 else if e.kind = 1 ∧ opn l e.client i < 0 then 25 else 0
def errL (l : List Ev) : Nat → List Ev → Int
  | _, [] => 0
  | i, e :: r => if chk l i e ≠ 0 then chk l i e else errL l (i + 1) r
def validH (l : List Ev) : Int := if 64 < l.length ∨ 16 < nbeg l then 4 else errL l 0 l
theorem errL_drop {l : List Ev} {i : Nat} (h : i < l.length) : errL l i (l.drop i) = if chk l i l[i] ≠ 0 then chk l i l[i] else errL l (i + 1) (l.drop (i + 1)) := by
  rw [List.drop_eq_getElem_cons h]; rfl
theorem nbeg_take {l : List Ev} {i : Nat} (h : i < l.length) : nbeg (l.take (i + 1)) = nbeg (l.take i) + if l[i].kind = 0 then 1 else 0 := by
  rw [List.take_succ_eq_append_getElem h]
  unfold nbeg
  rw [List.countP_append]
  by_cases hk : l[i].kind = 0
  · simp [hk]
  · simp [hk]
theorem nbeg_le (l : List Ev) (i : Nat) : nbeg (l.take i) ≤ i := by
  unfold nbeg
  have h1 := List.countP_le_length (p := fun e : Ev => decide (e.kind = 0)) (l := l.take i)
  simp at h1
  omega
end Go.Proofs.Ytcogpedfnnfnaaa
