/-
  The plain law of reading paths: choice trees as an inductive type, reading a path, fitting numbers.
-/
import Derived.Test.YtpochcchekoonaaGreatTn
namespace Go.Proofs.YtpochcchekoonaaGreat
open Go.Rf Go.RowKit
set_option linter.unusedVariables false
set_option linter.unusedSimpArgs false

--BEGIN
/-- a choice tree, unfolded; nodes that make a choice bear their index -/
inductive T
  | leaf (v : V)
  | rng (i : Nat) (lo : Int) (n : Nat)
  | cho (i : Nat) (kids : List T)
  | seq (x : Nd) (kids : List T)
  | bnd (vals : List V) (first : T) (kids : List T)
abbrev Sp := Nat × Nat × Nat
/-- what reading leads to: a result, where it ends, its spans; or the node for which there is no number (and its options); or a number that does not fit -/
inductive Res (α : Type)
  | ok (a : α) (e : Nat) (sp : List Sp)
  | stop (i n : Nat)
  | bad
def Res.bind {α β : Type} : Res α → (α → Nat → List Sp → Res β) → Res β
  | .ok a e sp, f => f a e sp
  | .stop i n, _ => .stop i n
  | .bad, _ => .bad
@[simp] theorem Res.bind_ok {α β : Type} (a : α) (e : Nat) (sp : List Sp) (f : α → Nat → List Sp → Res β) : (Res.ok a e sp).bind f = f a e sp := rfl
@[simp] theorem Res.bind_stop {α β : Type} (i n : Nat) (f : α → Nat → List Sp → Res β) : (Res.stop i n).bind f = .stop i n := rfl
@[simp] theorem Res.bind_bad {α β : Type} (f : α → Nat → List Sp → Res β) : (Res.bad).bind f = .bad := rfl
/-- the next number, for a node with n options -/
def pick1 {α : Type} (P : List Int) (i n a : Nat) (f : Nat → Res α) : Res α :=
  match P[a]? with
  | none => .stop i n
  | some c => if 0 ≤ c ∧ c < n then f c.toNat else .bad
mutual
def rd (P : List Int) : T → Nat → Res V
  | .leaf v, a => .ok v a []
  | .rng i lo n, a => pick1 P i n a fun c => .ok (numV (lo + c)) (a + 1) []
  | .cho i ks, a => pick1 P i ks.length a fun c => rdN P ks c (a + 1)
  | .seq x ks, a => (rdS P a ks a).bind fun vs e sp => .ok (madeV x vs) e sp
  | .bnd vals f ks, a => (rd P f a).bind fun v e sp => (rdN P ks (fndV vals v).1 e).bind fun v2 e2 sp2 => .ok v2 e2 (sp ++ sp2)
def rdN (P : List Int) : List T → Nat → Nat → Res V
  | [], _, _ => .bad
  | t :: _, 0, a => rd P t a
  | _ :: ts, k + 1, a => rdN P ts k a
def rdS (P : List Int) (s : Nat) : List T → Nat → Res (List V)
  | [], a => .ok [] a []
  | t :: ts, a => (rd P t a).bind fun v e sp => (rdS P s ts e).bind fun vs e2 sp2 => .ok (v :: vs) e2 ((s, a, e) :: (sp ++ sp2))
end
theorem rdN_get (P : List Int) : ∀ (ts : List T) (k a : Nat) (h : k < ts.length), rdN P ts k a = rd P ts[k] a
  | [], k, a, h => by simp at h
  | t :: ts, 0, a, h => by simp [rdN]
  | t :: ts, k + 1, a, h => by simp only [rdN, List.getElem_cons_succ]; exact rdN_get P ts k a (by simpa using h)
/-- the number that a choice takes -/
def clp (raw : List Int) (k n : Nat) : Nat := (max 0 (min (raw.getD k 0) ((n : Int) - 1))).toNat
mutual
def fit (raw : List Int) : T → List Int → V × List Int
  | .leaf v, p => (v, p)
  | .rng i lo n, p => (numV (lo + clp raw p.length n), p ++ [(clp raw p.length n : Int)])
  | .cho i ks, p => fitN raw ks (clp raw p.length ks.length) (p ++ [(clp raw p.length ks.length : Int)])
  | .seq x ks, p => (madeV x (fitS raw ks p).1, (fitS raw ks p).2)
  | .bnd vals f ks, p => fitN raw ks (fndV vals (fit raw f p).1).1 (fit raw f p).2
def fitN (raw : List Int) : List T → Nat → List Int → V × List Int
  | [], _, p => (numV 0, p)
  | t :: _, 0, p => fit raw t p
  | _ :: ts, k + 1, p => fitN raw ts k p
def fitS (raw : List Int) : List T → List Int → List V × List Int
  | [], p => ([], p)
  | t :: ts, p => ((fit raw t p).1 :: (fitS raw ts (fit raw t p).2).1, (fitS raw ts (fit raw t p).2).2)
end
theorem fitN_get (raw : List Int) : ∀ (ts : List T) (k : Nat) (p : List Int) (h : k < ts.length), fitN raw ts k p = fit raw ts[k] p
  | [], k, a, h => by simp at h
  | t :: ts, 0, a, h => by simp [fitN]
  | t :: ts, k + 1, a, h => by simp only [fitN, List.getElem_cons_succ]; exact fitN_get raw ts k a (by simpa using h)
/-- every choice has an option; the cases of a bind are the values of its first kid -/
inductive Good : T → Prop
  | leaf (v : V) : Good (.leaf v)
  | rng {i n : Nat} {lo : Int} : 0 < n → Good (.rng i lo n)
  | cho {i : Nat} {ks : List T} : 0 < ks.length → (∀ k ∈ ks, Good k) → Good (.cho i ks)
  | seq {x : Nd} {ks : List T} : (∀ k ∈ ks, Good k) → Good (.seq x ks)
  | bnd {vals : List V} {f : T} {ks : List T} : Good f → (∀ k ∈ ks, Good k) → (∀ P a v e sp, rd P f a = .ok v e sp → (fndV vals v).1 < ks.length) → Good (.bnd vals f ks)
theorem clp_lt {raw : List Int} {k n : Nat} (h : 0 < n) : clp raw k n < n := by unfold clp; omega

/-! ### where reading ends -/
mutual
theorem rd_end (P : List Int) : ∀ (t : T) (a : Nat) {v : V} {e : Nat} {sp : List Sp}, a ≤ P.length → rd P t a = .ok v e sp → a ≤ e ∧ e ≤ P.length
  | .leaf v, a, _, _, _, ha, h => by simp only [rd, Res.ok.injEq] at h; omega
  | .rng i lo n, a, _, _, _, ha, h => by
    simp only [rd, pick1] at h
    split at h
    · cases h
    · rename_i c hc
      have := (List.getElem?_eq_some_iff.1 hc).1
      split at h
      · simp only [Res.ok.injEq] at h; omega
      · cases h
  | .cho i ks, a, _, _, _, ha, h => by
    simp only [rd, pick1] at h
    split at h
    · cases h
    · rename_i c hc
      have := (List.getElem?_eq_some_iff.1 hc).1
      split at h
      · have := rdN_end P ks _ _ (by omega) h; omega
      · cases h
  | .seq x ks, a, _, _, _, ha, h => by
    simp only [rd] at h
    rcases hq : rdS P a ks a with ⟨vs, e, sp⟩ | _ | _
    · rw [hq] at h
      simp only [Res.bind_ok, Res.ok.injEq] at h
      have := rdS_end P a ks a ha hq
      omega
    · rw [hq] at h; cases h
    · rw [hq] at h; cases h
  | .bnd vals f ks, a, _, _, _, ha, h => by
    simp only [rd] at h
    rcases hq : rd P f a with ⟨v1, e1, sp1⟩ | _ | _
    · rw [hq] at h
      simp only [Res.bind_ok] at h
      have h1 := rd_end P f a ha hq
      rcases hq2 : rdN P ks (fndV vals v1).1 e1 with ⟨v2, e2, sp2⟩ | _ | _
      · rw [hq2] at h
        simp only [Res.bind_ok, Res.ok.injEq] at h
        have := rdN_end P ks _ _ (by omega) hq2
        omega
      · rw [hq2] at h; cases h
      · rw [hq2] at h; cases h
    · rw [hq] at h; cases h
    · rw [hq] at h; cases h
theorem rdN_end (P : List Int) : ∀ (ts : List T) (k a : Nat) {v : V} {e : Nat} {sp : List Sp}, a ≤ P.length → rdN P ts k a = .ok v e sp → a ≤ e ∧ e ≤ P.length
  | [], k, a, _, _, _, ha, h => by simp [rdN] at h
  | t :: ts, 0, a, _, _, _, ha, h => by simp only [rdN] at h; exact rd_end P t a ha h
  | t :: ts, k + 1, a, _, _, _, ha, h => by simp only [rdN] at h; exact rdN_end P ts k a ha h
theorem rdS_end (P : List Int) (s : Nat) : ∀ (ts : List T) (a : Nat) {vs : List V} {e : Nat} {sp : List Sp}, a ≤ P.length → rdS P s ts a = .ok vs e sp → a ≤ e ∧ e ≤ P.length
  | [], a, _, _, _, ha, h => by simp only [rdS, Res.ok.injEq] at h; omega
  | t :: ts, a, _, _, _, ha, h => by
    simp only [rdS] at h
    rcases hq : rd P t a with ⟨v1, e1, sp1⟩ | _ | _
    · rw [hq] at h
      simp only [Res.bind_ok] at h
      have h1 := rd_end P t a ha hq
      rcases hq2 : rdS P s ts e1 with ⟨v2, e2, sp2⟩ | _ | _
      · rw [hq2] at h
        simp only [Res.bind_ok, Res.ok.injEq] at h
        have := rdS_end P s ts e1 (by omega) hq2
        omega
      · rw [hq2] at h; cases h
      · rw [hq2] at h; cases h
    · rw [hq] at h; cases h
    · rw [hq] at h; cases h
end

/-! ### reading with more numbers behind -/
theorem get_app {P Q : List Int} {a : Nat} {c : Int} (h : P[a]? = some c) : (P ++ Q)[a]? = some c := by
  rw [List.getElem?_append_left (List.getElem?_eq_some_iff.1 h).1]; exact h
mutual
theorem rd_app (P Q : List Int) : ∀ (t : T) (a : Nat) {v : V} {e : Nat} {sp : List Sp}, rd P t a = .ok v e sp → rd (P ++ Q) t a = .ok v e sp
  | .leaf v, a, _, _, _, h => by simpa only [rd] using h
  | .rng i lo n, a, _, _, _, h => by
    simp only [rd, pick1] at h ⊢
    split at h
    · cases h
    · rename_i c hc
      rw [get_app hc]; exact h
  | .cho i ks, a, _, _, _, h => by
    simp only [rd, pick1] at h ⊢
    split at h
    · cases h
    · rename_i c hc
      rw [get_app hc]
      simp only
      split at h
      · rename_i hr; rw [if_pos hr]; exact rdN_app P Q ks _ _ h
      · cases h
  | .seq x ks, a, _, _, _, h => by
    simp only [rd] at h ⊢
    rcases hq : rdS P a ks a with ⟨vs, e, sp⟩ | _ | _
    · rw [rdS_app P Q a ks a hq]; rw [hq] at h; exact h
    · rw [hq] at h; cases h
    · rw [hq] at h; cases h
  | .bnd vals f ks, a, _, _, _, h => by
    simp only [rd] at h ⊢
    rcases hq : rd P f a with ⟨v1, e1, sp1⟩ | _ | _
    · rw [rd_app P Q f a hq]
      rw [hq] at h
      simp only [Res.bind_ok] at h ⊢
      rcases hq2 : rdN P ks (fndV vals v1).1 e1 with ⟨v2, e2, sp2⟩ | _ | _
      · rw [rdN_app P Q ks _ _ hq2]; rw [hq2] at h; exact h
      · rw [hq2] at h; cases h
      · rw [hq2] at h; cases h
    · rw [hq] at h; cases h
    · rw [hq] at h; cases h
theorem rdN_app (P Q : List Int) : ∀ (ts : List T) (k a : Nat) {v : V} {e : Nat} {sp : List Sp}, rdN P ts k a = .ok v e sp → rdN (P ++ Q) ts k a = .ok v e sp
  | [], k, a, _, _, _, h => by simp [rdN] at h
  | t :: ts, 0, a, _, _, _, h => by simp only [rdN] at h ⊢; exact rd_app P Q t a h
  | t :: ts, k + 1, a, _, _, _, h => by simp only [rdN] at h ⊢; exact rdN_app P Q ts k a h
theorem rdS_app (P Q : List Int) (s : Nat) : ∀ (ts : List T) (a : Nat) {vs : List V} {e : Nat} {sp : List Sp}, rdS P s ts a = .ok vs e sp → rdS (P ++ Q) s ts a = .ok vs e sp
  | [], a, _, _, _, h => by simpa only [rdS] using h
  | t :: ts, a, _, _, _, h => by
    simp only [rdS] at h ⊢
    rcases hq : rd P t a with ⟨v1, e1, sp1⟩ | _ | _
    · rw [rd_app P Q t a hq]
      rw [hq] at h
      simp only [Res.bind_ok] at h ⊢
      rcases hq2 : rdS P s ts e1 with ⟨v2, e2, sp2⟩ | _ | _
      · rw [rdS_app P Q s ts e1 hq2]; rw [hq2] at h; exact h
      · rw [hq2] at h; cases h
      · rw [hq2] at h; cases h
    · rw [hq] at h; cases h
    · rw [hq] at h; cases h
end

/-! ### what lies behind the end does not matter -/
mutual
theorem rd_mono (P : List Int) : ∀ (t : T) (a : Nat) {v : V} {e : Nat} {sp : List Sp}, rd P t a = .ok v e sp → a ≤ e
  | .leaf v, a, _, _, _, h => by simp only [rd, Res.ok.injEq] at h; omega
  | .rng i lo n, a, _, _, _, h => by
    simp only [rd, pick1] at h
    split at h
    · cases h
    · split at h
      · simp only [Res.ok.injEq] at h; omega
      · cases h
  | .cho i ks, a, _, _, _, h => by
    simp only [rd, pick1] at h
    split at h
    · cases h
    · split at h
      · have := rdN_mono P ks _ _ h; omega
      · cases h
  | .seq x ks, a, _, _, _, h => by
    simp only [rd] at h
    rcases hq : rdS P a ks a with ⟨vs, e, sp⟩ | _ | _
    · rw [hq] at h
      simp only [Res.bind_ok, Res.ok.injEq] at h
      have := rdS_mono P a ks a hq
      omega
    · rw [hq] at h; cases h
    · rw [hq] at h; cases h
  | .bnd vals f ks, a, _, _, _, h => by
    simp only [rd] at h
    rcases hq : rd P f a with ⟨v1, e1, sp1⟩ | _ | _
    · rw [hq] at h
      simp only [Res.bind_ok] at h
      have h1 := rd_mono P f a hq
      rcases hq2 : rdN P ks (fndV vals v1).1 e1 with ⟨v2, e2, sp2⟩ | _ | _
      · rw [hq2] at h
        simp only [Res.bind_ok, Res.ok.injEq] at h
        have := rdN_mono P ks _ _ hq2
        omega
      · rw [hq2] at h; cases h
      · rw [hq2] at h; cases h
    · rw [hq] at h; cases h
    · rw [hq] at h; cases h
theorem rdN_mono (P : List Int) : ∀ (ts : List T) (k a : Nat) {v : V} {e : Nat} {sp : List Sp}, rdN P ts k a = .ok v e sp → a ≤ e
  | [], k, a, _, _, _, h => by simp [rdN] at h
  | t :: ts, 0, a, _, _, _, h => by simp only [rdN] at h; exact rd_mono P t a h
  | t :: ts, k + 1, a, _, _, _, h => by simp only [rdN] at h; exact rdN_mono P ts k a h
theorem rdS_mono (P : List Int) (s : Nat) : ∀ (ts : List T) (a : Nat) {vs : List V} {e : Nat} {sp : List Sp}, rdS P s ts a = .ok vs e sp → a ≤ e
  | [], a, _, _, _, h => by simp only [rdS, Res.ok.injEq] at h; omega
  | t :: ts, a, _, _, _, h => by
    simp only [rdS] at h
    rcases hq : rd P t a with ⟨v1, e1, sp1⟩ | _ | _
    · rw [hq] at h
      simp only [Res.bind_ok] at h
      have h1 := rd_mono P t a hq
      rcases hq2 : rdS P s ts e1 with ⟨v2, e2, sp2⟩ | _ | _
      · rw [hq2] at h
        simp only [Res.bind_ok, Res.ok.injEq] at h
        have := rdS_mono P s ts e1 hq2
        omega
      · rw [hq2] at h; cases h
      · rw [hq2] at h; cases h
    · rw [hq] at h; cases h
    · rw [hq] at h; cases h
end
theorem get_cut {P Q : List Int} {a : Nat} (h : a < P.length) : (P ++ Q)[a]? = P[a]? := List.getElem?_append_left h
mutual
theorem rd_cut (P Q : List Int) : ∀ (t : T) (a : Nat) {v : V} {e : Nat} {sp : List Sp}, e ≤ P.length → rd (P ++ Q) t a = .ok v e sp → rd P t a = .ok v e sp
  | .leaf v, a, _, _, _, he, h => by simpa only [rd] using h
  | .rng i lo n, a, _, _, _, he, h => by
    simp only [rd, pick1] at h ⊢
    split at h
    · cases h
    · rename_i c hc
      split at h
      · rename_i hr
        have h' := h
        simp only [Res.ok.injEq] at h'
        rw [get_cut (by omega)] at hc
        rw [hc]; simp only [if_pos hr]; exact h
      · cases h
  | .cho i ks, a, _, _, _, he, h => by
    simp only [rd, pick1] at h ⊢
    split at h
    · cases h
    · rename_i c hc
      split at h
      · rename_i hr
        have := rdN_mono (P ++ Q) ks _ _ h
        rw [get_cut (by omega)] at hc
        rw [hc]; simp only [if_pos hr]
        exact rdN_cut P Q ks _ _ he h
      · cases h
  | .seq x ks, a, _, _, _, he, h => by
    simp only [rd] at h ⊢
    rcases hq : rdS (P ++ Q) a ks a with ⟨vs, e, sp⟩ | _ | _
    · rw [hq] at h
      have h' := h
      simp only [Res.bind_ok, Res.ok.injEq] at h'
      rw [rdS_cut P Q a ks a (by omega) hq]; exact h
    · rw [hq] at h; cases h
    · rw [hq] at h; cases h
  | .bnd vals f ks, a, _, _, _, he, h => by
    simp only [rd] at h ⊢
    rcases hq : rd (P ++ Q) f a with ⟨v1, e1, sp1⟩ | _ | _
    · rw [hq] at h
      simp only [Res.bind_ok] at h
      rcases hq2 : rdN (P ++ Q) ks (fndV vals v1).1 e1 with ⟨v2, e2, sp2⟩ | _ | _
      · rw [hq2] at h
        have h' := h
        simp only [Res.bind_ok, Res.ok.injEq] at h'
        have := rdN_mono _ ks _ _ hq2
        rw [rd_cut P Q f a (by omega) hq]
        simp only [Res.bind_ok]
        rw [rdN_cut P Q ks _ _ (by omega) hq2]
        exact h
      · rw [hq2] at h; cases h
      · rw [hq2] at h; cases h
    · rw [hq] at h; cases h
    · rw [hq] at h; cases h
theorem rdN_cut (P Q : List Int) : ∀ (ts : List T) (k a : Nat) {v : V} {e : Nat} {sp : List Sp}, e ≤ P.length → rdN (P ++ Q) ts k a = .ok v e sp → rdN P ts k a = .ok v e sp
  | [], k, a, _, _, _, he, h => by simp [rdN] at h
  | t :: ts, 0, a, _, _, _, he, h => by simp only [rdN] at h ⊢; exact rd_cut P Q t a he h
  | t :: ts, k + 1, a, _, _, _, he, h => by simp only [rdN] at h ⊢; exact rdN_cut P Q ts k a he h
theorem rdS_cut (P Q : List Int) (s : Nat) : ∀ (ts : List T) (a : Nat) {vs : List V} {e : Nat} {sp : List Sp}, e ≤ P.length → rdS (P ++ Q) s ts a = .ok vs e sp → rdS P s ts a = .ok vs e sp
  | [], a, _, _, _, he, h => by simpa only [rdS] using h
  | t :: ts, a, _, _, _, he, h => by
    simp only [rdS] at h ⊢
    rcases hq : rd (P ++ Q) t a with ⟨v1, e1, sp1⟩ | _ | _
    · rw [hq] at h
      simp only [Res.bind_ok] at h
      rcases hq2 : rdS (P ++ Q) s ts e1 with ⟨v2, e2, sp2⟩ | _ | _
      · rw [hq2] at h
        have h' := h
        simp only [Res.bind_ok, Res.ok.injEq] at h'
        have := rdS_mono _ s ts _ hq2
        rw [rd_cut P Q t a (by omega) hq]
        simp only [Res.bind_ok]
        rw [rdS_cut P Q s ts e1 (by omega) hq2]
        exact h
      · rw [hq2] at h; cases h
      · rw [hq2] at h; cases h
    · rw [hq] at h; cases h
    · rw [hq] at h; cases h
end
/-- where reading stopped and one number more ends it, that number was used -/
theorem rd_used (P : List Int) (c : Int) (t : T) (a : Nat) {i n : Nat} {v : V} {e : Nat} {sp : List Sp} (ha : a ≤ P.length) (h : rd P t a = .stop i n) (h2 : rd (P ++ [c]) t a = .ok v e sp) : e = (P ++ [c]).length := by
  have h3 := rd_end (P ++ [c]) t a (by simp; omega) h2
  by_cases he : e ≤ P.length
  · exfalso
    have := rd_cut P [c] t a he h2
    rw [h] at this; cases this
  · simp at h3 ⊢; omega

/-! ### where reading stops, all numbers are used; one more that fits goes on -/
theorem none_len {P : List Int} {a : Nat} (ha : a ≤ P.length) (h : P[a]? = none) : a = P.length := by rw [List.getElem?_eq_none_iff] at h; omega
theorem pick_more {α : Type} {P : List Int} {i n a i' n' : Nat} {c : Int} {f : Nat → Res α} (ha : a ≤ P.length) (h : pick1 P i n a f = .stop i' n') (hc : 0 ≤ c ∧ c < n')
    (hf : ∀ k, (∃ x : Int, P[a]? = some x ∧ 0 ≤ x ∧ x < n ∧ k = x.toNat) → f k = .stop i' n' → ∀ f' : Nat → Res α, f' k ≠ .bad → True) : (P[a]? = none ∧ i' = i ∧ n' = n) ∨ ∃ x : Int, P[a]? = some x ∧ (0 ≤ x ∧ x < n) ∧ f x.toNat = .stop i' n' := by
  unfold pick1 at h
  split at h
  · rename_i hq; simp only [Res.stop.injEq] at h; exact .inl ⟨hq, h.1.symm, h.2.symm⟩
  · rename_i x hq
    split at h
    · rename_i hx; exact .inr ⟨x, hq, hx, h⟩
    · cases h
mutual
theorem rd_more (P : List Int) (c : Int) : ∀ (t : T), Good t → ∀ (a : Nat) {i n : Nat}, a ≤ P.length → rd P t a = .stop i n → 0 ≤ c → c < n → rd (P ++ [c]) t a ≠ .bad
  | .leaf v, _, a, _, _, ha, h, _, _ => by simp [rd] at h
  | .rng i lo n, _, a, i', n', ha, h, c0, c1 => by
    simp only [rd] at h ⊢
    rcases pick_more ha h ⟨c0, c1⟩ (fun _ _ _ _ _ => trivial) with ⟨hq, rfl, rfl⟩ | ⟨x, hq, hx, h⟩
    · have := none_len ha hq
      subst this
      simp [pick1, c0, c1]
    · cases h
  | .cho i ks, hg, a, i', n', ha, h, c0, c1 => by
    cases hg with
    | cho hp hk =>
    simp only [rd] at h ⊢
    rcases pick_more ha h ⟨c0, c1⟩ (fun _ _ _ _ _ => trivial) with ⟨hq, rfl, rfl⟩ | ⟨x, hq, hx, h⟩
    · have := none_len ha hq
      subst this
      simp only [pick1, List.getElem?_concat_length, if_pos (And.intro c0 c1)]
      have hl : c.toNat < ks.length := by omega
      rw [rdN_get _ _ _ _ hl]
      have := rd_full (P ++ [c]) ks[c.toNat] (hk _ (by simp)) (P.length + 1) (by simp)
      rcases this with ⟨i2, n2, h⟩ | ⟨v, sp, h⟩
      · rw [h]; simp
      · rw [h]; simp
    · have hlt := (List.getElem?_eq_some_iff.1 hq).1
      simp only [pick1, get_app hq, if_pos hx]
      exact rdN_more P c ks hk _ _ (by omega) h c0 c1
  | .seq x ks, hg, a, i', n', ha, h, c0, c1 => by
    cases hg with
    | seq hk =>
    simp only [rd] at h ⊢
    rcases hq : rdS P a ks a with ⟨vs, e, sp⟩ | ⟨i2, n2⟩ | _
    · rw [hq] at h; cases h
    · rw [hq] at h
      simp only [Res.bind_stop, Res.stop.injEq] at h
      have := rdS_more P c a ks hk a ha hq c0 (by omega)
      rcases hq2 : rdS (P ++ [c]) a ks a with ⟨vs, e, sp⟩ | ⟨i3, n3⟩ | _
      · simp
      · simp
      · exact absurd hq2 this
    · rw [hq] at h; cases h
  | .bnd vals f ks, hg, a, i', n', ha, h, c0, c1 => by
    cases hg with
    | bnd hf hk hv =>
    simp only [rd] at h ⊢
    rcases hq : rd P f a with ⟨v1, e1, sp1⟩ | ⟨i2, n2⟩ | _
    · rw [rd_app P [c] f a hq]
      rw [hq] at h
      simp only [Res.bind_ok] at h ⊢
      have he := rd_end P f a ha hq
      rcases hq2 : rdN P ks (fndV vals v1).1 e1 with ⟨v2, e2, sp2⟩ | ⟨i2, n2⟩ | _
      · rw [hq2] at h; cases h
      · rw [hq2] at h
        simp only [Res.bind_stop, Res.stop.injEq] at h
        have := rdN_more P c ks hk _ _ he.2 hq2 c0 (by omega)
        rcases hq3 : rdN (P ++ [c]) ks (fndV vals v1).1 e1 with ⟨vs, e, sp⟩ | ⟨i3, n3⟩ | _
        · simp
        · simp
        · exact absurd hq3 this
      · rw [hq2] at h; cases h
    · rw [hq] at h
      simp only [Res.bind_stop, Res.stop.injEq] at h
      have hm := rd_more P c f hf a ha hq c0 (by omega)
      rcases hq2 : rd (P ++ [c]) f a with ⟨v, e, sp⟩ | ⟨i3, n3⟩ | _
      · simp only [Res.bind_ok]
        have hl := hv _ _ _ _ _ hq2
        have he := rd_end (P ++ [c]) f a (by simp; omega) hq2
        rw [rdN_get _ _ _ _ hl]
        -- the last number was taken: what follows finds none
        have hlen : e = (P ++ [c]).length := rd_used P c f a ha hq hq2
        have := rd_full (P ++ [c]) ks[(fndV vals v).1] (hk _ (by simp)) e (by omega)
        rcases this with ⟨i2, n2, h⟩ | ⟨v, sp, h⟩
        · rw [h]; simp
        · rw [h]; simp
      · simp
      · exact absurd hq2 hm
    · rw [hq] at h; cases h
theorem rdN_more (P : List Int) (c : Int) : ∀ (ts : List T), (∀ t ∈ ts, Good t) → ∀ (k a : Nat) {i n : Nat}, a ≤ P.length → rdN P ts k a = .stop i n → 0 ≤ c → c < n → rdN (P ++ [c]) ts k a ≠ .bad
  | [], _, k, a, _, _, ha, h, _, _ => by simp [rdN] at h
  | t :: ts, hg, 0, a, _, _, ha, h, c0, c1 => by simp only [rdN] at h ⊢; exact rd_more P c t (hg t (by simp)) a ha h c0 c1
  | t :: ts, hg, k + 1, a, _, _, ha, h, c0, c1 => by simp only [rdN] at h ⊢; exact rdN_more P c ts (fun t ht => hg t (by simp [ht])) k a ha h c0 c1
theorem rdS_more (P : List Int) (c : Int) (s : Nat) : ∀ (ts : List T), (∀ t ∈ ts, Good t) → ∀ (a : Nat) {i n : Nat}, a ≤ P.length → rdS P s ts a = .stop i n → 0 ≤ c → c < n → rdS (P ++ [c]) s ts a ≠ .bad
  | [], _, a, _, _, ha, h, _, _ => by simp [rdS] at h
  | t :: ts, hg, a, i', n', ha, h, c0, c1 => by
    simp only [rdS] at h ⊢
    rcases hq : rd P t a with ⟨v1, e1, sp1⟩ | ⟨i2, n2⟩ | _
    · rw [rd_app P [c] t a hq]
      rw [hq] at h
      simp only [Res.bind_ok] at h ⊢
      have he := rd_end P t a ha hq
      rcases hq2 : rdS P s ts e1 with ⟨v2, e2, sp2⟩ | ⟨i2, n2⟩ | _
      · rw [hq2] at h; cases h
      · rw [hq2] at h
        simp only [Res.bind_stop, Res.stop.injEq] at h
        have := rdS_more P c s ts (fun t ht => hg t (by simp [ht])) e1 he.2 hq2 c0 (by omega)
        rcases hq3 : rdS (P ++ [c]) s ts e1 with ⟨vs, e, sp⟩ | ⟨i3, n3⟩ | _
        · simp
        · simp
        · exact absurd hq3 this
      · rw [hq2] at h; cases h
    · rw [hq] at h
      simp only [Res.bind_stop, Res.stop.injEq] at h
      have hm := rd_more P c t (hg t (by simp)) a ha hq c0 (by omega)
      rcases hq2 : rd (P ++ [c]) t a with ⟨v, e, sp⟩ | ⟨i3, n3⟩ | _
      · simp only [Res.bind_ok]
        have hlen : e = (P ++ [c]).length := rd_used P c t a ha hq hq2
        have := rdS_full (P ++ [c]) s ts (fun t ht => hg t (by simp [ht])) e (by omega)
        rcases this with ⟨i2, n2, h⟩ | ⟨v, sp, h⟩
        · rw [h]; simp
        · rw [h]; simp
      · simp
      · exact absurd hq2 hm
    · rw [hq] at h; cases h
/-- at the end of the numbers: nothing is read, or reading stops -/
theorem rd_full (P : List Int) : ∀ (t : T), Good t → ∀ (a : Nat), a = P.length → (∃ i n, rd P t a = .stop i n) ∨ ∃ v sp, rd P t a = .ok v a sp
  | .leaf v, _, a, ha => .inr ⟨v, [], by simp [rd]⟩
  | .rng i lo n, _, a, ha => .inl ⟨i, n, by subst ha; simp [rd, pick1]⟩
  | .cho i ks, _, a, ha => .inl ⟨i, ks.length, by subst ha; simp [rd, pick1]⟩
  | .seq x ks, hg, a, ha => by
    cases hg with
    | seq hk =>
    simp only [rd]
    rcases rdS_full P a ks hk a ha with ⟨i, n, h⟩ | ⟨v, sp, h⟩
    · rw [h]; exact .inl ⟨i, n, rfl⟩
    · rw [h]; exact .inr ⟨_, _, rfl⟩
  | .bnd vals f ks, hg, a, ha => by
    cases hg with
    | bnd hf hk hv =>
    simp only [rd]
    rcases rd_full P f hf a ha with ⟨i, n, h⟩ | ⟨v, sp, h⟩
    · rw [h]; exact .inl ⟨i, n, rfl⟩
    · rw [h]
      simp only [Res.bind_ok]
      rw [rdN_get _ _ _ _ (hv _ _ _ _ _ h)]
      rcases rdN_full P ks hk (fndV vals v).1 a (hv _ _ _ _ _ h) ha with ⟨i, n, h⟩ | ⟨v, sp, h⟩
      · rw [rdN_get _ _ _ _ (hv _ _ _ _ _ ‹rd P f a = _›)] at h
        rw [h]; exact .inl ⟨i, n, rfl⟩
      · rw [rdN_get _ _ _ _ (hv _ _ _ _ _ ‹rd P f a = _›)] at h
        rw [h]; exact .inr ⟨_, _, rfl⟩
theorem rdN_full (P : List Int) : ∀ (ts : List T), (∀ t ∈ ts, Good t) → ∀ (k a : Nat), k < ts.length → a = P.length → (∃ i n, rdN P ts k a = .stop i n) ∨ ∃ v sp, rdN P ts k a = .ok v a sp
  | [], _, k, a, hk, _ => by simp at hk
  | t :: ts, hg, 0, a, _, ha => by simp only [rdN]; exact rd_full P t (hg t (by simp)) a ha
  | t :: ts, hg, k + 1, a, hk, ha => by simp only [rdN]; exact rdN_full P ts (fun t ht => hg t (by simp [ht])) k a (by simpa using hk) ha
theorem rdS_full (P : List Int) (s : Nat) : ∀ (ts : List T), (∀ t ∈ ts, Good t) → ∀ (a : Nat), a = P.length → (∃ i n, rdS P s ts a = .stop i n) ∨ ∃ v sp, rdS P s ts a = .ok v a sp
  | [], _, a, ha => .inr ⟨[], [], by simp [rdS]⟩
  | t :: ts, hg, a, ha => by
    simp only [rdS]
    rcases rd_full P t (hg t (by simp)) a ha with ⟨i, n, h⟩ | ⟨v, sp, h⟩
    · rw [h]; exact .inl ⟨i, n, rfl⟩
    · rw [h]
      simp only [Res.bind_ok]
      rcases rdS_full P s ts (fun t ht => hg t (by simp [ht])) a ha with ⟨i, n, h⟩ | ⟨v, sp, h⟩
      · rw [h]; exact .inl ⟨i, n, rfl⟩
      · rw [h]; exact .inr ⟨_, _, rfl⟩
end
--END
end Go.Proofs.YtpochcchekoonaaGreat
