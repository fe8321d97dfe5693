/-
  The plain law of orders: what both enumerations list.
-/
import Derived.Test.YtcogpedfnnfnaaaHt
namespace Go.Proofs.Ytcogpedfnnfnaaa
open Go.Rf Go.RowKit
set_option linter.unusedVariables false

def iv (xs : List Nat) : List Int := xs.map fun (n : Nat) => (n : Int)
theorem iv_mem {xs : List Nat} {k : Nat} : (k : Int) ∈ iv xs ↔ k ∈ xs := by
  unfold iv
  rw [List.mem_map]
  constructor
  · rintro ⟨a, h1, h2⟩
    have : a = k := by omega
    exact this ▸ h1
  · exact fun h => ⟨k, h, rfl⟩
theorem iv_snoc (xs : List Nat) (i : Nat) : iv (xs ++ [i]) = iv xs ++ [(i : Int)] := by simp [iv]
theorem iv_len (xs : List Nat) : (iv xs).length = xs.length := by simp [iv]
theorem iv_upTo (n : Nat) : iv (List.range n) = upTo n := rfl
theorem iv_nodup {xs : List Nat} : (iv xs).Nodup ↔ xs.Nodup := by
  unfold iv
  rw [List.nodup_iff_pairwise_ne, List.pairwise_map, List.nodup_iff_pairwise_ne]
  constructor
  · exact fun h => h.imp (fun hab => fun e => hab (by rw [e]))
  · exact fun h => h.imp (fun hab => fun e => hab (by omega))

/-- the beginning of an allowed order -/
structure BegP (l : List Cl) (o : List Int) : Prop where
  inn : ∀ i ∈ o, 0 ≤ i ∧ i < l.length
  nd : o.Nodup
  pw : o.Pairwise (fun a b => bf l b.toNat a.toNat = false)
  ed : ∀ i ∈ o, ∀ k (h : k < l.length), bf l k i.toNat = true → l[k].fin ≠ -1 → (k : Int) ∈ o
theorem lin_beg {l : List Cl} {o : List Int} : LinP l o ↔ (∀ k (h : k < l.length), l[k].fin ≠ -1 → (k : Int) ∈ o) ∧ BegP l o :=
  ⟨fun h => ⟨h.all, h.inn, h.nd, h.pw, fun i hi k hk _ hf => h.all k hk hf⟩, fun h => ⟨h.2.inn, h.2.nd, h.1, h.2.pw⟩⟩
theorem beg_nil (l : List Cl) : BegP l [] := ⟨by simp, by simp, by simp, by simp⟩
theorem bf_gt {l : List Cl} {i j : Nat} (hi : i < l.length) (hj : j < l.length) : bf l i j = bef (gt l i) (gt l j) := by rw [bf_eq hi hj, gt_eq hi, gt_eq hj]
theorem fit_spec {l : List Cl} {order : List Nat} {i : Nat} : fitB l order i = true ↔ (∀ j, j < l.length → j = i ∨ badB l order i j = false) ∧ i ∉ order := by
  unfold fitB fitFrom
  simp only [Bool.and_eq_true, List.all_eq_true, List.mem_range, Bool.or_eq_true, decide_eq_true_eq, Bool.not_eq_true', decide_eq_false_iff_not]
theorem bad_spec {l : List Cl} {order : List Nat} {i j : Nat} (hi : i < l.length) (hj : j < l.length) : badB l order i j = false ↔ (j ∈ order → bf l i j = false) ∧ (j ∉ order → l[j].fin ≠ -1 → bf l j i = false) := by
  unfold badB
  rw [bf_gt hi hj, bf_gt hj hi, gt_eq hj, gt_eq hi]
  by_cases h : j ∈ order
  · simp [h]
  · simp [h]
theorem fit_iff {l : List Cl} {order : List Nat} {i : Nat} (hi : i < l.length) (h : BegP l (iv order)) : fitB l order i = true ↔ BegP l (iv (order ++ [i])) := by
  have hin : ∀ x ∈ order, x < l.length := fun x hx => by have := (h.inn x (iv_mem.2 hx)).2; omega
  rw [fit_spec, iv_snoc]
  constructor
  · rintro ⟨h1, h2⟩
    refine ⟨?_, ?_, ?_, ?_⟩
    · intro x hx
      rcases List.mem_append.1 hx with hx | hx
      · exact h.inn x hx
      · simp at hx; omega
    · rw [List.nodup_append]
      refine ⟨h.nd, by simp, ?_⟩
      intro a ha b hb hab
      simp at hb
      rw [hab, hb] at ha
      exact h2 (iv_mem.1 ha)
    · rw [List.pairwise_append]
      refine ⟨h.pw, by simp, ?_⟩
      intro a ha b hb
      simp at hb
      subst hb
      have ha' := h.inn a ha
      obtain ⟨x, rfl⟩ : ∃ x : Nat, a = x := ⟨a.toNat, by omega⟩
      have hx : x ∈ order := iv_mem.1 ha
      rcases h1 x (by omega) with e | e
      · subst e; exact absurd hx h2
      · rw [Int.toNat_natCast, Int.toNat_natCast]
        exact ((bad_spec hi (by omega)).1 e).1 hx
    · intro x hx k hk hb hf
      rw [List.mem_append]
      rcases List.mem_append.1 hx with hx | hx
      · exact .inl (h.ed x hx k hk hb hf)
      · simp at hx
        subst hx
        rw [Int.toNat_natCast] at hb
        by_cases hko : k ∈ order
        · exact .inl (iv_mem.2 hko)
        · right
          rcases h1 k hk with e | e
          · simp [e]
          · have := ((bad_spec hi hk).1 e).2 hko hf
            rw [hb] at this; cases this
  · intro h'
    have h2 : i ∉ order := by
      intro hm
      have := h'.nd
      rw [List.nodup_append] at this
      exact this.2.2 _ (iv_mem.2 hm) _ (by simp) rfl
    refine ⟨fun j hj => ?_, h2⟩
    by_cases hji : j = i
    · exact .inl hji
    · right
      rw [bad_spec hi hj]
      refine ⟨fun hm => ?_, fun hm hf => ?_⟩
      · have := h'.pw
        rw [List.pairwise_append] at this
        simpa using this.2.2 (j : Int) (iv_mem.2 hm) (i : Int) (by simp)
      · cases hb : bf l j i
        · rfl
        · have := h'.ed (i : Int) (by simp) j hj (by simpa using hb) hf
          rcases List.mem_append.1 this with h3 | h3
          · exact absurd (iv_mem.1 h3) hm
          · simp at h3; omega

/-! ### what is left -/
theorem countP_one : ∀ (n i : Nat) (p q : Nat → Bool), i < n → (∀ j, j ≠ i → p j = q j) → q i = false → (List.range n).countP p = (List.range n).countP q + if p i then 1 else 0 := by
  intro n
  induction n with
  | zero => intro i p q hi; omega
  | succ n ih =>
    intro i p q hi h hq
    rw [List.range_succ, List.countP_append, List.countP_append]
    by_cases hin : i = n
    · subst hin
      have e : (List.range i).countP p = (List.range i).countP q := by
        apply List.countP_congr
        intro x hx
        rw [List.mem_range] at hx
        rw [h x (by omega)]
      rw [e]
      simp only [List.countP_cons, List.countP_nil, hq]
      simp
    · rw [ih i p q (by omega) h hq]
      have : p n = q n := h n (by omega)
      simp only [List.countP_cons, List.countP_nil, this]
      omega
def remE (l : List Cl) (order : List Nat) : Nat := (List.range l.length).countP (fun j => decide ((gt l j).fin ≠ -1 ∧ j ∉ order))
theorem rem_nil (l : List Cl) : remE l [] = ended l := by
  have e : l = (List.range l.length).map (gt l) := by
    apply List.ext_getElem (by simp)
    intro i h1 h2
    simp [gt, h1]
  unfold remE ended
  conv => rhs; rw [e, List.countP_map]
  apply List.countP_congr
  intro x hx
  simp
theorem rem_snoc {l : List Cl} {order : List Nat} {i : Nat} (hi : i < l.length) (hn : i ∉ order) : remE l order = remE l (order ++ [i]) + if (gt l i).fin ≠ -1 then 1 else 0 := by
  unfold remE
  rw [countP_one l.length i _ (fun j => decide ((gt l j).fin ≠ -1 ∧ j ∉ order ++ [i])) hi (fun j hj => by simp [hj]) (by simp)]
  congr 1
  by_cases h : (gt l i).fin = -1
  · simp [h]
  · simp [h, hn]
theorem rem_zero {l : List Cl} {order : List Nat} : remE l order = 0 ↔ ∀ k (h : k < l.length), l[k].fin ≠ -1 → k ∈ order := by
  unfold remE
  rw [List.countP_eq_zero]
  constructor
  · intro h k hk hf
    have := h k (List.mem_range.2 hk)
    rw [gt_eq hk] at this
    simp only [ne_eq, decide_eq_true_eq, not_and, Decidable.not_not] at this
    exact this hf
  · intro h k hk
    rw [List.mem_range] at hk
    rw [gt_eq hk]
    simp only [ne_eq, decide_eq_true_eq, not_and, Decidable.not_not]
    exact h k hk
theorem lin_iff {l : List Cl} {order : List Nat} (h : BegP l (iv order)) : LinP l (iv order) ↔ remE l order = 0 := by
  rw [lin_beg, rem_zero]
  constructor
  · exact fun h k hk hf => iv_mem.1 (h.1 k hk hf)
  · exact fun h' => ⟨fun k hk hf => iv_mem.2 (h' k hk hf), h⟩
theorem left_snoc {l : List Cl} {order : List Nat} {i : Nat} (hi : i < l.length) (hn : i ∉ order) : (if (gt l i).fin ≠ -1 then (remE l order : Int) - 1 else (remE l order : Int)) = (remE l (order ++ [i]) : Int) := by
  have := rem_snoc hi hn
  split
  · rename_i h; rw [if_pos h] at this; omega
  · rename_i h; rw [if_neg h] at this; omega
theorem foldl_inv {α β : Type} {P : β → Prop} {f : β → α → β} : ∀ (l : List α) (b : β), P b → (∀ b a, a ∈ l → P b → P (f b a)) → P (l.foldl f b) := by
  intro l
  induction l with
  | nil => intro b hb _; exact hb
  | cons a l ih => intro b hb h; exact ih (f b a) (h b a (by simp) hb) (fun b a ha => h b a (by simp [ha]))
theorem nd_of_beg {l : List Cl} {order : List Nat} {i : Nat} (h : BegP l (iv (order ++ [i]))) : i ∉ order := by
  intro hm
  have := h.nd
  rw [iv_snoc, List.nodup_append] at this
  exact this.2.2 _ (iv_mem.2 hm) _ (by simp) rfl
/-- all that is listed is allowed -/
theorem grow_lin (l : List Cl) (most : Nat) : ∀ (f : Nat) (order : List Nat) (out : List (List Nat)), BegP l (iv order) → (∀ x ∈ out, LinP l (iv x)) → ∀ x ∈ growP l most f order (remE l order) out, LinP l (iv x) := by
  have h0 : ∀ (order : List Nat) (out : List (List Nat)), BegP l (iv order) → (∀ x ∈ out, LinP l (iv x)) → ∀ x ∈ (if (remE l order : Int) = 0 then out ++ [order] else out), LinP l (iv x) := by
    intro order out hb ho
    split
    · rename_i h
      intro x hx
      rcases List.mem_append.1 hx with hx | hx
      · exact ho x hx
      · simp at hx; subst hx; exact (lin_iff hb).2 (by omega)
    · exact ho
  intro f
  induction f with
  | zero => intro order out hb ho; rw [growP]; exact h0 order out hb ho
  | succ f ih =>
    intro order out hb ho
    rw [growP]
    refine foldl_inv (P := fun o => ∀ x ∈ o, LinP l (iv x)) _ _ (h0 order out hb ho) (fun o i hi hP => ?_)
    rw [List.mem_range] at hi
    split
    · exact hP
    · split
      · rename_i hfit
        have hb' := (fit_iff hi hb).1 hfit
        rw [left_snoc hi (nd_of_beg hb')]
        exact ih (order ++ [i]) o hb' hP
      · exact hP
theorem orders_lin (l : List Cl) (most : Int) : ∀ x ∈ ordersP l most, LinP l (iv x) := by
  unfold ordersP
  split
  · intro x hx; cases hx
  · rw [← rem_nil]
    exact grow_lin l _ _ [] [] (beg_nil l) (by simp)
/-- fuel that is at its end -/
theorem beg_full {l : List Cl} {order : List Nat} {i : Nat} (h : BegP l (iv (order ++ [i]))) : order.length < l.length := by
  have h1 := nodup_len l.length (order ++ [i]) (iv_nodup.1 h.nd) (fun x hx => by have := (h.inn x (iv_mem.2 hx)).2; omega)
  simp at h1; omega
end Go.Proofs.Ytcogpedfnnfnaaa
