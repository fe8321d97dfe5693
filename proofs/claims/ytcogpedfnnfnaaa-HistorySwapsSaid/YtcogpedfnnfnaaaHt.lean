/-
  The plain laws of time: coming before, and orders of calls.
-/
import Derived.Test.YtcogpedfnnfnaaaHc
namespace Go.Proofs.Ytcogpedfnnfnaaa
open Go.Rf Go.RowKit
set_option linter.unusedVariables false

/-- a call that begins before it ends -/
structure Late (o : Cl) : Prop where
  fin : 0 ≤ o.fin → o.beg < o.fin
  lost : 0 ≤ o.lost → o.beg < o.lost
structure Timed (l : List Cl) : Prop where
  late : ∀ i (h : i < l.length), Late l[i]
  inc : ∀ i j (hi : i < l.length) (hj : j < l.length), i < j → l[i].beg < l[j].beg
theorem timed_ops (L : List Ev) : Timed (opsFrom 0 L) := by
  have h := opsFrom_beg L 0
  refine ⟨fun i hi => ?_, fun i j hi hj hij => ?_⟩
  · have := h.1 (opsFrom 0 L)[i] (by simp)
    exact ⟨this.2.1, this.2.2.1⟩
  · exact List.pairwise_iff_getElem.1 h.2 i j hi hj hij
theorem Timed.ord {l : List Cl} (h : Timed l) : Ord l := by
  intro j i hj hi hne hf hb
  have h1 := h.late j hj
  have h2 := h1.fin
  have h3 := h1.lost
  by_cases hlt : j < i
  · exact hlt
  · have h4 := h.inc i j hi hj (by omega)
    simp only [bef, decide_eq_true_eq] at hb
    omega
theorem Timed.take {l : List Cl} (h : Timed l) (k : Nat) : Timed (l.take k) := by
  refine ⟨fun i hi => ?_, fun i j hi hj hij => ?_⟩
  · rw [List.getElem_take]; exact h.late i (by simp at hi; omega)
  · rw [List.getElem_take, List.getElem_take]; exact h.inc i j _ _ hij
theorem bef_self {o : Cl} (h : Late o) : bef o o = false := by
  have h1 := h.fin
  have h2 := h.lost
  simp only [bef, decide_eq_false_iff_not]; omega
theorem bef_trans {a b c : Cl} (h : Late b) (h1 : bef a b = true) (h2 : bef b c = true) : bef a c = true := by
  have h3 := h.fin
  have h4 := h.lost
  simp only [bef, decide_eq_true_eq] at *; omega
theorem bef_two {a b c d : Cl} (h1 : bef a b = true) (h2 : bef c d = true) (h3 : bef a d = false) : bef c b = true := by
  simp only [bef, decide_eq_true_eq, decide_eq_false_iff_not] at *; omega
theorem bef_beg {a b : Cl} (h : Late a) (h1 : bef a b = true) : a.beg < b.beg := by
  have h3 := h.fin
  have h4 := h.lost
  simp only [bef, decide_eq_true_eq] at *; omega

/-- an order that real time allows -/
structure LinP (l : List Cl) (o : List Int) : Prop where
  inn : ∀ i ∈ o, 0 ≤ i ∧ i < l.length
  nd : o.Nodup
  all : ∀ i (h : i < l.length), l[i].fin ≠ -1 → (i : Int) ∈ o
  pw : o.Pairwise (fun a b => bf l b.toNat a.toNat = false)
def upTo (n : Nat) : List Int := (List.range n).map (fun (i : Nat) => (i : Int))
theorem upTo_succ (n : Nat) : upTo (n + 1) = upTo n ++ [(n : Int)] := by simp [upTo, List.range_succ]
theorem upTo_len (n : Nat) : (upTo n).length = n := by simp [upTo]
theorem lin_upTo {l : List Cl} (h : Timed l) : LinP l (upTo l.length) := by
  refine ⟨?_, ?_, ?_, ?_⟩
  · intro i hi
    simp only [upTo, List.mem_map, List.mem_range] at hi
    obtain ⟨j, hj, rfl⟩ := hi
    omega
  · rw [upTo, List.nodup_iff_pairwise_ne, List.pairwise_map]
    exact List.nodup_range.imp (fun hab => by simp only [ne_eq, Int.ofNat_inj] at *; omega)
  · intro i hi _
    simp only [upTo, List.mem_map, List.mem_range]
    exact ⟨i, hi, rfl⟩
  · rw [upTo, List.pairwise_map]
    have hp := List.pairwise_lt_range (n := l.length)
    rw [List.pairwise_iff_getElem] at *
    intro i j hi hj hij
    simp only [List.length_range] at hi hj
    simp only [List.getElem_range, Int.toNat_natCast]
    rw [bf_eq hj hi]
    cases hb : bef l[j] l[i]
    · rfl
    · have := bef_beg (h.late j hj) hb
      have := h.inc i j hi hj hij
      omega
end Go.Proofs.Ytcogpedfnnfnaaa
