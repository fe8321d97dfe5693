/-
  How values (api.Value) and slices of structs lie in memory. It speaks of no program.
-/
import Derived.Test.YtpochcchekoonaaOp3
namespace Go.Rf
open Go.RowKit
set_option linter.unusedVariables false

/-! ### rows of cells -/
inductive Rws {α : Type} (R : α → List Value → Prop) : List α → List Value → Prop
  | nil : Rws R [] []
  | cons {x : α} {cs : List Value} {l : List α} {ys : List Value} : R x cs → Rws R l ys → Rws R (x :: l) (cs ++ ys)
section
variable {α : Type} {R R' : α → List Value → Prop} {l l' : List α} {ys ys' : List Value} {k : Nat}
theorem Rws.imp (h : ∀ x cs, x ∈ l → R x cs → R' x cs) (hr : Rws R l ys) : Rws R' l ys := by
  induction hr with
  | nil => exact .nil
  | cons h1 _ ih => exact .cons (h _ _ (by simp) h1) (ih (fun x cs hx => h x cs (by simp [hx])))
theorem Rws.len (hk : ∀ x cs, R x cs → cs.length = k) (hr : Rws R l ys) : ys.length = l.length * k := by
  induction hr with
  | nil => simp
  | cons h1 _ ih => simp [ih, hk _ _ h1, Nat.add_mul]; omega
theorem Rws.app (h : Rws R l ys) (h' : Rws R l' ys') : Rws R (l ++ l') (ys ++ ys') := by
  induction h with
  | nil => simpa using h'
  | cons h1 _ ih => rw [List.append_assoc]; exact .cons h1 ih
theorem Rws.one {x : α} {cs : List Value} (h : R x cs) : Rws R [x] cs := by
  have := Rws.cons h (Rws.nil (R := R))
  rwa [List.append_nil] at this
theorem Rws.get (hk : ∀ x cs, R x cs → cs.length = k) (hr : Rws R l ys) : ∀ {i : Nat} (hi : i < l.length), ∃ cs, R l[i] cs ∧ (ys.drop (i * k)).take k = cs := by
  induction hr with
  | nil => intro i hi; simp at hi
  | cons h1 _ ih =>
    intro i hi
    have hl := hk _ _ h1
    cases i with
    | zero => exact ⟨_, h1, by simp [← hl]⟩
    | succ i =>
      obtain ⟨cs, h2, h3⟩ := ih (i := i) (by simpa using hi)
      refine ⟨cs, by simpa using h2, ?_⟩
      rw [← h3, Nat.succ_mul, Nat.add_comm, ← hl, List.drop_append, List.drop_eq_nil_of_le (Nat.le_add_right _ _)]
      simp
theorem Rws.take (hk : ∀ x cs, R x cs → cs.length = k) (hr : Rws R l ys) : ∀ (m : Nat), Rws R (l.take m) (ys.take (m * k)) := by
  induction hr with
  | nil => intro m; simp; exact .nil
  | cons h1 _ ih =>
    intro m
    have hl := hk _ _ h1
    cases m with
    | zero => simp; exact .nil
    | succ m =>
      simp only [List.take_succ_cons]
      rw [Nat.succ_mul, Nat.add_comm, ← hl, List.take_append]
      have : (‹List Value›).take (m * (‹List Value›).length) = (‹List Value›).take (m * (‹List Value›).length) := rfl
      have e : ∀ cs : List Value, cs.take (cs.length + m * cs.length) = cs := fun cs => List.take_of_length_le (by omega)
      rw [e]
      have := ih m
      rw [← hl] at this
      simpa using Rws.cons h1 this
theorem Rws.drop (hk : ∀ x cs, R x cs → cs.length = k) (hr : Rws R l ys) : ∀ (m : Nat), Rws R (l.drop m) (ys.drop (m * k)) := by
  induction hr with
  | nil => intro m; simp; exact .nil
  | cons h1 h2 ih =>
    intro m
    have hl := hk _ _ h1
    cases m with
    | zero => simpa using Rws.cons h1 h2
    | succ m =>
      simp only [List.drop_succ_cons]
      rw [Nat.succ_mul, Nat.add_comm, ← hl, List.drop_append]
      simp only [Nat.add_sub_cancel_left]
      have e : ∀ cs : List Value, cs.drop (cs.length + m * cs.length) = [] := fun cs => List.drop_eq_nil_of_le (by omega)
      rw [e, List.nil_append, hl]
      exact ih m
theorem Rws.set (hk : ∀ x cs, R x cs → cs.length = k) (hr : Rws R l ys) {i : Nat} {x : α} {cs : List Value} (hx : R x cs) (hi : i < l.length) : Rws R (l.set i x) (ys.take (i * k) ++ cs ++ ys.drop ((i + 1) * k)) := by
  rw [List.set_eq_take_append_cons_drop, if_pos hi, List.append_assoc]
  exact (hr.take hk i).app (.cons hx (hr.drop hk (i + 1)))
theorem Rws.mem1 (h1 : ∀ x cs, R x cs → ∀ u ∈ cs, u.oneCell' = true) (hr : Rws R l ys) : ∀ u ∈ ys, u.oneCell' = true := by
  induction hr with
  | nil => simp
  | cons h2 _ ih =>
    intro u hu
    rcases List.mem_append.1 hu with h | h
    · exact h1 _ _ h2 u h
    · exact ih u h
end

/-! ### values -/
structure V where
  kind : Int
  n : Int
  s : ByteArray
  kids : List V
/-- the cells of a value, of which the Kids are the slice 'sl' -/
def vc (v : V) (sl : Value) : List Value := [.int .i64 v.kind, .int .i64 v.n, .string v.s, sl]
/-- 'sl' is a readable slice that holds the values l; no cell of it, or of what hangs on it, lies in S -/
inductive VS (w : World) (S : List Nat) : List V → Value → Prop
  | mk {l : List V} {sl : Value} (sls : List Value) (ys : List Value) : l.length ≤ 1000000000000 → sls.length = l.length → ys = (List.zipWith vc l sls).flatten → Src w sl l.length ys → Off sl ys S → (∀ i (h : i < l.length) (h' : i < sls.length), VS w S l[i].kids sls[i]) → VS w S l sl
theorem VS.slice {w : World} {S : List Nat} {l : List V} {sl : Value} (h : VS w S l sl) : ∃ ao c, sl = .slice ao l.length c ∧ l.length ≤ c := by
  cases h with
  | mk sls ys _ _ _ hs _ _ => obtain ⟨ao, c, rfl, h1, _⟩ := hs; exact ⟨ao, c, rfl, h1⟩
theorem VS.one {w : World} {S : List Nat} {l : List V} {sl : Value} (h : VS w S l sl) : sl.oneCell' = true := by
  obtain ⟨ao, c, rfl, _⟩ := h.slice; rfl
theorem VS.nil (w : World) (S : List Nat) : VS w S [] (.slice none 0 0) := .mk [] [] (by simp) rfl rfl (Src.nil w) (fun _ _ _ e => by cases e) (fun i h => by simp at h)
theorem VS.empty {w : World} {S : List Nat} {ao : Option Addr} {c : Nat} (h : ao = none → c = 0) : VS w S [] (.slice ao 0 c) :=
  .mk [] [] (by simp) rfl rfl ⟨ao, c, rfl, Nat.zero_le _, fun e => ⟨rfl, h e, rfl⟩, fun ad _ j u hu => by simp at hu⟩ (fun _ _ _ _ h => by simp at h) (fun i h => by simp at h)
theorem VS.tr {w w' : World} {S : List Nat} {l : List V} {sl : Value} (h : VS w S l sl) (hf : Fr S w w') : VS w' S l sl := by
  induction h with
  | mk sls ys h0 h1 h2 h3 h4 _ ih => exact .mk sls ys h0 h1 h2 (h3.tr hf h4) h4 ih
theorem VS.mono {w : World} {S T : List Nat} {l : List V} {sl : Value} (h : VS w S l sl) (hT : ∀ k ∈ T, k ∈ S ∨ w.heap.size ≤ k) : VS w T l sl := by
  induction h with
  | mk sls ys h0 h1 h2 h3 h4 _ ih => exact .mk sls ys h0 h1 h2 h3 (Off.mono h3 h4 hT) ih
/-- what lies there keeps, whatever new blocks do -/
theorem VS.old {w w' : World} {S T : List Nat} {l : List V} {sl : Value} (h : VS w S l sl) (hf : Fr T w w') (hT : ∀ k ∈ T, k ∈ S ∨ w.heap.size ≤ k) : VS w' S l sl := by
  have h1 : VS w (S ++ T) l sl := h.mono (fun k hk => by rcases List.mem_append.1 hk with h | h; exact .inl h; exact hT k h)
  have hf' : Fr (S ++ T) w w' := hf.mono (fun k hk => .inl (by simp [hk]))
  have h2 := h1.tr hf'
  exact h2.mono (fun k hk => .inl (by simp [hk]))
/-- from blocks S to blocks T, across a change of S: the new ones of T were not there -/
theorem VS.turn {w w' : World} {S T : List Nat} {l : List V} {sl : Value} (h : VS w S l sl) (hf : Fr S w w') (hT : ∀ k ∈ T, k ∈ S ∨ w.heap.size ≤ k) : VS w' T l sl := by
  have h1 : VS w (S ++ T) l sl := h.mono (fun k hk => by rcases List.mem_append.1 hk with h | h; exact .inl h; exact hT k h)
  have hf' : Fr (S ++ T) w w' := hf.mono (fun k hk => .inl (by simp [hk]))
  exact (h1.tr hf').mono (fun k hk => .inl (by simp [hk]))
theorem VS.tr0 {w w' : World} {S : List Nat} {l : List V} {sl : Value} (h : VS w S l sl) (hf : Fr [] w w') : VS w' S l sl := h.old hf (by simp)
theorem VS.off {w : World} {l : List V} {sl : Value} (h : VS w [] l sl) {S : List Nat} (hS : ∀ k ∈ S, w.heap.size ≤ k) : VS w S l sl := h.mono (fun k hk => .inr (hS k hk))
theorem VS.any {w : World} {S : List Nat} {l : List V} {sl : Value} (h : VS w S l sl) : VS w [] l sl := h.mono (by simp)

/-- a value's cells -/
def VR (w : World) (S : List Nat) (v : V) (cs : List Value) : Prop := ∃ sl, cs = vc v sl ∧ VS w S v.kids sl
theorem VR.len {w : World} {S : List Nat} : ∀ (v : V) (cs : List Value), VR w S v cs → cs.length = 4 := by rintro v _ ⟨sl, rfl, _⟩; rfl
theorem VR.mem1 {w : World} {S : List Nat} : ∀ (v : V) (cs : List Value), VR w S v cs → ∀ u ∈ cs, u.oneCell' = true := by
  rintro v _ ⟨sl, rfl, h⟩ u hu
  simp only [vc, List.mem_cons, List.not_mem_nil, or_false] at hu
  rcases hu with rfl | rfl | rfl | rfl
  · rfl
  · rfl
  · rfl
  · exact h.one
theorem rows_zip {w : World} {S : List Nat} : ∀ (l : List V) (sls : List Value), sls.length = l.length → (∀ i (h : i < l.length) (h' : i < sls.length), VS w S l[i].kids sls[i]) → Rws (VR w S) l (List.zipWith vc l sls).flatten
  | [], _, _, _ => by simp; exact .nil
  | v :: l, [], h, _ => by simp at h
  | v :: l, s :: sls, h, hk => by
    simp only [List.zipWith_cons_cons, List.flatten_cons]
    exact .cons ⟨s, rfl, hk 0 (by simp) (by simp)⟩ (rows_zip l sls (by simpa using h) (fun i h1 h2 => hk (i + 1) (by simp; omega) (by simp; omega)))
theorem rows_unzip {w : World} {S : List Nat} {l : List V} {ys : List Value} (h : Rws (VR w S) l ys) : ∃ sls : List Value, sls.length = l.length ∧ ys = (List.zipWith vc l sls).flatten ∧ ∀ i (h : i < l.length) (h' : i < sls.length), VS w S l[i].kids sls[i] := by
  induction h with
  | nil => exact ⟨[], rfl, rfl, fun i h => by simp at h⟩
  | cons h1 _ ih =>
    obtain ⟨sl, rfl, hv⟩ := h1
    obtain ⟨sls, h2, h3, h4⟩ := ih
    refine ⟨sl :: sls, by simp [h2], by simp [h3], fun i h h' => ?_⟩
    cases i with
    | zero => simpa using hv
    | succ i => simpa using h4 i (by simpa using h) (by simpa using h')
theorem VS.rows {w : World} {S : List Nat} {l : List V} {sl : Value} (h : VS w S l sl) : ∃ ys, Src w sl l.length ys ∧ Off sl ys S ∧ Rws (VR w S) l ys := by
  cases h with
  | mk sls ys h0 h1 h2 h3 h4 h5 => exact ⟨ys, h3, h4, by rw [h2]; exact rows_zip l sls h1 h5⟩
theorem VS.bound {w : World} {S : List Nat} {l : List V} {sl : Value} (h : VS w S l sl) : l.length ≤ 1000000000000 := by
  cases h with
  | mk sls ys h0 h1 h2 h3 h4 h5 => exact h0
theorem VS.of {w : World} {S : List Nat} {l : List V} {sl : Value} {ys : List Value} (h0 : l.length ≤ 1000000000000) (h1 : Src w sl l.length ys) (h2 : Off sl ys S) (h3 : Rws (VR w S) l ys) : VS w S l sl := by
  obtain ⟨sls, h4, h5, h6⟩ := rows_unzip h3
  exact .mk sls ys h0 h4 h5 h1 h2 h6

/-! ### slices of rows -/
/-- 'sl' is a readable slice of l, each element as R says, k cells each -/
def Sl {α : Type} (w : World) (S : List Nat) (R : α → List Value → Prop) (l : List α) (sl : Value) : Prop := ∃ ys, Src w sl l.length ys ∧ Off sl ys S ∧ Rws R l ys
section
variable {α : Type} {R R' : α → List Value → Prop} {l l' : List α} {w w' : World} {S : List Nat} {sl : Value} {k : Nat}
theorem Sl.slice (h : Sl w S R l sl) : ∃ ao c, sl = .slice ao l.length c ∧ l.length ≤ c := by
  obtain ⟨ys, ⟨ao, c, rfl, h1, _⟩, _⟩ := h; exact ⟨ao, c, rfl, h1⟩
theorem Sl.one (h : Sl w S R l sl) : sl.oneCell' = true := by obtain ⟨ao, c, rfl, _⟩ := h.slice; rfl
theorem Sl.at {ao : Option Addr} {m c : Nat} (h : Sl w S R l (.slice ao m c)) (hk : ∀ x cs, R x cs → cs.length = k) {i : Nat} (hi : i < l.length) : ∃ ad cs, ao = some ad ∧ R l[i] cs ∧ Cells w (ad.add (i * k)) cs := by
  obtain ⟨ys, hs, _, hr⟩ := h
  obtain ⟨cs, h1, h2⟩ := hr.get hk hi
  have hm : m = l.length := by obtain ⟨_, _, e, _⟩ := hs; simp only [Value.slice.injEq] at e; exact e.2.1
  subst hm
  have hlen := hr.len hk
  cases ao with
  | none =>
    obtain ⟨ao', c', e, _, hn, _⟩ := hs
    simp only [Value.slice.injEq] at e
    obtain ⟨h3, _⟩ := hn e.1.symm
    omega
  | some ad =>
    refine ⟨ad, cs, rfl, h1, ?_⟩
    have := (Cells.ofSrc hs).sub (i * k) k
    rwa [h2] at this
theorem Sl.imp (h : ∀ x cs, x ∈ l → R x cs → R' x cs) (hs : Sl w S R l sl) : Sl w S R' l sl := by
  obtain ⟨ys, h1, h2, h3⟩ := hs; exact ⟨ys, h1, h2, h3.imp h⟩
theorem Sl.nil : Sl w S R [] (.slice none 0 0) := ⟨[], Src.nil w, (fun _ _ _ e => by cases e), .nil⟩
theorem Sl.tr (hs : Sl w S R l sl) (hf : Fr S w w') : Sl w' S R l sl := by obtain ⟨ys, h1, h2, h3⟩ := hs; exact ⟨ys, h1.tr hf h2, h2, h3⟩
theorem Sl.tr0 (hs : Sl w S R l sl) (hf : Fr [] w w') : Sl w' S R l sl := by obtain ⟨ys, h1, h2, h3⟩ := hs; exact ⟨ys, h1.tr0 hf, h2, h3⟩
theorem Sl.old {T : List Nat} (hs : Sl w S R l sl) (hf : Fr T w w') (hT : ∀ k ∈ T, w.heap.size ≤ k) : Sl w' S R l sl := by obtain ⟨ys, h1, h2, h3⟩ := hs; exact ⟨ys, h1.old hf hT, h2, h3⟩
theorem Sl.mono {T : List Nat} (hs : Sl w S R l sl) (hT : ∀ k ∈ T, k ∈ S ∨ w.heap.size ≤ k) : Sl w T R l sl := by obtain ⟨ys, h1, h2, h3⟩ := hs; exact ⟨ys, h1, Off.mono h1 h2 hT, h3⟩
theorem Sl.ofOwn {e : Nat} {ys : List Value} (h : Own w e k sl l.length ys) (hr : Rws R l ys) : Sl w [] R l sl := ⟨ys, h.src, fun _ _ _ _ _ => by simp, hr⟩
end
theorem VS.sl {w : World} {S : List Nat} {l : List V} {sl : Value} (h : VS w S l sl) : Sl w S (VR w S) l sl := h.rows
theorem VS.ofSl {w : World} {S : List Nat} {l : List V} {sl : Value} (h0 : l.length ≤ 1000000000000) (h : Sl w S (VR w S) l sl) : VS w S l sl := by obtain ⟨ys, h1, h2, h3⟩ := h; exact VS.of h0 h1 h2 h3
theorem VR.tr {w w' : World} {S : List Nat} {v : V} {cs : List Value} (h : VR w S v cs) (hf : Fr S w w') : VR w' S v cs := by obtain ⟨sl, h1, h2⟩ := h; exact ⟨sl, h1, h2.tr hf⟩
theorem VR.old {w w' : World} {S T : List Nat} {v : V} {cs : List Value} (h : VR w S v cs) (hf : Fr T w w') (hT : ∀ k ∈ T, k ∈ S ∨ w.heap.size ≤ k) : VR w' S v cs := by obtain ⟨sl, h1, h2⟩ := h; exact ⟨sl, h1, h2.old hf hT⟩
theorem VR.mono {w : World} {S T : List Nat} {v : V} {cs : List Value} (h : VR w S v cs) (hT : ∀ k ∈ T, k ∈ S ∨ w.heap.size ≤ k) : VR w T v cs := by obtain ⟨sl, h1, h2⟩ := h; exact ⟨sl, h1, h2.mono hT⟩
end Go.Rf
