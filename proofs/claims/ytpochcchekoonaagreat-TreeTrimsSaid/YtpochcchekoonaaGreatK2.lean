/-
  How values (api.Value) and slices of structs lie in memory. It speaks of no program. Owned slices of rows: a relation that speaks of memory and keeps; appending a row. It speaks of no program. Regions that draw their order and whose last store changes what their loads read: S has to hold until operation number k has come up. It speaks of no program. Regions that draw their order, where a call and the allocation of the variable for its result may come in either order. It speaks of no program.
-/
import Derived.Test.YtpochcchekoonaaGreatK1
namespace Go.Rf
open Go.RowKit
set_option linter.unusedVariables false

/-! ### rows of cells -/
inductive Rws {α : Type} (R : α → List Value → Prop) : List α → List Value → Prop
  | nil : Rws R [] []
  | cons {x : α} {cs : List Value} {l : List α} {ys : List Value} : R x cs → Rws R l ys → Rws R (x :: l) (cs ++ ys)
section
variable {α : Type} {R R' : α → List Value → Prop} {l l' : List α} {ys ys' : List Value} {k : Nat}
theorem Rws.imp (h : ∀ x cs, x ∈ l → R x cs → R' x cs) (hr : Rws R l ys) : Rws R' l ys := by
  induction hr with
  | nil => exact .nil
  | cons h1 _ ih => exact .cons (h _ _ (by simp) h1) (ih (fun x cs hx => h x cs (by simp [hx])))
theorem Rws.len (hk : ∀ x cs, R x cs → cs.length = k) (hr : Rws R l ys) : ys.length = l.length * k := by
  induction hr with
  | nil => simp
  | cons h1 _ ih => simp [ih, hk _ _ h1, Nat.add_mul]; omega
theorem Rws.app (h : Rws R l ys) (h' : Rws R l' ys') : Rws R (l ++ l') (ys ++ ys') := by
  induction h with
  | nil => simpa using h'
  | cons h1 _ ih => rw [List.append_assoc]; exact .cons h1 ih
theorem Rws.one {x : α} {cs : List Value} (h : R x cs) : Rws R [x] cs := by
  have := Rws.cons h (Rws.nil (R := R))
  rwa [List.append_nil] at this
theorem Rws.get (hk : ∀ x cs, R x cs → cs.length = k) (hr : Rws R l ys) : ∀ {i : Nat} (hi : i < l.length), ∃ cs, R l[i] cs ∧ (ys.drop (i * k)).take k = cs := by
  induction hr with
  | nil => intro i hi; simp at hi
  | cons h1 _ ih =>
    intro i hi
    have hl := hk _ _ h1
    cases i with
    | zero => exact ⟨_, h1, by simp [← hl]⟩
    | succ i =>
      obtain ⟨cs, h2, h3⟩ := ih (i := i) (by simpa using hi)
      refine ⟨cs, by simpa using h2, ?_⟩
      rw [← h3, Nat.succ_mul, Nat.add_comm, ← hl, List.drop_append, List.drop_eq_nil_of_le (Nat.le_add_right _ _)]
      simp
theorem Rws.take (hk : ∀ x cs, R x cs → cs.length = k) (hr : Rws R l ys) : ∀ (m : Nat), Rws R (l.take m) (ys.take (m * k)) := by
  induction hr with
  | nil => intro m; simp; exact .nil
  | cons h1 _ ih =>
    intro m
    have hl := hk _ _ h1
    cases m with
    | zero => simp; exact .nil
    | succ m =>
      simp only [List.take_succ_cons]
      rw [Nat.succ_mul, Nat.add_comm, ← hl, List.take_append]
      have : (‹List Value›).take (m * (‹List Value›).length) = (‹List Value›).take (m * (‹List Value›).length) := rfl
      have e : ∀ cs : List Value, cs.take (cs.length + m * cs.length) = cs := fun cs => List.take_of_length_le (by omega)
      rw [e]
      have := ih m
      rw [← hl] at this
      simpa using Rws.cons h1 this
theorem Rws.drop (hk : ∀ x cs, R x cs → cs.length = k) (hr : Rws R l ys) : ∀ (m : Nat), Rws R (l.drop m) (ys.drop (m * k)) := by
  induction hr with
  | nil => intro m; simp; exact .nil
  | cons h1 h2 ih =>
    intro m
    have hl := hk _ _ h1
    cases m with
    | zero => simpa using Rws.cons h1 h2
    | succ m =>
      simp only [List.drop_succ_cons]
      rw [Nat.succ_mul, Nat.add_comm, ← hl, List.drop_append]
      simp only [Nat.add_sub_cancel_left]
      have e : ∀ cs : List Value, cs.drop (cs.length + m * cs.length) = [] := fun cs => List.drop_eq_nil_of_le (by omega)
      rw [e, List.nil_append, hl]
      exact ih m
theorem Rws.set (hk : ∀ x cs, R x cs → cs.length = k) (hr : Rws R l ys) {i : Nat} {x : α} {cs : List Value} (hx : R x cs) (hi : i < l.length) : Rws R (l.set i x) (ys.take (i * k) ++ cs ++ ys.drop ((i + 1) * k)) := by
  rw [List.set_eq_take_append_cons_drop, if_pos hi, List.append_assoc]
  exact (hr.take hk i).app (.cons hx (hr.drop hk (i + 1)))
theorem Rws.mem1 (h1 : ∀ x cs, R x cs → ∀ u ∈ cs, u.oneCell' = true) (hr : Rws R l ys) : ∀ u ∈ ys, u.oneCell' = true := by
  induction hr with
  | nil => simp
  | cons h2 _ ih =>
    intro u hu
    rcases List.mem_append.1 hu with h | h
    · exact h1 _ _ h2 u h
    · exact ih u h
end

/-! ### values -/
structure V where
  kind : Int
  n : Int
  s : ByteArray
  kids : List V
/-- the cells of a value, of which the Kids are the slice 'sl' -/
def vc (v : V) (sl : Value) : List Value := [.int .i64 v.kind, .int .i64 v.n, .string v.s, sl]
/-- 'sl' is a readable slice that holds the values l; no cell of it, or of what hangs on it, lies in S -/
inductive VS (w : World) (S : List Nat) : List V → Value → Prop
  | mk {l : List V} {sl : Value} (sls : List Value) (ys : List Value) : l.length ≤ 1000000000000 → sls.length = l.length → ys = (List.zipWith vc l sls).flatten → Src w sl l.length ys → Off sl ys S → (∀ i (h : i < l.length) (h' : i < sls.length), VS w S l[i].kids sls[i]) → VS w S l sl
theorem VS.slice {w : World} {S : List Nat} {l : List V} {sl : Value} (h : VS w S l sl) : ∃ ao c, sl = .slice ao l.length c ∧ l.length ≤ c := by
  cases h with
  | mk sls ys _ _ _ hs _ _ => obtain ⟨ao, c, rfl, h1, _⟩ := hs; exact ⟨ao, c, rfl, h1⟩
theorem VS.one {w : World} {S : List Nat} {l : List V} {sl : Value} (h : VS w S l sl) : sl.oneCell' = true := by
  obtain ⟨ao, c, rfl, _⟩ := h.slice; rfl
theorem VS.nil (w : World) (S : List Nat) : VS w S [] (.slice none 0 0) := .mk [] [] (by simp) rfl rfl (Src.nil w) (fun _ _ _ e => by cases e) (fun i h => by simp at h)
theorem VS.empty {w : World} {S : List Nat} {ao : Option Addr} {c : Nat} (h : ao = none → c = 0) : VS w S [] (.slice ao 0 c) :=
  .mk [] [] (by simp) rfl rfl ⟨ao, c, rfl, Nat.zero_le _, fun e => ⟨rfl, h e, rfl⟩, fun ad _ j u hu => by simp at hu⟩ (fun _ _ _ _ h => by simp at h) (fun i h => by simp at h)
theorem VS.tr {w w' : World} {S : List Nat} {l : List V} {sl : Value} (h : VS w S l sl) (hf : Fr S w w') : VS w' S l sl := by
  induction h with
  | mk sls ys h0 h1 h2 h3 h4 _ ih => exact .mk sls ys h0 h1 h2 (h3.tr hf h4) h4 ih
theorem VS.mono {w : World} {S T : List Nat} {l : List V} {sl : Value} (h : VS w S l sl) (hT : ∀ k ∈ T, k ∈ S ∨ w.heap.size ≤ k) : VS w T l sl := by
  induction h with
  | mk sls ys h0 h1 h2 h3 h4 _ ih => exact .mk sls ys h0 h1 h2 h3 (Off.mono h3 h4 hT) ih
/-- what lies there keeps, whatever new blocks do -/
theorem VS.old {w w' : World} {S T : List Nat} {l : List V} {sl : Value} (h : VS w S l sl) (hf : Fr T w w') (hT : ∀ k ∈ T, k ∈ S ∨ w.heap.size ≤ k) : VS w' S l sl := by
  have h1 : VS w (S ++ T) l sl := h.mono (fun k hk => by rcases List.mem_append.1 hk with h | h; exact .inl h; exact hT k h)
  have hf' : Fr (S ++ T) w w' := hf.mono (fun k hk => .inl (by simp [hk]))
  have h2 := h1.tr hf'
  exact h2.mono (fun k hk => .inl (by simp [hk]))
/-- from blocks S to blocks T, across a change of S: the new ones of T were not there -/
theorem VS.turn {w w' : World} {S T : List Nat} {l : List V} {sl : Value} (h : VS w S l sl) (hf : Fr S w w') (hT : ∀ k ∈ T, k ∈ S ∨ w.heap.size ≤ k) : VS w' T l sl := by
  have h1 : VS w (S ++ T) l sl := h.mono (fun k hk => by rcases List.mem_append.1 hk with h | h; exact .inl h; exact hT k h)
  have hf' : Fr (S ++ T) w w' := hf.mono (fun k hk => .inl (by simp [hk]))
  exact (h1.tr hf').mono (fun k hk => .inl (by simp [hk]))
theorem VS.tr0 {w w' : World} {S : List Nat} {l : List V} {sl : Value} (h : VS w S l sl) (hf : Fr [] w w') : VS w' S l sl := h.old hf (by simp)
theorem VS.off {w : World} {l : List V} {sl : Value} (h : VS w [] l sl) {S : List Nat} (hS : ∀ k ∈ S, w.heap.size ≤ k) : VS w S l sl := h.mono (fun k hk => .inr (hS k hk))
theorem VS.any {w : World} {S : List Nat} {l : List V} {sl : Value} (h : VS w S l sl) : VS w [] l sl := h.mono (by simp)

/-- a value's cells -/
def VR (w : World) (S : List Nat) (v : V) (cs : List Value) : Prop := ∃ sl, cs = vc v sl ∧ VS w S v.kids sl
theorem VR.len {w : World} {S : List Nat} : ∀ (v : V) (cs : List Value), VR w S v cs → cs.length = 4 := by rintro v _ ⟨sl, rfl, _⟩; rfl
theorem VR.mem1 {w : World} {S : List Nat} : ∀ (v : V) (cs : List Value), VR w S v cs → ∀ u ∈ cs, u.oneCell' = true := by
  rintro v _ ⟨sl, rfl, h⟩ u hu
  simp only [vc, List.mem_cons, List.not_mem_nil, or_false] at hu
  rcases hu with rfl | rfl | rfl | rfl
  · rfl
  · rfl
  · rfl
  · exact h.one
theorem rows_zip {w : World} {S : List Nat} : ∀ (l : List V) (sls : List Value), sls.length = l.length → (∀ i (h : i < l.length) (h' : i < sls.length), VS w S l[i].kids sls[i]) → Rws (VR w S) l (List.zipWith vc l sls).flatten
  | [], _, _, _ => by simp; exact .nil
  | v :: l, [], h, _ => by simp at h
  | v :: l, s :: sls, h, hk => by
    simp only [List.zipWith_cons_cons, List.flatten_cons]
    exact .cons ⟨s, rfl, hk 0 (by simp) (by simp)⟩ (rows_zip l sls (by simpa using h) (fun i h1 h2 => hk (i + 1) (by simp; omega) (by simp; omega)))
theorem rows_unzip {w : World} {S : List Nat} {l : List V} {ys : List Value} (h : Rws (VR w S) l ys) : ∃ sls : List Value, sls.length = l.length ∧ ys = (List.zipWith vc l sls).flatten ∧ ∀ i (h : i < l.length) (h' : i < sls.length), VS w S l[i].kids sls[i] := by
  induction h with
  | nil => exact ⟨[], rfl, rfl, fun i h => by simp at h⟩
  | cons h1 _ ih =>
    obtain ⟨sl, rfl, hv⟩ := h1
    obtain ⟨sls, h2, h3, h4⟩ := ih
    refine ⟨sl :: sls, by simp [h2], by simp [h3], fun i h h' => ?_⟩
    cases i with
    | zero => simpa using hv
    | succ i => simpa using h4 i (by simpa using h) (by simpa using h')
theorem VS.rows {w : World} {S : List Nat} {l : List V} {sl : Value} (h : VS w S l sl) : ∃ ys, Src w sl l.length ys ∧ Off sl ys S ∧ Rws (VR w S) l ys := by
  cases h with
  | mk sls ys h0 h1 h2 h3 h4 h5 => exact ⟨ys, h3, h4, by rw [h2]; exact rows_zip l sls h1 h5⟩
theorem VS.bound {w : World} {S : List Nat} {l : List V} {sl : Value} (h : VS w S l sl) : l.length ≤ 1000000000000 := by
  cases h with
  | mk sls ys h0 h1 h2 h3 h4 h5 => exact h0
theorem VS.of {w : World} {S : List Nat} {l : List V} {sl : Value} {ys : List Value} (h0 : l.length ≤ 1000000000000) (h1 : Src w sl l.length ys) (h2 : Off sl ys S) (h3 : Rws (VR w S) l ys) : VS w S l sl := by
  obtain ⟨sls, h4, h5, h6⟩ := rows_unzip h3
  exact .mk sls ys h0 h4 h5 h1 h2 h6

/-! ### slices of rows -/
/-- 'sl' is a readable slice of l, each element as R says, k cells each -/
def Sl {α : Type} (w : World) (S : List Nat) (R : α → List Value → Prop) (l : List α) (sl : Value) : Prop := ∃ ys, Src w sl l.length ys ∧ Off sl ys S ∧ Rws R l ys
section
variable {α : Type} {R R' : α → List Value → Prop} {l l' : List α} {w w' : World} {S : List Nat} {sl : Value} {k : Nat}
theorem Sl.slice (h : Sl w S R l sl) : ∃ ao c, sl = .slice ao l.length c ∧ l.length ≤ c := by
  obtain ⟨ys, ⟨ao, c, rfl, h1, _⟩, _⟩ := h; exact ⟨ao, c, rfl, h1⟩
theorem Sl.one (h : Sl w S R l sl) : sl.oneCell' = true := by obtain ⟨ao, c, rfl, _⟩ := h.slice; rfl
theorem Sl.at {ao : Option Addr} {m c : Nat} (h : Sl w S R l (.slice ao m c)) (hk : ∀ x cs, R x cs → cs.length = k) {i : Nat} (hi : i < l.length) : ∃ ad cs, ao = some ad ∧ R l[i] cs ∧ Cells w (ad.add (i * k)) cs := by
  obtain ⟨ys, hs, _, hr⟩ := h
  obtain ⟨cs, h1, h2⟩ := hr.get hk hi
  have hm : m = l.length := by obtain ⟨_, _, e, _⟩ := hs; simp only [Value.slice.injEq] at e; exact e.2.1
  subst hm
  have hlen := hr.len hk
  cases ao with
  | none =>
    obtain ⟨ao', c', e, _, hn, _⟩ := hs
    simp only [Value.slice.injEq] at e
    obtain ⟨h3, _⟩ := hn e.1.symm
    omega
  | some ad =>
    refine ⟨ad, cs, rfl, h1, ?_⟩
    have := (Cells.ofSrc hs).sub (i * k) k
    rwa [h2] at this
theorem Sl.imp (h : ∀ x cs, x ∈ l → R x cs → R' x cs) (hs : Sl w S R l sl) : Sl w S R' l sl := by
  obtain ⟨ys, h1, h2, h3⟩ := hs; exact ⟨ys, h1, h2, h3.imp h⟩
theorem Sl.nil : Sl w S R [] (.slice none 0 0) := ⟨[], Src.nil w, (fun _ _ _ e => by cases e), .nil⟩
theorem Sl.tr (hs : Sl w S R l sl) (hf : Fr S w w') : Sl w' S R l sl := by obtain ⟨ys, h1, h2, h3⟩ := hs; exact ⟨ys, h1.tr hf h2, h2, h3⟩
theorem Sl.tr0 (hs : Sl w S R l sl) (hf : Fr [] w w') : Sl w' S R l sl := by obtain ⟨ys, h1, h2, h3⟩ := hs; exact ⟨ys, h1.tr0 hf, h2, h3⟩
theorem Sl.old {T : List Nat} (hs : Sl w S R l sl) (hf : Fr T w w') (hT : ∀ k ∈ T, w.heap.size ≤ k) : Sl w' S R l sl := by obtain ⟨ys, h1, h2, h3⟩ := hs; exact ⟨ys, h1.old hf hT, h2, h3⟩
theorem Sl.mono {T : List Nat} (hs : Sl w S R l sl) (hT : ∀ k ∈ T, k ∈ S ∨ w.heap.size ≤ k) : Sl w T R l sl := by obtain ⟨ys, h1, h2, h3⟩ := hs; exact ⟨ys, h1, Off.mono h1 h2 hT, h3⟩
theorem Sl.ofOwn {e : Nat} {ys : List Value} (h : Own w e k sl l.length ys) (hr : Rws R l ys) : Sl w [] R l sl := ⟨ys, h.src, fun _ _ _ _ _ => by simp, hr⟩
end
theorem VS.sl {w : World} {S : List Nat} {l : List V} {sl : Value} (h : VS w S l sl) : Sl w S (VR w S) l sl := h.rows
theorem VS.ofSl {w : World} {S : List Nat} {l : List V} {sl : Value} (h0 : l.length ≤ 1000000000000) (h : Sl w S (VR w S) l sl) : VS w S l sl := by obtain ⟨ys, h1, h2, h3⟩ := h; exact VS.of h0 h1 h2 h3
theorem VR.tr {w w' : World} {S : List Nat} {v : V} {cs : List Value} (h : VR w S v cs) (hf : Fr S w w') : VR w' S v cs := by obtain ⟨sl, h1, h2⟩ := h; exact ⟨sl, h1, h2.tr hf⟩
theorem VR.old {w w' : World} {S T : List Nat} {v : V} {cs : List Value} (h : VR w S v cs) (hf : Fr T w w') (hT : ∀ k ∈ T, k ∈ S ∨ w.heap.size ≤ k) : VR w' S v cs := by obtain ⟨sl, h1, h2⟩ := h; exact ⟨sl, h1, h2.old hf hT⟩
theorem VR.mono {w : World} {S T : List Nat} {v : V} {cs : List Value} (h : VR w S v cs) (hT : ∀ k ∈ T, k ∈ S ∨ w.heap.size ≤ k) : VR w T v cs := by obtain ⟨sl, h1, h2⟩ := h; exact ⟨sl, h1, h2.mono hT⟩
end Go.Rf
namespace Go.Rf
open Go.RowKit
set_option linter.unusedVariables false
set_option linter.unusedSimpArgs false

/-- a relation on rows that keeps where nothing of S changes, and may be told of fewer blocks, and of new ones -/
structure Stab {α : Type} (R : World → List Nat → α → List Value → Prop) (k : Nat) : Prop where
  tr : ∀ {w w' S x cs}, R w S x cs → Fr S w w' → R w' S x cs
  mono : ∀ {w S T x cs}, R w S x cs → (∀ b ∈ T, b ∈ S ∨ w.heap.size ≤ b) → R w T x cs
  len : ∀ {w S x cs}, R w S x cs → cs.length = k
  one : ∀ {w S x cs}, R w S x cs → ∀ u ∈ cs, u.oneCell' = true
section
variable {α : Type} {R : World → List Nat → α → List Value → Prop} {k : Nat}
theorem Stab.turn (h : Stab R k) {w w' : World} {S T : List Nat} {x : α} {cs : List Value} (hr : R w S x cs) (hf : Fr S w w') (hT : ∀ b ∈ T, b ∈ S ∨ w.heap.size ≤ b) : R w' T x cs := by
  have h1 : R w (S ++ T) x cs := h.mono hr (fun b hb => by rcases List.mem_append.1 hb with h | h; exact .inl h; exact hT b h)
  exact h.mono (h.tr h1 (hf.mono (fun b hb => .inl (by simp [hb])))) (fun b hb => .inl (by simp [hb]))
theorem Stab.old (h : Stab R k) {w w' : World} {S T : List Nat} {x : α} {cs : List Value} (hr : R w S x cs) (hf : Fr T w w') (hT : ∀ b ∈ T, b ∈ S ∨ w.heap.size ≤ b) : R w' S x cs := by
  have h1 : R w (S ++ T) x cs := h.mono hr (fun b hb => by rcases List.mem_append.1 hb with h | h; exact .inl h; exact hT b h)
  exact h.mono (h.tr h1 (hf.mono (fun b hb => .inl (by simp [hb])))) (fun b hb => .inl (by simp [hb]))
theorem Stab.any (h : Stab R k) {w : World} {S : List Nat} {x : α} {cs : List Value} (hr : R w S x cs) : R w [] x cs := h.mono hr (by simp)

/-- an owned slice of rows; what hangs on the rows lies elsewhere -/
def OwnR (w : World) (e k : Nat) (R : World → List Nat → α → List Value → Prop) (l : List α) (v : Value) : Prop := ∃ ys, Own w e k v l.length ys ∧ Rws (R w (blks v)) l ys
variable {w w' : World} {e : Nat} {l : List α} {v : Value}
theorem OwnR.nil (w : World) (e k : Nat) (R : World → List Nat → α → List Value → Prop) : OwnR w e k R [] (.slice none 0 0) := ⟨[], Own.nil _ _ _, .nil⟩
theorem OwnR.old {T : List Nat} (h : OwnR w e k R l v) (hs : Stab R k) (hf : Fr T w w') (hT : ∀ b ∈ T, w.heap.size ≤ b) : OwnR w' e k R l v := by
  obtain ⟨ys, h1, h2⟩ := h
  exact ⟨ys, h1.old hf hT, h2.imp (fun x cs _ hr => hs.old hr hf (fun b hb => .inr (hT b hb)))⟩
theorem OwnR.tr0 (h : OwnR w e k R l v) (hs : Stab R k) (hf : Fr [] w w') : OwnR w' e k R l v := h.old hs hf (by simp)
theorem OwnR.slice (h : OwnR w e k R l v) : ∃ ao c, v = .slice ao l.length c := by obtain ⟨ys, h1, _⟩ := h; exact h1.slice
theorem OwnR.one (h : OwnR w e k R l v) : v.oneCell' = true := by obtain ⟨ys, h1, _⟩ := h; exact h1.one
theorem OwnR.lt (h : OwnR w e k R l v) : ∀ b ∈ blks v, b < w.heap.size := by obtain ⟨ys, h1, _⟩ := h; exact h1.lt
theorem OwnR.sl (h : OwnR w e k R l v) (hs : Stab R k) : Sl w [] (R w []) l v := by
  obtain ⟨ys, h1, h2⟩ := h
  exact ⟨ys, h1.src, fun _ _ _ _ _ => by simp, h2.imp (fun x cs _ hr => hs.any hr)⟩
end

theorem fill_one {size : Nat} {z cs : List Value} {v : Value} (hz : z.length = size) (hc : cs.length = size) (hv : v.cells = cs.toArray) : fillL (fun i => some (i * size, size)) (zeros z 1) [(0, v)] = some cs := by
  have e : v.cells.toList = cs := by rw [hv]
  have e2 : v.cells.size = size := by rw [hv]; simpa using hc
  have hb : Nat.ble size size = true := Nat.ble_eq_true_of_le (Nat.le_refl _)
  simp [fillL, zeros, e, e2, hc, hz, List.drop_eq_nil_of_le, hb]

section
variable {P : Program} {ops : Array Oper} {Q : Exit → Act → World → Prop} {rest : List Oper} {n : Nat} {f : Env} {w : World}
variable {d d2 : Nat} {ty ty2 : TypeId} {ps ps2 : String} {af af2 : Array Edge} {x y s : Operand} {t t2 : Nat}
/-- 'append(s, x)': the row x is made a slice, and appended -/
theorem s_pushA {α : Type} {R : World → List Nat → α → List Value → Prop} {e size by_ : Nat} {z : List Value} {l : List α} {v xv : Value} {a : α} {cs : List Value} [RZ : RowZ P t e size by_ z]
    (hR : OwnR w e size R l v) (hs : Stab R size) (hsv : ev n f s = v) (hx : ev n f x = xv) (hxc : xv.cells = cs.toArray) (ha : R w (blks v) a cs) (hd : ev n (upd f d (.slice (some ⟨w.heap.size, 0, none⟩) 1 1)) s = v) (hdn : Nat.blt d n = true) (hsz : Nat.ble size 16777216 = true)
    (h63 : l.length + 1 ≤ maxLen) (hb : (l.length + 1) * by_ ≤ 140737488355328)
    (h : ∀ v' w', OwnR w' e size R (l ++ [a]) v' → Fr (blks v) w w' → (∀ b ∈ blks v', b ∈ blks v ∨ w.heap.size ≤ b) → wpList P ops Q rest (A n (upd (upd f d (.slice (some ⟨w.heap.size, 0, none⟩) 1 1)) d2 v')) w') :
    wpList P ops Q (⟨some d, .buildSlice t 1 #[(0, x)], ty, ps, af, none⟩ :: ⟨some d2, .call { callee := .builtin .append, args := #[s, .tmp d], argTypes := #[t, t] }, ty2, ps2, af2, none⟩ :: rest) (A n f) w := by
  obtain ⟨ys, ho, hr⟩ := hR
  have Rr := RZ.row
  have hzl : z.length = size := by obtain ⟨i, v, _, _, _, h⟩ := RZ.z; exact h
  have hcl := hs.len ha
  subst hx
  refine s_buildS (z := z) (parts := [(0, x)]) cs (by simpa using hsz) rfl (fill_one hzl hcl hxc) (by simpa using hcl) (fun w1 ho1 hf1 hs1 => ?_)
  have hlen := Rws.len (k := size) (fun x cs h => hs.len h) hr
  refine s_append (R := Rr) (ho.tr0 hf1) hd ho1.src ?_ (by simpa using hcl) (hs.one ha) h63 hb (fun v' w' ho' hf' hk' _ => ?_)
  · show cond (Nat.blt d n) (upd f d _ d) undef = _
    rw [hdn, upd_same]; rfl
  have hF : Fr (blks v) w w' := (hf1.mono (by simp)).trans hf' (fun b hb => .inl hb)
  refine h v' w' ⟨ys ++ cs, by rw [List.length_append]; exact ho', ?_⟩ hF (fun b hb => ?_)
  · have hk2 : ∀ b ∈ blks v', b ∈ blks v ∨ w.heap.size ≤ b := fun b hb => by
      rcases hk' b hb with h | h
      · exact .inl h
      · right; omega
    exact (hr.imp fun x cs _ h => hs.turn h hF hk2).app (Rws.one (hs.turn ha hF hk2))
  · rcases hk' b hb with h | h
    · exact .inl h
    · right; omega
/-- 'append(s, x...)' for rows of any number -/
theorem s_appR {α : Type} {R : World → List Nat → α → List Value → Prop} {e size by_ : Nat} {l al : List α} {v xv : Value} {cs : List Value} {m : Nat} [Rr : RowT P t e size by_]
    (hR : OwnR w e size R l v) (hs : Stab R size) (hsv : ev n f s = v) (hx : ev n f x = xv) (hsrc : Src w xv m cs) (ha : Rws (R w (blks v)) al cs) (hm : al.length = m) (h63 : l.length + m ≤ maxLen) (hb : (l.length + m) * by_ ≤ 140737488355328)
    (h : ∀ v' w', OwnR w' e size R (l ++ al) v' → Fr (blks v) w w' → (∀ b ∈ blks v', b ∈ blks v ∨ w.heap.size ≤ b) → (v' = .slice none 0 0 ↔ v = .slice none 0 0 ∧ m = 0) → wpList P ops Q rest (A n (upd f d v')) w') :
    wpList P ops Q (⟨some d, .call { callee := .builtin .append, args := #[s, x], argTypes := #[t, t] }, ty, ps, af, none⟩ :: rest) (A n f) w := by
  obtain ⟨ys, ho, hr⟩ := hR
  have hlen := Rws.len (k := size) (fun x cs h => hs.len h) ha
  refine s_append ho hsv hsrc hx (by rw [hlen, hm]) (Rws.mem1 (fun x cs h => hs.one h) ha) h63 hb (fun v' w' ho' hf' hk' hn' => ?_)
  refine h v' w' ⟨ys ++ cs, by rw [List.length_append, hm]; exact ho', ?_⟩ hf' hk' hn'
  exact (hr.imp fun x cs _ h => hs.turn h hf' hk').app (ha.imp fun x cs _ h => hs.turn h hf' hk')
end
theorem vrStab : Stab VR 4 := ⟨fun h hf => h.tr hf, fun h hT => h.mono hT, fun h => VR.len _ _ h, fun h => VR.mem1 _ _ h⟩
/-- a slice of values that is owned -/
theorem OwnR.vs {w : World} {e : Nat} {l : List V} {v : Value} (h : OwnR w e 4 VR l v) (hl : l.length ≤ 1000000000000) {S : List Nat} (hS : ∀ b ∈ blks v, b ∉ S) (hr : ∀ x cs, x ∈ l → VR w (blks v) x cs → VR w S x cs) : VS w S l v := by
  obtain ⟨ys, h1, h2⟩ := h
  refine VS.of hl h1.src (fun ad n c e hp hm => ?_) (h2.imp hr)
  refine hS ad.block ?_ hm
  rcases h1.2 with ⟨hv, h0⟩ | ⟨g, cap, cur, hv, _⟩
  · rw [hv] at e; cases e
  · subst hv
    simp only [Value.slice.injEq, Option.some.injEq] at e
    rw [← e.1]; simp [blks, Value.ownBlock]
end Go.Rf
namespace Go.Rf
open Go.RowKit
set_option linter.unusedVariables false
set_option linter.unusedSimpArgs false
def wpAnyU (P : Program) (md : Region.Mode) (ops : Array Oper) (Q : Exit → Act → World → Prop) (k : Nat) (S : World → Prop) : Nat → Array Bool → Act → World → Prop
  | 0, listed, a, w => Region.ready md ops listed = [] ∧ Q .normal a w
  | fuel + 1, listed, a, w =>
    (Region.ready md ops listed = [] → Q .normal a w) ∧
    ∀ i ∈ Region.ready md ops listed, wpOp P ops Q i (fun a' w' => ((listed.setIfInBounds i true).getD k true = true ∨ S w') ∧ wpAnyU P md ops Q k S fuel (listed.setIfInBounds i true) a' w') a w
section
variable {P : Program} {ops : Array Oper} {Q : Exit → Act → World → Prop} {md : Region.Mode} {k : Nat} {S : World → Prop}
theorem wpAny_of_u : ∀ (fuel : Nat) (listed : Array Bool) (a : Act) (w : World), wpAnyU P md ops Q k S fuel listed a w → wpAny P md ops Q fuel listed a w
  | 0, _, _, _, h => h
  | fuel + 1, _, _, _, h => ⟨h.1, fun i hi => wpOp_mono (fun a' w' h' => wpAny_of_u fuel _ a' w' h'.2) (h.2 i hi)⟩
def waits (md : Region.Mode) (ops : Array Oper) (k i : Nat) : Bool := match ops[k]? with
  | some o => o.after.any fun e => Region.binds md e && e.on == i
  | none => false
theorem wpAnyU_first {i : Nat} {oi : Oper} {v : Value} (hi : ops[i]? = some oi) (hsel : ∀ (j : Nat) (o : Oper) cs b, ops[j]? = some o → o.op ≠ .select cs b)
    (hQ : ∀ c a w, Q (.panic c) (a.put oi.dst v) w → Q (.panic c) a w) (hk : waits md ops k i = true) (hki : k ≠ i) :
    ∀ (fuel : Nat) (listed : Array Bool) (a : Act) (w : World),
      (∀ j oj, ops[j]? = some oj → j ≠ i → listed.getD j true = false → (∀ e ∈ oj.after, Region.binds md e = true → e.on ≠ i) → oi.apart ops oj = true) →
      i ∈ Region.ready md ops listed → YieldsIf P ops S oi v a → S w → listed.getD k true = false →
      wpAnyU P md ops Q k S fuel (listed.setIfInBounds i true) (a.put oi.dst v) w → wpAnyU P md ops Q k S (fuel + 1) listed a w := by
  intro fuel
  induction fuel with
  | zero =>
    intro listed a w _ hr hy hS hku H
    refine ⟨fun h => (by rw [h] at hr; cases hr), fun j hj => ?_⟩
    by_cases hji : j = i
    · subst hji; exact hy.wpOp hi hS ⟨.inr hS, H⟩
    · have := ready_mono hj hji
      rw [H.1] at this
      cases this
  | succ fuel ih =>
    intro listed a w hfree hr hy hS hku H
    refine ⟨fun h => (by rw [h] at hr; cases hr), fun j hj => ?_⟩
    by_cases hji : j = i
    · subst hji; exact hy.wpOp hi hS ⟨.inr hS, H⟩
    · have h1 := H.2 j (ready_mono hj hji)
      obtain ⟨hjun, oj, hoj, hall⟩ := mem_ready.1 hj
      have hnot : ∀ e ∈ oj.after, Region.binds md e = true → e.on ≠ i := fun e he hb heq => by
        have h1 := hall e he hb
        have h0 := (mem_ready.1 hr).1
        rw [heq] at h1
        rcases Nat.lt_or_ge i listed.size with h' | h'
        · simp [h'] at h0 h1; rw [h0] at h1; cases h1
        · simp [Array.getElem?_eq_none h'] at h1
      have hkj : k ≠ j := by
        rintro rfl
        unfold waits at hk
        rw [hoj] at hk
        simp only [Array.any_eq_true'] at hk
        obtain ⟨e, he, hb⟩ := hk
        simp only [Bool.and_eq_true, beq_iff_eq] at hb
        exact hnot e he hb.1 hb.2
      have h2 := wpOp_putIf hoj (hfree j oj hoj hji hjun hnot) (fun cs b => hsel i oi cs b hi) (fun cs b => hsel j oj cs b hoj) hQ hy h1
      have hfree' : ∀ k ok, ops[k]? = some ok → k ≠ i → (listed.setIfInBounds j true).getD k true = false →
          (∀ e ∈ ok.after, Region.binds md e = true → e.on ≠ i) → oi.apart ops ok = true := fun k ok hk hki hun hno => by
        refine hfree k ok hk hki ?_ hno
        by_cases hjk : j = k
        · subst hjk; exact hjun
        · rw [getD_set_ne true hjk] at hun; exact hun
      have hku1 : (listed.setIfInBounds j true).getD k true = false := by rw [getD_set_ne true (Ne.symm hkj)]; exact hku
      refine wpOp_mono (fun a' w' h3 => ?_) h2
      obtain ⟨h3y, h3s, h3w⟩ := h3
      have hS' : S w' := by
        rcases h3s with h | h
        · rw [getD_set_ne true (Ne.symm hkj), getD_set_ne true (Ne.symm hki), hku] at h; cases h
        · exact h
      refine ⟨.inr hS', ih (listed.setIfInBounds j true) a' w' hfree' (ready_mono hr (Ne.symm hji)) h3y hS' hku1 ?_⟩
      rw [Array.setIfInBounds_comm _ _ hji]
      exact h3w
theorem wpAnyU_all {rs : List Nat} {fuel : Nat} {listed : Array Bool} {a : Act} {w : World} (hr : Region.ready md ops listed = rs) (hne : rs ≠ [])
    (h : ∀ i ∈ rs, wpOp P ops Q i (fun a' w' => ((listed.setIfInBounds i true).getD k true = true ∨ S w') ∧ wpAnyU P md ops Q k S fuel (listed.setIfInBounds i true) a' w') a w) : wpAnyU P md ops Q k S (fuel + 1) listed a w :=
  ⟨fun h0 => absurd (hr ▸ h0) hne, hr ▸ h⟩
theorem wpAnyU_done {listed : Array Bool} {a : Act} {w : World} (hr : Region.ready md ops listed = []) (h : Q .normal a w) :
    ∀ fuel, wpAnyU P md ops Q k S fuel listed a w
  | 0 => ⟨hr, h⟩
  | _ + 1 => ⟨fun _ => h, by rw [hr]; simp⟩
end
section
variable {D : Dfs}
variable {P : Program} {Q : Exit → Act → World → Prop} {k : Nat} {S : World → Prop} {n : Nat} {f : Env} {w : World} {l : List Oper} {fuel : Nat} {listed : Array Bool}
theorem u_begin {id m : Nat} (k : Nat) (S : World → Prop) (hm : P.follows .mixedOrders = true) (hl : l.length = m) (h : wpAnyU P .any l.toArray Q k S m (Array.replicate m false) (A n f) w.drew) : (Code.region id l.toArray true).wp P Q (A n f) w := by
  subst hl
  exact wp_region_any hm (wpAny_of_u _ _ _ _ (by simpa using h))
theorem u_tx {d : Nat} {op : Op} {ty : TypeId} {ps : String} {af : Array Edge} {v : Value} [hQ : PanicOk Q] (i : Nat) (hS : S w)
    (h : wpAnyU P .any l.toArray Q k S fuel (listed.setIfInBounds i true) (A n (upd f d v)) w)
    (hi : l[i]? = some ⟨some d, op, ty, ps, af, none⟩ := by exact rfl)
    (hs : Region.noSelect l.toArray = true := by kernel_rfl) (hf : Region.free .any l.toArray listed i = true := by kernel_rfl) (hr : (Region.ready .any l.toArray listed).contains i = true := by kernel_rfl)
    (hk : waits .any l.toArray k i = true := by kernel_rfl) (hki : Nat.beq k i = false := by kernel_rfl) (hku : listed.getD k true = false := by kernel_rfl)
    (hrun : ∀ u, S u → (execOp (ev n f) ⟨some d, op, ty, ps, af, none⟩).run P u = .ok (.value v) u := by (intro u hu; (first | (apply r_move; conv => lhs; whnf) | exact r_nilCheck rfl | exact r_field0 rfl | exact r_len rfl | exact r_not rfl | exact r_add rfl rfl (IntWalk.i64_in _ (by omega)) | exact r_sub rfl rfl (IntWalk.i64_in _ (by omega)) | exact r_conv rfl (IntWalk.u64_in _ (by omega)) | exact r_conv rfl (IntWalk.i64_in _ (by omega)) | exact r_lss rfl rfl (decide_eq_true (by omega)) | exact r_lss rfl rfl (decide_eq_false (by omega)) | exact r_eql rfl rfl (decide_eq_true (by omega)) | exact r_eql rfl rfl (decide_eq_false (by omega)) | exact r_neq rfl rfl (decide_eq_true (by omega)) | exact r_neq rfl rfl (decide_eq_false (by omega)) | exact r_gtr rfl rfl (decide_eq_true (by omega)) | exact r_gtr rfl rfl (decide_eq_false (by omega)) | exact r_geq rfl rfl (decide_eq_true (by omega)) | exact r_geq rfl rfl (decide_eq_false (by omega)) | exact r_leq rfl rfl (decide_eq_true (by omega)) | exact r_leq rfl rfl (decide_eq_false (by omega)) | (apply r_pick; exact rfl; conv => lhs; whnf) | exact r_extract rfl rfl | exact r_indexAddr rfl rfl rfl (by omega) rfl | exact r_fieldAddr rfl | exact r_load rfl (Blk.cell (Blk.tr0 (by assumption) hu) rfl) | exact r_load rfl (Cells.get (Cells.tr0 (by assumption) hu) rfl) | exact r_loadC rfl (Cells.tr0 (by assumption) hu) (by rfl) | exact r_loadC rfl (Cells.ofBlk (Blk.tr0 (by assumption) hu)) (by rfl) | exact r_loadSub rfl (Cells.tr0 (by assumption) hu) (by rfl) | exact r_loadSubB rfl (Blk.tr0 (by assumption) hu) (by rfl) | exact r_load rfl (Cells.get hu rfl) | exact r_loadC rfl hu (by rfl) | exact r_loadSub rfl hu (by rfl) | exact r_load rfl (Cells.get hu.1 rfl) | exact r_loadC rfl hu.1 (by rfl) | exact r_loadSub rfl hu.1 (by rfl) | exact r_load rfl (Cells.get hu.2 rfl) | exact r_loadC rfl hu.2 (by rfl) | exact r_loadSub rfl hu.2 (by rfl) | exact r_load rfl (Blk.cell hu.2 rfl) | exact r_loadC rfl (Cells.ofBlk hu.2) (by rfl) | exact r_loadSubB rfl hu.2 (by rfl)))) : wpAnyU P .any l.toArray Q k S (fuel + 1) listed (A n f) w := by
  have hi' : l.toArray[i]? = some ⟨some d, op, ty, ps, af, none⟩ := by simpa using hi
  refine wpAnyU_first (i := i) (v := v) hi' (Region.noSelect_spec hs) (fun c a w => hQ.ok c a w (some d) v) hk (fun e => by rw [e] at hki; simp at hki) fuel listed _ _ (Region.free_spec hi' hf) (by simpa using hr) ?_ hS hku ?_
  · exact .inl ⟨rfl, fun u hu => by rw [A_eval]; exact hrun u hu⟩
  · rw [A_put]; exact h
theorem u_one {i : Nat} {o : Oper} (hi : l[i]? = some o) (hr : Region.ready .any l.toArray listed = [i])
    (h : wpList P l.toArray (Exit.then (fun a' w' => ((listed.setIfInBounds i true).getD k true = true ∨ S w') ∧ wpAnyU P .any l.toArray Q k S fuel (listed.setIfInBounds i true) a' w') Q) [o] (A n f) w) : wpAnyU P .any l.toArray Q k S (fuel + 1) listed (A n f) w := by
  refine wpAnyU_all hr (by simp) fun j hj => ?_
  simp only [List.mem_singleton] at hj
  subst hj
  exact wpOp_of_list hi h
theorem q_uh {x : Bool} {K : Act → World → Prop} {a : Act} {w : World} (hS : S w) (h : K a w) : Exit.then (fun a' w' => (x = true ∨ S w') ∧ K a' w') Q .normal a w := ⟨.inr hS, h⟩
theorem q_ue {x : Bool} {K : Act → World → Prop} {a : Act} {w : World} (h : K a w) (hx : x = true := by kernel_rfl) : Exit.then (fun a' w' => (x = true ∨ S w') ∧ K a' w') Q .normal a w := ⟨.inl hx, h⟩
theorem u_done (hr : Region.ready .any l.toArray listed = []) (h : Q .normal (A n f) w) : wpAnyU P .any l.toArray Q k S fuel listed (A n f) w := wpAnyU_done hr h fuel
end
end Go.Rf
namespace Go.Rf
open Go.RowKit
set_option linter.unusedVariables false
set_option linter.unusedSimpArgs false
theorem upd_comm (f : Env) {a b : Nat} (v w : Value) (h : Nat.beq a b = false) : upd (upd f a v) b w = upd (upd f b w) a v := by
  funext k
  have hab : a ≠ b := Nat.ne_of_beq_eq_false h
  by_cases h1 : k = a
  · subst h1
    rw [upd_ne _ _ hab, upd_same, upd_same]
  · by_cases h2 : k = b
    · subst h2
      rw [upd_same, upd_ne _ _ h1, upd_same]
    · rw [upd_ne _ _ h2, upd_ne _ _ h1, upd_ne _ _ h1, upd_ne _ _ h2]
section
variable {D : Dfs}
variable {P : Program} {Q : Exit → Act → World → Prop} {S : World → Prop} {n : Nat} {f : Env} {w : World} {l : List Oper} {fuel : Nat} {listed : Array Bool}
theorem d_ca {i j d1 d2 k e : Nat} {z : Value} {cl : List Value} {al : List Operand} {vs : List Value} {at_ : Array TypeId} {ty ty2 : TypeId} {ps ps2 : String} {af af2 : Array Edge} [F : FnT P k] [Z : ZeroT P e z]
    (T : List Nat → Value → World → Prop)
    (hi : l[i]? = some ⟨some d1, .call { callee := .value (.func k), args := al.toArray, argTypes := at_ }, ty, ps, af, none⟩) (hj : l[j]? = some ⟨some d2, .alloc e, ty2, ps2, af2, none⟩)
    (hz : z.cells = cl.toArray) (ha : evs n f al = vs) (ha2 : ∀ p, evs n (upd f d2 p) al = vs)
    (hc : ∀ w0 B, Fr [] w w0 → (∀ b ∈ B, w.heap.size ≤ b ∧ b < w0.heap.size) → Calls P k vs.toArray w0 fun e' w1 => ∃ v, e' = .returned v ∧ Fr [] w0 w1 ∧ T B v w1)
    (hT : ∀ B v w1 w2 b, T B v w1 → Fr [] w1 w2 → w1.heap.size ≤ b → T (b :: B) v w2)
    (hS : ∀ w0, Fr [] w w0 → S w0)
    (h : ∀ v bb w2, Fr [] w w2 → T [bb] v w2 → Blk w2 bb cl e → w.heap.size ≤ bb → wpAnyH P .any l.toArray Q S fuel ((listed.setIfInBounds i true).setIfInBounds j true) (A n (upd (upd f d1 v) d2 (.pointer (some ⟨bb, 0, none⟩)))) w2)
    (hr : Region.ready .any l.toArray listed = [i, j] := by kernel_rfl) (hr1 : Region.ready .any l.toArray (listed.setIfInBounds i true) = [j] := by kernel_rfl) (hr2 : Region.ready .any l.toArray (listed.setIfInBounds j true) = [i] := by kernel_rfl)
    (hne : Nat.beq d1 d2 = false := by kernel_rfl) (hij : Nat.beq i j = false := by kernel_rfl) : wpAnyH P .any l.toArray Q S (fuel + 2) listed (A n f) w := by
  refine d_two hi hj hr ?_ ?_
  · refine s_call (hc w [] (Fr.refl _ _) (by simp)) ha ?_
    rintro e' w1 ⟨v, rfl, hf1, hT1⟩
    refine ⟨v, rfl, ?_⟩
    refine wpList_nil (q_held (hS _ hf1) ?_)
    refine d_one hj hr1 ?_
    refine s_alloc hz (fun w2 hb2 hf2 hs2 => ?_)
    have hF := hf1.trans0 hf2
    refine wpList_nil (q_held (hS _ hF) ?_)
    exact h v _ w2 hF (hT _ _ _ _ _ hT1 hf2 (Nat.le_refl _)) hb2 hf1.size
  · refine s_alloc hz (fun w1 hb1 hf1 hs1 => ?_)
    refine wpList_nil (q_held (hS _ hf1) ?_)
    refine d_one hi hr2 ?_
    refine s_call (hc w1 [w.heap.size] hf1 (fun b hb => by simp at hb; omega)) (ha2 _) ?_
    rintro e' w2 ⟨v, rfl, hf2, hT2⟩
    refine ⟨v, rfl, ?_⟩
    have hF := hf1.trans0 hf2
    refine wpList_nil (q_held (hS _ hF) ?_)
    have hx := h v w.heap.size w2 hF hT2 (hb1.tr0 hf2) (Nat.le_refl _)
    rw [upd_comm _ _ _ hne] at hx
    rw [Array.setIfInBounds_comm _ _ (Ne.symm (Nat.ne_of_beq_eq_false hij))]
    exact hx
end
end Go.Rf
