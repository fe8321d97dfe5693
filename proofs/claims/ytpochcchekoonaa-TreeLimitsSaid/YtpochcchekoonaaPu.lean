/-
  Owned slices of rows: a relation that speaks of memory and keeps; appending a row. It speaks of no program.
-/
import Derived.Test.YtpochcchekoonaaVm
namespace Go.Rf
open Go.RowKit
set_option linter.unusedVariables false
set_option linter.unusedSimpArgs false

/-- a relation on rows that keeps where nothing of S changes, and may be told of fewer blocks, and of new ones -/
structure Stab {α : Type} (R : World → List Nat → α → List Value → Prop) (k : Nat) : Prop where
  tr : ∀ {w w' S x cs}, R w S x cs → Fr S w w' → R w' S x cs
  mono : ∀ {w S T x cs}, R w S x cs → (∀ b ∈ T, b ∈ S ∨ w.heap.size ≤ b) → R w T x cs
  len : ∀ {w S x cs}, R w S x cs → cs.length = k
  one : ∀ {w S x cs}, R w S x cs → ∀ u ∈ cs, u.oneCell' = true
section
variable {α : Type} {R : World → List Nat → α → List Value → Prop} {k : Nat}
theorem Stab.turn (h : Stab R k) {w w' : World} {S T : List Nat} {x : α} {cs : List Value} (hr : R w S x cs) (hf : Fr S w w') (hT : ∀ b ∈ T, b ∈ S ∨ w.heap.size ≤ b) : R w' T x cs := by
  have h1 : R w (S ++ T) x cs := h.mono hr (fun b hb => by rcases List.mem_append.1 hb with h | h; exact .inl h; exact hT b h)
  exact h.mono (h.tr h1 (hf.mono (fun b hb => .inl (by simp [hb])))) (fun b hb => .inl (by simp [hb]))
theorem Stab.old (h : Stab R k) {w w' : World} {S T : List Nat} {x : α} {cs : List Value} (hr : R w S x cs) (hf : Fr T w w') (hT : ∀ b ∈ T, b ∈ S ∨ w.heap.size ≤ b) : R w' S x cs := by
  have h1 : R w (S ++ T) x cs := h.mono hr (fun b hb => by rcases List.mem_append.1 hb with h | h; exact .inl h; exact hT b h)
  exact h.mono (h.tr h1 (hf.mono (fun b hb => .inl (by simp [hb])))) (fun b hb => .inl (by simp [hb]))
theorem Stab.any (h : Stab R k) {w : World} {S : List Nat} {x : α} {cs : List Value} (hr : R w S x cs) : R w [] x cs := h.mono hr (by simp)

/-- an owned slice of rows; what hangs on the rows lies elsewhere -/
def OwnR (w : World) (e k : Nat) (R : World → List Nat → α → List Value → Prop) (l : List α) (v : Value) : Prop := ∃ ys, Own w e k v l.length ys ∧ Rws (R w (blks v)) l ys
variable {w w' : World} {e : Nat} {l : List α} {v : Value}
theorem OwnR.nil (w : World) (e k : Nat) (R : World → List Nat → α → List Value → Prop) : OwnR w e k R [] (.slice none 0 0) := ⟨[], Own.nil _ _ _, .nil⟩
theorem OwnR.old {T : List Nat} (h : OwnR w e k R l v) (hs : Stab R k) (hf : Fr T w w') (hT : ∀ b ∈ T, w.heap.size ≤ b) : OwnR w' e k R l v := by
  obtain ⟨ys, h1, h2⟩ := h
  exact ⟨ys, h1.old hf hT, h2.imp (fun x cs _ hr => hs.old hr hf (fun b hb => .inr (hT b hb)))⟩
theorem OwnR.tr0 (h : OwnR w e k R l v) (hs : Stab R k) (hf : Fr [] w w') : OwnR w' e k R l v := h.old hs hf (by simp)
theorem OwnR.slice (h : OwnR w e k R l v) : ∃ ao c, v = .slice ao l.length c := by obtain ⟨ys, h1, _⟩ := h; exact h1.slice
theorem OwnR.one (h : OwnR w e k R l v) : v.oneCell' = true := by obtain ⟨ys, h1, _⟩ := h; exact h1.one
theorem OwnR.lt (h : OwnR w e k R l v) : ∀ b ∈ blks v, b < w.heap.size := by obtain ⟨ys, h1, _⟩ := h; exact h1.lt
theorem OwnR.sl (h : OwnR w e k R l v) (hs : Stab R k) : Sl w [] (R w []) l v := by
  obtain ⟨ys, h1, h2⟩ := h
  exact ⟨ys, h1.src, fun _ _ _ _ _ => by simp, h2.imp (fun x cs _ hr => hs.any hr)⟩
end

theorem fill_one {size : Nat} {z cs : List Value} {v : Value} (hz : z.length = size) (hc : cs.length = size) (hv : v.cells = cs.toArray) : fillL (fun i => some (i * size, size)) (zeros z 1) [(0, v)] = some cs := by
  have e : v.cells.toList = cs := by rw [hv]
  have e2 : v.cells.size = size := by rw [hv]; simpa using hc
  have hb : Nat.ble size size = true := Nat.ble_eq_true_of_le (Nat.le_refl _)
  simp [fillL, zeros, e, e2, hc, hz, List.drop_eq_nil_of_le, hb]

section
variable {P : Program} {ops : Array Oper} {Q : Exit → Act → World → Prop} {rest : List Oper} {n : Nat} {f : Env} {w : World}
variable {d d2 : Nat} {ty ty2 : TypeId} {ps ps2 : String} {af af2 : Array Edge} {x y s : Operand} {t t2 : Nat}
/-- 'append(s, x)': the row x is made a slice, and appended -/
theorem s_pushA {α : Type} {R : World → List Nat → α → List Value → Prop} {e size by_ : Nat} {z : List Value} {l : List α} {v xv : Value} {a : α} {cs : List Value} [RZ : RowZ P t e size by_ z]
    (hR : OwnR w e size R l v) (hs : Stab R size) (hsv : ev n f s = v) (hx : ev n f x = xv) (hxc : xv.cells = cs.toArray) (ha : R w (blks v) a cs) (hd : ev n (upd f d (.slice (some ⟨w.heap.size, 0, none⟩) 1 1)) s = v) (hdn : Nat.blt d n = true) (hsz : Nat.ble size 16777216 = true)
    (h63 : l.length + 1 ≤ maxLen) (hb : (l.length + 1) * by_ ≤ 140737488355328)
    (h : ∀ v' w', OwnR w' e size R (l ++ [a]) v' → Fr (blks v) w w' → (∀ b ∈ blks v', b ∈ blks v ∨ w.heap.size ≤ b) → wpList P ops Q rest (A n (upd (upd f d (.slice (some ⟨w.heap.size, 0, none⟩) 1 1)) d2 v')) w') :
    wpList P ops Q (⟨some d, .buildSlice t 1 #[(0, x)], ty, ps, af, none⟩ :: ⟨some d2, .call { callee := .builtin .append, args := #[s, .tmp d], argTypes := #[t, t] }, ty2, ps2, af2, none⟩ :: rest) (A n f) w := by
  obtain ⟨ys, ho, hr⟩ := hR
  have Rr := RZ.row
  have hzl : z.length = size := by obtain ⟨i, v, _, _, _, h⟩ := RZ.z; exact h
  have hcl := hs.len ha
  subst hx
  refine s_buildS (z := z) (parts := [(0, x)]) cs (by simpa using hsz) rfl (fill_one hzl hcl hxc) (by simpa using hcl) (fun w1 ho1 hf1 hs1 => ?_)
  have hlen := Rws.len (k := size) (fun x cs h => hs.len h) hr
  refine s_append (R := Rr) (ho.tr0 hf1) hd ho1.src ?_ (by simpa using hcl) (hs.one ha) h63 hb (fun v' w' ho' hf' hk' _ => ?_)
  · show cond (Nat.blt d n) (upd f d _ d) undef = _
    rw [hdn, upd_same]; rfl
  have hF : Fr (blks v) w w' := (hf1.mono (by simp)).trans hf' (fun b hb => .inl hb)
  refine h v' w' ⟨ys ++ cs, by rw [List.length_append]; exact ho', ?_⟩ hF (fun b hb => ?_)
  · have hk2 : ∀ b ∈ blks v', b ∈ blks v ∨ w.heap.size ≤ b := fun b hb => by
      rcases hk' b hb with h | h
      · exact .inl h
      · right; omega
    exact (hr.imp fun x cs _ h => hs.turn h hF hk2).app (Rws.one (hs.turn ha hF hk2))
  · rcases hk' b hb with h | h
    · exact .inl h
    · right; omega
/-- 'append(s, x...)' for rows of any number -/
theorem s_appR {α : Type} {R : World → List Nat → α → List Value → Prop} {e size by_ : Nat} {l al : List α} {v xv : Value} {cs : List Value} {m : Nat} [Rr : RowT P t e size by_]
    (hR : OwnR w e size R l v) (hs : Stab R size) (hsv : ev n f s = v) (hx : ev n f x = xv) (hsrc : Src w xv m cs) (ha : Rws (R w (blks v)) al cs) (hm : al.length = m) (h63 : l.length + m ≤ maxLen) (hb : (l.length + m) * by_ ≤ 140737488355328)
    (h : ∀ v' w', OwnR w' e size R (l ++ al) v' → Fr (blks v) w w' → (∀ b ∈ blks v', b ∈ blks v ∨ w.heap.size ≤ b) → (v' = .slice none 0 0 ↔ v = .slice none 0 0 ∧ m = 0) → wpList P ops Q rest (A n (upd f d v')) w') :
    wpList P ops Q (⟨some d, .call { callee := .builtin .append, args := #[s, x], argTypes := #[t, t] }, ty, ps, af, none⟩ :: rest) (A n f) w := by
  obtain ⟨ys, ho, hr⟩ := hR
  have hlen := Rws.len (k := size) (fun x cs h => hs.len h) ha
  refine s_append ho hsv hsrc hx (by rw [hlen, hm]) (Rws.mem1 (fun x cs h => hs.one h) ha) h63 hb (fun v' w' ho' hf' hk' hn' => ?_)
  refine h v' w' ⟨ys ++ cs, by rw [List.length_append, hm]; exact ho', ?_⟩ hf' hk' hn'
  exact (hr.imp fun x cs _ h => hs.turn h hf' hk').app (ha.imp fun x cs _ h => hs.turn h hf' hk')
end
theorem vrStab : Stab VR 4 := ⟨fun h hf => h.tr hf, fun h hT => h.mono hT, fun h => VR.len _ _ h, fun h => VR.mem1 _ _ h⟩
/-- a slice of values that is owned -/
theorem OwnR.vs {w : World} {e : Nat} {l : List V} {v : Value} (h : OwnR w e 4 VR l v) (hl : l.length ≤ 1000000000000) {S : List Nat} (hS : ∀ b ∈ blks v, b ∉ S) (hr : ∀ x cs, x ∈ l → VR w (blks v) x cs → VR w S x cs) : VS w S l v := by
  obtain ⟨ys, h1, h2⟩ := h
  refine VS.of hl h1.src (fun ad n c e hp hm => ?_) (h2.imp hr)
  refine hS ad.block ?_ hm
  rcases h1.2 with ⟨hv, h0⟩ | ⟨g, cap, cur, hv, _⟩
  · rw [hv] at e; cases e
  · subst hv
    simp only [Value.slice.injEq, Option.some.injEq] at e
    rw [← e.1]; simp [blks, Value.ownBlock]
end Go.Rf
