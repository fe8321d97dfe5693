/-
  The plain law of ordered values: Compare is a total order; sorted lists, Sort, merging, products.
-/
import Derived.Test.YtpochcchekoonaaGreatTm
namespace Go.Proofs.YtpochcchekoonaaGreat
open Go.Rf Go.RowKit
set_option linter.unusedVariables false
set_option linter.unusedSimpArgs false

--BEGIN
theorem cmpI_lt {a b : Int} : cmpI a b < 0 ↔ a < b := by unfold cmpI; split <;> (try split) <;> omega
theorem cmpI_eq {a b : Int} : cmpI a b = 0 ↔ a = b := by unfold cmpI; split <;> (try split) <;> omega
theorem cmpI_neg (a b : Int) : cmpI b a = - cmpI a b := by unfold cmpI; split <;> (try split) <;> (try split) <;> omega
theorem bl_irr : ∀ l : List UInt8, Op.bytesLess l l = false
  | [] => rfl
  | a :: l => by simp [Op.bytesLess, bl_irr l]
theorem bl_cons {a b : UInt8} {x y : List UInt8} : Op.bytesLess (a :: x) (b :: y) = true ↔ a < b ∨ a = b ∧ Op.bytesLess x y = true := by simp [Op.bytesLess]
theorem u8_tri (a b : UInt8) : a < b ∨ a = b ∨ b < a := by
  rcases Nat.lt_trichotomy a.toNat b.toNat with h | h | h
  · exact .inl (UInt8.lt_iff_toNat_lt.2 h)
  · exact .inr (.inl (UInt8.toNat_inj.1 h))
  · exact .inr (.inr (UInt8.lt_iff_toNat_lt.2 h))
theorem u8_irr (a : UInt8) : ¬ a < a := by rw [UInt8.lt_iff_toNat_lt]; omega
theorem u8_tr {a b c : UInt8} (h : a < b) (k : b < c) : a < c := by rw [UInt8.lt_iff_toNat_lt] at *; omega
theorem bl_tr : ∀ {l m k : List UInt8}, Op.bytesLess l m = true → Op.bytesLess m k = true → Op.bytesLess l k = true
  | l, m, [], h, h' => by cases m <;> simp [Op.bytesLess] at h'
  | l, [], c :: k, h, h' => by cases l <;> simp [Op.bytesLess] at h
  | [], b :: m, c :: k, h, h' => by simp [Op.bytesLess]
  | a :: l, b :: m, c :: k, h, h' => by
    rw [bl_cons] at h h' ⊢
    rcases h with h | ⟨rfl, h⟩
    · rcases h' with h' | ⟨rfl, h'⟩
      · exact .inl (u8_tr h h')
      · exact .inl h
    · rcases h' with h' | ⟨rfl, h'⟩
      · exact .inl h'
      · exact .inr ⟨rfl, bl_tr h h'⟩
theorem bl_tri : ∀ l m : List UInt8, Op.bytesLess l m = true ∨ l = m ∨ Op.bytesLess m l = true
  | [], [] => .inr (.inl rfl)
  | [], b :: m => .inl (by simp [Op.bytesLess])
  | a :: l, [] => .inr (.inr (by simp [Op.bytesLess]))
  | a :: l, b :: m => by
    rw [bl_cons, bl_cons]
    rcases u8_tri a b with h | rfl | h
    · exact .inl (.inl h)
    · rcases bl_tri l m with h | rfl | h
      · exact .inl (.inr ⟨rfl, h⟩)
      · exact .inr (.inl rfl)
      · exact .inr (.inr (.inr ⟨rfl, h⟩))
    · exact .inr (.inr (.inl h))
theorem bl_asym {l m : List UInt8} (h : Op.bytesLess l m = true) : ¬ Op.bytesLess m l = true := fun k => by
  have := bl_tr h k
  rw [bl_irr] at this; cases this
theorem cmpS_lt {a b : ByteArray} : cmpS a b < 0 ↔ Op.bytesLess a.toList b.toList = true := by
  unfold cmpS
  split
  · simp [*]
  · split
    · rename_i h; subst h; simp [bl_irr]
    · simp [*]
theorem cmpS_eq {a b : ByteArray} : cmpS a b = 0 ↔ a = b := by
  unfold cmpS
  split
  · rename_i h
    refine ⟨fun h => by omega, fun e => ?_⟩
    subst e; rw [bl_irr] at h; cases h
  · split <;> simp [*]
theorem cmpS_neg (a b : ByteArray) : cmpS b a = - cmpS a b := by
  unfold cmpS
  by_cases e : a = b
  · subst e; simp [bl_irr]
  · have e' : ¬ b = a := fun h => e h.symm
    rcases bl_tri a.toList b.toList with h | h | h
    · rw [if_pos h, if_neg (bl_asym h), if_neg e']; rfl
    · exact absurd (toList_inj.1 h) e
    · rw [if_pos h, if_neg (bl_asym h), if_neg e]
mutual
theorem cmpV_zero : ∀ {a b : V}, cmpV a b = 0 → a = b
  | ⟨k, n, s, ks⟩, ⟨k', n', s', ks'⟩, h => by
    simp only [cmpV] at h
    by_cases h1 : cmpI k k' = 0
    · rw [if_neg (by simpa using h1)] at h
      by_cases h2 : cmpI n n' = 0
      · rw [if_neg (by simpa using h2)] at h
        by_cases h3 : cmpS s s' = 0
        · rw [if_neg (by simpa using h3)] at h
          rw [cmpI_eq.1 h1, cmpI_eq.1 h2, cmpS_eq.1 h3, cmpVs_zero h]
        · rw [if_pos h3] at h; exact absurd h h3
      · rw [if_pos h2] at h; exact absurd h h2
    · rw [if_pos h1] at h; exact absurd h h1
theorem cmpVs_zero : ∀ {a b : List V}, cmpVs a b = 0 → a = b
  | [], [], _ => rfl
  | [], _ :: _, h => by simp [cmpVs] at h
  | _ :: _, [], h => by simp [cmpVs] at h
  | x :: l, y :: m, h => by
    simp only [cmpVs] at h
    by_cases h1 : cmpV x y = 0
    · rw [if_neg (by simpa using h1)] at h
      rw [cmpV_zero h1, cmpVs_zero h]
    · rw [if_pos h1] at h; exact absurd h h1
end
mutual
theorem cmpV_neg : ∀ a b : V, cmpV b a = - cmpV a b
  | ⟨k, n, s, ks⟩, ⟨k', n', s', ks'⟩ => by
    simp only [cmpV]
    rw [cmpI_neg k k', cmpI_neg n n', cmpS_neg s s', cmpVs_neg ks ks']
    simp only [Int.neg_eq_zero, ne_eq]
    repeat' split
    all_goals rfl
theorem cmpVs_neg : ∀ a b : List V, cmpVs b a = - cmpVs a b
  | [], [] => rfl
  | [], _ :: _ => rfl
  | _ :: _, [] => rfl
  | x :: l, y :: m => by
    simp only [cmpVs]
    rw [cmpV_neg x y, cmpVs_neg l m]
    simp only [Int.neg_eq_zero, ne_eq]
    split <;> rfl
end
theorem cmpV_refl (v : V) : cmpV v v = 0 := by have := cmpV_neg v v; omega
theorem cmpVs_refl (v : List V) : cmpVs v v = 0 := by have := cmpVs_neg v v; omega
theorem cmpV_iff {a b : V} : cmpV a b = 0 ↔ a = b := ⟨cmpV_zero, fun h => by rw [h]; exact cmpV_refl b⟩
theorem cmpVs_iff {a b : List V} : cmpVs a b = 0 ↔ a = b := ⟨cmpVs_zero, fun h => by rw [h]; exact cmpVs_refl b⟩
theorem cmpV_lt {k n k' n' : Int} {s s' : ByteArray} {ks ks' : List V} : cmpV ⟨k, n, s, ks⟩ ⟨k', n', s', ks'⟩ < 0 ↔ k < k' ∨ k = k' ∧ (n < n' ∨ n = n' ∧ (Op.bytesLess s.toList s'.toList = true ∨ s = s' ∧ cmpVs ks ks' < 0)) := by
  simp only [cmpV]
  by_cases h1 : k = k'
  · have e1 := cmpI_eq.2 h1
    rw [if_neg (by simpa using e1)]
    by_cases h2 : n = n'
    · have e2 := cmpI_eq.2 h2
      rw [if_neg (by simpa using e2)]
      by_cases h3 : s = s'
      · have e3 := cmpS_eq.2 h3
        rw [if_neg (by simpa using e3)]
        subst h3
        simp [h1, h2, bl_irr]
      · rw [if_pos (fun h => h3 (cmpS_eq.1 h)), cmpS_lt]
        simp [h1, h2, h3]
    · rw [if_pos (fun h => h2 (cmpI_eq.1 h)), cmpI_lt]
      simp [h1, h2]
  · rw [if_pos (fun h => h1 (cmpI_eq.1 h)), cmpI_lt]
    simp [h1]
theorem cmpVs_lt {a b : V} {l m : List V} : cmpVs (a :: l) (b :: m) < 0 ↔ cmpV a b < 0 ∨ a = b ∧ cmpVs l m < 0 := by
  simp only [cmpVs]
  by_cases h : a = b
  · have e := cmpV_iff.2 h
    rw [if_neg (by simpa using e)]; simp [h, cmpV_refl]
  · rw [if_pos (fun k => h (cmpV_iff.1 k))]; simp [h]
mutual
theorem cmpV_tr : ∀ {a b c : V}, cmpV a b < 0 → cmpV b c < 0 → cmpV a c < 0
  | ⟨k, n, s, ks⟩, ⟨k', n', s', ks'⟩, ⟨k2, n2, s2, ks2⟩, h, h' => by
    rw [cmpV_lt] at h h' ⊢
    rcases h with h | ⟨rfl, h⟩
    · rcases h' with h' | ⟨rfl, h'⟩
      · left; omega
      · exact .inl h
    · rcases h' with h' | ⟨rfl, h'⟩
      · exact .inl h'
      · refine .inr ⟨rfl, ?_⟩
        rcases h with h | ⟨rfl, h⟩
        · rcases h' with h' | ⟨rfl, h'⟩
          · left; omega
          · exact .inl h
        · rcases h' with h' | ⟨rfl, h'⟩
          · exact .inl h'
          · refine .inr ⟨rfl, ?_⟩
            rcases h with h | ⟨rfl, h⟩
            · rcases h' with h' | ⟨rfl, h'⟩
              · exact .inl (bl_tr h h')
              · exact .inl h
            · rcases h' with h' | ⟨rfl, h'⟩
              · exact .inl h'
              · exact .inr ⟨rfl, cmpVs_tr h h'⟩
theorem cmpVs_tr : ∀ {a b c : List V}, cmpVs a b < 0 → cmpVs b c < 0 → cmpVs a c < 0
  | [], [], _, h, _ => by simp [cmpVs] at h
  | _ :: _, [], _, h, _ => by simp [cmpVs] at h
  | _, _ :: _, [], _, h => by simp [cmpVs] at h
  | [], _ :: _, _ :: _, _, _ => by simp [cmpVs]
  | x :: l, y :: m, z :: k, h, h' => by
    rw [cmpVs_lt] at h h' ⊢
    rcases h with h | ⟨rfl, h⟩
    · rcases h' with h' | ⟨rfl, h'⟩
      · exact .inl (cmpV_tr h h')
      · exact .inl h
    · rcases h' with h' | ⟨rfl, h'⟩
      · exact .inl h'
      · exact .inr ⟨rfl, cmpVs_tr h h'⟩
end
theorem cmpV_tri (a b : V) : cmpV a b < 0 ∨ a = b ∨ cmpV b a < 0 := by
  have := cmpV_neg a b
  by_cases h : cmpV a b = 0
  · exact .inr (.inl (cmpV_iff.1 h))
  · omega

/-! ### sorted lists -/
def Srt (l : List V) : Prop := l.Pairwise fun a b => cmpV a b < 0
theorem Srt.nil : Srt [] := List.Pairwise.nil
theorem Srt.one (v : V) : Srt [v] := List.pairwise_singleton _ _
theorem srt_incV : ∀ {l : List V}, incV l = true → Srt l
  | [], _ => .nil
  | [a], _ => .one a
  | a :: b :: l, h => by
    simp only [incV, Bool.and_eq_true, decide_eq_true_eq] at h
    have h2 := srt_incV h.2
    refine List.pairwise_cons.2 ⟨fun x hx => ?_, h2⟩
    rcases List.mem_cons.1 hx with rfl | hx
    · exact h.1
    · exact cmpV_tr h.1 ((List.pairwise_cons.1 h2).1 x hx)
theorem Srt.uniq : ∀ {l m : List V}, Srt l → Srt m → (∀ x, x ∈ l ↔ x ∈ m) → l = m
  | [], [], _, _, _ => rfl
  | [], b :: m, _, _, h => by have := (h b).2 (by simp); simp at this
  | a :: l, [], _, _, h => by have := (h a).1 (by simp); simp at this
  | a :: l, b :: m, h1, h2, h => by
    have p1 := List.pairwise_cons.1 h1
    have p2 := List.pairwise_cons.1 h2
    have e : a = b := by
      have ha := (h a).1 (by simp)
      have hb := (h b).2 (by simp)
      rcases List.mem_cons.1 ha with e | ha
      · exact e
      rcases List.mem_cons.1 hb with e | hb
      · exact e.symm
      have q1 := p2.1 a ha
      have q2 := p1.1 b hb
      have := cmpV_neg a b
      omega
    subst e
    rw [Srt.uniq p1.2 p2.2 fun x => ?_]
    have hx := h x
    simp only [List.mem_cons] at hx
    refine ⟨fun hl => ?_, fun hm => ?_⟩
    · rcases hx.1 (.inr hl) with rfl | h
      · have := p1.1 x hl; rw [cmpV_refl] at this; omega
      · exact h
    · rcases hx.2 (.inr hm) with rfl | h
      · have := p2.1 x hm; rw [cmpV_refl] at this; omega
      · exact h
theorem fnd_lt : ∀ (l : List V) (v : V) (i : Nat) (h : i < l.length), i < (fndV l v).1 → cmpV l[i] v < 0
  | [], v, i, h, _ => by simp at h
  | a :: l, v, i, h, hi => by
    unfold fndV at hi
    split at hi
    · simp at hi
    · rename_i hge
      cases i with
      | zero => simp only [List.getElem_cons_zero]; omega
      | succ i => simp only [List.getElem_cons_succ]; exact fnd_lt l v i (by simpa using h) (by simpa using hi)
theorem fnd_ge : ∀ (l : List V) (v : V) (h : (fndV l v).1 < l.length), 0 ≤ cmpV l[(fndV l v).1] v ∧ ((fndV l v).2 = decide (cmpV l[(fndV l v).1] v = 0))
  | [], v, h => by simp at h
  | a :: l, v, h => by
    unfold fndV at h
    by_cases hge : 0 ≤ cmpV a v
    · have e : fndV (a :: l) v = (0, decide (cmpV a v = 0)) := by simp only [fndV, if_pos hge]
      simp only [e, List.getElem_cons_zero]
      exact ⟨hge, trivial⟩
    · have e : fndV (a :: l) v = ((fndV l v).1 + 1, (fndV l v).2) := by simp only [fndV, if_neg hge]
      rw [if_neg hge] at h
      have := fnd_ge l v (by simpa using h)
      simp only [e, List.getElem_cons_succ]
      exact this
theorem fnd_end : ∀ (l : List V) (v : V), ¬ (fndV l v).1 < l.length → (fndV l v).2 = false
  | [], v, _ => rfl
  | a :: l, v, h => by
    by_cases hge : 0 ≤ cmpV a v
    · have e : fndV (a :: l) v = (0, decide (cmpV a v = 0)) := by simp only [fndV, if_pos hge]
      rw [e] at h; simp at h
    · have e : fndV (a :: l) v = ((fndV l v).1 + 1, (fndV l v).2) := by simp only [fndV, if_neg hge]
      rw [e] at h ⊢
      exact fnd_end l v (by simpa using h)
theorem fnd_mem {l : List V} {v : V} (h : Srt l) : (fndV l v).2 = true ↔ v ∈ l := by
  by_cases hl : (fndV l v).1 < l.length
  · obtain ⟨h1, h2⟩ := fnd_ge l v hl
    rw [h2]
    simp only [decide_eq_true_eq, cmpV_iff]
    refine ⟨fun e => by rw [← e]; simp, fun hm => ?_⟩
    obtain ⟨j, hj, rfl⟩ := List.mem_iff_getElem.1 hm
    by_cases hlt : j < (fndV l l[j]).1
    · have := fnd_lt l l[j] j hj hlt; rw [cmpV_refl] at this; omega
    by_cases e : j = (fndV l l[j]).1
    · congr 1; exact e.symm
    have := List.pairwise_iff_getElem.1 h _ j hl hj (by omega)
    omega
  · rw [fnd_end l v hl]
    refine ⟨fun h => (by cases h), fun hm => ?_⟩
    obtain ⟨j, hj, rfl⟩ := List.mem_iff_getElem.1 hm
    have := fnd_lt l l[j] j hj (by omega)
    rw [cmpV_refl] at this; omega
theorem ins_srt {l : List V} {v : V} (h : Srt l) : Srt (insV l v) := by
  unfold insV
  split
  · exact h
  · rename_i hf
    have hm : ¬ v ∈ l := fun hm => hf ((fnd_mem h).2 hm)
    have h1 : ∀ x ∈ l.take (fndV l v).1, cmpV x v < 0 := fun x hx => by
      obtain ⟨j, hj, rfl⟩ := List.mem_iff_getElem.1 hx
      rw [List.length_take] at hj
      rw [List.getElem_take]
      exact fnd_lt l v j (by omega) (by omega)
    have h2 : ∀ x ∈ l.drop (fndV l v).1, cmpV v x < 0 := fun x hx => by
      obtain ⟨j, hj, rfl⟩ := List.mem_iff_getElem.1 hx
      rw [List.length_drop] at hj
      rw [List.getElem_drop]
      obtain ⟨h3, _⟩ := fnd_ge l v (by omega)
      have h4 : cmpV v (l[(fndV l v).1]'(by omega)) < 0 := by
        rcases cmpV_tri (l[(fndV l v).1]'(by omega)) v with h | h | h
        · omega
        · exact absurd (by rw [← h]; simp) hm
        · exact h
      by_cases e : j = 0
      · subst e; simpa using h4
      · exact cmpV_tr h4 (List.pairwise_iff_getElem.1 h _ _ _ _ (by omega))
    have hh := h
    unfold Srt at hh
    rw [← List.take_append_drop (fndV l v).1 l, List.pairwise_append] at hh
    unfold Srt
    rw [List.append_assoc, List.pairwise_append]
    refine ⟨hh.1, List.pairwise_cons.2 ⟨h2, hh.2.1⟩, fun a ha b hb => ?_⟩
    rcases List.mem_cons.1 hb with rfl | hb
    · exact h1 a ha
    · exact hh.2.2 a ha b hb
theorem ins_mem {l : List V} {v x : V} (h : Srt l) : x ∈ insV l v ↔ x ∈ l ∨ x = v := by
  unfold insV
  split
  · rename_i hf
    have := (fnd_mem h).1 hf
    refine ⟨fun h => .inl h, fun hx => ?_⟩
    rcases hx with hx | hx
    · exact hx
    · rw [hx]; exact this
  · rw [List.append_assoc, List.mem_append, List.mem_append, List.mem_singleton]
    have e : x ∈ l ↔ x ∈ l.take (fndV l v).1 ∨ x ∈ l.drop (fndV l v).1 := by
      rw [← List.mem_append, List.take_append_drop]
    rw [e]
    constructor
    · rintro (h | h | h)
      · exact .inl (.inl h)
      · exact .inr h
      · exact .inl (.inr h)
    · rintro ((h | h) | h)
      · exact .inl h
      · exact .inr (.inr h)
      · exact .inr (.inl h)
theorem foldIns : ∀ (l o : List V), Srt o → Srt (l.foldl insV o) ∧ ∀ x, x ∈ l.foldl insV o ↔ x ∈ o ∨ x ∈ l
  | [], o, h => ⟨h, by simp⟩
  | a :: l, o, h => by
    obtain ⟨h1, h2⟩ := foldIns l (insV o a) (ins_srt h)
    refine ⟨h1, fun x => ?_⟩
    rw [List.foldl_cons, h2, ins_mem h, List.mem_cons]
    constructor
    · rintro ((h | h) | h)
      · exact .inl h
      · exact .inr (.inl h)
      · exact .inr (.inr h)
    · rintro (h | h | h)
      · exact .inl (.inl h)
      · exact .inl (.inr h)
      · exact .inr h
theorem srtV_srt (l : List V) : Srt (srtV l) := (foldIns l [] .nil).1
theorem srtV_mem {l : List V} {x : V} : x ∈ srtV l ↔ x ∈ l := by have := (foldIns l [] .nil).2 x; simpa [srtV] using this
theorem srtV_id {l : List V} (h : Srt l) : srtV l = l := Srt.uniq (srtV_srt l) h fun x => srtV_mem

/-! ### merging -/
def mrgV : List V → List V → List V
  | [], b => b
  | a, [] => a
  | x :: a, y :: b => if cmpV x y < 0 then x :: mrgV a (y :: b) else if cmpV x y = 0 then x :: mrgV a b else y :: mrgV (x :: a) b
theorem mrgV_nil (a : List V) : mrgV a [] = a := by cases a <;> simp [mrgV]
theorem mrgV_mem : ∀ {a b : List V} {x : V}, x ∈ mrgV a b ↔ x ∈ a ∨ x ∈ b
  | [], b, x => by simp [mrgV]
  | a :: l, [], x => by simp [mrgV]
  | a :: l, b :: m, x => by
    rw [mrgV]
    split
    · rw [List.mem_cons, mrgV_mem (a := l) (b := b :: m), List.mem_cons (a := x) (b := a), or_assoc]
    · split
      · rename_i h1 h2
        have := cmpV_iff.1 h2
        subst this
        rw [List.mem_cons, mrgV_mem (a := l) (b := m), List.mem_cons, List.mem_cons]
        constructor
        · rintro (h | h | h)
          · exact .inl (.inl h)
          · exact .inl (.inr h)
          · exact .inr (.inr h)
        · rintro ((h | h) | (h | h))
          · exact .inl h
          · exact .inr (.inl h)
          · exact .inl h
          · exact .inr (.inr h)
      · rw [List.mem_cons, mrgV_mem (a := a :: l) (b := m), List.mem_cons (a := x) (b := b)]
        constructor
        · rintro (h | h | h)
          · exact .inr (.inl h)
          · exact .inl h
          · exact .inr (.inr h)
        · rintro (h | h | h)
          · exact .inr (.inl h)
          · exact .inl h
          · exact .inr (.inr h)
termination_by a b => a.length + b.length
theorem mrgV_srt : ∀ {a b : List V}, Srt a → Srt b → Srt (mrgV a b)
  | [], b, _, h => by simpa [mrgV] using h
  | a :: l, [], h, _ => by simpa [mrgV] using h
  | a :: l, b :: m, h1, h2 => by
    have p1 := List.pairwise_cons.1 h1
    have p2 := List.pairwise_cons.1 h2
    rw [mrgV]
    split
    · rename_i hlt
      refine List.pairwise_cons.2 ⟨fun x hx => ?_, mrgV_srt p1.2 h2⟩
      rcases mrgV_mem.1 hx with hx | hx
      · exact p1.1 x hx
      · rcases List.mem_cons.1 hx with rfl | hx
        · exact hlt
        · exact cmpV_tr hlt (p2.1 x hx)
    · split
      · rename_i h3 h4
        have := cmpV_iff.1 h4
        subst this
        refine List.pairwise_cons.2 ⟨fun x hx => ?_, mrgV_srt p1.2 p2.2⟩
        rcases mrgV_mem.1 hx with hx | hx
        · exact p1.1 x hx
        · exact p2.1 x hx
      · rename_i h3 h4
        have hlt : cmpV b a < 0 := by have := cmpV_neg a b; omega
        refine List.pairwise_cons.2 ⟨fun x hx => ?_, mrgV_srt h1 p2.2⟩
        rcases mrgV_mem.1 hx with hx | hx
        · rcases List.mem_cons.1 hx with rfl | hx
          · exact hlt
          · exact cmpV_tr hlt (p1.1 x hx)
        · exact p2.1 x hx
termination_by a b => a.length + b.length
theorem mrgV_sort {a b : List V} (h1 : Srt a) (h2 : Srt b) : mrgV a b = srtV (a ++ b) := Srt.uniq (mrgV_srt h1 h2) (srtV_srt _) fun x => by rw [mrgV_mem, srtV_mem, List.mem_append]

/-! ### products -/
def SrtR (n : Nat) (rows : List (List V)) : Prop := (∀ r ∈ rows, r.length = n) ∧ rows.Pairwise fun a b => cmpVs a b < 0
theorem cmpVs_app : ∀ {a b c d : List V}, a.length = b.length → (cmpVs (a ++ c) (b ++ d) < 0 ↔ cmpVs a b < 0 ∨ a = b ∧ cmpVs c d < 0)
  | [], [], c, d, _ => by simp [cmpVs]
  | [], _ :: _, _, _, h => by simp at h
  | _ :: _, [], _, _, h => by simp at h
  | x :: a, y :: b, c, d, h => by
    rw [List.cons_append, List.cons_append, cmpVs_lt, cmpVs_lt, cmpVs_app (by simpa using h)]
    constructor
    · rintro (q | ⟨e, q | ⟨e', q⟩⟩)
      · exact .inl (.inl q)
      · exact .inl (.inr ⟨e, q⟩)
      · exact .inr ⟨by rw [e, e'], q⟩
    · rintro ((q | ⟨e, q⟩) | ⟨h, h'⟩)
      · exact .inl q
      · exact .inr ⟨e, .inl q⟩
      · simp only [List.cons.injEq] at h
        exact .inr ⟨h.1, .inr ⟨h.2, h'⟩⟩
theorem prodS_srt {n : Nat} {rows : List (List V)} {l : List V} (hr : SrtR n rows) (hl : Srt l) : SrtR (n + 1) (prodS rows l) := by
  obtain ⟨h1, h2⟩ := hr
  constructor
  · intro r hr
    unfold prodS at hr
    obtain ⟨q, hq, hr⟩ := List.mem_flatMap.1 hr
    obtain ⟨v, _, rfl⟩ := List.mem_map.1 hr
    simp [h1 q hq]
  · induction rows with
    | nil => simp [prodS]
    | cons r rows ih =>
      have p := List.pairwise_cons.1 h2
      unfold prodS at ih ⊢
      rw [List.flatMap_cons, List.pairwise_append]
      refine ⟨?_, ih (fun q hq => h1 q (by simp [hq])) p.2, ?_⟩
      · rw [List.pairwise_map]
        exact hl.imp fun {a b} hab => by
          rw [cmpVs_app rfl]
          exact .inr ⟨rfl, by rw [cmpVs_lt]; exact .inl hab⟩
      · intro a ha b hb
        obtain ⟨v, _, rfl⟩ := List.mem_map.1 ha
        obtain ⟨q, hq, hb⟩ := List.mem_flatMap.1 hb
        obtain ⟨v', _, rfl⟩ := List.mem_map.1 hb
        rw [cmpVs_app (by rw [h1 r (by simp), h1 q (by simp [hq])])]
        exact .inl (p.1 q hq)
theorem madeV_lt {x : Nd} {a b : List V} (h : cmpVs a b < 0) : cmpV (madeV x a) (madeV x b) < 0 := by
  unfold madeV
  split
  · rw [cmpV_lt]; exact .inr ⟨rfl, .inr ⟨rfl, .inr ⟨rfl, h⟩⟩⟩
  · rw [cmpV_lt]; exact .inr ⟨rfl, .inr ⟨rfl, .inr ⟨rfl, h⟩⟩⟩
theorem made_srt {n : Nat} {x : Nd} {rows : List (List V)} (h : SrtR n rows) : Srt (rows.map (madeV x)) := by
  unfold Srt
  rw [List.pairwise_map]
  exact h.2.imp fun {a b} hab => madeV_lt hab
theorem rngV_srt (lo : Int) : ∀ n : Nat, Srt (rngV lo n)
  | 0 => .nil
  | n + 1 => by
    rw [rngV]
    unfold Srt
    rw [List.pairwise_append]
    refine ⟨rngV_srt lo n, List.pairwise_singleton _ _, fun a ha b hb => ?_⟩
    rw [List.mem_singleton] at hb
    subst hb
    have key : ∀ m, a ∈ rngV lo m → ∃ j : Nat, j < m ∧ a = numV (lo + j) := by
      intro m
      induction m with
      | zero => intro h; simp [rngV] at h
      | succ m ih =>
        intro h
        rw [rngV, List.mem_append, List.mem_singleton] at h
        rcases h with h | h
        · obtain ⟨j, h1, h2⟩ := ih h; exact ⟨j, by omega, h2⟩
        · exact ⟨m, by omega, h⟩
    obtain ⟨j, hj, rfl⟩ := key n ha
    unfold numV
    rw [cmpV_lt]
    exact .inr ⟨rfl, .inl (by omega)⟩
/-- all sets are sorted -/
theorem uniGo_srt {ls : List (Option (List V))} : ∀ (ks : List Int) (out : List V) (m : Bool), Srt out → Srt (uniGo ls ks out m).1
  | [], out, m, h => by simpa [uniGo] using h
  | k :: ks, out, m, h => by rw [uniGo]; exact uniGo_srt ks _ _ (srtV_srt _)
theorem setN_srt {ls : List (Option (List V))} {x : Nd} {l : List V} (h : setN ls x = some l) : Srt l := by
  unfold setN at h
  split at h
  · cases h; exact .one _
  split at h
  · split at h
    · cases h
    · cases h; exact rngV_srt _ _
  split at h
  · unfold seqN at h
    obtain ⟨rows, hr, rfl⟩ := Option.map_eq_some_iff.1 h
    exact srtV_srt _
  · unfold uniN at h
    split at h
    · cases h
    · cases h; exact uniGo_srt _ _ _ .nil
theorem setsT_srt {p : List Nd} {l : List V} (h : some l ∈ setsT p) : Srt l := by
  revert h
  refine snocInd (P := fun p => some l ∈ setsT p → Srt l) (fun h => by simp [setsT] at h) (fun p x ih h => ?_) p
  rw [setsT_snoc] at h
  rcases List.mem_append.1 h with h | h
  · exact ih h
  · exact setN_srt (List.mem_singleton.1 h).symm
theorem seqGo_srt {ls : List (Option (List V))} (hs : ∀ l, some l ∈ ls → Srt l) : ∀ (ks : List Int) (rows : List (List V)) (n : Nat), SrtR n rows → ∀ r, seqGo ls ks rows = some r → ∃ n, SrtR n r
  | [], rows, n, h, r, e => by simp only [seqGo, Option.some.injEq] at e; rw [← e]; exact ⟨n, h⟩
  | k :: ks, rows, n, h, r, e => by
    simp only [seqGo] at e
    split at e
    · cases e
    · rename_i l hl
      have hsl : Srt l := by
        refine hs l ?_
        unfold lstAt at hl
        rw [List.getD_eq_getElem?_getD] at hl
        rcases hq : ls[k.toNat]? with _ | o
        · rw [hq] at hl; cases hl
        · rw [hq] at hl
          have : o = some l := by simpa using hl
          rw [← this]; exact List.mem_of_getElem? hq
      by_cases hb : 1024 < rows.length * l.length
      · rw [if_pos hb] at e; cases e
      · rw [if_neg hb] at e
        exact seqGo_srt hs ks _ (n + 1) (prodS_srt h hsl) r e
theorem seqN_rows {ls : List (Option (List V))} {x : Nd} (hs : ∀ l, some l ∈ ls → Srt l) : seqN ls x = (seqGo ls x.kids [[]]).map fun rows => rows.map (madeV x) := by
  unfold seqN
  rcases hq : seqGo ls x.kids [[]] with _ | rows
  · rfl
  · obtain ⟨n, h⟩ := seqGo_srt hs x.kids [[]] 0 ⟨by simp, by simp⟩ rows hq
    simp only [Option.map_some, srtV_id (made_srt h)]
--END
end Go.Proofs.YtpochcchekoonaaGreat
