/-
  The plain law of scan: the open calls by clients.
-/
import Derived.Test.YtcogpedfnnfnaaaHp
namespace Go.Proofs.Ytcogpedfnnfnaaa
open Go.Rf Go.RowKit
set_option linter.unusedVariables false

structure OI (ops : List Cl) (op : List Int) : Prop where
  len : op.length = 4
  cl : ∀ o ∈ ops, 0 ≤ o.client ∧ o.client < 4
  at_ : ∀ c : Nat, c < 4 → (op[c]? = some (-1) ∧ ∀ o ∈ ops, isOpen o → o.client ≠ c) ∨
    (∃ j, ∃ hj : j < ops.length, op[c]? = some (j : Int) ∧ isOpen ops[j] ∧ ops[j].client = c ∧ ∀ j' (h' : j' < ops.length), isOpen ops[j'] → ops[j'].client = c → j' = j)
theorem OI.start : OI [] [-1, -1, -1, -1] := ⟨rfl, by simp, fun c hc => .inl ⟨by
  have : c = 0 ∨ c = 1 ∨ c = 2 ∨ c = 3 := by omega
  rcases this with rfl | rfl | rfl | rfl <;> rfl, by simp⟩⟩
theorem OI.none {ops : List Cl} {op : List Int} (h : OI ops op) {c : Nat} (hc : c < 4) : (∃ a, op[c]? = some a ∧ (a < 0 ∨ ∃ j : Nat, a = j ∧ j < ops.length) ∧ (0 ≤ a ↔ hasOpen ops c)) := by
  rcases h.at_ c hc with ⟨h1, h2⟩ | ⟨j, hj, h1, h2, h3, h4⟩
  · refine ⟨-1, h1, .inl (by omega), ⟨fun h => by omega, ?_⟩⟩
    rintro ⟨o, ho, h5, h6⟩
    exact absurd h6 (h2 o ho h5)
  · exact ⟨j, h1, .inr ⟨j, rfl, hj⟩, ⟨fun _ => ⟨ops[j], by simp, h2, h3⟩, fun _ => by omega⟩⟩
theorem OI.begin_ {ops : List Cl} {op : List Int} (h : OI ops op) {o : Cl} {c : Nat} (hc : c < 4) (ho : isOpen o) (hoc : o.client = c) (hn : ¬ hasOpen ops c) : OI (ops ++ [o]) (op.set c (ops.length : Int)) := by
  refine ⟨by simp [h.len], ?_, fun d hd => ?_⟩
  · intro x hx
    rcases List.mem_append.1 hx with h1 | h1
    · exact h.cl x h1
    · simp at h1; subst h1; omega
  · by_cases hdc : d = c
    · subst hdc
      refine .inr ⟨ops.length, by simp, by simp [h.len, hd], by simpa using ho, by simpa using hoc, fun j' h' h1 h2 => ?_⟩
      by_cases hj : j' < ops.length
      · rw [List.getElem_append_left hj] at h1 h2
        exact absurd ⟨ops[j'], by simp, h1, h2⟩ hn
      · simp at h'; omega
    · have hget : (op.set c (ops.length : Int))[d]? = op[d]? := by rw [List.getElem?_set_ne (by omega)]
      rcases h.at_ d hd with ⟨h1, h2⟩ | ⟨j, hj, h1, h2, h3, h4⟩
      · refine .inl ⟨by rw [hget]; exact h1, fun x hx hxo => ?_⟩
        rcases List.mem_append.1 hx with h5 | h5
        · exact h2 x h5 hxo
        · simp at h5; subst h5; rw [hoc]; omega
      · refine .inr ⟨j, by simp; omega, by rw [hget]; exact h1, by rw [List.getElem_append_left hj]; exact h2, by rw [List.getElem_append_left hj]; exact h3, fun j' h' h5 h6 => ?_⟩
        by_cases hj' : j' < ops.length
        · rw [List.getElem_append_left hj'] at h5 h6
          exact h4 j' hj' h5 h6
        · have : j' = ops.length := by simp at h'; omega
          subst this
          simp at h6
          omega
theorem OI.end_ {ops : List Cl} {op : List Int} (h : OI ops op) {c j : Nat} (hc : c < 4) (hj : j < ops.length) (hg : op[c]? = some (j : Int)) {o : Cl} (ho : ¬ isOpen o) (hoc : o.client = ops[j].client) : OI (ops.set j o) (op.set c (-1)) := by
  have hjc : isOpen ops[j] ∧ ops[j].client = c ∧ ∀ j' (h' : j' < ops.length), isOpen ops[j'] → ops[j'].client = c → j' = j := by
    rcases h.at_ c hc with ⟨h1, h2⟩ | ⟨j2, hj2, h1, h2, h3, h4⟩
    · rw [hg] at h1; simp at h1
    · rw [hg] at h1
      simp at h1
      have : j = j2 := by omega
      subst this
      exact ⟨h2, h3, h4⟩
  obtain ⟨g1, g2, g3⟩ := hjc
  refine ⟨by simp [h.len], ?_, fun d hd => ?_⟩
  · intro x hx
    rcases List.mem_or_eq_of_mem_set hx with h1 | h1
    · exact h.cl x h1
    · rw [h1, hoc]; exact h.cl _ (by simp)
  · by_cases hdc : d = c
    · subst hdc
      refine .inl ⟨by simp [h.len, hd], fun x hx hxo hxc => ?_⟩
      obtain ⟨k, hk, rfl⟩ := List.getElem_of_mem hx
      by_cases hkj : k = j
      · subst hkj; simp at hxo; exact ho hxo
      · rw [List.getElem_set_ne (by omega)] at hxo hxc
        simp at hk
        exact hkj (g3 k hk hxo hxc)
    · have hget : (op.set c (-1))[d]? = op[d]? := by rw [List.getElem?_set_ne (by omega)]
      rcases h.at_ d hd with ⟨h1, h2⟩ | ⟨j2, hj2, h1, h2, h3, h4⟩
      · refine .inl ⟨by rw [hget]; exact h1, fun x hx hxo => ?_⟩
        rcases List.mem_or_eq_of_mem_set hx with h5 | h5
        · exact h2 x h5 hxo
        · subst h5; exact absurd hxo ho
      · have hne : j2 ≠ j := fun e => by subst e; omega
        refine .inr ⟨j2, by simpa using hj2, by rw [hget]; exact h1, by rw [List.getElem_set_ne (by omega)]; exact h2, by rw [List.getElem_set_ne (by omega)]; exact h3, fun j' h' h5 h6 => ?_⟩
        by_cases hkj : j' = j
        · subst hkj; simp at h5; exact absurd h5 ho
        · rw [List.getElem_set_ne (by omega)] at h5 h6
          simp at h'
          exact h4 j' h' h5 h6

theorem map_upd_begin {i : Nat} {e : Ev} (hk : e.kind = 0) (ops : List Cl) : ops.map (updCl i e) = ops := by
  have : ∀ o, updCl i e o = o := fun o => by
    unfold updCl
    split
    · rw [if_neg (by omega), if_neg (by omega)]
    · rfl
  rw [List.map_congr_left (fun o _ => this o)]; simp
theorem map_upd_end {i : Nat} {e : Ev} (hk : e.kind = 1) {ops : List Cl} {op : List Int} (h : OI ops op) {c j : Nat} (hc : c < 4) (hec : e.client = c) (hj : j < ops.length) (hg : op[c]? = some (j : Int)) :
    ops.map (updCl i e) = ops.set j { ops[j] with fin := i, res := e.res } := by
  have hjc : isOpen ops[j] ∧ ops[j].client = c ∧ ∀ j' (h' : j' < ops.length), isOpen ops[j'] → ops[j'].client = c → j' = j := by
    rcases h.at_ c hc with ⟨h1, h2⟩ | ⟨j2, hj2, h1, h2, h3, h4⟩
    · rw [hg] at h1; simp at h1
    · rw [hg] at h1
      simp at h1
      have : j = j2 := by omega
      subst this
      exact ⟨h2, h3, h4⟩
  obtain ⟨g1, g2, g3⟩ := hjc
  apply List.ext_getElem (by simp)
  intro k h1 h2
  simp only [List.length_map] at h1
  rw [List.getElem_map, List.getElem_set]
  by_cases hkj : j = k
  · subst hkj
    rw [if_pos rfl]
    unfold updCl
    rw [if_pos g1, if_neg (by omega), if_pos ⟨hk, hec.trans g2.symm⟩]
  · rw [if_neg hkj]
    unfold updCl
    split
    · rename_i ho
      rw [if_neg (by omega), if_neg]
      rintro ⟨_, h4⟩
      exact hkj (g3 k h1 ho (by rw [← h4, hec])).symm
    · rfl
/-- after a crash, for the clients below c -/
def crashTo (i c : Nat) (o : Cl) : Cl := if isOpen o ∧ o.client < c then { o with lost := i } else o
theorem crash0 (i : Nat) {ops : List Cl} {op : List Int} (h : OI ops op) : ops.map (crashTo i 0) = ops := by
  have : ∀ o ∈ ops, crashTo i 0 o = id o := fun o ho => by
    have := h.cl o ho
    unfold crashTo
    rw [if_neg (by omega)]; rfl
  rw [List.map_congr_left this]; simp
theorem crash4 {i : Nat} {e : Ev} (hk : e.kind = 2) {ops : List Cl} {op : List Int} (h : OI ops op) : ops.map (crashTo i 4) = ops.map (updCl i e) := by
  apply List.map_congr_left
  intro o ho
  have := h.cl o ho
  unfold crashTo updCl
  by_cases h1 : isOpen o
  · rw [if_pos ⟨h1, by omega⟩, if_pos h1, if_pos hk]
  · rw [if_neg (fun h2 => h1 h2.1), if_neg h1]
theorem crash_none {i c : Nat} {ops : List Cl} (h : ∀ o ∈ ops, isOpen o → o.client ≠ c) : ops.map (crashTo i (c + 1)) = ops.map (crashTo i c) := by
  apply List.map_congr_left
  intro o ho
  unfold crashTo
  by_cases h1 : isOpen o
  · have := h o ho h1
    by_cases h2 : o.client < c
    · rw [if_pos ⟨h1, by omega⟩, if_pos ⟨h1, h2⟩]
    · rw [if_neg (by omega), if_neg (by omega)]
  · rw [if_neg (fun h2 => h1 h2.1), if_neg (fun h2 => h1 h2.1)]
theorem crash_one {i c j : Nat} {ops : List Cl} (hj : j < ops.length) (h1 : isOpen ops[j]) (h2 : ops[j].client = c) (h3 : ∀ j' (h' : j' < ops.length), isOpen ops[j'] → ops[j'].client = c → j' = j) :
    ops.map (crashTo i (c + 1)) = (ops.map (crashTo i c)).set j { ops[j] with lost := i } := by
  apply List.ext_getElem (by simp)
  intro k h4 h5
  simp only [List.length_map] at h4
  rw [List.getElem_map, List.getElem_set]
  by_cases hkj : j = k
  · subst hkj
    rw [if_pos rfl]
    unfold crashTo
    rw [if_pos ⟨h1, by omega⟩]
  · rw [if_neg hkj, List.getElem_map]
    unfold crashTo
    by_cases h6 : isOpen ops[k]
    · have : ops[k].client ≠ c := fun h => hkj (h3 k h4 h6 h).symm
      by_cases h7 : ops[k].client < c
      · rw [if_pos ⟨h6, by omega⟩, if_pos ⟨h6, h7⟩]
      · rw [if_neg (by omega), if_neg (by omega)]
    · rw [if_neg (fun h => h6 h.1), if_neg (fun h => h6 h.1)]
theorem OI.crash {i : Nat} {ops : List Cl} {op : List Int} (h : OI ops op) : OI (ops.map (crashTo i 4)) [-1, -1, -1, -1] := by
  refine ⟨rfl, ?_, fun c hc => .inl ⟨by
    have : c = 0 ∨ c = 1 ∨ c = 2 ∨ c = 3 := by omega
    rcases this with rfl | rfl | rfl | rfl <;> rfl, ?_⟩⟩
  · intro x hx
    obtain ⟨o, ho, rfl⟩ := List.mem_map.1 hx
    have := h.cl o ho
    unfold crashTo; split <;> exact this
  · intro x hx hxo
    obtain ⟨o, ho, rfl⟩ := List.mem_map.1 hx
    have := h.cl o ho
    unfold crashTo at hxo
    split at hxo
    · have := hxo.2; simp at this
    · rename_i hn
      exact absurd ⟨hxo, by omega⟩ hn
theorem fmd_ok {e : Ev} (h : fmdE e = 0) : 0 ≤ e.kind ∧ e.kind ≤ 2 ∧ 0 ≤ e.client ∧ e.client < 4 ∧ (e.kind = 2 → e.client = 0) := by
  unfold fmdE at h
  by_cases hb : e.kind < 0 ∨ 2 < e.kind ∨ e.client < 0 ∨ 3 < e.client
  · rw [if_pos hb] at h; omega
  · rw [if_neg hb] at h
    by_cases h2 : e.kind = 2 ∧ e.client ≠ 0 ∨ e.kind ≠ 0 ∧ (e.name ≠ ⟨#[]⟩ ∨ 0 < e.args.length) ∨ e.kind ≠ 1 ∧ zeroV e.res = false
    · rw [if_pos h2] at h; omega
    · refine ⟨by omega, by omega, by omega, by omega, fun hk => Decidable.byContradiction fun hc => h2 (.inl ⟨hk, hc⟩)⟩

/-- one cell, or a few, of one row -/
theorem row_patch {ys cs us : List Value} {a k off : Nat} (hc : (ys.drop (a * k)).take k = cs) (hl : cs.length = k) (ho : off + us.length ≤ k) (hy : (a + 1) * k ≤ ys.length) :
    ys.take (a * k + off) ++ us ++ ys.drop (a * k + off + us.length) = ys.take (a * k) ++ (cs.take off ++ us ++ cs.drop (off + us.length)) ++ ys.drop ((a + 1) * k) := by
  have e1 : ys.take (a * k + off) = ys.take (a * k) ++ cs.take off := by
    rw [List.take_add, ← hc, List.take_take, Nat.min_eq_left (by omega)]
  have e2 : ys.drop (a * k + off + us.length) = cs.drop (off + us.length) ++ ys.drop ((a + 1) * k) := by
    rw [Nat.succ_mul, ← hc]
    have h1 : ys.drop (a * k + off + us.length) = (ys.drop (a * k)).drop (off + us.length) := by rw [List.drop_drop]; congr 1; omega
    have h2 : ys.drop (a * k + k) = (ys.drop (a * k)).drop k := by rw [List.drop_drop]
    rw [h1, h2]
    generalize ys.drop (a * k) = zs
    conv => lhs; rw [← List.take_append_drop k zs]
    rw [List.drop_append]
    by_cases hz : k ≤ zs.length
    · rw [List.length_take, Nat.min_eq_left hz]
      have : off + us.length - k = 0 := by omega
      rw [this, List.drop_zero]
    · have h3 : zs.drop k = [] := List.drop_eq_nil_of_le (by omega)
      rw [h3]; simp
  rw [e1, e2]
  simp
end Go.Proofs.Ytcogpedfnnfnaaa
