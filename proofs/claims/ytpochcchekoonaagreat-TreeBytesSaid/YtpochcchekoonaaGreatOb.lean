/-
  The values of a valid tree's nodes are of bounded size.
-/
import Derived.Test.YtpochcchekoonaaGreatRe
namespace Go.Proofs.YtpochcchekoonaaGreat
open Go.Rf Go.RowKit
set_option linter.unusedVariables false
set_option linter.unusedSimpArgs false
--BEGIN
inductive Pk (ls : List (Option (List V))) : List Int → List V → Prop
  | nil : Pk ls [] []
  | cons {k : Int} {ks : List Int} {l : List V} {v : V} {s : List V} : lstAt ls k = some l → v ∈ l → Pk ls ks s → Pk ls (k :: ks) (v :: s)
theorem seqGo_pk {ls : List (Option (List V))} : ∀ (ks : List Int) (rows out : List (List V)), seqGo ls ks rows = some out → ∀ r ∈ out, ∃ r0 ∈ rows, ∃ s, r = r0 ++ s ∧ Pk ls ks s
  | [], rows, out, h, r, hr => by
    simp only [seqGo, Option.some.injEq] at h
    subst h
    exact ⟨r, hr, [], by simp, .nil⟩
  | k :: ks, rows, out, h, r, hr => by
    rw [seqGo] at h
    rcases hq : lstAt ls k with _ | l
    · rw [hq] at h; cases h
    · rw [hq] at h
      simp only at h
      split at h
      · cases h
      · obtain ⟨r1, hr1, s, rfl, hs⟩ := seqGo_pk ks _ out h r hr
        unfold prodS at hr1
        obtain ⟨r0, hr0, h2⟩ := List.mem_flatMap.1 hr1
        obtain ⟨v, hv, rfl⟩ := List.mem_map.1 h2
        exact ⟨r0, hr0, v :: s, by simp, .cons hq hv hs⟩
theorem uni_of {ls : List (Option (List V))} : ∀ {ks : List Int} {out0 : List V} {m : Bool} {v : V}, v ∈ (uniGo ls ks out0 m).1 → v ∈ out0 ∨ ∃ k ∈ ks, ∃ l, lstAt ls k = some l ∧ v ∈ l
  | [], out0, m, v, h => .inl h
  | k :: ks, out0, m, v, h => by
    rw [uniGo] at h
    rcases uni_of h with h | ⟨q, hq, l, hl, hv⟩
    · rw [srtV_mem] at h
      rcases List.mem_append.1 h with h | h
      · exact .inl h
      · right
        rcases hq : lstAt ls k with _ | l
        · rw [hq] at h; simp at h
        · rw [hq] at h; exact ⟨k, by simp, l, hq, h⟩
    · exact .inr ⟨q, by simp [hq], l, hl, hv⟩
theorem uniN_of {ls : List (Option (List V))} {ks : List Int} {out : List V} {v : V} (h : uniN ls ks = some out) (hv : v ∈ out) : ∃ k ∈ ks, ∃ l, lstAt ls k = some l ∧ v ∈ l := by
  unfold uniN at h
  split at h
  · cases h
  · have := Option.some.inj h
    subst this
    rcases uni_of hv with h | h
    · simp at h
    · exact h
theorem rngV_of {lo : Int} : ∀ {n : Nat} {v : V}, v ∈ rngV lo n → ∃ i : Int, v = numV i
  | 0, v, h => by simp [rngV] at h
  | n + 1, v, h => by
    rw [rngV] at h
    rcases List.mem_append.1 h with h | h
    · exact rngV_of h
    · simp at h; exact ⟨_, h⟩
/-- what encoding needs of a value -/
inductive EV : V → Prop
  | mk {v : V} : InI64 v.kind → InI64 v.n → v.s.size ≤ 1000 → (∀ x ∈ v.kids, EV x) → EV v
theorem EV.kind {v : V} (h : EV v) : InI64 v.kind := by cases h; assumption
theorem EV.n {v : V} (h : EV v) : InI64 v.n := by cases h; assumption
theorem EV.s {v : V} (h : EV v) : v.s.size ≤ 1000 := by cases h; assumption
theorem EV.kids {v : V} (h : EV v) : ∀ x ∈ v.kids, EV x := by cases h; assumption
theorem numV_ev {n : Int} (h : InI64 n) : EV (numV n) := .mk (by simp [numV, InI64]) h (Nat.zero_le _) (by simp [numV])
/-- what encoding needs of a node -/
structure NdE (x : Nd) : Prop where
  name : x.name.size ≤ 1000
  labs : ∀ s ∈ x.labs, s.size ≤ 1000
  vals : ∀ v ∈ x.vals, EV v ∧ vsz v ≤ 2000
  val : EV x.val ∧ vsz x.val ≤ 2000
def okV (v : V) (z : Int) : Prop := VNm v ∧ (vsz v : Int) ≤ z
theorem pk_ok {t : List Nd} {k : Nat} : ∀ {ks : List Int} {s : List V}, Pk (setsT (t.take k)) ks s → (∀ q ∈ ks, ∀ l, lstAt (setsT (t.take k)) q = some l → ∀ v ∈ l, okV v (zT t q.toNat)) → (∀ v ∈ s, VNm v) ∧ (vszs s : Int) ≤ sumI (ks.map fun q => zT t q.toNat)
  | _, _, .nil, _ => by simp [vszs, sumI]
  | _, _, .cons (k := q) (ks := ks) (v := v) (s := s) h1 h2 h3, hq => by
    obtain ⟨h4, h5⟩ := pk_ok h3 (fun x hx => hq x (by simp [hx]))
    obtain ⟨h6, h7⟩ := hq q (by simp) _ h1 v h2
    refine ⟨fun x hx => ?_, ?_⟩
    · rcases List.mem_cons.1 hx with rfl | h
      · exact h6
      · exact h4 x h
    · simp only [vszs, List.map_cons, sumI]; omega
theorem setOk {t : List Nd} (h : VT t) (hok : ∀ x ∈ t, NdOk x) : ∀ k, k < t.length → ∀ l, sT t k = some l → ∀ v ∈ l, okV v (zT t k) := by
  refine vInd fun k hk ih l hl v hv => ?_
  have hokx := hok t[k] (by simp)
  rw [sT_eq hk] at hl
  have hkid : ∀ q ∈ t[k].kids, ∀ l, lstAt (setsT (t.take k)) q = some l → ∀ v ∈ l, okV v (zT t q.toNat) := by
    intro q hq l hl v hv
    obtain ⟨p, rfl, hp⟩ := h.kid hk hq
    rw [lstAt_eq hp (by omega)] at hl
    rw [Int.toNat_natCast]
    exact ih p hp l hl v hv
  have hz := zT_eq hk
  rcases kind5 h hk with h0 | h1 | h2 | h3 | h4
  · unfold setN at hl
    rw [if_pos h0] at hl
    have := Option.some.inj hl
    subst this
    simp only [List.mem_singleton] at hv
    subst hv
    refine ⟨hokx.val.1, ?_⟩
    rw [hz]; unfold sizN; rw [if_pos h0]; exact Int.le_refl _
  · unfold setN at hl
    rw [if_neg (by omega), if_pos h1] at hl
    split at hl
    · cases hl
    · have := Option.some.inj hl
      subst this
      obtain ⟨i, rfl⟩ := rngV_of hv
      refine ⟨.mk (Nat.zero_le _) (fun x hx => by simp [numV] at hx), ?_⟩
      rw [hz]; unfold sizN; rw [if_neg (by omega), if_pos h1]; simp [numV, vsz, vszs]
  · unfold setN at hl
    rw [if_neg (by omega), if_neg (by omega), if_neg (by omega)] at hl
    have hrm : remK t[k] 0 = t[k].kids := by unfold remK; rw [if_neg (by omega)]; rfl
    rw [hrm] at hl
    obtain ⟨q, hq, l', hl', hv'⟩ := uniN_of hl hv
    obtain ⟨a1, a2⟩ := hkid q hq l' hl' v hv'
    refine ⟨a1, Int.le_trans a2 ?_⟩
    rw [hz]; unfold sizN mst
    rw [if_neg (by omega), if_neg (by omega), if_neg (by omega), if_pos h2, zT_map h hk (fun k hk => hk)]
    exact maxI_ge (List.mem_map.2 ⟨q, hq, rfl⟩)
  · unfold setN at hl
    rw [if_neg (by omega), if_neg (by omega), if_pos h3] at hl
    unfold seqN at hl
    obtain ⟨rows, hr, rfl⟩ := Option.map_eq_some_iff.1 hl
    rw [srtV_mem] at hv
    obtain ⟨r, hr', rfl⟩ := List.mem_map.1 hv
    obtain ⟨r0, hr0, s, rfl, hpk⟩ := seqGo_pk _ _ _ hr r hr'
    simp only [List.mem_singleton] at hr0
    subst hr0
    rw [List.nil_append]
    obtain ⟨b1, b2⟩ := pk_ok hpk hkid
    have hmk := madeV_kids t[k] s
    have hsm : (madeV t[k] s).s.size ≤ 1000000000000 := by
      unfold madeV
      split
      · exact Nat.zero_le _
      · exact hokx.name
    refine ⟨.mk hsm (by rw [hmk]; exact b1), ?_⟩
    rw [vsz_eq, hmk, hz]; unfold sizN
    rw [if_neg (by omega), if_neg (by omega), if_pos h3, zT_map h hk (fun k hk => hk)]
    omega
  · unfold setN at hl
    rw [if_neg (by omega), if_neg (by omega), if_neg (by omega)] at hl
    have hrm : remK t[k] 0 = t[k].kids.tail := by unfold remK; rw [if_pos ⟨h4, rfl⟩, List.drop_one]
    rw [hrm] at hl
    obtain ⟨q, hq, l', hl', hv'⟩ := uniN_of hl hv
    obtain ⟨a1, a2⟩ := hkid q (List.mem_of_mem_tail hq) l' hl' v hv'
    refine ⟨a1, Int.le_trans a2 ?_⟩
    rw [hz]; unfold sizN mst
    rw [if_neg (by omega), if_neg (by omega), if_neg (by omega), if_neg (by omega), zT_map h hk (fun k hk => hk), ← List.map_tail]
    exact maxI_ge (List.mem_map.2 ⟨q, hq, rfl⟩)
theorem pk_ev {t : List Nd} {k : Nat} : ∀ {ks : List Int} {s : List V}, Pk (setsT (t.take k)) ks s → (∀ q ∈ ks, ∀ l, lstAt (setsT (t.take k)) q = some l → ∀ v ∈ l, EV v) → ∀ v ∈ s, EV v
  | _, _, .nil, _ => by simp
  | _, _, .cons (k := q) (ks := ks) (v := v) (s := s) h1 h2 h3, hq => fun x hx => by
    rcases List.mem_cons.1 hx with rfl | h
    · exact hq q (by simp) _ h1 _ h2
    · exact pk_ev h3 (fun x hx => hq x (by simp [hx])) x h
theorem rngV_in {lo : Int} : ∀ {n : Nat} {v : V}, v ∈ rngV lo n → ∃ i : Int, v = numV i ∧ lo ≤ i ∧ i < lo + n
  | 0, v, h => by simp [rngV] at h
  | n + 1, v, h => by
    rw [rngV] at h
    rcases List.mem_append.1 h with h | h
    · obtain ⟨i, h1, h2, h3⟩ := rngV_in h
      exact ⟨i, h1, h2, by omega⟩
    · simp at h; exact ⟨_, h, by omega, by omega⟩
theorem setEV {t : List Nd} (h : VT t) (hok : ∀ x ∈ t, NdE x) : ∀ k, k < t.length → ∀ l, sT t k = some l → ∀ v ∈ l, EV v := by
  refine vInd fun k hk ih l hl v hv => ?_
  have hokx := hok t[k] (by simp)
  rw [sT_eq hk] at hl
  have hkid : ∀ q ∈ t[k].kids, ∀ l, lstAt (setsT (t.take k)) q = some l → ∀ v ∈ l, EV v := by
    intro q hq l hl v hv
    obtain ⟨p, rfl, hp⟩ := h.kid hk hq
    rw [lstAt_eq hp (by omega)] at hl
    exact ih p hp l hl v hv
  have hrg := h.rng hk
  rcases kind5 h hk with h0 | h1 | h2 | h3 | h4
  · unfold setN at hl
    rw [if_pos h0] at hl
    have := Option.some.inj hl
    subst this
    simp only [List.mem_singleton] at hv
    subst hv
    exact hokx.val.1
  · unfold setN at hl
    rw [if_neg (by omega), if_pos h1] at hl
    split at hl
    · cases hl
    · have := Option.some.inj hl
      subst this
      obtain ⟨i, rfl, hi1, hi2⟩ := rngV_in hv
      exact numV_ev (by unfold InI64; omega)
  · unfold setN at hl
    rw [if_neg (by omega), if_neg (by omega), if_neg (by omega)] at hl
    have hrm : remK t[k] 0 = t[k].kids := by unfold remK; rw [if_neg (by omega)]; rfl
    rw [hrm] at hl
    obtain ⟨q, hq, l', hl', hv'⟩ := uniN_of hl hv
    exact hkid q hq l' hl' v hv'
  · unfold setN at hl
    rw [if_neg (by omega), if_neg (by omega), if_pos h3] at hl
    unfold seqN at hl
    obtain ⟨rows, hr, rfl⟩ := Option.map_eq_some_iff.1 hl
    rw [srtV_mem] at hv
    obtain ⟨r, hr', rfl⟩ := List.mem_map.1 hv
    obtain ⟨r0, hr0, s, rfl, hpk⟩ := seqGo_pk _ _ _ hr r hr'
    simp only [List.mem_singleton] at hr0
    subst hr0
    rw [List.nil_append]
    have b1 := pk_ev hpk hkid
    have hmk := madeV_kids t[k] s
    have hsm : (madeV t[k] s).s.size ≤ 1000 := by
      unfold madeV
      split
      · exact Nat.zero_le _
      · exact hokx.name
    refine .mk ?_ ?_ hsm (by rw [hmk]; exact b1)
    all_goals
      unfold madeV
      split <;> simp [InI64]
  · unfold setN at hl
    rw [if_neg (by omega), if_neg (by omega), if_neg (by omega)] at hl
    have hrm : remK t[k] 0 = t[k].kids.tail := by unfold remK; rw [if_pos ⟨h4, rfl⟩, List.drop_one]
    rw [hrm] at hl
    obtain ⟨q, hq, l', hl', hv'⟩ := uniN_of hl hv
    exact hkid q (List.mem_of_mem_tail hq) l' hl' v hv'
--END
end Go.Proofs.YtpochcchekoonaaGreat
