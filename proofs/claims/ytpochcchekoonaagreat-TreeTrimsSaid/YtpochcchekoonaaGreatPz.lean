/-
  Plain mathematics: what was read is what was written; texts and their bytes.
-/
import Derived.Test.YtpochcchekoonaaGreatPlain2
namespace Go.Rf
set_option linter.unusedVariables false
set_option linter.unusedSimpArgs false
theorem zz_back {u : Nat} : zz (back u) = u := by unfold zz back; split <;> split <;> omega
theorem rdL_inv : ∀ (bs : List Int) (i acc m : Nat) (l : List Int), rdL bs i acc = .ok (m, l) → i ≤ 9 → Bys bs → ∃ q, m = acc + q * 128 ^ i ∧ bs = uv q ++ l ∧ (0 < i → q ≠ 0)
  | [], i, acc, m, l, h, _, _ => by simp [rdL] at h
  | b :: bs, i, acc, m, l, h, hi, hB => by
    have hb := hB b (by simp)
    unfold rdL at h
    split at h
    · cases h
    · rename_i hbad
      split at h
      · simp only [Except.ok.injEq, Prod.mk.injEq] at h
        obtain ⟨rfl, rfl⟩ := h
        refine ⟨(b % 128).toNat, rfl, ?_, by omega⟩
        rw [uv_lt (by omega), List.singleton_append]
        congr 1
        omega
      · have h9 : i ≠ 9 := by omega
        obtain ⟨q, h1, h2, h3⟩ := rdL_inv bs (i + 1) _ m l h (by omega) (fun x hx => hB x (by simp [hx]))
        have hq := h3 (by omega)
        refine ⟨(b % 128).toNat + 128 * q, ?_, ?_, by omega⟩
        · rw [h1, Nat.pow_succ, Nat.add_mul, Nat.add_assoc]
          congr 2
          rw [Nat.mul_comm (128 ^ i) 128, ← Nat.mul_assoc, Nat.mul_comm q 128]
        · rw [uv_ge (by omega), List.cons_append]
          have e1 : ((b % 128).toNat + 128 * q) / 128 = q := by omega
          rw [e1, ← h2]
          congr 1
          omega
theorem rdU_inv {bs : List Int} (hB : Bys bs) (h : (rdU bs 0).2.2 = 0) : bs = uv (rdU bs 0).1 ++ (rdU bs 0).2.1 := by
  unfold rdU at h ⊢
  rw [if_neg (by simp)] at h ⊢
  cases hr : rdL bs 0 0 with
  | error x =>
    rw [hr] at h
    have := rdL_err bs 0 0 x hr
    simp only at h; omega
  | ok r =>
    obtain ⟨m, l⟩ := r
    obtain ⟨q, h1, h2, _⟩ := rdL_inv bs 0 0 m l hr (by omega) hB
    have : m = q := by rw [h1]; simp
    subst this
    exact h2
theorem rdI_inv {bs : List Int} (hB : Bys bs) (h : (rdI bs 0).2.2 = 0) : bs = iv (rdI bs 0).1 ++ (rdI bs 0).2.1 := by
  unfold rdI at h ⊢
  simp only [iv, zz_back]
  exact rdU_inv hB h
theorem rdN_inv {bs : List Int} (hB : Bys bs) (h : (rdN bs 0).2.2 = 0) : bs = uv (rdN bs 0).1 ++ (rdN bs 0).2.1 ∧ (rdN bs 0).1 ≤ (rdN bs 0).2.1.length := by
  unfold rdN at h ⊢
  split
  · rename_i he; rw [if_pos he] at h; exact absurd h he
  · rename_i he; rw [if_neg he] at h
    split
    · rename_i h2; rw [if_pos h2] at h; simp at h
    · exact ⟨rdU_inv hB (by omega), by simp only; omega⟩

theorem rdR_inv {bs : List Int} (hB : Bys bs) (h : (rdR bs 0).2.2 = 0) : bs = raw (rdR bs 0).1 ++ (rdR bs 0).2.1 := by
  obtain ⟨h1, h2⟩ := rdN_inv hB h
  unfold rdR raw
  simp only
  rw [List.length_take, Nat.min_eq_left h2, List.append_assoc, List.take_append_drop]
  exact h1
theorem rdU_stick {bs : List Int} {e : Int} (h : (rdU bs e).2.2 = 0) : e = 0 := by
  unfold rdU at h
  by_cases he : e = 0
  · exact he
  · rw [if_pos he] at h; exact h
theorem rdI_stick {bs : List Int} {e : Int} (h : (rdI bs e).2.2 = 0) : e = 0 := rdU_stick h
theorem rdN_stick {bs : List Int} {e : Int} (h : (rdN bs e).2.2 = 0) : e = 0 := by
  unfold rdN at h
  split at h
  · exact rdU_stick h
  · rename_i h1; exact rdU_stick (Decidable.not_not.1 h1)
theorem rdR_stick {bs : List Int} {e : Int} (h : (rdR bs e).2.2 = 0) : e = 0 := rdN_stick h
theorem rdB_stick {bs : List Int} {e : Int} (h : (rdB bs e).2.2 = 0) : e = 0 := by
  unfold rdB at h
  by_cases he : e = 0
  · exact he
  · rw [if_pos he] at h; exact h
theorem rdB_inv {bs : List Int} (hB : Bys bs) (h : (rdB bs 0).2.2 = 0) : bs = [if (rdB bs 0).1 = true then 1 else 0] ++ (rdB bs 0).2.1 := by
  cases bs with
  | nil => simp [rdB] at h
  | cons b l =>
    have hb := hB b (by simp)
    by_cases h1 : 1 < b
    · have e : rdB (b :: l) 0 = (false, b :: l, 2) := by simp [rdB, h1]
      rw [e] at h; simp at h
    · have e : rdB (b :: l) 0 = (decide (b = 1), l, 0) := by simp [rdB, h1]
      rw [e]
      have : b = 0 ∨ b = 1 := by omega
      rcases this with rfl | rfl <;> simp
theorem size0 (n : Nat) : (⟨#[]⟩ : ByteArray).size ≤ n := Nat.zero_le _
theorem rdI_bys {bs : List Int} {e : Int} (hB : Bys bs) : Bys (rdI bs e).2.1 ∧ (rdI bs e).2.1.length ≤ bs.length := ⟨rdU_bys hB, (rdU_ok hB).2.1⟩
theorem rdR_bys {bs : List Int} {e : Int} (hB : Bys bs) : Bys (rdR bs e).2.1 ∧ (rdR bs e).2.1.length ≤ bs.length ∧ Bys (rdR bs e).1 ∧ (rdR bs e).1.length ≤ bs.length := by
  obtain ⟨h1, h2, ⟨k, h3⟩, h4⟩ := rdN_ok (e := e) hB
  have hb : Bys (rdN bs e).2.1 := by rw [h3]; exact hB.drop k
  unfold rdR
  refine ⟨hb.drop _, ?_, hb.take _, ?_⟩
  · simp only [List.length_drop]; omega
  · simp only [List.length_take]; omega
theorem rdB_bys {bs : List Int} {e : Int} (hB : Bys bs) : Bys (rdB bs e).2.1 ∧ (rdB bs e).2.1.length ≤ bs.length := by
  unfold rdB
  split
  · exact ⟨hB, Nat.le_refl _⟩
  · cases bs with
    | nil => exact ⟨hB, Nat.le_refl _⟩
    | cons b l =>
      simp only
      split
      · exact ⟨hB, Nat.le_refl _⟩
      · exact ⟨fun x hx => hB x (by simp [hx]), by simp⟩
theorem strOf_sb {bs : List Int} (h : Bys bs) : sb (strOf bs) = bs := by
  unfold sb strOf
  simp only [List.map_map]
  conv => rhs; rw [← List.map_id bs]
  apply List.map_congr_left
  intro b hb
  have := h b hb
  simp only [Function.comp, id]
  rw [UInt8.toNat_ofNat']
  omega
theorem strOf_size (bs : List Int) : (strOf bs).size = bs.length := by simp [strOf, ByteArray.size]
theorem sb_strOf (s : ByteArray) : strOf (sb s) = s := by
  unfold sb strOf
  cases s with
  | mk d =>
    congr 1
    apply Array.toList_inj.1
    simp only [List.map_map]
    conv => rhs; rw [← List.map_id d.toList]
    apply List.map_congr_left
    intro b _
    simp
theorem sb_bys (s : ByteArray) : Bys (sb s) := by
  intro b hb
  unfold sb at hb
  obtain ⟨c, _, rfl⟩ := List.mem_map.1 hb
  have := c.toNat_lt
  omega
end Go.Rf
