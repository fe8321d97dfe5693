/-
  Plain mathematics: what is written is read back.
-/
import Derived.Test.YtpochcchekoonaaGreatPlain
namespace Go.Rf
theorem uv_bys (n : Nat) : Bys (uv n) := by
  induction n using Nat.strongRecOn with
  | _ n ih =>
    by_cases h : n < 128
    · rw [uv_lt h]; intro b hb; simp at hb; omega
    · rw [uv_ge (by omega)]
      intro b hb
      rcases List.mem_cons.1 hb with rfl | hb
      · omega
      · exact ih (n / 128) (by omega) b hb
theorem Bys.append {xs ys : List Int} (h : Bys xs) (k : Bys ys) : Bys (xs ++ ys) := fun b hb => by
  rcases List.mem_append.1 hb with hb | hb
  · exact h b hb
  · exact k b hb
theorem iv_bys (n : Int) : Bys (iv n) := uv_bys _
theorem raw_bys {bs : List Int} (h : Bys bs) : Bys (raw bs) := (uv_bys _).append h
theorem ints_bys (ns : List Int) : Bys (ints ns) := (uv_bys _).append fun b hb => by
  obtain ⟨n, _, hn⟩ := List.mem_flatMap.1 hb
  exact iv_bys n b hn
theorem rdL_uv (m : Nat) : ∀ (i acc : Nat) (rest : List Int), i ≤ 9 → m * 128 ^ i < 18446744073709551616 → (0 < i → m ≠ 0) → rdL (uv m ++ rest) i acc = .ok (acc + m * 128 ^ i, rest) := by
  induction m using Nat.strongRecOn with
  | _ m ih =>
    intro i acc rest hi hfit h0
    have h9 : i = 9 → m ≤ 1 := by
      intro e; subst e
      have e : (128 : Nat) ^ 9 = 9223372036854775808 := by decide
      rw [e] at hfit; omega
    by_cases h : m < 128
    · rw [uv_lt h, List.singleton_append, rdL, if_neg (by omega), if_pos (by omega)]
      have : ((m : Int) % 128).toNat = m := by omega
      rw [this]
    · rw [uv_ge (by omega), List.cons_append, rdL, if_neg (by omega), if_neg (by omega)]
      have e1 : (((m % 128 + 128 : Nat) : Int) % 128).toNat = m % 128 := by omega
      have e2 : m % 128 * 128 ^ i + m / 128 * 128 ^ (i + 1) = m * 128 ^ i := by
        rw [Nat.pow_succ, ← Nat.mul_assoc, Nat.mul_right_comm, ← Nat.add_mul]
        congr 1
        omega
      rw [e1, ih (m / 128) (by omega) (i + 1) _ rest (by omega) (by omega) (fun _ => by omega), Nat.add_assoc, e2]
theorem rdU_uv {m : Nat} (h : m < 18446744073709551616) (rest : List Int) : rdU (uv m ++ rest) 0 = (m, rest, 0) := by
  rw [rdU, if_neg (by simp), rdL_uv m 0 0 rest (by omega) (by simpa using h) (by omega)]
  simp
theorem back_zz (n : Int) : back (zz n) = n := by
  unfold back zz
  split <;> split <;> omega
theorem rdI_iv {n : Int} (h1 : -9223372036854775808 ≤ n) (h2 : n ≤ 9223372036854775807) (rest : List Int) : rdI (iv n ++ rest) 0 = (n, rest, 0) := by
  rw [rdI, iv, rdU_uv (zz_lt h1 h2), back_zz]
theorem rdN_uv {m : Nat} {rest : List Int} (h : m < 18446744073709551616) (hl : m ≤ rest.length) : rdN (uv m ++ rest) 0 = (m, rest, 0) := by
  simp only [rdN, rdU_uv h]
  rw [if_neg (by simp), if_neg (by omega)]
theorem rdR_raw {bs : List Int} (h : bs.length < 18446744073709551616) (rest : List Int) : rdR (raw bs ++ rest) 0 = (bs, rest, 0) := by
  simp only [rdR, raw, List.append_assoc]
  rw [rdN_uv h (by simp)]
  simp
theorem rdMany_iv : ∀ (ns : List Int) (rest : List Int), (∀ n ∈ ns, -9223372036854775808 ≤ n ∧ n ≤ 9223372036854775807) → rdMany ns.length (ns.flatMap iv ++ rest) 0 = (ns, rest, 0)
  | [], rest, _ => rfl
  | n :: ns, rest, h => by
    have hn := h n (by simp)
    simp only [List.length_cons, List.flatMap_cons, List.append_assoc, rdMany]
    rw [if_neg (by simp), rdI_iv hn.1 hn.2]
    simp only
    rw [rdMany_iv ns rest (fun m hm => h m (by simp [hm]))]
theorem flatMap_iv_pos (ns : List Int) : ns.length ≤ (ns.flatMap iv).length := by
  induction ns with
  | nil => simp
  | cons n ns ih =>
    have := uv_pos (zz n)
    simp only [List.flatMap_cons, List.length_append, List.length_cons, iv] at ih ⊢; omega
theorem rdIs_ints {ns : List Int} (hl : ns.length < 18446744073709551616) (h : ∀ n ∈ ns, -9223372036854775808 ≤ n ∧ n ≤ 9223372036854775807) (rest : List Int) : rdIs (ints ns ++ rest) 0 = (ns, rest, 0) := by
  have hp := flatMap_iv_pos ns
  have e : ints ns ++ rest = uv ns.length ++ (ns.flatMap iv ++ rest) := by simp [ints]
  simp only [rdIs, e]
  rw [rdN_uv hl (by rw [List.length_append]; omega)]
  simp only
  rw [rdMany_iv ns rest h]
  simp
theorem fdiv_in {z : Int} (h1 : -9223372036854775808 ≤ z) (h2 : z ≤ 9223372036854775807) (k : Nat) : -9223372036854775808 ≤ z.fdiv (2 ^ k) ∧ z.fdiv (2 ^ k) ≤ 9223372036854775807 := by
  have hd : (1 : Int) ≤ 2 ^ k := by
    have : (0 : Int) < 2 ^ k := Int.pow_pos (by omega)
    omega
  rw [Int.fdiv_eq_ediv_of_nonneg _ (by omega)]
  generalize (2 : Int) ^ k = d at hd
  by_cases hz : 0 ≤ z
  · have h3 := Int.ediv_nonneg hz (show (0 : Int) ≤ d by omega)
    have h4 := Int.ediv_le_self d hz
    omega
  · have h3 : z / d < 0 := Int.ediv_neg_of_neg_of_pos (by omega) (by omega)
    have h4 := Int.lt_ediv_add_one_mul_self z (show (0 : Int) < d by omega)
    have h5 : (z / d + 1) * d ≤ (z / d + 1) * 1 := Int.mul_le_mul_of_nonpos_left (by omega) hd
    omega
theorem tdiv_in {z : Int} (h1 : -9223372036854775808 ≤ z) (h2 : z ≤ 9223372036854775807) (d : Int) (hd : 1 ≤ d) : -9223372036854775808 ≤ z.tdiv d ∧ z.tdiv d ≤ 9223372036854775807 := by
  by_cases hz : 0 ≤ z
  · rw [Int.tdiv_eq_ediv_of_nonneg hz]
    have h3 := Int.ediv_nonneg hz (show (0 : Int) ≤ d by omega)
    have h4 := Int.ediv_le_self d hz
    omega
  · have e : z.tdiv d = -((-z) / d) := by
      have : z = -(-z) := by omega
      conv => lhs; rw [this]
      rw [Int.neg_tdiv, Int.tdiv_eq_ediv_of_nonneg (by omega)]
    rw [e]
    have h3 := Int.ediv_nonneg (show (0 : Int) ≤ -z by omega) (show (0 : Int) ≤ d by omega)
    have h4 := Int.ediv_le_self d (show (0 : Int) ≤ -z by omega)
    omega
end Go.Rf
