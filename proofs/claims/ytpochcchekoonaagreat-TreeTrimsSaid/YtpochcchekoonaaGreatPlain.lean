/-
  Plain mathematics: numbers and lists of bytes. No program in sight.
-/
import Derived.Test.YtpochcchekoonaaGreatK1
namespace Go.Rf
/-- refuterref01.Around -/
def arnd (a m : Int) : Int := (if a < 0 then -(a + 1) else a) % m
theorem arnd_range {a m : Int} (h : 0 < m) : 0 ≤ arnd a m ∧ arnd a m < m := ⟨Int.emod_nonneg _ (by omega), Int.emod_lt_of_pos _ h⟩
/-- the varint -/
def uv (n : Nat) : List Int := if h : n < 128 then [(n : Int)] else ((n % 128 + 128 : Nat) : Int) :: uv (n / 128)
  termination_by n
  decreasing_by omega
theorem uv_lt {n : Nat} (h : n < 128) : uv n = [(n : Int)] := by rw [uv, dif_pos h]
theorem uv_ge {n : Nat} (h : 128 ≤ n) : uv n = ((n % 128 + 128 : Nat) : Int) :: uv (n / 128) := by rw [uv, dif_neg (by omega)]
theorem uv_len_pow : ∀ (k n : Nat), n < 128 ^ (k + 1) → (uv n).length ≤ k + 1
  | 0, n, h => by rw [uv_lt (by simpa using h)]; simp
  | k + 1, n, h => by
    by_cases hn : n < 128
    · rw [uv_lt hn]; simp
    · rw [uv_ge (by omega)]
      have := uv_len_pow k (n / 128) (by rw [Nat.div_lt_iff_lt_mul (by omega)]; rw [Nat.pow_succ] at h; exact h)
      simp; omega
theorem uv_len (n : Nat) (h : n < 18446744073709551616) : (uv n).length ≤ 10 :=
  uv_len_pow 9 n (Nat.lt_of_lt_of_le h (by decide))
theorem uv_pos (n : Nat) : 0 < (uv n).length := by
  by_cases h : n < 128
  · rw [uv_lt h]; simp
  · rw [uv_ge (by omega)]; simp
/-- zigzag -/
def zz (n : Int) : Nat := if n < 0 then (2 * (-(n + 1)) + 1).toNat else (2 * n).toNat
theorem zz_lt {n : Int} (h1 : -9223372036854775808 ≤ n) (h2 : n ≤ 9223372036854775807) : zz n < 18446744073709551616 := by unfold zz; split <;> omega
def iv (n : Int) : List Int := uv (zz n)

theorem u8_wrap (n : Int) : IntKind.u8.wrap n = n % 256 := by rw [IntKind.wrap_u8]
theorem or128 (m : Nat) : IntKind.u8.wrap ((BitVec.ofInt IntKind.u8.bits ((m : Int) % 256) ||| BitVec.ofInt IntKind.u8.bits 128).toNat : Int) = ((m % 128 + 128 : Nat) : Int) := by
  have key : ∀ b : BitVec 8, (b ||| 128#8).toNat = b.toNat % 128 + 128 := by decide
  have e1 : BitVec.ofInt 8 128 = 128#8 := by decide
  have h := key (BitVec.ofInt 8 ((m : Int) % 256))
  show IntKind.u8.wrap ((BitVec.ofInt 8 ((m : Int) % 256) ||| BitVec.ofInt 8 128).toNat : Int) = _
  rw [e1, h, u8_wrap]
  have e2 : (BitVec.ofInt 8 ((m : Int) % 256)).toNat = m % 256 := by
    rw [BitVec.toNat_ofInt]; omega
  rw [e2]; omega
theorem shr7 (m : Nat) : ((m : Int)).fdiv (2 ^ (min (7 : Int).toNat IntKind.u64.bits)) = ((m / 128 : Nat) : Int) := by
  have : (2 ^ (min (7 : Int).toNat IntKind.u64.bits) : Int) = 128 := by decide
  rw [this, Int.fdiv_eq_ediv_of_nonneg _ (by omega)]; omega
theorem u64_wrap (n : Int) : IntKind.u64.wrap n = n % 18446744073709551616 := by
  simp only [IntKind.wrap, IntKind.bits, IntKind.signed]; simp
theorem i64_wrap (n : Int) : IntKind.i64.wrap n = if n % 18446744073709551616 ≥ 9223372036854775808 then n % 18446744073709551616 - 18446744073709551616 else n % 18446744073709551616 := by
  simp only [IntKind.wrap, IntKind.bits, IntKind.signed]; simp
theorem ofInt64 (a : Int) (h0 : 0 ≤ a) (h1 : a < 18446744073709551616) : (BitVec.ofInt 64 a).toNat = a.toNat := by
  rw [BitVec.toNat_ofInt]
  have : a % ((2 ^ 64 : Nat) : Int) = a := Int.emod_eq_of_lt h0 (by simpa using h1)
  rw [this]
theorem xor0 (a : Int) (h0 : 0 ≤ a) (h1 : a < 18446744073709551616) : IntKind.u64.wrap ((BitVec.ofInt IntKind.u64.bits a ^^^ BitVec.ofInt IntKind.u64.bits 0).toNat : Int) = a := by
  show IntKind.u64.wrap ((BitVec.ofInt 64 a ^^^ BitVec.ofInt 64 0).toNat : Int) = _
  have e : BitVec.ofInt 64 0 = 0#64 := by decide
  rw [e, BitVec.xor_zero, ofInt64 a h0 h1, u64_wrap]; omega
theorem xor1 (a : Int) (h0 : 0 ≤ a) (h1 : a < 18446744073709551616) : IntKind.u64.wrap ((BitVec.ofInt IntKind.u64.bits a ^^^ BitVec.ofInt IntKind.u64.bits 18446744073709551615).toNat : Int) = 18446744073709551615 - a := by
  show IntKind.u64.wrap ((BitVec.ofInt 64 a ^^^ BitVec.ofInt 64 18446744073709551615).toNat : Int) = _
  have e : BitVec.ofInt 64 18446744073709551615 = BitVec.allOnes 64 := by decide
  rw [e, BitVec.xor_allOnes, BitVec.toNat_not, ofInt64 a h0 h1, u64_wrap]
  have : ((2 ^ 64 - 1 - a.toNat : Nat) : Int) = 18446744073709551615 - a := by
    have : (2 ^ 64 : Nat) = 18446744073709551616 := by decide
    omega
  rw [this]; omega
/-- a string's bytes -/
def sb (s : ByteArray) : List Int := s.data.toList.map fun c => (c.toNat : Int)
theorem sb_len (s : ByteArray) : (sb s).length = s.size := by simp [sb]
def raw (bs : List Int) : List Int := uv bs.length ++ bs
def ints (ns : List Int) : List Int := uv ns.length ++ ns.flatMap iv
theorem iv_len {n : Int} (h1 : -9223372036854775808 ≤ n) (h2 : n ≤ 9223372036854775807) : (iv n).length ≤ 10 := uv_len _ (zz_lt h1 h2)
/-! ### reading -/
theorem and127 {b : Int} (h0 : 0 ≤ b) (h1 : b < 256) : IntKind.u8.wrap ((BitVec.ofInt IntKind.u8.bits b &&& BitVec.ofInt IntKind.u8.bits 127).toNat : Int) = b % 128 := by
  have key : ∀ x : BitVec 8, (x &&& 127#8).toNat = x.toNat % 128 := by decide
  have e1 : BitVec.ofInt 8 127 = 127#8 := by decide
  show IntKind.u8.wrap ((BitVec.ofInt 8 b &&& BitVec.ofInt 8 127).toNat : Int) = _
  rw [e1, key, u8_wrap]
  have e2 : (BitVec.ofInt 8 b).toNat = b.toNat := by rw [BitVec.toNat_ofInt]; omega
  rw [e2]; omega
theorem pow128 (i : Nat) : (2 : Nat) ^ (7 * i) = 128 ^ i := by rw [Nat.pow_mul]
theorem pow128_le {i : Nat} (h : i ≤ 9) : 128 ^ i ≤ 9223372036854775808 := by
  have : 128 ^ i ≤ 128 ^ 9 := Nat.pow_le_pow_right (by omega) h
  have e : (128 : Nat) ^ 9 = 9223372036854775808 := by decide
  omega
theorem pow128_le8 {i : Nat} (h : i ≤ 8) : 128 ^ i ≤ 72057594037927936 := by
  have : 128 ^ i ≤ 128 ^ 8 := Nat.pow_le_pow_right (by omega) h
  have e : (128 : Nat) ^ 8 = 72057594037927936 := by decide
  omega
theorem bits_fit {i c : Nat} (hi : i ≤ 9) (hc : c < 128) (h9 : i = 9 → c ≤ 1) : c * 128 ^ i ≤ 9223372036854775808 := by
  by_cases h : i = 9
  · subst h
    have := h9 rfl
    have e : (128 : Nat) ^ 9 = 9223372036854775808 := by decide
    have : c * 128 ^ 9 ≤ 1 * 128 ^ 9 := Nat.mul_le_mul_right _ this
    omega
  · have h1 := pow128_le8 (i := i) (by omega)
    have : c * 128 ^ i ≤ 127 * 72057594037927936 := Nat.mul_le_mul (by omega) h1
    omega
theorem shl7 {i c : Nat} (hi : i ≤ 9) (hc : c < 128) (h9 : i = 9 → c ≤ 1) : IntKind.u64.wrap ((c : Int) * 2 ^ (min ((7 : Int) * (i : Int)).toNat IntKind.u64.bits)) = ((c * 128 ^ i : Nat) : Int) := by
  have hb := bits_fit hi hc h9
  have e1 : min ((7 : Int) * (i : Int)).toNat IntKind.u64.bits = 7 * i := by
    have : IntKind.u64.bits = 64 := rfl
    rw [this]; omega
  have e3 : ((c : Int) * 2 ^ (7 * i)) = ((c * 128 ^ i : Nat) : Int) := by rw [← pow128]; simp
  rw [e1, e3, u64_wrap]; omega
theorem or_add {i c acc : Nat} (hi : i ≤ 9) (hc : c < 128) (h9 : i = 9 → c ≤ 1) (ha : acc < 128 ^ i) :
    IntKind.u64.wrap ((BitVec.ofInt IntKind.u64.bits (acc : Int) ||| BitVec.ofInt IntKind.u64.bits ((c * 128 ^ i : Nat) : Int)).toNat : Int) = ((acc + c * 128 ^ i : Nat) : Int) := by
  have hb := bits_fit hi hc h9
  have hp := pow128_le hi
  show IntKind.u64.wrap ((BitVec.ofInt 64 (acc : Int) ||| BitVec.ofInt 64 ((c * 128 ^ i : Nat) : Int)).toNat : Int) = _
  have e : acc ||| c * 128 ^ i = acc + c * 128 ^ i := by
    have := Nat.shiftLeft_add_eq_or_of_lt (a := c) (b := acc) (i := 7 * i) (by rw [pow128]; exact ha)
    rw [Nat.shiftLeft_eq, pow128] at this
    rw [Nat.or_comm, ← this]; omega
  rw [BitVec.toNat_or, ofInt64 _ (by omega) (by omega), ofInt64 _ (by omega) (by omega), Int.toNat_natCast, Int.toNat_natCast, e, u64_wrap]; omega
/-- the varint at the head of some bytes: the number and what is left, or the error (3: more, 2: form) -/
def rdL : List Int → Nat → Nat → Except Int (Nat × List Int)
  | [], _, _ => .error 3
  | b :: l, i, n => if i = 9 ∧ 1 < b ∨ 0 < i ∧ b = 0 then .error 2 else if b < 128 then .ok (n + (b % 128).toNat * 128 ^ i, l) else rdL l (i + 1) (n + (b % 128).toNat * 128 ^ i)
/-- Reader.Uint: the number, what is left, the recorded error -/
def rdU (bs : List Int) (e : Int) : Nat × List Int × Int :=
  if e ≠ 0 then (0, bs, e) else match rdL bs 0 0 with
    | .error x => (0, bs, x)
    | .ok (n, l) => (n, l, 0)
def Bys (bs : List Int) : Prop := ∀ b ∈ bs, 0 ≤ b ∧ b < 256
instance (bs : List Int) : Decidable (Bys bs) := inferInstanceAs (Decidable (∀ b ∈ bs, 0 ≤ b ∧ b < 256))
theorem rdL_ok : ∀ (bs : List Int) (i n m : Nat) (l : List Int), rdL bs i n = .ok (m, l) → i ≤ 9 → n < 128 ^ i → Bys bs → m < 18446744073709551616 ∧ l.length < bs.length ∧ ∃ k, l = bs.drop k
  | [], i, n, m, l, h, _, _, _ => by simp [rdL] at h
  | b :: bs, i, n, m, l, h, hi, hn, hB => by
    have hb := hB b (by simp)
    unfold rdL at h
    split at h
    · cases h
    · rename_i hbad
      have hc : (b % 128).toNat < 128 := by omega
      have h9 : i = 9 → (b % 128).toNat ≤ 1 := by omega
      have hfit := bits_fit hi hc h9
      have hp := pow128_le hi
      split at h
      · simp only [Except.ok.injEq, Prod.mk.injEq] at h
        obtain ⟨rfl, rfl⟩ := h
        exact ⟨by omega, by simp, 1, by simp⟩
      · have hi8 : i ≤ 8 := by omega
        have hlt : n + (b % 128).toNat * 128 ^ i < 128 ^ (i + 1) := by
          have : (b % 128).toNat * 128 ^ i ≤ 127 * 128 ^ i := Nat.mul_le_mul_right _ (by omega)
          rw [Nat.pow_succ]; omega
        obtain ⟨h1, h2, k, h3⟩ := rdL_ok bs (i + 1) _ m l h (by omega) hlt (fun x hx => hB x (by simp [hx]))
        exact ⟨h1, by simp; omega, k + 1, by simpa using h3⟩
theorem rdL_err : ∀ (bs : List Int) (i n : Nat) (x : Int), rdL bs i n = .error x → x = 2 ∨ x = 3
  | [], i, n, x, h => by simp [rdL] at h; exact .inr h.symm
  | b :: bs, i, n, x, h => by
    unfold rdL at h
    split at h
    · simp at h; exact .inl h.symm
    · split at h
      · cases h
      · exact rdL_err bs _ _ x h
theorem rdU_ok {bs : List Int} {e : Int} (hB : Bys bs) : (rdU bs e).1 < 18446744073709551616 ∧ (rdU bs e).2.1.length ≤ bs.length ∧ (∃ k, (rdU bs e).2.1 = bs.drop k) ∧ ((rdU bs e).2.2 = 0 → (rdU bs e).2.1.length < bs.length) := by
  unfold rdU
  split
  · rename_i h; exact ⟨by omega, Nat.le_refl _, ⟨0, by simp⟩, fun h' => absurd h' h⟩
  · cases hr : rdL bs 0 0 with
    | error x =>
      have := rdL_err bs 0 0 x hr
      exact ⟨by simp, Nat.le_refl _, ⟨0, by simp⟩, fun h' => by simp only at h'; omega⟩
    | ok r =>
      obtain ⟨m, l⟩ := r
      obtain ⟨h1, h2, h3⟩ := rdL_ok bs 0 0 m l hr (by omega) (by simp) hB
      exact ⟨h1, Nat.le_of_lt h2, h3, fun _ => h2⟩
theorem Bys.drop {bs : List Int} (h : Bys bs) (k : Nat) : Bys (bs.drop k) := fun b hb => h b (List.mem_of_mem_drop hb)
theorem Bys.take {bs : List Int} (h : Bys bs) (k : Nat) : Bys (bs.take k) := fun b hb => h b (List.mem_of_mem_take hb)
theorem rdU_bys {bs : List Int} {e : Int} (hB : Bys bs) : Bys (rdU bs e).2.1 := by
  obtain ⟨_, _, ⟨k, h⟩, _⟩ := rdU_ok (e := e) hB
  rw [h]; exact hB.drop k
def back (u : Nat) : Int := if u % 2 = 1 then -((u / 2 : Nat) : Int) - 1 else ((u / 2 : Nat) : Int)
theorem back_range {u : Nat} (h : u < 18446744073709551616) : -9223372036854775808 ≤ back u ∧ back u ≤ 9223372036854775807 := by unfold back; split <;> omega
def rdI (bs : List Int) (e : Int) : Int × List Int × Int := (back (rdU bs e).1, (rdU bs e).2.1, (rdU bs e).2.2)
def rdB (bs : List Int) (e : Int) : Bool × List Int × Int :=
  if e ≠ 0 then (false, bs, e) else match bs with
    | [] => (false, [], 3)
    | b :: l => if 1 < b then (false, bs, 2) else (decide (b = 1), l, 0)
/-- Reader.length -/
def rdN (bs : List Int) (e : Int) : Nat × List Int × Int :=
  if (rdU bs e).2.2 ≠ 0 then (0, (rdU bs e).2.1, (rdU bs e).2.2) else if (rdU bs e).2.1.length < (rdU bs e).1 then (0, (rdU bs e).2.1, 3) else ((rdU bs e).1, (rdU bs e).2.1, 0)
theorem rdN_ok {bs : List Int} {e : Int} (hB : Bys bs) : (rdN bs e).1 ≤ (rdN bs e).2.1.length ∧ (rdN bs e).2.1.length ≤ bs.length ∧ (∃ k, (rdN bs e).2.1 = bs.drop k) ∧ ((rdN bs e).2.2 ≠ 0 → (rdN bs e).1 = 0) := by
  have h := rdU_ok (e := e) hB
  unfold rdN
  split
  · exact ⟨by simp, h.2.1, h.2.2.1, fun _ => rfl⟩
  · split
    · exact ⟨by simp, h.2.1, h.2.2.1, fun _ => rfl⟩
    · exact ⟨by simp only; omega, h.2.1, h.2.2.1, fun h' => absurd rfl h'⟩
/-- Reader.Raw, Reader.Text: the bytes -/
def rdR (bs : List Int) (e : Int) : List Int × List Int × Int := ((rdN bs e).2.1.take (rdN bs e).1, (rdN bs e).2.1.drop (rdN bs e).1, (rdN bs e).2.2)
def rdMany : Nat → List Int → Int → List Int × List Int × Int
  | 0, bs, e => ([], bs, e)
  | k + 1, bs, e => if e ≠ 0 then ([], bs, e) else
    ((rdI bs e).1 :: (rdMany k (rdI bs e).2.1 (rdI bs e).2.2).1, (rdMany k (rdI bs e).2.1 (rdI bs e).2.2).2.1, (rdMany k (rdI bs e).2.1 (rdI bs e).2.2).2.2)
/-- Reader.Ints -/
def rdIs (bs : List Int) (e : Int) : List Int × List Int × Int :=
  (if (rdMany (rdN bs e).1 (rdN bs e).2.1 (rdN bs e).2.2).2.2 ≠ 0 then [] else (rdMany (rdN bs e).1 (rdN bs e).2.1 (rdN bs e).2.2).1,
    (rdMany (rdN bs e).1 (rdN bs e).2.1 (rdN bs e).2.2).2.1, (rdMany (rdN bs e).1 (rdN bs e).2.1 (rdN bs e).2.2).2.2)
def rdEnd (bs : List Int) (e : Int) : Int := if e ≠ 0 then e else if 0 < bs.length then 2 else 0
theorem and1 {u : Nat} (h : u < 18446744073709551616) : IntKind.u64.wrap ((BitVec.ofInt IntKind.u64.bits (u : Int) &&& BitVec.ofInt IntKind.u64.bits 1).toNat : Int) = ((u % 2 : Nat) : Int) := by
  show IntKind.u64.wrap ((BitVec.ofInt 64 (u : Int) &&& BitVec.ofInt 64 1).toNat : Int) = _
  rw [BitVec.toNat_and, ofInt64 _ (by omega) (by omega), ofInt64 _ (by omega) (by omega), u64_wrap]
  have : (u : Int).toNat &&& (1 : Int).toNat = u % 2 := by rw [Int.toNat_natCast]; exact Nat.and_one_is_mod u
  rw [this]; omega
theorem shr1 (u : Nat) : ((u : Int)).fdiv (2 ^ (min (1 : Int).toNat IntKind.u64.bits)) = ((u / 2 : Nat) : Int) := by
  have : (2 ^ (min (1 : Int).toNat IntKind.u64.bits) : Int) = 2 := by decide
  rw [this, Int.fdiv_eq_ediv_of_nonneg _ (by omega)]; omega
theorem xorI0 {a : Int} (h0 : 0 ≤ a) (h1 : a ≤ 9223372036854775807) : IntKind.i64.wrap ((BitVec.ofInt IntKind.i64.bits a ^^^ BitVec.ofInt IntKind.i64.bits 0).toNat : Int) = a := by
  show IntKind.i64.wrap ((BitVec.ofInt 64 a ^^^ BitVec.ofInt 64 0).toNat : Int) = _
  have e : BitVec.ofInt 64 0 = 0#64 := by decide
  rw [e, BitVec.xor_zero, ofInt64 a h0 (by omega), i64_wrap]; omega
theorem xorI1 {a : Int} (h0 : 0 ≤ a) (h1 : a ≤ 9223372036854775807) : IntKind.i64.wrap ((BitVec.ofInt IntKind.i64.bits a ^^^ BitVec.ofInt IntKind.i64.bits (-1)).toNat : Int) = -a - 1 := by
  show IntKind.i64.wrap ((BitVec.ofInt 64 a ^^^ BitVec.ofInt 64 (-1)).toNat : Int) = _
  have e : BitVec.ofInt 64 (-1) = BitVec.allOnes 64 := by decide
  rw [e, BitVec.xor_allOnes, BitVec.toNat_not, ofInt64 a h0 (by omega), i64_wrap]
  have : ((2 ^ 64 - 1 - a.toNat : Nat) : Int) = 18446744073709551615 - a := by
    have : (2 ^ 64 : Nat) = 18446744073709551616 := by decide
    omega
  rw [this]; omega
theorem shrN (m s : Nat) (hs : s ≤ 64) : ((m : Int)).fdiv (2 ^ (min ((s : Nat) : Int).toNat IntKind.u64.bits)) = ((m / 2 ^ s : Nat) : Int) := by
  have e : min ((s : Nat) : Int).toNat IntKind.u64.bits = s := by
    have : IntKind.u64.bits = 64 := rfl
    rw [this]; omega
  rw [e, Int.fdiv_eq_ediv_of_nonneg _ (Int.le_of_lt (Int.pow_pos (by omega)))]
  simp
theorem iv_one {n : Int} (h1 : -63 ≤ n) (h2 : n ≤ 63) : (iv n).length = 1 := by
  rw [iv, uv_lt]
  · rfl
  · unfold zz; split <;> omega
/-- the varint's length, counted as the law counts -/
theorem uv_len_step {m : Nat} (h : 0 < m / 128) : (uv m).length = 1 + (uv (m / 128)).length := by
  rw [uv_ge (by omega)]; simp; omega
end Go.Rf
