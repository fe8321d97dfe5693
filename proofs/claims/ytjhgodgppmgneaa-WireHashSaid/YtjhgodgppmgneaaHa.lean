/-
  The plain law of the hash: its mixing step is a bijection in either argument; groups of at most 8 bytes of one length have different words; a varint tells its number.
-/
import Derived.Test.YtjhgodgppmgneaaPlain
namespace Go.Rf
set_option linter.unusedVariables false
set_option linter.unusedSimpArgs false
abbrev hF : BitVec 64 := 11400714819323198485#64
def mixB (s w : BitVec 64) : BitVec 64 := ((s ^^^ w) * hF) ^^^ (((s ^^^ w) * hF) >>> 32)
theorem fold32 (x : BitVec 64) : (x ^^^ (x >>> 32)) ^^^ ((x ^^^ (x >>> 32)) >>> 32) = x := by
  apply BitVec.eq_of_getLsbD_eq
  intro i hi
  have h : x.getLsbD (32 + (32 + i)) = false := BitVec.getLsbD_of_ge _ _ (by omega)
  simp [BitVec.getLsbD_xor, BitVec.getLsbD_ushiftRight, h]
theorem fold32_inj {x y : BitVec 64} (h : x ^^^ (x >>> 32) = y ^^^ (y >>> 32)) : x = y := by
  rw [← fold32 x, h, fold32]
theorem mulF_inj {x y : BitVec 64} (h : x * hF = y * hF) : x = y := by
  have k : hF * 17428512612931826493#64 = 1#64 := by decide
  have e := congrArg (· * 17428512612931826493#64) h
  simp only [BitVec.mul_assoc, k, BitVec.mul_one] at e
  exact e
theorem xor_inj_r {s x y : BitVec 64} (h : s ^^^ x = s ^^^ y) : x = y := by
  have e := congrArg (s ^^^ ·) h
  simp only [← BitVec.xor_assoc, BitVec.xor_self, BitVec.zero_xor] at e
  exact e
theorem xor_inj_l {s x y : BitVec 64} (h : x ^^^ s = y ^^^ s) : x = y := by
  rw [BitVec.xor_comm x, BitVec.xor_comm y] at h
  exact xor_inj_r h
theorem mix_r {s x y : BitVec 64} : mixB s x = mixB s y ↔ x = y := ⟨fun h => xor_inj_r (mulF_inj (fold32_inj h)), fun h => by rw [h]⟩
theorem mix_l {s x y : BitVec 64} : mixB x s = mixB y s ↔ x = y := ⟨fun h => xor_inj_l (mulF_inj (fold32_inj h)), fun h => by rw [h]⟩

/-! the model's numbers -/
theorem ofI_toNat (x : BitVec 64) : BitVec.ofInt 64 (x.toNat : Int) = x := by simp
theorem wrapB (x : BitVec 64) : IntKind.u64.wrap (x.toNat : Int) = (x.toNat : Int) := by
  have := x.isLt
  rw [u64_wrap]; omega
theorem xorB (x y : BitVec 64) : IntKind.u64.wrap ((BitVec.ofInt IntKind.u64.bits (x.toNat : Int) ^^^ BitVec.ofInt IntKind.u64.bits (y.toNat : Int)).toNat : Int) = ((x ^^^ y).toNat : Int) := by
  show IntKind.u64.wrap ((BitVec.ofInt 64 (x.toNat : Int) ^^^ BitVec.ofInt 64 (y.toNat : Int)).toNat : Int) = _
  rw [ofI_toNat, ofI_toNat, wrapB]
theorem mulB (x : BitVec 64) : IntKind.u64.wrap ((x.toNat : Int) * 11400714819323198485) = ((x * hF).toNat : Int) := by
  rw [u64_wrap, BitVec.toNat_mul]
  have : hF.toNat = 11400714819323198485 := by decide
  rw [this]
  omega
theorem shrB (x : BitVec 64) : ((x.toNat : Int)).fdiv (2 ^ (min (32 : Int).toNat IntKind.u64.bits)) = ((x >>> 32).toNat : Int) := by
  have h := shrN x.toNat 32 (by omega)
  have e : (((32 : Nat) : Int)) = 32 := rfl
  rw [e] at h
  rw [h, BitVec.toNat_ushiftRight, Nat.shiftRight_eq_div_pow]

/-! words of bytes -/
def wN : List Int → Nat
  | [] => 0
  | b :: l => b.toNat + 256 * wN l
theorem wN_lt : ∀ (l : List Int), Bys l → wN l < 256 ^ l.length
  | [], _ => by simp [wN]
  | b :: l, h => by
    have ih := wN_lt l (fun x hx => h x (by simp [hx]))
    have hb := h b (by simp)
    simp only [wN, List.length_cons, Nat.pow_succ]
    omega
theorem wN_inj : ∀ (l m : List Int), Bys l → Bys m → l.length = m.length → wN l = wN m → l = m
  | [], [], _, _, _, _ => rfl
  | [], _ :: _, _, _, h, _ => by simp at h
  | _ :: _, [], _, _, h, _ => by simp at h
  | a :: l, b :: m, ha, hb, hl, h => by
    have h1 := ha a (by simp)
    have h2 := hb b (by simp)
    simp only [wN] at h
    have e1 : a = b := by omega
    have e2 : wN l = wN m := by omega
    rw [e1, wN_inj l m (fun x hx => ha x (by simp [hx])) (fun x hx => hb x (by simp [hx])) (by simpa using hl) e2]
theorem shl8 {u : Nat} (h : u < 72057594037927936) : IntKind.u64.wrap ((u : Int) * 2 ^ (min (8 : Int).toNat IntKind.u64.bits)) = ((u * 256 : Nat) : Int) := by
  have e : min (8 : Int).toNat IntKind.u64.bits = 8 := by decide
  rw [e, u64_wrap]
  have : (2 : Int) ^ 8 = 256 := by decide
  rw [this]
  omega
theorem or8 {u c : Nat} (h : u < 72057594037927936) (hc : c < 256) :
    IntKind.u64.wrap ((BitVec.ofInt IntKind.u64.bits ((u * 256 : Nat) : Int) ||| BitVec.ofInt IntKind.u64.bits (c : Int)).toNat : Int) = ((u * 256 + c : Nat) : Int) := by
  show IntKind.u64.wrap ((BitVec.ofInt 64 ((u * 256 : Nat) : Int) ||| BitVec.ofInt 64 (c : Int)).toNat : Int) = _
  have e : (u * 256) ||| c = u * 256 + c := by
    have := Nat.two_pow_add_eq_or_of_lt (i := 8) (b := c) (by omega) u
    rw [show (2 : Nat) ^ 8 = 256 from rfl] at this
    rw [Nat.mul_comm, ← this]
  rw [BitVec.toNat_or, ofInt64 _ (by omega) (by omega), ofInt64 _ (by omega) (by omega), Int.toNat_natCast, Int.toNat_natCast, e, u64_wrap]
  omega
theorem uv_bys : ∀ (n : Nat), Bys (uv n) := by
  intro n
  induction n using Nat.strongRecOn with
  | _ n ih =>
    by_cases h : n < 128
    · rw [uv_lt h]; intro b hb; simp at hb; omega
    · rw [uv_ge (by omega)]
      intro b hb
      rcases List.mem_cons.1 hb with rfl | hb
      · omega
      · exact ih (n / 128) (by omega) b hb
theorem uv_inj : ∀ (m n : Nat), uv m = uv n → m = n := by
  intro m
  induction m using Nat.strongRecOn with
  | _ m ih =>
    intro n h
    by_cases hm : m < 128
    · by_cases hn : n < 128
      · rw [uv_lt hm, uv_lt hn] at h; simp at h; omega
      · rw [uv_lt hm, uv_ge (show 128 ≤ n by omega)] at h; simp at h; omega
    · by_cases hn : n < 128
      · rw [uv_ge (show 128 ≤ m by omega), uv_lt hn] at h; simp at h; omega
      · rw [uv_ge (show 128 ≤ m by omega), uv_ge (show 128 ≤ n by omega)] at h
        simp only [List.cons.injEq] at h
        have := ih (m / 128) (by omega) (n / 128) h.2
        omega
end Go.Rf
