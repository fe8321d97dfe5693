/-
  The walk of the law WireHash.
-/
import Derived.Test.YtjhgodgppmgneaaHash2
namespace Go.Rf
open Go.RowKit
/-- 's[:k]' of a string -/
theorem s_sliceStr {D : Dfs} {P : Program} {ops : Array Oper} {Q : Exit → Act → World → Prop} {rest : List Oper} {n : Nat} {f : Env} {w : World} {d : Nat} {ty : TypeId} {ps : String} {af : Array Edge} {x y : Operand} {t : Nat}
    {s : ByteArray} {k : Nat} {kk : IntKind} [S : StrT P t] (hx : ev n f x = .string s) (hy : ev n f y = .int kk (k : Int)) (hk : k ≤ s.size) (h : wpList P ops Q rest (A n (upd f d (.string (s.extract 0 k)))) w) :
    wpList P ops Q (⟨some d, .slice t x none (some y) none, ty, ps, af, none⟩ :: rest) (A n f) w := by
  refine s_run (v := .string (s.extract 0 k)) (w' := w) ?_ h
  have h2 : (0 : Int) ≤ (k : Int) := by omega
  simp [execOp, hx, hy, Instr.sliceAt, Instr.slice, run_underlying S.u, Instr.sliceBounds, Instr.sliceBound, asIntOf, hk]
end Go.Rf
namespace Go.Proofs.Ytjhgodgppmgneaa
open Go.Rf Go.RowKit
set_option linter.unusedVariables false
attribute [local irreducible] Code.wp wpList Exit.then Exit.inBlock bodyPost A Calls execOp Addr.add

theorem shortC (s : ByteArray) (w : World) : Calls Try.prog 7 #[.string s, .int .i64 20] w fun e w' => ∃ t : ByteArray, e = .returned (.string t) ∧ t.size ≤ 20 ∧ w = w' := by
  refine enter Try.func7 rfl Try.ntmps7 rfl ?_
  refine rn ?_
  refine s_gtr rfl rfl (fun h => ?_) (fun h => ?_)
  · refine rn ?_
    refine s_sliceStr (k := 20) rfl rfl (by omega) ?_
    refine rn ?_
    (apply ret1; exact rfl; (conv => lhs; whnf))
    exact ⟨_, rfl, by simp; omega, rfl⟩
  · refine rn ?_
    (apply ret1; exact rfl; (conv => lhs; whnf))
    exact ⟨_, rfl, by omega, rfl⟩

theorem hash_iff {t : ByteArray} {m n : Nat} (hl : (uv m).length = (uv n).length) (h8 : (uv m).length ≤ 8) : (sumH (sb t) (wds (uv m)) = sumH (sb t) (wds (uv n))) ↔ m = n := by
  refine ⟨fun h => ?_, fun h => by rw [h]⟩
  have h8n : (uv n).length ≤ 8 := by omega
  have hp := uv_pos m
  have hpn := uv_pos n
  have key : ∀ k, (uv k).length ≤ 8 → 0 < (uv k).length → wds (uv k) = [toI (wN (uv k)), ((uv k).length : Int)] := by
    intro k h1 h2
    have e : ((uv k).length + 7) / 8 = 1 := by omega
    simp only [wds, gnat, e]
    have : List.range 1 = [0] := rfl
    rw [this]
    simp [List.take_of_length_le h1]
  rw [key m h8 hp, key n h8n hpn, ← hl] at h
  simp only [sumH, List.map_cons, List.map_nil, foldM, List.foldl_cons, List.foldl_nil, List.length_cons, List.length_nil] at h
  have h1 := mix_r.1 (mix_l.1 (mix_l.1 h))
  have b8 : ∀ k, (uv k).length ≤ 8 → wN (uv k) < 18446744073709551616 := by
    intro k hk
    have h := wN_lt _ (uv_bys k)
    have h3 : 256 ^ (uv k).length ≤ 256 ^ 8 := Nat.pow_le_pow_right (by omega) hk
    have : (256 : Nat) ^ 8 = 18446744073709551616 := by decide
    omega
  rw [toI_of (b8 m h8), toI_of (b8 n h8n)] at h1
  have h2 := congrArg BitVec.toNat h1
  rw [ofNat_toNat (b8 m h8), ofNat_toNat (b8 n h8n)] at h2
  exact uv_inj m n (wN_inj _ _ (uv_bys m) (uv_bys n) hl h2)

theorem wireHash_walk (a b : Nat) (sh : Int) (lab : ByteArray) (w : World) (ha : a < 18446744073709551616) (hb : b < 18446744073709551616) (hsh : InI64 sh) (hlab : lab.size ≤ maxLen) :
    Calls Try.prog 3 #[.int .u64 a, .int .u64 b, .int .i64 sh, .string lab] w fun e w' => e = .returned (.bool true) ∧ Fr [] w w' := by
  refine enter Try.func3 rfl Try.ntmps3 rfl ?_
  refine rn ?_
  refine s_call (around sh 56 w hsh.1 hsh.2 (by omega)) rfl ?_
  rintro _ _ ⟨rfl, rfl⟩
  refine ⟨_, rfl, ?_⟩
  obtain ⟨s, hs⟩ : ∃ s : Nat, arnd sh 56 = (s : Int) := ⟨(arnd sh 56).toNat, by have := arnd_range (a := sh) (m := 56) (by omega); omega⟩
  have hsr := arnd_range (a := sh) (m := 56) (by omega)
  rw [hs] at hsr ⊢
  refine rn ?_
  have e8 : (8 : Int) + (s : Int) = ((s + 8 : Nat) : Int) := by omega
  rw [e8]
  refine s_shr rfl rfl (by omega) (shrN a (s + 8) (by omega)) ?_
  refine rn ?_
  refine s_shr rfl rfl (by omega) (shrN b (s + 8) (by omega)) ?_
  have hk : ∀ x : Nat, x < 18446744073709551616 → x / 2 ^ (s + 8) < 72057594037927936 := by
    intro x hx
    have h1 : 2 ^ 8 ≤ 2 ^ (s + 8) := Nat.pow_le_pow_right (by omega) (by omega)
    have h2 : x / 2 ^ (s + 8) ≤ x / 2 ^ 8 := Nat.div_le_div_left h1 (by omega)
    have : (2 : Nat) ^ 8 = 256 := rfl
    omega
  have hm := hk a ha
  have hn := hk b hb
  generalize a / 2 ^ (s + 8) = m at hm ⊢
  generalize b / 2 ^ (s + 8) = n at hn ⊢
  have hml := uv_len_pow 7 m (by have : (128 : Nat) ^ (7 + 1) = 72057594037927936 := by decide
                                 omega)
  have hnl := uv_len_pow 7 n (by have : (128 : Nat) ^ (7 + 1) = 72057594037927936 := by decide
                                 omega)
  refine rn ?_
  refine s_alloc rfl (fun w0 hb0 hf0 hs0 => ?_)
  have hw0 := IsW.new hb0
  obtain ⟨p, hp⟩ : ∃ p, w.heap.size = p := ⟨_, rfl⟩
  rw [hp] at hb0 hw0 hs0 ⊢
  refine rn ?_
  refine s_call (wUint p _ [] m w0 (by omega) hw0 (by simp)) rfl ?_
  rintro _ w1 ⟨rfl, v1, hw1, hf1, hk1⟩
  refine ⟨_, rfl, ?_⟩
  refine rn ?_
  refine s_alloc rfl (fun w2 hb2 hf2 hs2 => ?_)
  have hw2 := IsW.new hb2
  obtain ⟨q, hq⟩ : ∃ q, w1.heap.size = q := ⟨_, rfl⟩
  rw [hq] at hb2 hw2 hs2 ⊢
  refine rn ?_
  refine s_call (wUint q _ [] n w2 (by omega) hw2 (by simp)) rfl ?_
  rintro _ w3 ⟨rfl, v3, hw3, hf3, hk3⟩
  refine ⟨_, rfl, ?_⟩
  rw [blks_nil] at hf1 hf3
  simp only [List.nil_append] at hw1 hw3
  have hpw0 := hb0.lt
  have hs1 := hf1.size
  have hw1' : IsW w2 p v1 (uv m) := hw1.old hf2 (by simp)
  have hpq : p ≠ q := by have := hw1.1.lt; omega
  have hvq : ∀ k ∈ blks v1, k ≠ q := by intro k hk; have := hw1.2.lt k hk; omega
  have hw13 : IsW w3 p v1 (uv m) := ⟨hw1'.1.tr hf3 (by simpa using hpq), hw1'.2.tr hf3 (fun k hk => by simpa using hvq k hk)⟩
  have hF3 : Fr [] w w3 := by
    refine (((hf0.trans hf1 (fun k hk => .inr ?_)).trans0 hf2).trans hf3 (fun k hk => .inr ?_))
    · simp only [List.mem_singleton] at hk; omega
    · simp only [List.mem_singleton] at hk; have := hf0.size; omega
  refine rn ?_
  refine s_call (wDone p v1 _ w3 hw13 (by omega)) rfl ?_
  rintro _ w4 ⟨vp, rfl, hop, hf4, hkp, _⟩
  refine ⟨_, rfl, ?_⟩
  have hw34 : IsW w4 q v3 (uv n) := hw3.old hf4 (by simp)
  refine rn ?_
  refine s_call (wDone q v3 _ w4 hw34 (by omega)) rfl ?_
  rintro _ w5 ⟨vq, rfl, hoq, hf5, hkq, _⟩
  refine ⟨_, rfl, ?_⟩
  have hop5 := hop.tr0 hf5
  have hF5 : Fr [] w w5 := (hF3.trans0 hf4).trans0 hf5
  refine rn ?_
  refine s_call (shortC lab w5) rfl ?_
  rintro _ _ ⟨t, rfl, ht, rfl⟩
  refine ⟨_, rfl, ?_⟩
  obtain ⟨aop, cp, hvp⟩ := hop5.slice
  subst hvp
  obtain ⟨aoq, cq, hvqq⟩ := hoq.slice
  subst hvqq
  refine rn ?_
  refine s_neq rfl rfl (fun hne => ?_) (fun heq => ?_)
  · refine rn ?_
    refine s_neq rfl rfl (fun hmn => ?_) (fun hmn => ?_)
    · refine rn ?_
      refine s_call (lives w5) rfl ?_
      rintro _ w6 ⟨rfl, hf6⟩
      refine ⟨_, rfl, ?_⟩
      refine rn ?_
      (apply ret1; exact rfl; (conv => lhs; whnf))
      exact ⟨rfl, hF5.trans0 hf6⟩
    · exfalso
      have : m = n := by omega
      subst this
      exact hne rfl
  · have hl : (uv m).length = (uv n).length := by omega
    refine rn ?_
    refine s_call (bytesC t (uv m) aop cp w5 (by omega) (uv_bys m) (by omega) hop5.src) rfl ?_
    rintro _ w6 ⟨rfl, hf6⟩
    refine ⟨_, rfl, ?_⟩
    refine rn ?_
    refine s_call (bytesC t (uv n) aoq cq w6 (by omega) (uv_bys n) (by omega) (hoq.src.tr0 hf6)) rfl ?_
    rintro _ w7 ⟨rfl, hf7⟩
    refine ⟨_, rfl, ?_⟩
    have hF7 : Fr [] w w7 := (hF5.trans0 hf6).trans0 hf7
    have hiff := hash_iff (t := t) (m := m) (n := n) hl hml
    refine s_eql rfl rfl (fun he => ?_) (fun he => ?_)
    · have hmn : m = n := hiff.1 (BitVec.eq_of_toNat_eq (by omega))
      refine rn ?_
      refine s_eqlB Try.underlying4 rfl rfl rfl ?_
      refine rn ?_
      refine s_call (lives w7) rfl ?_
      rintro _ w8 ⟨rfl, hf8⟩
      refine ⟨_, rfl, ?_⟩
      refine rn ?_
      (apply ret1; exact rfl; (conv => lhs; whnf))
      exact ⟨rfl, hF7.trans0 hf8⟩
    · have hmn : ¬ m = n := fun e => he (by rw [hiff.2 e])
      refine rn ?_
      refine s_eqlB Try.underlying4 rfl rfl rfl ?_
      refine rn ?_
      refine s_call (lives w7) rfl ?_
      rintro _ w8 ⟨rfl, hf8⟩
      refine ⟨_, rfl, ?_⟩
      refine rn ?_
      (apply ret1; exact rfl; (conv => lhs; whnf))
      exact ⟨rfl, hF7.trans0 hf8⟩
end Go.Proofs.Ytjhgodgppmgneaa
