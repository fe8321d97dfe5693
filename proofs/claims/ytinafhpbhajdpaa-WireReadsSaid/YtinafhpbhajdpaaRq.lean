/-
  Contracts of the reference's Reader (refuterref02).
-/
import Derived.Test.YtinafhpbhajdpaaRv
import Derived.Test.YtinafhpbhajdpaaLv
namespace Go.Proofs.Ytinafhpbhajdpaa
set_option linter.unusedVariables false
open Go.Rf Go.RowKit
attribute [local irreducible] Code.wp wpList Exit.then Exit.inBlock bodyPost A Calls

def IsQ (w : World) (p : Nat) (v : Value) (bs : List Int) (e : Int) : Prop :=
  Blk w p [v, .int .i64 e] 57 ∧ Src w v bs.length (bs.map (.int .u8)) ∧ Off v (bs.map (.int .u8)) [p] ∧ Bys bs
def QStep (p : Nat) (w : World) (v : Value) (bs' : List Int) (e' : Int) (w' : World) : Prop := ∃ v', IsQ w' p v' bs' e' ∧ Fr [p] w w' ∧ Sub v v'
theorem QStep.trans {p : Nat} {w w1 w2 : World} {v v1 : Value} {bs2 : List Int} {e2 : Int} (hf : Fr [p] w w1) (hs : Sub v v1) (h : QStep p w1 v1 bs2 e2 w2) : QStep p w v bs2 e2 w2 := by
  obtain ⟨v2, a, b, c⟩ := h
  exact ⟨v2, a, hf.trans b (fun x hx => .inl hx), hs.trans c⟩
theorem IsQ.src {w : World} {p : Nat} {v : Value} {bs : List Int} {e : Int} (h : IsQ w p v bs e) : Src w v bs.length (bs.map (.int .u8)) := h.2.1
theorem IsQ.setE {w w' : World} {p : Nat} {v : Value} {bs : List Int} {e e' : Int} (h : IsQ w p v bs e) (hb : Blk w' p [v, .int .i64 e'] 57) (hf : Fr [p] w w') : QStep p w v bs e' w' :=
  ⟨v, ⟨hb, h.2.1.tr hf h.2.2.1, h.2.2.1, h.2.2.2⟩, hf, Sub.refl v⟩
theorem IsQ.setV {w w' : World} {p : Nat} {v v' : Value} {bs bs' : List Int} {e : Int} (h : IsQ w p v bs e) (hs : Src w v' bs'.length (bs'.map (.int .u8))) (hsub : Sub v v') (hl : bs'.length ≤ bs.length) (hB : Bys bs') (hb : Blk w' p [v', .int .i64 e] 57) (hf : Fr [p] w w') : QStep p w v bs' e w' := by
  have ho : Off v' (bs'.map (.int .u8)) [p] := hsub.off (ys := bs.map (.int .u8)) (by simp; omega) h.2.2.1
  exact ⟨v', ⟨hb, hs.tr hf ho, ho, hB⟩, hf, hsub⟩
theorem IsQ.fresh {w w' : World} {p : Nat} {v : Value} {bs : List Int} {e : Int} {S : List Nat} (h : IsQ w p v bs e) (hf : Fr S w w') (hS : ∀ k ∈ S, w.heap.size ≤ k) : IsQ w' p v bs e :=
  ⟨h.1.old hf hS, h.2.1.old hf hS, h.2.2⟩
theorem IsQ.tr {S : List Nat} {w w' : World} {p : Nat} {v : Value} {bs : List Int} {e : Int} (h : IsQ w p v bs e) (hf : Fr S w w') (hp : p ∉ S) (ho : Off v (bs.map (.int .u8)) S) : IsQ w' p v bs e := ⟨h.1.tr hf hp, h.2.1.tr hf ho, h.2.2⟩

theorem unit_fit {i cN acc : Nat} (hi : i ≤ 9) (hc : cN < 128) (h9 : i = 9 → cN ≤ 1) (hacc : acc < 128 ^ i) : acc + cN * 128 ^ i < 18446744073709551616 := by
  by_cases h : i = 9
  · subst h
    have := h9 rfl
    have e : (128 : Nat) ^ 9 = 9223372036854775808 := by decide
    rw [e] at hacc ⊢; omega
  · have h1 : (128 : Nat) ^ (i + 1) ≤ 128 ^ 9 := Nat.pow_le_pow_right (by omega) (by omega)
    have e : (128 : Nat) ^ 9 = 9223372036854775808 := by decide
    rw [e, Nat.pow_succ] at h1
    have : cN * 128 ^ i ≤ 127 * 128 ^ i := Nat.mul_le_mul_right _ (by omega)
    omega

set_option maxHeartbeats 4000000 in
theorem qUint (p : Nat) (v : Value) (bs : List Int) (e : Int) (w : World) (hr : IsQ w p v bs e) (hl : bs.length ≤ 1000000000000) :
    Calls Try.prog 51 #[.pointer (some ⟨p, 0, none⟩)] w fun r w' => r = .returned (.int .u64 (rdU bs e).1) ∧ QStep p w v (rdU bs e).2.1 (rdU bs e).2.2 w' := by
  obtain ⟨ao, c, hve, _⟩ := id hr.src
  subst hve
  have hb := hr.1
  refine enter Try.func51 rfl Try.ntmps51 rfl ?_
  refine rn ?_
  refine c_loop (σ := Nat × Nat × Nat) (fun s g u => g 0 = .pointer (some ⟨p, 0, none⟩) ∧ g 3 = .int .u64 (s.2.1 : Int) ∧ g 4 = .int .u64 (s.2.2 : Int) ∧ g 5 = .int .i64 s.1 ∧ s.1 ≤ 9 ∧ s.1 ≤ bs.length ∧ s.2.1 < 128 ^ s.1 ∧ s.2.2 = 128 ^ s.1 ∧ w = u ∧ (e = 0 → rdL bs 0 0 = rdL (bs.drop s.1) s.1 s.2.1))
    (fun s => 10 - s.1) (0, 0, 1) ⟨rfl, rfl, rfl, rfl, by omega, by simp, by simp, by simp, rfl, by simp⟩ ?_
  rintro ⟨i, acc, un⟩ g u ⟨h0, h3, h4, h5, hi9, hib, hacc, hun, rfl, hrd⟩
  simp only at h3 h4 h5 hi9 hib hacc hun hrd
  rw [eq_upd h0, eq_upd h3, eq_upd h4, eq_upd h5]
  refine rn ?_
  by_cases he : e = 0
  case neg =>
    refine rn ?_
    (apply ret1; exact rfl; (conv => lhs; whnf))
    rw [rdU, if_pos he]
    exact ⟨rfl, _, hr, Fr.refl _ _, Sub.refl _⟩
  subst he
  replace hrd := hrd rfl
  rw [rdU, if_neg (by simp)]
  refine rn ?_
  refine s_geq rfl rfl (fun hge => ?_) (fun hlt => ?_)
  · have hdr : bs.drop i = [] := List.drop_of_length_le (by omega)
    rw [hrd, hdr]
    refine rn ?_
    ((with_reducible apply s_storeB); exact rfl; (conv => lhs; whnf); exact rfl; exact hr.1; exact rfl)
    intro w1 hb1 hf1 _
    refine rn ?_
    (apply ret1; exact rfl; (conv => lhs; whnf))
    exact ⟨rfl, hr.setE hb1 hf1⟩
  · have hlt' : i < bs.length := by omega
    have hbb := hr.2.2.2 bs[i] (by simp)
    obtain ⟨ad, rfl, hcell⟩ := src_at (j := i) (u := .int .u8 bs[i]) hr.src (by simp [hlt'])
    have hdr : bs.drop i = bs[i] :: bs.drop (i + 1) := List.drop_eq_getElem_cons hlt'
    rw [hdr] at hrd
    generalize bs[i] = b at *
    refine rn ?_
    refine s_index1 rfl rfl rfl hlt' rfl ?_
    refine s_load rfl hcell ?_
    refine rn ?_
    refine w_cut (fun g' u' => w = u' ∧ g' 0 = .pointer (some ⟨p, 0, none⟩) ∧ g' 3 = .int .u64 (acc : Int) ∧ g' 4 = .int .u64 (un : Int) ∧ g' 5 = .int .i64 i ∧ g' 6 = .int .u8 b ∧ g' 44 = .bool (decide (i = 9 ∧ 1 < b ∨ 0 < i ∧ b = 0))) ?_ ?_
    · by_cases h9 : i = 9
      · by_cases hb1 : 1 < b
        · refine rn ?_
          exact q_cut ⟨rfl, rfl, rfl, rfl, rfl, rfl, by rw [decide_eq_true (by omega)]; rfl⟩
        · by_cases hb0 : b = 0
          · refine rn ?_
            exact q_cut ⟨rfl, rfl, rfl, rfl, rfl, rfl, by rw [decide_eq_true (by omega)]; rfl⟩
          · refine rn ?_
            exact q_cut ⟨rfl, rfl, rfl, rfl, rfl, rfl, by rw [decide_eq_false (by omega)]; rfl⟩
      · by_cases hi0 : 0 < i
        · by_cases hb0 : b = 0
          · refine rn ?_
            exact q_cut ⟨rfl, rfl, rfl, rfl, rfl, rfl, by rw [decide_eq_true (by omega)]; rfl⟩
          · refine rn ?_
            exact q_cut ⟨rfl, rfl, rfl, rfl, rfl, rfl, by rw [decide_eq_false (by omega)]; rfl⟩
        · refine rn ?_
          exact q_cut ⟨rfl, rfl, rfl, rfl, rfl, rfl, by rw [decide_eq_false (by omega)]; rfl⟩
    · rintro g' _ ⟨rfl, k0, k3, k4, k5, k6, k44⟩
      by_cases hbad : i = 9 ∧ 1 < b ∨ 0 < i ∧ b = 0
      · rw [decide_eq_true hbad] at k44
        rw [eq_upd k0, eq_upd k3, eq_upd k4, eq_upd k5, eq_upd k6, eq_upd k44]
        rw [hrd, rdL, if_pos hbad]
        refine rn ?_
        ((with_reducible apply s_storeB); exact rfl; (conv => lhs; whnf); exact rfl; exact hr.1; exact rfl)
        intro w1 hb1 hf1 _
        refine rn ?_
        (apply ret1; exact rfl; (conv => lhs; whnf))
        exact ⟨rfl, hr.setE hb1 hf1⟩
      · rw [decide_eq_false hbad] at k44
        rw [eq_upd k0, eq_upd k3, eq_upd k4, eq_upd k5, eq_upd k6, eq_upd k44]
        obtain ⟨cN, hcN⟩ : ∃ cN : Nat, b % 128 = (cN : Int) := ⟨(b % 128).toNat, by omega⟩
        have hcE : (b % 128).toNat = cN := by omega
        have hc : cN < 128 := by omega
        have h9 : i = 9 → cN ≤ 1 := by omega
        have hfit := unit_fit hi9 hc h9 hacc
        rw [← hun] at hfit
        refine rn ?_
        rw [hcN]
        refine s_mul rfl rfl (show _ = ((cN * un : Nat) : Int) by rw [IntWalk.u64_in _ (by omega)]; simp) ?_
        refine s_add rfl rfl (show _ = ((acc + cN * un : Nat) : Int) by rw [IntWalk.u64_in _ (by omega)]; simp) ?_
        refine rn ?_
        refine s_mul rfl rfl rfl ?_
        refine rn ?_
        by_cases hb128 : b < 128
        · rw [hrd, rdL, if_neg hbad, if_pos hb128, hcE]
          refine rn ?_
          refine s_cut (i + 1) bs.length hr.src rfl (by simp) ⟨.i64, rfl⟩ rfl (by omega) (by omega) (fun ao' c' hcut hblk _ => ?_)
          refine rn ?_
          ((with_reducible apply s_storeB); exact rfl; (conv => lhs; whnf); exact rfl; exact hr.1; exact rfl)
          intro w1 hb1 hf1 _
          refine rn ?_
          (apply ret1; exact rfl; (conv => lhs; whnf))
          refine ⟨by rw [hun], hr.setV (v' := .slice ao' (bs.length - (i + 1)) c') ?_ (sub_of hblk) ?_ ?_ hb1 hf1⟩
          · rw [Nat.mul_one, Nat.mul_one, List.take_of_length_le (by simp), ← List.map_drop] at hcut
            simpa using hcut
          · simp
          · intro x hx; exact hr.2.2.2 x (List.mem_of_mem_drop hx)
        · have hi8 : i ≤ 8 := by omega
          have hw : IntKind.u64.wrap ((un : Int) * 128) = ((un * 128 : Nat) : Int) := by
            have h1 : (128 : Nat) ^ i ≤ 128 ^ 8 := Nat.pow_le_pow_right (by omega) hi8
            have e8 : (128 : Nat) ^ 8 = 72057594037927936 := by decide
            rw [e8, ← hun] at h1
            rw [IntWalk.u64_in _ (by omega)]; simp
          rw [hw]
          refine rn ?_
          refine q_round (i + 1, acc + cN * un, un * 128) ⟨rfl, rfl, rfl, rfl, by simp only; omega, by simp only; omega, ?_, ?_, rfl, ?_⟩ (by simp only; omega)
          · simp only
            have : cN * 128 ^ i ≤ 127 * 128 ^ i := Nat.mul_le_mul_right _ (by omega)
            rw [hun, Nat.pow_succ]; omega
          · simp only [hun, Nat.pow_succ]
          · simp only
            intro _
            rw [hrd, rdL, if_neg hbad, if_neg hb128, hcE, hun]

theorem refBack (u : Nat) (w : World) (hu : u < 18446744073709551616) :
    Calls Try.prog 60 #[.int .u64 u] w fun r w' => r = .returned (.int .i64 (back u)) ∧ w = w' := by
  refine enter Try.func60 rfl Try.ntmps60 rfl ?_
  refine rn ?_
  refine s_eql rfl rfl (fun h => ?_) (fun h => ?_)
  · refine rn ?_
    (apply ret1; exact rfl; (conv => lhs; whnf))
    exact ⟨by rw [back, if_pos (by omega)]; congr 2; omega, rfl⟩
  · refine rn ?_
    (apply ret1; exact rfl; (conv => lhs; whnf))
    exact ⟨by rw [back, if_neg (by omega)]; congr 2, rfl⟩

theorem qInt (p : Nat) (v : Value) (bs : List Int) (e : Int) (w : World) (hr : IsQ w p v bs e) (hl : bs.length ≤ 1000000000000) :
    Calls Try.prog 52 #[.pointer (some ⟨p, 0, none⟩)] w fun r w' => r = .returned (.int .i64 (rdI bs e).1) ∧ QStep p w v (rdI bs e).2.1 (rdI bs e).2.2 w' := by
  have hu := (rdU_ok (e := e) hr.2.2.2).1
  refine enter Try.func52 rfl Try.ntmps52 rfl ?_
  refine rn ?_
  refine s_call (qUint p v bs e w hr hl) rfl ?_
  rintro _ w1 ⟨rfl, hs1⟩
  refine ⟨_, rfl, ?_⟩
  refine s_call (refBack (rdU bs e).1 w1 hu) rfl ?_
  rintro _ _ ⟨rfl, rfl⟩
  refine ⟨_, rfl, ?_⟩
  refine rn ?_
  (apply ret1; exact rfl; (conv => lhs; whnf))
  exact ⟨rfl, hs1⟩

theorem qEnd (p : Nat) (v : Value) (bs : List Int) (e : Int) (w : World) (hr : IsQ w p v bs e) :
    Calls Try.prog 34 #[.pointer (some ⟨p, 0, none⟩)] w fun r w' => r = .returned (.int .i64 (rdEnd bs e)) ∧ w = w' := by
  obtain ⟨ao, c, hve, _⟩ := id hr.src
  subst hve
  have hb := hr.1
  refine enter Try.func34 rfl Try.ntmps34 rfl ?_
  refine rn ?_
  by_cases h : e = 0
  · by_cases h2 : 0 < bs.length
    · refine rn ?_
      (apply ret1; exact rfl; (conv => lhs; whnf))
      exact ⟨by rw [rdEnd, if_neg (by omega), if_pos h2], rfl⟩
    · refine rn ?_
      (apply ret1; exact rfl; (conv => lhs; whnf))
      exact ⟨by rw [rdEnd, if_neg (by omega), if_neg h2, h], rfl⟩
  · refine rn ?_
    (apply ret1; exact rfl; (conv => lhs; whnf))
    exact ⟨by rw [rdEnd, if_pos h], rfl⟩

theorem qBool (p : Nat) (v : Value) (bs : List Int) (e : Int) (w : World) (hr : IsQ w p v bs e) (hl : bs.length ≤ 1000000000000) :
    Calls Try.prog 53 #[.pointer (some ⟨p, 0, none⟩)] w fun r w' => r = .returned (.bool (rdB bs e).1) ∧ QStep p w v (rdB bs e).2.1 (rdB bs e).2.2 w' := by
  obtain ⟨ao, c, hve, _⟩ := id hr.src
  subst hve
  have hb := hr.1
  refine enter Try.func53 rfl Try.ntmps53 rfl ?_
  refine rn ?_
  by_cases h : e = 0
  case neg =>
    have hB : rdB bs e = (false, bs, e) := by unfold rdB; rw [if_pos h]
    rw [hB]
    refine rn ?_
    (apply ret1; exact rfl; (conv => lhs; whnf))
    exact ⟨rfl, _, hr, Fr.refl _ _, Sub.refl _⟩
  subst h
  cases bs with
  | nil =>
    have hB : rdB [] 0 = (false, [], 3) := by simp [rdB]
    have h0 : ([] : List Int).length = 0 := rfl
    rw [hB]
    refine rn ?_
    ((with_reducible apply s_storeB); exact rfl; (conv => lhs; whnf); exact rfl; exact hb; exact rfl)
    intro w1 hb1 hf1 _
    refine rn ?_
    (apply ret1; exact rfl; (conv => lhs; whnf))
    exact ⟨rfl, hr.setE hb1 hf1⟩
  | cons b l =>
    have hB : rdB (b :: l) 0 = if 1 < b then (false, b :: l, 2) else (decide (b = 1), l, 0) := by simp [rdB]
    have hbb := hr.2.2.2 b (by simp)
    obtain ⟨ad, rfl, hcell⟩ := src_at (j := 0) (u := .int .u8 b) hr.src (by simp)
    have hlen : (b :: l).length = l.length + 1 := rfl
    have h0 : 0 < (b :: l).length := by simp
    refine rn ?_
    refine s_index1 (j := 0) rfl rfl rfl h0 rfl ?_
    refine g_yes rfl ?_
    refine s_load rfl hcell ?_
    by_cases hb1 : 1 < b
    · rw [hB, if_pos hb1]
      refine rn ?_
      ((with_reducible apply s_storeB); exact rfl; (conv => lhs; whnf); exact rfl; exact hb; exact rfl)
      intro w1 hb1' hf1 _
      refine rn ?_
      (apply ret1; exact rfl; (conv => lhs; whnf))
      exact ⟨rfl, hr.setE hb1' hf1⟩
    · rw [hB, if_neg hb1]
      refine rn ?_
      refine s_index1 (j := 0) rfl rfl rfl h0 rfl ?_
      refine s_load rfl hcell ?_
      refine s_run (r_eql rfl rfl rfl) ?_
      refine rn ?_
      refine s_cut 1 (l.length + 1) hr.src rfl (by simp) ⟨.i64, rfl⟩ rfl (by omega) (by simp) (fun ao' c' hcut hblk _ => ?_)
      refine rn ?_
      ((with_reducible apply s_storeB); exact rfl; (conv => lhs; whnf); exact rfl; exact hb; exact rfl)
      intro w1 hb1' hf1 _
      have hst : QStep p w (.slice (some ad) (l.length + 1) c) l 0 w1 := by
        refine hr.setV ?_ (sub_of hblk) (by simp) (fun x hx => hr.2.2.2 x (by simp [hx])) hb1' hf1
        rw [Nat.mul_one, Nat.mul_one, List.take_of_length_le (by simp), ← List.map_drop] at hcut
        simpa using hcut
      refine rn ?_
      (apply ret1; exact rfl; (conv => lhs; whnf))
      exact ⟨rfl, hst⟩
end Go.Proofs.Ytinafhpbhajdpaa
