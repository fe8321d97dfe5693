/-
  Contracts of package wire's Reader.
-/
import Derived.Test.YtpochcchekoonaaGreatRf1
namespace Go.Proofs.YtpochcchekoonaaGreat
set_option linter.unusedVariables false
open Go.Rf Go.RowKit
attribute [local irreducible] Code.wp wpList Exit.then Exit.inBlock bodyPost A Calls execOp Addr.add

def Sub (v v' : Value) : Prop := ∀ ad' n' c', v' = .slice (some ad') n' c' → ∃ ad n c, v = .slice (some ad) n c ∧ ad'.block = ad.block
theorem Sub.refl (v : Value) : Sub v v := fun ad n c h => ⟨ad, n, c, h, rfl⟩
theorem Sub.trans {a b c : Value} (h : Sub a b) (k : Sub b c) : Sub a c := fun ad n cc e => by
  obtain ⟨ad1, n1, c1, e1, h1⟩ := k ad n cc e
  obtain ⟨ad2, n2, c2, e2, h2⟩ := h ad1 n1 c1 e1
  exact ⟨ad2, n2, c2, e2, h1.trans h2⟩
theorem Sub.off {v v' : Value} {ys ys' : List Value} {S : List Nat} (h : Sub v v') (hl : 0 < ys'.length → 0 < ys.length) (ho : Off v ys S) : Off v' ys' S := fun ad n c e hp => by
  obtain ⟨ad1, n1, c1, e1, h1⟩ := h ad n c e
  rw [h1]; exact ho ad1 n1 c1 e1 (hl hp)

def IsR (w : World) (p : Nat) (v : Value) (bs : List Int) (e : Int) : Prop :=
  Blk w p [v, .int .i64 e] 107 ∧ Src w v bs.length (bs.map (.int .u8)) ∧ Off v (bs.map (.int .u8)) [p] ∧ Bys bs
def RStep (p : Nat) (w : World) (v : Value) (bs' : List Int) (e' : Int) (w' : World) : Prop := ∃ v', IsR w' p v' bs' e' ∧ Fr [p] w w' ∧ Sub v v'
theorem RStep.trans {p : Nat} {w w1 w2 : World} {v v1 : Value} {bs2 : List Int} {e2 : Int} (hf : Fr [p] w w1) (hs : Sub v v1) (h : RStep p w1 v1 bs2 e2 w2) : RStep p w v bs2 e2 w2 := by
  obtain ⟨v2, a, b, c⟩ := h
  exact ⟨v2, a, hf.trans b (fun x hx => .inl hx), hs.trans c⟩
theorem IsR.src {w : World} {p : Nat} {v : Value} {bs : List Int} {e : Int} (h : IsR w p v bs e) : Src w v bs.length (bs.map (.int .u8)) := h.2.1
/-- the error is set -/
theorem IsR.setE {w w' : World} {p : Nat} {v : Value} {bs : List Int} {e e' : Int} (h : IsR w p v bs e) (hb : Blk w' p [v, .int .i64 e'] 107) (hf : Fr [p] w w') : RStep p w v bs e' w' :=
  ⟨v, ⟨hb, h.2.1.tr hf h.2.2.1, h.2.2.1, h.2.2.2⟩, hf, Sub.refl v⟩
/-- what is left is set -/
theorem IsR.setV {w w' : World} {p : Nat} {v v' : Value} {bs bs' : List Int} {e : Int} (h : IsR w p v bs e) (hs : Src w v' bs'.length (bs'.map (.int .u8))) (hsub : Sub v v') (hl : bs'.length ≤ bs.length) (hB : Bys bs') (hb : Blk w' p [v', .int .i64 e] 107) (hf : Fr [p] w w') : RStep p w v bs' e w' := by
  have ho : Off v' (bs'.map (.int .u8)) [p] := hsub.off (ys := bs.map (.int .u8)) (by simp; omega) h.2.2.1
  exact ⟨v', ⟨hb, hs.tr hf ho, ho, hB⟩, hf, hsub⟩

theorem rFail (p : Nat) (v : Value) (bs : List Int) (e x : Int) (w : World) (hr : IsR w p v bs e) :
    Calls Tryz.prog 106 #[.pointer (some ⟨p, 0, none⟩), .int .i64 x] w fun r w' => r = .returned (.tuple #[]) ∧ RStep p w v bs (if e = 0 then x else e) w' := by
  refine enter Tryz.func106 rfl Tryz.ntmps106 rfl ?_
  refine rn ?_
  refine s_loadB rfl hr.1 rfl ?_
  refine s_eql rfl rfl (fun h => ?_) (fun h => ?_)
  · refine rn ?_
    ((with_reducible apply s_storeB); exact rfl; (conv => lhs; whnf); exact rfl; exact hr.1; exact rfl)
    intro w1 hb1 hf1 _
    refine rn ?_
    refine end0 rfl ⟨rfl, ?_⟩
    rw [if_pos h]
    exact hr.setE hb1 hf1
  · refine rn ?_
    refine end0 rfl ⟨rfl, ?_⟩
    rw [if_neg h]
    exact ⟨v, hr, Fr.refl _ _, Sub.refl v⟩

theorem rUint (p : Nat) (v : Value) (bs : List Int) (e : Int) (w : World) (hr : IsR w p v bs e) :
    Calls Tryz.prog 63 #[.pointer (some ⟨p, 0, none⟩)] w fun r w' => r = .returned (.int .u64 (rdU bs e).1) ∧ RStep p w v (rdU bs e).2.1 (rdU bs e).2.2 w' := by
  obtain ⟨ao, c, hve, _⟩ := id hr.src
  subst hve
  refine enter Tryz.func63 rfl Tryz.ntmps63 rfl ?_
  refine rn ?_
  refine s_loadB rfl hr.1 rfl ?_
  refine s_neq rfl rfl (fun h => ?_) (fun h => ?_)
  · refine rn ?_
    (apply ret1; exact rfl; (conv => lhs; whnf))
    rw [rdU, if_pos h]
    exact ⟨rfl, _, hr, Fr.refl _ _, Sub.refl _⟩
  · refine rn ?_
    rw [rdU, if_neg (by simpa using h)]
    subst h
    refine c_loop (σ := Nat × Nat) (fun s g u => g 0 = .pointer (some ⟨p, 0, none⟩) ∧ g 3 = .int .u64 s.2 ∧ g 4 = .int .i64 s.1 ∧ s.1 ≤ 9 ∧ s.1 ≤ bs.length ∧ s.2 < 128 ^ s.1 ∧ u = w ∧ rdL bs 0 0 = rdL (bs.drop s.1) s.1 s.2)
      (fun s => 10 - s.1) (0, 0) ⟨rfl, rfl, rfl, by omega, by simp, by simp, rfl, by simp⟩ ?_
    rintro ⟨i, acc⟩ g u ⟨h0, h3, h4, hi9, hib, hacc, rfl, hrd⟩
    simp only at h3 h4 hi9 hib hacc hrd
    rw [eq_upd h0, eq_upd h3, eq_upd h4]
    refine rn ?_
    refine s_loadB rfl hr.1 rfl ?_
    refine rn ?_
    refine s_geq rfl rfl (fun hge => ?_) (fun hlt => ?_)
    · have hdr : bs.drop i = [] := List.drop_of_length_le (by omega)
      rw [hrd, hdr]
      refine rn ?_
      refine s_call (rFail p _ bs 0 3 u hr) rfl ?_
      rintro _ w1 ⟨rfl, hs1⟩
      refine ⟨_, rfl, ?_⟩
      refine rn ?_
      (apply ret1; exact rfl; (conv => lhs; whnf))
      exact ⟨rfl, by simpa [rdL] using hs1⟩
    · have hlt' : i < bs.length := by omega
      have hbb := hr.2.2.2 bs[i] (by simp)
      obtain ⟨ad, rfl, hcell⟩ := src_at (j := i) (u := .int .u8 bs[i]) hr.src (by simp [hlt'])
      have hdr : bs.drop i = bs[i] :: bs.drop (i + 1) := List.drop_eq_getElem_cons hlt'
      rw [hdr] at hrd
      generalize bs[i] = b at *
      refine rn ?_
      refine s_loadB rfl hr.1 rfl ?_
      refine rn ?_
      refine s_index1 rfl rfl rfl hlt' rfl ?_
      refine s_load rfl hcell ?_
      refine rn ?_
      refine w_cut (fun g' u' => u' = u ∧ g' 0 = .pointer (some ⟨p, 0, none⟩) ∧ g' 3 = .int .u64 acc ∧ g' 4 = .int .i64 i ∧ g' 5 = .int .u8 b ∧ g' 42 = .bool (decide (i = 9 ∧ 1 < b ∨ 0 < i ∧ b = 0))) ?_ ?_
      · by_cases h9 : i = 9
        · by_cases hb1 : 1 < b
          · refine rn ?_
            exact q_cut ⟨rfl, rfl, rfl, rfl, rfl, by rw [decide_eq_true (by omega)]; rfl⟩
          · by_cases hb0 : b = 0
            · refine rn ?_
              exact q_cut ⟨rfl, rfl, rfl, rfl, rfl, by rw [decide_eq_true (by omega)]; rfl⟩
            · refine rn ?_
              exact q_cut ⟨rfl, rfl, rfl, rfl, rfl, by rw [decide_eq_false (by omega)]; rfl⟩
        · by_cases hi0 : 0 < i
          · by_cases hb0 : b = 0
            · refine rn ?_
              exact q_cut ⟨rfl, rfl, rfl, rfl, rfl, by rw [decide_eq_true (by omega)]; rfl⟩
            · refine rn ?_
              exact q_cut ⟨rfl, rfl, rfl, rfl, rfl, by rw [decide_eq_false (by omega)]; rfl⟩
          · refine rn ?_
            exact q_cut ⟨rfl, rfl, rfl, rfl, rfl, by rw [decide_eq_false (by omega)]; rfl⟩
      · rintro g' _ ⟨rfl, k0, k3, k4, k5, k42⟩
        by_cases hbad : i = 9 ∧ 1 < b ∨ 0 < i ∧ b = 0
        · rw [decide_eq_true hbad] at k42
          rw [eq_upd k0, eq_upd k3, eq_upd k4, eq_upd k5, eq_upd k42]
          rw [hrd, rdL, if_pos hbad]
          refine rn ?_
          refine s_call (rFail p _ bs 0 2 _ hr) rfl ?_
          rintro _ w1 ⟨rfl, hs1⟩
          refine ⟨_, rfl, ?_⟩
          refine rn ?_
          (apply ret1; exact rfl; (conv => lhs; whnf))
          exact ⟨rfl, by simpa using hs1⟩
        · rw [decide_eq_false hbad] at k42
          rw [eq_upd k0, eq_upd k3, eq_upd k4, eq_upd k5, eq_upd k42]
          obtain ⟨cN, hcN⟩ : ∃ cN : Nat, b % 128 = (cN : Int) := ⟨(b % 128).toNat, by omega⟩
          have hcE : (b % 128).toNat = cN := by omega
          have hc : cN < 128 := by omega
          have h9 : i = 9 → cN ≤ 1 := by omega
          refine rn ?_
          refine s_and rfl rfl (show _ = (cN : Int) by rw [and127 hbb.1 hbb.2, hcN]) ?_
          refine rn ?_
          refine s_shl rfl rfl (by omega) (shl7 hi9 hc h9) ?_
          refine s_or rfl rfl (or_add hi9 hc h9 hacc) ?_
          refine rn ?_
          by_cases hb128 : b < 128
          · rw [hrd, rdL, if_neg hbad, if_pos hb128, hcE]
            refine rn ?_
            refine s_loadB rfl hr.1 rfl ?_
            refine rn ?_
            refine s_cut (i + 1) bs.length hr.src rfl (by simp) ⟨.i64, rfl⟩ rfl (by omega) (by omega) (fun ao' c' hcut hblk _ => ?_)
            refine rn ?_
            ((with_reducible apply s_storeB); exact rfl; (conv => lhs; whnf); exact rfl; exact hr.1; exact rfl)
            intro w1 hb1 hf1 _
            refine rn ?_
            (apply ret1; exact rfl; (conv => lhs; whnf))
            refine ⟨rfl, hr.setV (v' := .slice ao' (bs.length - (i + 1)) c') ?_ ?_ ?_ ?_ hb1 hf1⟩
            · rw [Nat.mul_one, Nat.mul_one, List.take_of_length_le (by simp), ← List.map_drop] at hcut
              simpa using hcut
            · intro ad' n' c'' e
              simp only [Value.slice.injEq] at e
              obtain ⟨ad0, e0, hbk⟩ := hblk ad' e.1
              simp only [Option.some.injEq] at e0
              exact ⟨ad, _, _, rfl, by rw [hbk, e0]⟩
            · simp
            · intro x hx; exact hr.2.2.2 x (List.mem_of_mem_drop hx)
          · refine rn ?_
            refine q_round (i + 1, acc + cN * 128 ^ i) ⟨rfl, rfl, rfl, by simp only; omega, by simp only; omega, ?_, rfl, ?_⟩ (by simp only; omega)
            · simp only
              have : cN * 128 ^ i ≤ 127 * 128 ^ i := Nat.mul_le_mul_right _ (by omega)
              rw [Nat.pow_succ]; omega
            · simp only
              rw [hrd, rdL, if_neg hbad, if_neg hb128, hcE]

theorem rInt (p : Nat) (v : Value) (bs : List Int) (e : Int) (w : World) (hr : IsR w p v bs e) :
    Calls Tryz.prog 24 #[.pointer (some ⟨p, 0, none⟩)] w fun r w' => r = .returned (.int .i64 (rdI bs e).1) ∧ RStep p w v (rdI bs e).2.1 (rdI bs e).2.2 w' := by
  have hu := (rdU_ok (e := e) hr.2.2.2).1
  refine enter Tryz.func24 rfl Tryz.ntmps24 rfl ?_
  refine rn ?_
  refine s_call (rUint p v bs e w hr) rfl ?_
  rintro _ w1 ⟨rfl, hs1⟩
  refine ⟨_, rfl, ?_⟩
  unfold rdI
  generalize (rdU bs e).1 = u at *
  refine rn ?_
  refine s_shr rfl rfl (by omega) (shr1 u) ?_
  refine rn ?_
  refine s_and rfl rfl (and1 hu) ?_
  refine rn ?_
  by_cases h : u % 2 = 1
  · rw [h]
    refine s_xor rfl rfl (xorI1 (by omega) (by omega)) ?_
    refine rn ?_
    (apply ret1; exact rfl; (conv => lhs; whnf))
    exact ⟨by rw [back, if_pos h], hs1⟩
  · have h0 : u % 2 = 0 := by omega
    rw [h0]
    refine s_xor rfl rfl (xorI0 (by omega) (by omega)) ?_
    refine rn ?_
    (apply ret1; exact rfl; (conv => lhs; whnf))
    exact ⟨by rw [back, if_neg h], hs1⟩

theorem rEnd (p : Nat) (v : Value) (bs : List Int) (e : Int) (w : World) (hr : IsR w p v bs e) :
    Calls Tryz.prog 59 #[.pointer (some ⟨p, 0, none⟩)] w fun r w' => r = .returned (.int .i64 (rdEnd bs e)) ∧ w = w' := by
  obtain ⟨ao, c, hve, _⟩ := id hr.src
  subst hve
  refine enter Tryz.func59 rfl Tryz.ntmps59 rfl ?_
  refine rn ?_
  refine s_loadB rfl hr.1 rfl ?_
  refine s_neq rfl rfl (fun h => ?_) (fun h => ?_)
  · refine rn ?_
    refine s_loadB rfl hr.1 rfl ?_
    refine rn ?_
    (apply ret1; exact rfl; (conv => lhs; whnf))
    exact ⟨by rw [rdEnd, if_pos h], rfl⟩
  · refine rn ?_
    refine s_loadB rfl hr.1 rfl ?_
    refine rn ?_
    refine s_gtr rfl rfl (fun h2 => ?_) (fun h2 => ?_)
    · refine rn ?_
      (apply ret1; exact rfl; (conv => lhs; whnf))
      exact ⟨by rw [rdEnd, if_neg (by simpa using h), if_pos (by omega)], rfl⟩
    · refine rn ?_
      (apply ret1; exact rfl; (conv => lhs; whnf))
      exact ⟨by rw [rdEnd, if_neg (by simpa using h), if_neg (by omega)], rfl⟩

theorem sub_of {ao ao' : Option Addr} {m c m' c' : Nat} (h : ∀ ad', ao' = some ad' → ∃ ad, ao = some ad ∧ ad'.block = ad.block) : Sub (.slice ao m c) (.slice ao' m' c') := by
  intro ad' n' c'' e
  simp only [Value.slice.injEq] at e
  obtain ⟨ad0, e0, hbk⟩ := h ad' e.1
  exact ⟨ad0, _, _, by rw [e0], hbk⟩


theorem rLength (p : Nat) (v : Value) (bs : List Int) (e : Int) (w : World) (hr : IsR w p v bs e) (hl : bs.length ≤ 1000000000000) :
    Calls Tryz.prog 129 #[.pointer (some ⟨p, 0, none⟩)] w fun r w' => r = .returned (.int .i64 (rdN bs e).1) ∧ RStep p w v (rdN bs e).2.1 (rdN bs e).2.2 w' := by
  have hu := rdU_ok (e := e) hr.2.2.2
  refine enter Tryz.func129 rfl Tryz.ntmps129 rfl ?_
  refine rn ?_
  refine s_call (rUint p v bs e w hr) rfl ?_
  rintro _ w1 ⟨rfl, v1, hr1, hf1, hsub1⟩
  refine ⟨_, rfl, ?_⟩
  obtain ⟨ao, c, hve, _⟩ := id hr1.src
  subst hve
  unfold rdN
  rcases hq : rdU bs e with ⟨u, l, x⟩
  rw [hq] at hr1 hu hsub1
  simp only at hr1 hu hsub1 ⊢
  refine rn ?_
  refine s_loadB rfl hr1.1 rfl ?_
  refine s_eql rfl rfl (fun h => ?_) (fun h => ?_)
  · subst h
    rw [if_neg (by simp)]
    refine rn ?_
    refine s_loadB rfl hr1.1 rfl ?_
    refine rn ?_
    refine s_gtr rfl rfl (fun h2 => ?_) (fun h2 => ?_)
    · refine rn ?_
      refine s_call (rFail p _ l 0 3 w1 hr1) rfl ?_
      rintro _ w2 ⟨rfl, hs2⟩
      refine ⟨_, rfl, ?_⟩
      obtain ⟨v2, hr2, hf2, hsub2⟩ := hs2
      rw [if_pos rfl] at hr2
      refine rn ?_
      refine s_loadB rfl hr2.1 rfl ?_
      refine rn ?_
      (apply ret1; exact rfl; (conv => lhs; whnf))
      rw [if_pos (by omega)]
      exact ⟨rfl, RStep.trans hf1 hsub1 ⟨v2, hr2, hf2, hsub2⟩⟩
    · refine rn ?_
      refine s_loadB rfl hr1.1 rfl ?_
      refine rn ?_
      (apply ret1; exact rfl; (conv => lhs; whnf))
      rw [if_neg (by omega)]
      exact ⟨rfl, _, hr1, hf1, hsub1⟩
  · rw [if_pos h]
    refine rn ?_
    refine s_loadB rfl hr1.1 rfl ?_
    refine rn ?_
    (apply ret1; exact rfl; (conv => lhs; whnf))
    exact ⟨rfl, _, hr1, hf1, hsub1⟩

theorem rTake (p : Nat) (v : Value) (bs : List Int) (e : Int) (n : Nat) (w : World) (hr : IsR w p v bs e) (hn : n ≤ bs.length) :
    Calls Tryz.prog 128 #[.pointer (some ⟨p, 0, none⟩), .int .i64 n] w fun r w' => ∃ ao c, r = .returned (.slice ao n c) ∧ Src w' (.slice ao n c) n ((bs.take n).map (.int .u8)) ∧ Sub v (.slice ao n c) ∧ RStep p w v (bs.drop n) e w' := by
  obtain ⟨ao, c, hve, _⟩ := id hr.src
  subst hve
  refine enter Tryz.func128 rfl Tryz.ntmps128 rfl ?_
  refine rn ?_
  refine s_loadB rfl hr.1 rfl ?_
  refine rn ?_
  refine s_cut 0 n hr.src rfl (by simp) rfl ⟨.i64, rfl⟩ (Nat.zero_le _) hn (fun ao1 c1 hcut1 hblk1 _ => ?_)
  rw [Nat.sub_zero] at hcut1 ⊢
  refine rn ?_
  refine s_loadB rfl hr.1 rfl ?_
  refine rn ?_
  refine s_cut n bs.length hr.src rfl (by simp) ⟨.i64, rfl⟩ rfl hn (Nat.le_refl _) (fun ao2 c2 hcut2 hblk2 _ => ?_)
  refine rn ?_
  ((with_reducible apply s_storeB); exact rfl; (conv => lhs; whnf); exact rfl; exact hr.1; exact rfl)
  intro w1 hb1 hf1 _
  have hst : RStep p w (.slice ao bs.length c) (bs.drop n) e w1 := by
    refine hr.setV ?_ (sub_of hblk2) (by simp) (hr.2.2.2.drop n) hb1 hf1
    rw [Nat.mul_one, Nat.mul_one, List.take_of_length_le (by simp), ← List.map_drop] at hcut2
    simpa using hcut2
  refine rn ?_
  (apply ret1; exact rfl; (conv => lhs; whnf))
  have hc1 : Src w (.slice ao1 n c1) n ((bs.take n).map (.int .u8)) := by simpa [← List.map_take] using hcut1
  exact ⟨ao1, c1, rfl, hc1.tr hf1 ((sub_of hblk1 : Sub (.slice ao bs.length c) _).off (ys := bs.map (.int .u8)) (by simp; omega) hr.2.2.1), sub_of hblk1, hst⟩

theorem rText (p : Nat) (v : Value) (bs : List Int) (e : Int) (w : World) (hr : IsR w p v bs e) (hl : bs.length ≤ 1000000000000) :
    Calls Tryz.prog 97 #[.pointer (some ⟨p, 0, none⟩)] w fun r w' => r = .returned (.string (strOf (rdR bs e).1)) ∧ RStep p w v (rdR bs e).2.1 (rdR bs e).2.2 w' := by
  have hn := rdN_ok (e := e) hr.2.2.2
  refine enter Tryz.func97 rfl Tryz.ntmps97 rfl ?_
  refine rn ?_
  refine s_call (rLength p v bs e w hr (by omega)) rfl ?_
  rintro _ w1 ⟨rfl, v1, hr1, hf1, hsub1⟩
  refine ⟨_, rfl, ?_⟩
  refine s_call (rTake p v1 _ _ (rdN bs e).1 w1 hr1 hn.1) rfl ?_
  rintro _ w2 ⟨ao, c, rfl, hs2, _, hst2⟩
  refine ⟨_, rfl, ?_⟩
  refine s_toStr hs2 rfl (by simp; omega) ?_
  refine rn ?_
  (apply ret1; exact rfl; (conv => lhs; whnf))
  exact ⟨rfl, RStep.trans hf1 hsub1 hst2⟩


theorem rdMany_stop {k : Nat} {bs : List Int} {e : Int} (h : e ≠ 0) : rdMany k bs e = ([], bs, e) := by
  cases k with
  | zero => rfl
  | succ k => simp [rdMany, h]



theorem wRead (x : Value) (bs : List Int) (w : World) (hx : Src w x bs.length (bs.map (.int .u8))) (hB : Bys bs) (hl : bs.length ≤ 1000000000000) :
    Calls Tryz.prog 21 #[x] w fun r w' => ∃ p v', r = .returned (.pointer (some ⟨p, 0, none⟩)) ∧ IsR w' p v' bs 0 ∧ Fr [] w w' ∧ w.heap.size ≤ p ∧ (∀ k ∈ blks v', w.heap.size ≤ k) ∧ Own w' 5 1 v' bs.length (bs.map (.int .u8)) := by
  obtain ⟨ao, c, hve, _⟩ := id hx
  subst hve
  refine enter Tryz.func21 rfl Tryz.ntmps21 rfl ?_
  refine rn ?_
  refine s_build0 (fun w0 ho0 hf0 hs0 => ?_)
  refine rn ?_
  refine s_append ho0 rfl (hx.tr0 hf0) rfl (by simp) (ints_one _ _) (by unfold maxLen; omega) (by omega) (fun v1 w1 ho1 hf1 hk1 _ => ?_)
  obtain ⟨ao1, c1, hv1⟩ := ho1.slice
  subst hv1
  refine s_build [.slice ao1 (0 + bs.length) c1, .int .i64 0] rfl ?_
  refine s_box rfl rfl (fun w2 hb2 hf2 hs2 => ?_)
  refine rn ?_
  (apply ret1; exact rfl; (conv => lhs; whnf))
  have hk1' : ∀ k ∈ blks (.slice ao1 (0 + bs.length) c1), w.heap.size ≤ k := fun k hk => by
    rcases hk1 k hk with h | h
    · simp [blks, Value.ownBlock] at h; omega
    · omega
  have hb0 : blks (.slice (some ⟨w.heap.size, 0, none⟩) 0 0) = [w.heap.size] := rfl
  rw [hb0] at hf1
  have hsz0 := hf0.size
  have hsz1 := hf1.size
  have ho2 := ho1.tr0 hf2
  have ho3 : Own w2 5 1 (.slice ao1 (0 + bs.length) c1) bs.length (bs.map (.int .u8)) := by simpa using ho2
  have hoff : Off (.slice ao1 (0 + bs.length) c1) (bs.map (.int .u8)) [w1.heap.size] := by
    have := ho1.src.off (S := [w1.heap.size]) (by intro k hk; simp at hk; omega)
    simpa using this
  exact ⟨w1.heap.size, .slice ao1 (0 + bs.length) c1, rfl, ⟨hb2, ho3.src, hoff, hB⟩, (hf0.trans hf1 (by intro k hk; simp at hk; right; omega)).trans0 hf2, by omega, hk1', ho3⟩
end Go.Proofs.YtpochcchekoonaaGreat
