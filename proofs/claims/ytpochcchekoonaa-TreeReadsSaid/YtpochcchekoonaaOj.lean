/-
  The reference's Fit; generated trees are not too wide.
-/
import Derived.Test.YtpochcchekoonaaOi
import Derived.Test.YtpochcchekoonaaAk
namespace Go.Proofs.Ytpochcchekoonaa
open Go.Rf Go.RowKit
set_option linter.unusedVariables false
set_option linter.unusedSimpArgs false
theorem nsp_pow {t : List Nd} {m : Nat} (hm : m ≤ 1) (hg : ∀ y ∈ t, NdG m y) (hv : VT t) : ∀ k, k < t.length → nsp (tA t k) + 1 ≤ 6 ^ k := by
  refine vInd fun k hk ih => ?_
  have hpos : ∀ j : Nat, 1 ≤ 6 ^ j := fun j => Nat.pow_pos (by omega)
  have hmono : ∀ j, j < k → 6 ^ j * 6 ≤ 6 ^ k := fun j hj => by rw [← Nat.pow_succ]; exact Nat.pow_le_pow_right (by omega) hj
  have hle : ∀ j, j < k → nsp (tA t j) + 1 ≤ 6 ^ (k - 1) := fun j hj => Nat.le_trans (ih j hj) (Nat.pow_le_pow_right (by omega) (by omega))
  have h1 := hpos k
  rcases kind5 hv hk with k0 | k1 | k2 | k3 | k4
  · rw [tA_leaf hk k0]; simp only [nsp]; omega
  · rw [tA_rng hk k1]; simp only [nsp]; omega
  · rw [tA_cho hv hk k2]
    simp only [nsp]
    have hc := hv.cho hk k2
    obtain ⟨q0, hq0, hqk⟩ := hv.kid hk (List.getElem_mem (show 0 < t[k].kids.length by omega))
    have hb : nspM (kidsT t t[k].kids) ≤ 6 ^ (k - 1) - 1 := nspM_le (fun s hs => by
      obtain ⟨x, hx, rfl⟩ := kidsT_mem hs
      obtain ⟨q, rfl, hq⟩ := hv.kid hk hx
      have := hle q hq
      simp only [Int.toNat_natCast]; omega)
    have := hmono (k - 1) (by omega)
    have := hpos (k - 1)
    omega
  · rw [tA_seq hv hk k3]
    simp only [nsp]
    have hvals : t[k].vals = [] := by
      have hf := hv.form hk
      unfold formN at hf
      simp only [Bool.and_eq_true] at hf
      have hu := hf.1
      unfold unusedN at hu
      have hu' := of_decide_eq_true hu
      exact List.eq_nil_of_length_eq_zero (by omega)
    have hfew := (hg t[k] (by simp)).few hvals
    by_cases hk0 : t[k].kids.length = 0
    · have : t[k].kids = [] := List.eq_nil_of_length_eq_zero hk0
      rw [this]
      simp only [kidsT, List.map_nil, nspS]; omega
    obtain ⟨q0, hq0, hqk⟩ := hv.kid hk (List.getElem_mem (show 0 < t[k].kids.length by omega))
    have hb : nspS (kidsT t t[k].kids) ≤ (kidsT t t[k].kids).length * (6 ^ (k - 1) - 1 + 1) := nspS_le (fun s hs => by
      obtain ⟨x, hx, rfl⟩ := kidsT_mem hs
      obtain ⟨q, rfl, hq⟩ := hv.kid hk hx
      have := hle q hq
      simp only [Int.toNat_natCast]; omega)
    rw [kidsT_len] at hb
    have h2 := hmono (k - 1) (by omega)
    have h3 := hpos (k - 1)
    have h4 : t[k].kids.length * (6 ^ (k - 1) - 1 + 1) ≤ 5 * (6 ^ (k - 1) - 1 + 1) := Nat.mul_le_mul_right _ (by omega)
    omega
  · obtain ⟨q, hqk, hqe, hqs⟩ := hv.first hk k4
    rw [tA_bnd hv hk k4, hqe, Int.toNat_natCast]
    simp only [nsp]
    have hb : nspM (kidsT t t[k].kids.tail) ≤ 6 ^ (k - 1) - 1 := nspM_le (fun s hs => by
      obtain ⟨x, hx, rfl⟩ := kidsT_mem hs
      obtain ⟨r, rfl, hr⟩ := hv.kid hk (List.mem_of_mem_tail hx)
      have := hle r hr
      simp only [Int.toNat_natCast]; omega)
    have h2 := hmono (k - 1) (by omega)
    have h3 := hpos (k - 1)
    have h4 := hle q hqk
    omega
theorem tg_of {t : List Nd} {m : Nat} (hm : m ≤ 1) (hg : ∀ y ∈ t, NdG m y) (hl : t.length ≤ 14) : TG t := by
  refine ⟨fun x hx => (hg x hx).ok, by omega, fun hz k hk => ?_⟩
  have h1 := nsp_pow hm hg (VT.of hz) k hk
  have h2 : 6 ^ k ≤ 6 ^ 13 := Nat.pow_le_pow_right (by omega) (by omega)
  have h3 : (6 : Nat) ^ 13 = 13060694016 := by decide
  omega
attribute [local irreducible] Code.wp wpList Exit.then Exit.inBlock bodyPost A Calls execOp Addr.add
set_option maxHeartbeats 8000000 in
theorem fitR (t : List Nd) (hg : TG t) (raw : List Int) (hraw : 0 ≤ raw.length) (S : List Nat) (sn sr : Value) (u : World) (hn : NS u S t sn) (hr : IS u S raw sr) (hSb : ∀ q ∈ S, q < u.heap.size) :
    Calls Try.prog 17 #[.agg #[sn], sr] u fun e u' => ∃ pv, e = .returned (.tuple #[pv, .int .i64 (fitT t raw).2]) ∧ Own u' 3 1 pv (fitT t raw).1.length ((fitT t raw).1.map (.int .i64)) ∧ (∀ q ∈ blks pv, u.heap.size ≤ q) ∧ Fr [] u u' := by
  obtain ⟨an, cn, rfl, _⟩ := hn.slice
  obtain ⟨ar, cr, rfl, _⟩ := hr.slice
  have hl := hg.len
  refine enter Try.func17 rfl Try.ntmps17 rfl ?_
  refine rx ?_
  refine s_box (l := [.slice an t.length cn]) rfl rfl (fun u1 hb1 hf1 hs1 => ?_)
  refine rx ?_
  refine s_call (validRT t _ u1 ((hn.mono (by simp)).tr0 hf1) hg.ok hl) rfl ?_
  rintro _ u3 ⟨rfl, hf3⟩
  refine ⟨_, rfl, ?_⟩
  have hb13 := hb1.tr0 hf3
  have hF3 := hf1.trans0 hf3
  have hs3 := hF3.size
  by_cases hz : validT t = 0
  case neg =>
    refine rx ?_
    (apply ret2; exact rfl; (conv => lhs; whnf); (conv => lhs; whnf))
    unfold fitT
    rw [if_neg hz]
    exact ⟨_, rfl, Own.nil _ _ _, by simp [blks, Value.ownBlock], hF3⟩
  by_cases h0 : 0 < t.length
  case neg =>
    refine rx ?_
    (apply ret2; exact rfl; (conv => lhs; whnf); (conv => lhs; whnf))
    unfold fitT
    rw [if_pos hz, if_neg h0]
    exact ⟨_, rfl, Own.nil _ _ _, by simp [blks, Value.ownBlock], hF3⟩
  have hv := VT.of hz
  have hlen := hv.len
  have hfe : fitT t raw = ((fit raw (tA t (t.length - 1)) []).2, 0) := by
    unfold fitT
    rw [if_pos hz, if_pos h0]
  rw [hfe]
  have hPl : (fit raw (tA t (t.length - 1)) []).2.length ≤ 256 := by
    have h1 := fit_len hv raw (t.length - 1) (by omega) []
    have h2 := hv.l0 (show t.length - 1 < t.length by omega)
    simp only [List.length_nil] at h1
    omega
  have hstop := fun {j} (hj : j < _) => readX_fit hv h0 raw (j := j) hj
  have hdone := readX_done hv h0 raw
  generalize (fit raw (tA t (t.length - 1)) []).2 = pth at hPl hstop hdone ⊢
  -- where reading stops
  have hst : ∀ (us : Nat) (st : Int) (v : V) (sp : List Sp) (j : Nat), j ≤ pth.length → endsR 0 us st v sp (readX t (pth.take j)) → (j < pth.length → ∃ (i : Nat) (hi : i < t.length), st = i ∧ (t[i].kind = 1 ∨ t[i].kind = 2) ∧ pth[j]? = some (clp raw j (optN t[i]) : Int)) ∧ (j = pth.length → st = -1) := by
    intro us st v sp j hj he
    refine ⟨fun hlt => ?_, fun heq => ?_⟩
    · obtain ⟨i, n, h1, h2⟩ := hstop hlt
      obtain ⟨hi, h3, h4⟩ := readX_stop hv h0 h1
      rw [h1] at he
      exact ⟨i, hi, he, h3, by rw [h2, h4]⟩
    · obtain ⟨v', e', sp', h1⟩ := hdone
      rw [heq, List.take_length, h1] at he
      exact he.2.1
  refine rx ?_
  refine s_call (ReadP t hv h0 hg.ok [] (by simp) (hg.sp hz) S _ _ u3 (hn.tr0 hF3) Ls.nil (fun q hq => by have := hSb q hq; omega)) rfl ?_
  rintro _ u4 ⟨cs, rfl, hR, hf4⟩
  refine ⟨_, rfl, ?_⟩
  obtain ⟨v, kv, us, st, sp, sv, rfl, h1, h2, h3, h4, h5, h6⟩ := hR
  refine s_alloc rfl (fun u5 hb5 hf5 hs5 => ?_)
  refine s_storeAggB (cs := rc v kv us st sv) rfl rfl hb5 (rc_one h1.one h2.one) rfl rfl (fun u6 hb6 hf6 hs6 => ?_)
  obtain ⟨ob, hob⟩ : ∃ y, y = u4.heap.size := ⟨_, rfl⟩
  rw [← hob] at hb6 hf6 ⊢
  obtain ⟨tb, htb⟩ : ∃ y, y = u.heap.size := ⟨_, rfl⟩
  rw [← htb] at hb13 ⊢
  have htbl := hb13.lt
  have hF46 : Fr [] u4 u6 := hf5.trans hf6 (by simp; omega)
  have hsz4 := hf4.size
  have hF6 := (hF3.trans0 hf4).trans0 hF46
  have hb16 := (hb13.tr0 hf4).tr0 hF46
  have hobl := hb6.lt
  have hsz46 := hF46.size
  refine rx ?_
  refine c_loopK 10 [7, 9] (σ := Nat × Value × Int) (fun s g y => g 7 = s.2.1 ∧ s.1 ≤ pth.length ∧ Own y 3 1 s.2.1 s.1 ((pth.take s.1).map (.int .i64)) ∧ (∀ b ∈ blks s.2.1, u6.heap.size ≤ b) ∧ (∃ v kv us sp sv, Blk y ob (rc v kv us s.2.2 sv) 78 ∧ endsR 0 us s.2.2 v sp (readX t (pth.take s.1))) ∧ Fr [ob] u6 y) (fun s => pth.length - s.1) (0, .slice none 0 0, st) ⟨rfl, Nat.zero_le _, Own.nil _ _ _, by simp [blks, Value.ownBlock], ⟨v, kv, us, sp, sv, hb6, h6⟩, Fr.refl _ _⟩ ?_
  rintro ⟨j, pv, sj⟩ g y ⟨h7, hj, ho, hnew, ⟨vj, kvj, usj, spj, svj, hby, hej⟩, hfy⟩
  simp only at h7 hj ho hnew hby hej
  rw [eq_upd h7]
  obtain ⟨ap, cp, rfl⟩ := ho.slice
  obtain ⟨hA, hB⟩ := hst _ _ _ _ j hj hej
  have hFy : Fr [] u y := hF6.trans hfy (by simp; omega)
  have hb1y : Blk y tb [.slice an t.length cn] 25 := hb16.tr hfy (by simp; omega)
  by_cases hjl : j < pth.length
  case neg =>
    have he : j = pth.length := by omega
    have hs1' := hB he
    subst hs1'
    subst he
    rw [List.take_length] at ho
    refine rx ?_
    (apply ret2; exact rfl; (conv => lhs; whnf); (conv => lhs; whnf))
    exact ⟨_, rfl, ho, fun b hb => by have := hnew b hb; have := hF6.size; omega, hFy⟩
  obtain ⟨i, hi, rfl, hkd, hpj⟩ := hA hjl
  obtain ⟨ad, cs0, hade, hrow, hcell⟩ := Sl.at (hn.tr0 hFy) ndLen hi
  subst hade
  obtain ⟨sw, sl, svv, sk, sx, rfl, hsw, hsl, hsv, hsk, hsx⟩ := hrow
  have hrg := hv.rng hi
  have hjn : j < 256 := by omega
  by_cases hjr : j < raw.length
  case' pos =>
    obtain ⟨adr, rfl, hcr⟩ := Ls.at (hr.tr0 hFy) hjr
    have hcrz : ∀ z, Fr [] y z → z.cell? (adr.add (j * 1)) = some (.int .i64 raw[j]) := fun z hz => by
      obtain ⟨ad', e', h'⟩ := Ls.at ((hr.tr0 hFy).tr0 hz) hjr
      cases e'
      rw [Nat.mul_one]
      exact h'
    refine rx ?_
    (refine d_begin (fun z => Fr [] y z) (by kernel_rfl) rfl ?_)
    have hS : Fr [] y y.drew := Fr.drew _ _
    ((first | refine d_tx 0 hS ?_ | refine d_ty 0 hS ?_ | refine d_tn 0 hS ?_); (first | refine d_tx 1 hS ?_ | refine d_ty 1 hS ?_ | refine d_tn 1 hS ?_); (first | refine d_tx 2 hS ?_ | refine d_ty 2 hS ?_ | refine d_tn 2 hS ?_))
    (apply d_take (i := 3); exact rfl; kernel_rfl; kernel_rfl; kernel_rfl; (intro u hu; exact (r_indexAddr (j := j) rfl rfl rfl hjr rfl)); exact hS)
    (apply d_take (i := 4); exact rfl; kernel_rfl; kernel_rfl; kernel_rfl; (intro u hu; exact (r_load rfl (hcrz _ hu))); exact hS)
    ((first | refine d_tx 5 hS ?_ | refine d_ty 5 hS ?_ | refine d_tn 5 hS ?_); (first | refine d_tx 6 hS ?_ | refine d_ty 6 hS ?_ | refine d_tn 6 hS ?_); (first | refine d_tx 7 hS ?_ | refine d_ty 7 hS ?_ | refine d_tn 7 hS ?_); (first | refine d_tx 8 hS ?_ | refine d_ty 8 hS ?_ | refine d_tn 8 hS ?_))
    (apply d_take (i := 9); exact rfl; kernel_rfl; kernel_rfl; kernel_rfl; (intro u hu; exact (r_indexAddr (j := i) rfl rfl rfl hi rfl)); exact hS)
    (apply d_take (i := 10); exact rfl; kernel_rfl; kernel_rfl; kernel_rfl; (intro u hu; exact (r_loadC rfl (hcell.tr0 hu) (by rfl))); exact hS)
    refine d_one (i := 11) rfl (by kernel_rfl) ?_
    refine s_call (optsR t[i] (hg.ok _ (by simp)) (fun _ => by omega) sw sl svv sk sx y.drew ((hsk.mono (by simp)).tr0 hS)) rfl ?_
    rintro _ z ⟨rfl, hz1⟩
    refine ⟨_, rfl, ?_⟩
    have hfz := hS.trans0 hz1
    refine wpList_nil (q_held hfz ?_)
    have hobd : optN t[i] < 100000000000000 := by
      unfold optN
      split
      · omega
      · have := (hg.ok t[i] (by simp)).lk; omega
    ((first | refine d_tx 12 hfz ?_ | refine d_ty 12 hfz ?_ | refine d_tn 12 hfz ?_))
    (apply d_take (i := 13); exact rfl; kernel_rfl; kernel_rfl; kernel_rfl; (intro u hu; exact (r_min rfl rfl rfl)); exact hfz)
    (apply d_take (i := 14); exact rfl; kernel_rfl; kernel_rfl; kernel_rfl; (intro u hu; exact (r_max rfl rfl rfl)); exact hfz)
    (refine d_one (i := 15) rfl (by kernel_rfl) ?_; refine rx ?_; refine q_held hfz ?_)
    (refine d_done (by kernel_rfl) ?_)
    have hcl : ((clp raw j (optN t[i]) : Nat) : Int) = (if (0 : Int) < (if (optN t[i] : Int) - 1 < raw[j] then (optN t[i] : Int) - 1 else raw[j]) then (if (optN t[i] : Int) - 1 < raw[j] then (optN t[i] : Int) - 1 else raw[j]) else 0) := by
      unfold clp
      rw [List.getD_eq_getElem?_getD, List.getElem?_eq_getElem hjr]
      simp only [Option.getD_some]
      split <;> split <;> omega
  case' neg =>
    obtain ⟨z, hzz⟩ : ∃ z, z = y := ⟨_, rfl⟩
    have hfz : Fr [] y z := by rw [hzz]; exact Fr.refl _ _
    have hcl : ((clp raw j (optN t[i]) : Nat) : Int) = 0 := by
      unfold clp
      rw [List.getD_eq_getElem?_getD, List.getElem?_eq_none (by omega)]
      simp only [Option.getD_none]
      omega
    refine rx ?_
    rw [← hzz]
  all_goals
    have hb1z := hb1y.tr0 hfz
    have hbyz := hby.tr0 hfz
    refine rx ?_
    refine s_build1 (v := .int .i64 ((clp raw j (optN t[i]) : Nat) : Int)) (by rw [hcl]; rfl) rfl (fun z1 ho1 hf1' hz1' => ?_)
    refine s_append (ho.tr0 (hfz.trans0 hf1')) rfl ho1.src rfl rfl (by simp [Value.oneCell']) (by unfold maxLen; omega) (by omega) (fun pv2 z2 ho2 hf2' hk2' _ => ?_)
    have hpt : pth.take (j + 1) = pth.take j ++ [((clp raw j (optN t[i]) : Nat) : Int)] := by
      rw [List.take_add_one, hpj]; rfl
    have ho2e : Own z2 3 1 pv2 (j + 1) ((pth.take (j + 1)).map (.int .i64)) := by rw [hpt]; simpa using ho2
    have hnew2 : ∀ b ∈ blks pv2, u6.heap.size ≤ b := fun b hb => by
      rcases hk2' b hb with h | h
      · exact hnew b h
      · have := hfy.size; have := hfz.size; omega
    have hobn : ob ∉ blks (.slice ap j cp) := fun h => by have := hnew _ h; omega
    have hF2 : Fr [] u z2 := ((hFy.trans0 hfz).trans0 hf1').trans hf2' (fun b hb => .inr (by have := hnew b hb; have := hF6.size; omega))
    have hb1z2 : Blk z2 tb [.slice (some ad) t.length cn] 25 := (hb1z.tr0 hf1').tr hf2' (fun h => by have := hnew _ h; have := hF6.size; omega)
    have hbyz2 := (hbyz.tr0 hf1').tr hf2' hobn
    have hj1 : (pth.take (j + 1)).length = j + 1 := by rw [List.length_take]; omega
    refine rx ?_
    have hpS : IS z2 S (pth.take (j + 1)) pv2 := lsOff ho2e hj1.symm rfl (fun b hb hm => by have := hnew2 b hb; have := hSb b hm; have := hF6.size; omega)
    refine s_call (ReadP t hv h0 hg.ok (pth.take (j + 1)) (by omega) (hg.sp hz) S _ _ z2 (hn.tr0 hF2) hpS (fun q hq => by have := hSb q hq; have := hF2.size; omega)) rfl ?_
    rintro _ z3 ⟨cs3, rfl, hR3, hf3'⟩
    refine ⟨_, rfl, ?_⟩
    obtain ⟨v3, kv3, us3, st3, sp3, sv3, rfl, q1, q2, q3, q4, q5, q6⟩ := hR3
    refine s_storeAggB (cs := rc v3 kv3 us3 st3 sv3) rfl rfl (hbyz2.tr0 hf3') (rc_one q1.one q2.one) rfl rfl (fun z4 hb4 hf4' hs4' => ?_)
    refine rx ?_
    have hfr : Fr [ob] u6 z4 := ((((hfy.trans0 hfz).trans0 hf1').trans hf2' (fun b hb => .inr (hnew b hb))).trans0 hf3').trans hf4' (by simp)
    exact q_roundK (j + 1, pv2, st3) (by (repeat (first | exact Keep.mrg _ _ _ _ | (refine Keep.hi rfl ?_) | (refine Keep.one rfl ?_) | exact Keep.all rfl | (refine Keep.inn rfl ?_) | (refine Keep.set rfl ?_)))) ⟨rfl, by simp only; omega, (ho2e.tr0 hf3').tr hf4' (fun b hb hm => by simp at hm; have := hnew2 b hb; omega), hnew2, ⟨v3, kv3, us3, sp3, sv3, hb4, q6⟩, hfr⟩ (by simp only; omega)
end Go.Proofs.Ytpochcchekoonaa
