/-
  The walk of the law WirePrefix.
-/
import Derived.Test.YtinafhpbhajdpaaL4
namespace Go.Proofs.Ytinafhpbhajdpaa
set_option linter.unusedVariables false
open Go.Rf Go.RowKit
attribute [local irreducible] Code.wp wpList Exit.then Exit.inBlock bodyPost A Calls

/-! ### a proper beginning of an encoding asks for more -/
theorem rdL_cut (m : Nat) : ∀ (i acc k : Nat), i ≤ 9 → m * 128 ^ i < 18446744073709551616 → (0 < i → m ≠ 0) → k < (uv m).length → rdL ((uv m).take k) i acc = .error 3 := by
  induction m using Nat.strongRecOn with
  | _ m ih =>
    intro i acc k hi hfit h0 hk
    have h9 : i = 9 → m ≤ 1 := by
      intro e; subst e
      have e : (128 : Nat) ^ 9 = 9223372036854775808 := by decide
      rw [e] at hfit; omega
    by_cases h : m < 128
    · rw [uv_lt h] at hk ⊢
      have : k = 0 := by simpa using hk
      subst this; simp [rdL]
    · rw [uv_ge (by omega)] at hk ⊢
      cases k with
      | zero => simp [rdL]
      | succ k =>
        rw [List.take_succ_cons, rdL, if_neg (by omega), if_neg (by omega)]
        have e2 : m / 128 * 128 ^ (i + 1) ≤ m * 128 ^ i := by
          rw [Nat.pow_succ, Nat.mul_comm (128 ^ i) 128, ← Nat.mul_assoc]
          exact Nat.mul_le_mul_right _ (by omega)
        exact ih (m / 128) (by omega) (i + 1) _ k (by omega) (by omega) (fun _ => by omega) (by simpa using hk)
theorem rdU_cut {m k : Nat} (h : m < 18446744073709551616) (hk : k < (uv m).length) : rdU ((uv m).take k) 0 = (0, (uv m).take k, 3) := by
  rw [rdU, if_neg (by simp), rdL_cut m 0 0 k (by omega) (by simpa using h) (by omega) hk]
theorem take_pre {xs ys : List Int} {k : Nat} (h : k ≤ xs.length) : (xs ++ ys).take k = xs.take k := by rw [List.take_append, Nat.sub_eq_zero_of_le h]; simp
theorem take_post {xs ys : List Int} {k : Nat} (h : xs.length ≤ k) : (xs ++ ys).take k = xs ++ ys.take (k - xs.length) := by rw [List.take_append, List.take_of_length_le h]
theorem rdI_cut {n : Int} {k : Nat} (h : InI64 n) (hk : k < (iv n).length) : (rdI ((iv n).take k) 0).2.2 = 3 := by
  rw [rdI, iv, rdU_cut (zz_lt h.1 h.2) hk]
theorem rdMany_cut : ∀ (ns : List Int) (k : Nat), (∀ n ∈ ns, InI64 n) → k < (ns.flatMap iv).length → (rdMany ns.length ((ns.flatMap iv).take k) 0).2.2 = 3
  | [], k, _, hk => by simp at hk
  | n :: ns, k, h, hk => by
    have hn := h n (by simp)
    simp only [List.flatMap_cons, List.length_cons, rdMany] at hk ⊢
    rw [if_neg (by simp)]
    by_cases hc : k < (iv n).length
    · rw [take_pre (by omega)]
      have := rdI_cut hn hc
      simp only
      rw [this, rdMany_stop (by omega)]
    · rw [take_post (by omega), rdI_iv hn.1 hn.2]
      simp only
      exact rdMany_cut ns _ (fun m hm => h m (by simp [hm])) (by rw [List.length_append] at hk; omega)
theorem rdN_cut {m k : Nat} {rest : List Int} (h : m < 18446744073709551616) (hk : k < (uv m).length + rest.length) (hr : rest.length ≤ m ∨ k < (uv m).length) : (rdN ((uv m ++ rest).take k) 0).2.2 = 3 := by
  by_cases hc : k < (uv m).length
  · rw [take_pre (by omega)]
    simp only [rdN, rdU_cut h hc]
    rw [if_pos (by simp)]
  · rw [take_post (by omega)]
    simp only [rdN, rdU_uv h]
    rw [if_neg (by simp), if_pos (by simp; omega)]
theorem rdIs_err {bs : List Int} {e x : Int} (h : (rdN bs e).2.2 = x) (hx : x ≠ 0) : (rdIs bs e).2.2 = x := by
  simp only [rdIs]
  rw [rdMany_stop (by rw [h]; exact hx)]
  exact h
theorem rdV_cut {v : Val} (ho : v.Ok) (hs : v.Shape) {k : Nat} (hk : k < v.enc.length) : (rdV v.kind (v.enc.take k) 0).2.2 = 3 := by
  unfold Val.enc at hk ⊢
  unfold rdV
  have hbl := ho.bl
  have hll := ho.ll
  split
  · rename_i h; rw [if_pos h] at hk
    simp only [rdU_cut ho.u hk]
  rename_i h0; rw [if_neg h0] at hk
  split
  · rename_i h; rw [if_pos h] at hk
    exact rdI_cut ho.n hk
  rename_i h1; rw [if_neg h1] at hk
  split
  · rename_i h; rw [if_pos h] at hk
    have : k = 0 := by simpa using hk
    subst this
    simp [rdB]
  rename_i h2; rw [if_neg h2] at hk
  split
  · rename_i h; rw [if_pos h] at hk
    simp only [raw, rdR] at hk ⊢
    rw [List.length_append] at hk
    exact rdN_cut (by omega) hk (.inl (Nat.le_refl _))
  · rename_i h; rw [if_neg h] at hk
    simp only [ints] at hk ⊢
    rw [List.length_append] at hk
    by_cases hc : k < (uv v.l.length).length
    · exact rdIs_err (rdN_cut (by omega) hk (.inr hc)) (by omega)
    · rw [take_post (by omega)]
      simp only [rdIs]
      by_cases hq : v.l.length ≤ ((v.l.flatMap iv).take (k - (uv v.l.length).length)).length
      · rw [rdN_uv (by omega) hq]
        simp only
        exact rdMany_cut v.l _ ho.l (by omega)
      · have hN : rdN (uv v.l.length ++ (v.l.flatMap iv).take (k - (uv v.l.length).length)) 0 = (0, (v.l.flatMap iv).take (k - (uv v.l.length).length), 3) := by
          simp only [rdN, rdU_uv (show v.l.length < 18446744073709551616 by omega)]
          rw [if_neg (by simp), if_pos (by omega)]
        rw [hN]
        simp [rdMany]
/-- an error stays, and the value is zero -/
theorem rdV_err {k : Int} {bs : List Int} {e : Int} (he : e ≠ 0) : rdV k bs e = (⟨k, 0, 0, [], []⟩, bs, e) := by
  have hU : rdU bs e = (0, bs, e) := by rw [rdU, if_pos he]
  have hI : rdI bs e = (0, bs, e) := by simp [rdI, hU, back]
  have hB : rdB bs e = (false, bs, e) := by unfold rdB; rw [if_pos he]
  have hN : rdN bs e = (0, bs, e) := by simp [rdN, hU, he]
  have hR : rdR bs e = ([], bs, e) := by simp [rdR, hN]
  have hS : rdIs bs e = ([], bs, e) := by simp [rdIs, hN, rdMany]
  unfold rdV
  rw [hU, hI, hB, hR, hS]
  repeat' split
  all_goals first | rfl | simp_all
/-- one read of a beginning of what is left -/
theorem rdV_pre {v : Val} (ho : v.Ok) (hs : v.Shape) {rest bs : List Int} {e : Int} (h : e = 3 ∨ e = 0 ∧ ∃ m, m < (v.enc ++ rest).length ∧ bs = (v.enc ++ rest).take m) :
    (rdV v.kind bs e).2.2 = 3 ∨ (rdV v.kind bs e).2.2 = 0 ∧ ∃ m, m < rest.length ∧ (rdV v.kind bs e).2.1 = rest.take m := by
  rcases h with rfl | ⟨rfl, m, hm, rfl⟩
  · left; rw [rdV_err (by omega)]
  · by_cases hc : m < v.enc.length
    · left; rw [take_pre (by omega)]; exact rdV_cut ho hs hc
    · right
      rw [take_post (by omega), rdV_enc ho hs]
      exact ⟨rfl, m - v.enc.length, by rw [List.length_append] at hm; omega, rfl⟩

set_option maxHeartbeats 4000000 in
theorem wirePrefix_walk (x : Value) (zs : List Int) (cut c : Int) (w : World)
    (hx : Src w x zs.length (zs.map (.int .i64))) (hz : ∀ n ∈ zs, InI64 n) (hcut : InI64 cut) (hc : 0 ≤ c ∧ c < 256) :
    Calls Try.prog 10 #[x, .int .i64 cut, .int .u8 c] w fun e w' => e = .returned (.bool true) ∧ Fr [] w w' := by
  refine enter Try.func10 rfl Try.ntmps10 rfl ?_
  refine rn ?_
  refine s_call (vals x zs w hx hz) rfl ?_
  rintro _ w1 ⟨vo, T, rfl, hT, hTl, hf1, hk1⟩
  refine ⟨_, rfl, ?_⟩
  have hA : ∀ t ∈ T, IsVal w1 [] t.1 t.2.1 t.2.2 := hT.plain
  have hAs := hT.shape
  have hoA := hT.own
  obtain ⟨aoA, cA, hvA⟩ := hoA.slice
  subst hvA
  refine rn ?_
  refine s_call (lawEncode _ T w1 hoA.src hA (by omega)) rfl ?_
  rintro _ w2 ⟨ve, rfl, ho2, hf2, hk2⟩
  refine ⟨_, rfl, ?_⟩
  have hsm := encs_small T (fun t ht => (hA t ht).ok) hAs
  have hbys := encs_bys (fun t ht => (hA t ht).ok)
  obtain ⟨aoE, cE, hvE⟩ := ho2.slice
  subst hvE
  refine rn ?_
  refine s_eql rfl rfl (fun h0 => ?_) (fun h0 => ?_)
  · refine rn ?_
    refine s_call (wRead (.slice none 0 0) [] w2 (Src.nil _) (by simp [Bys]) (by simp)) rfl ?_
    rintro _ w3 ⟨p, vr, rfl, hr3, hf3, hp3, hk3, _⟩
    refine ⟨_, rfl, ?_⟩
    refine rn ?_
    refine s_call (rEnd p vr _ _ w3 hr3) rfl ?_
    rintro _ _ ⟨rfl, rfl⟩
    refine ⟨_, rfl, ?_⟩
    have qe : rdEnd [] 0 = 0 := by decide
    rw [qe]
    refine rn ?_
    refine s_call (lives w3) rfl ?_
    rintro _ u2 ⟨rfl, hf2'⟩
    refine ⟨_, rfl, ?_⟩
    refine rn ?_
    (apply ret1; exact rfl; (conv => lhs; whnf))
    exact ⟨rfl, ((hf1.trans0 hf2).trans0 hf3).trans0 hf2'⟩
  obtain ⟨E, hE⟩ : ∃ E, encs T = E := ⟨_, rfl⟩
  rw [hE] at h0 ho2 hbys hsm ⊢
  have hEp : 0 < E.length := by omega
  refine rn ?_
  refine s_call (around cut E.length w2 hcut.1 hcut.2 (by omega)) rfl ?_
  rintro _ _ ⟨rfl, rfl⟩
  refine ⟨_, rfl, ?_⟩
  obtain ⟨m, hm⟩ : ∃ m : Nat, arnd cut E.length = (m : Int) := ⟨(arnd cut E.length).toNat, by have := arnd_range (a := cut) (m := E.length) (by omega); omega⟩
  have hmE : m < E.length := by have := arnd_range (a := cut) (m := E.length) (by omega); omega
  rw [hm]
  refine s_cut 0 m ho2.src rfl (by simp) rfl ⟨.i64, rfl⟩ (Nat.zero_le _) (by omega) (fun ao1 c1 hcut1 hblk1 _ => ?_)
  rw [Nat.sub_zero] at hcut1 ⊢
  have hc1 : Src w2 (.slice ao1 m c1) (E.take m).length ((E.take m).map (.int .u8)) := by
    have e1 : (E.take m).length = m := by simp; omega
    rw [e1]
    simpa [← List.map_take] using hcut1
  refine s_call (wRead _ (E.take m) w2 hc1 (hbys.take m) (by simp; omega)) rfl ?_
  rintro _ w3 ⟨p, vr, rfl, hr3, hf3, hp3, hk3, hor3⟩
  refine ⟨_, rfl, ?_⟩
  refine rn ?_
  refine s_call (few _ E E.length w3 (ho2.src.tr0 hf3) (by omega)) rfl ?_
  rintro _ w4 ⟨vf, rfl, ho4, hf4, hk4⟩
  refine ⟨_, rfl, ?_⟩
  rw [List.take_length] at ho4
  refine rn ?_
  ((with_reducible apply s_build1); (conv => lhs; whnf); exact rfl)
  intro w5 ho5 hf5 hs5
  refine s_append (ho4.tr0 hf5) rfl ho5.src rfl rfl (by simp [Value.oneCell']) (by unfold maxLen; omega) (by omega) (fun vg w6 ho6 hf6 hk6 _ => ?_)
  have ho6' : Own w6 5 1 vg (E ++ [c]).length ((E ++ [c]).map (.int .u8)) := by simpa using ho6
  have z3 := hf3.size
  have z4 := hf4.size
  have z5 := hf5.size
  have z6 := hf6.size
  have hF36 : Fr [] w3 w6 := (hf4.trans0 hf5).trans hf6 (fun k hk => .inr (hk4 k hk))
  refine s_call (wRead _ (E ++ [c]) w6 ho6'.src (hbys.append (by intro b hb; simp only [List.mem_singleton] at hb; subst hb; exact hc)) (by simp; omega)) rfl ?_
  rintro _ w7 ⟨q, vq, rfl, hq7, hf7, hpq, hkq, hoq⟩
  refine ⟨_, rfl, ?_⟩
  have hF37 := hF36.trans0 hf7
  have hr7 : IsR w7 p vr (E.take m) 0 := hr3.fresh hF37 (by simp)
  have ltp := hr3.1.lt
  have hoff1 : Off vr ((E.take m).map (.int .u8)) [q] := hr3.2.1.off (by simp; omega)
  have hoff2 : Off vq ((E ++ [c]).map (.int .u8)) [p] := off_new hkq _ (by simp; omega)
  have hF17 : Fr [] w1 w7 := (hf2.trans0 hf3).trans0 hF37
  have z2 := hf2.size
  have lq := hq7.1.lt
  refine rn ?_
  refine c_loopK 14 [12] (σ := Nat × Value × List Int × Int × Value) (fun s g u => g 12 = .int .i64 s.1 ∧ s.1 ≤ T.length ∧ IsR u p s.2.1 s.2.2.1 s.2.2.2.1 ∧ IsR u q s.2.2.2.2 (encs (T.drop s.1) ++ [c]) 0 ∧ Off s.2.1 (s.2.2.1.map (.int .u8)) [q] ∧ Off s.2.2.2.2 ((encs (T.drop s.1) ++ [c]).map (.int .u8)) [p] ∧ Fr [] w1 u ∧ s.2.2.1.length ≤ 1000 ∧
      (s.2.2.2.1 = 3 ∨ s.2.2.2.1 = 0 ∧ ∃ m, m < (encs (T.drop s.1)).length ∧ s.2.2.1 = (encs (T.drop s.1)).take m))
    (fun s => T.length - s.1) (0, vr, E.take m, 0, vq) ⟨rfl, Nat.zero_le _, hr7, by rw [List.drop_zero, hE]; exact hq7, hoff1, by rw [List.drop_zero, hE]; exact hoff2, hF17, by simp; omega, .inr ⟨rfl, m, by rw [List.drop_zero, hE]; exact hmE, by rw [List.drop_zero, hE]⟩⟩ ?_
  rintro ⟨i, v1, b1, e1, v2⟩ g u ⟨h12, hi, hru, hqu, ho1', ho2', hfu, hb1, hst⟩
  simp only at h12 hi hru hqu ho1' ho2' hb1 hst
  rw [eq_upd h12]
  refine rn ?_
  refine s_lss rfl rfl (fun h => ?_) (fun h => ?_)
  · have hlt : i < T.length := by omega
    obtain ⟨ad, ha, hcell⟩ := src_val (i := i) (hoA.src.tr0 hfu) hlt
    have hok := (hA T[i] (by simp)).ok
    have hsh := hAs T[i] (by simp)
    have hdr := encs_drop T i hlt
    have hds := encs_small (T.drop i) (fun t ht => (hA t (List.mem_of_mem_drop ht)).ok) (fun t ht => hAs t (List.mem_of_mem_drop ht))
    rw [List.length_drop] at hds
    refine rn ?_
    refine s_indexAddr rfl rfl rfl hlt ha ?_
    refine rn ?_
    refine s_load rfl (hcell 0 _ rfl) ?_
    refine s_call (lawRead p T[i].1.kind v1 b1 e1 u hru hsh.k0 hsh.k6 (by omega)) rfl ?_
    rintro _ u1 ⟨xb, xl, rfl, hnv, v3, hr3', hf3', hsub3⟩
    refine ⟨_, rfl, ?_⟩
    have szu := hfu.size
    have hfu1 : Fr [] w1 u1 := hfu.trans hf3' (by simp; omega)
    have hqu1 : IsR u1 q v2 (encs (T.drop i) ++ [c]) 0 := hqu.tr hf3' (by simp; omega) ho2'
    have hrok := rdV_ok (k := T[i].1.kind) (bs := b1) (e := e1) hru.2.2.2 hsh.k0 hsh.k6 (by omega)
    have hl3 := hrok.2.2.1
    rw [hdr] at hst
    have hst' := rdV_pre hok hsh hst
    have ho3' : Off v3 ((rdV T[i].1.kind b1 e1).2.1.map (.int .u8)) [q] := hsub3.off (ys := b1.map (.int .u8)) (by simp only [List.length_map]; omega) ho1'
    obtain ⟨ad', ha', hcell'⟩ := src_val (i := i) (hoA.src.tr0 hfu1) hlt
    refine rn ?_
    refine s_indexAddr rfl rfl rfl hlt ha' ?_
    refine rn ?_
    refine s_load rfl (hcell' 0 _ rfl) ?_
    have hrd := rdV_enc hok hsh (encs (T.drop (i + 1)) ++ [c])
    rw [← List.append_assoc, ← hdr] at hrd
    refine s_call (lawRead q T[i].1.kind v2 _ 0 u1 hqu1 hsh.k0 hsh.k6 (by simp; omega)) rfl ?_
    rintro _ u2 ⟨xb', xl', rfl, hnv', v4, hr4', hf4', hsub4⟩
    refine ⟨_, rfl, ?_⟩
    rw [hrd] at hr4'
    simp only at hr4'
    have hfu2 : Fr [] w1 u2 := hfu1.trans hf4' (by simp; omega)
    have ho4' : Off v4 ((encs (T.drop (i + 1)) ++ [c]).map (.int .u8)) [p] := hsub4.off (ys := (encs (T.drop i) ++ [c]).map (.int .u8)) (by simp) ho2'
    refine rn ?_
    exact q_roundK (i + 1, v3, (rdV T[i].1.kind b1 e1).2.1, (rdV T[i].1.kind b1 e1).2.2, v4) (by (repeat (first | exact Keep.mrg _ _ _ _ | (refine Keep.hi rfl ?_) | (refine Keep.one rfl ?_) | exact Keep.all rfl | (refine Keep.set rfl ?_)))) ⟨rfl, by simp only; omega, hr3'.tr hf4' (by simp; omega) ho3', hr4', ho3', ho4', hfu2, by simp only; omega, hst'⟩ (by simp only; omega)
  · have hdr : T.drop i = [] := List.drop_of_length_le (by omega)
    rw [hdr] at hqu hst
    have he1 : e1 = 3 := by
      rcases hst with h | ⟨_, m, hm, _⟩
      · exact h
      · simp [encs] at hm
    subst he1
    have szu := hfu.size
    refine rn ?_
    refine s_call (rEnd p v1 _ _ u hru) rfl ?_
    rintro _ _ ⟨rfl, rfl⟩
    refine ⟨_, rfl, ?_⟩
    have qe : rdEnd b1 3 = 3 := by rw [rdEnd, if_pos (by omega)]
    rw [qe]
    refine rn ?_
    refine s_call (rEnd q v2 _ _ u hqu) rfl ?_
    rintro _ _ ⟨rfl, rfl⟩
    refine ⟨_, rfl, ?_⟩
    have qe2 : rdEnd (encs [] ++ [c]) 0 = 2 := by rw [rdEnd, if_neg (by omega), if_pos (by simp)]
    rw [qe2]
    refine rn ?_
    obtain ⟨hk0, hk6⟩ := arnd_range (a := cut) (m := 6) (by omega)
    refine s_call (around cut 6 u hcut.1 hcut.2 (by omega)) rfl ?_
    rintro _ _ ⟨rfl, rfl⟩
    refine ⟨_, rfl, ?_⟩
    generalize arnd cut 6 = kk at hk0 hk6
    refine s_call (lawRead p kk v1 b1 3 u hru hk0 hk6 (by omega)) rfl ?_
    rintro _ u1 ⟨xb, xl, rfl, hnv, v3, hr3', hf3', hsub3⟩
    rw [rdV_err (by omega)] at hnv hr3' ⊢
    simp only at hr3'
    refine ⟨_, rfl, ?_⟩
    have hfu1 : Fr [] w1 u1 := hfu.trans hf3' (by simp; omega)
    have zu1 := hf3'.size
    refine s_alloc rfl (fun u2 hb2 hg2 hs2 => ?_)
    have hone : ∀ x ∈ vcells ⟨kk, 0, 0, [], []⟩ xb xl, x.oneCell' = true := by
      intro x hx
      simp only [vcells, List.mem_cons, List.not_mem_nil, or_false] at hx
      rcases hx with rfl | rfl | rfl | rfl | rfl
      · rfl
      · rfl
      · rfl
      · exact hnv.b.one
      · exact hnv.l.one
    refine s_storeAggB rfl rfl hb2 hone rfl rfl (fun u3 hb3 hg3 _ => ?_)
    have hG : Fr [] u1 u3 := hg2.trans hg3 (by simp)
    refine rn ?_
    refine s_loadAggB rfl hb3 rfl ?_
    refine rn ?_
    refine s_build [.int .i64 kk, .int .u64 0, .int .i64 0, .slice none 0 0, .slice none 0 0] rfl ?_
    have hkk : InI64 kk := ⟨by omega, by omega⟩
    refine s_call (refSame ⟨kk, 0, 0, [], []⟩ ⟨kk, 0, 0, [], []⟩ xb xl (.slice none 0 0) (.slice none 0 0) u3 (((hnv.tr (S := []) hG (by simp)).is ⟨hkk, by simp, inI64_few (by simp) (by simp), by simp [Bys], by simp, by simp, by simp⟩ (by simp))) (isVal_bare' hkk (by omega) (inI64_few (by omega) (by omega)))) rfl ?_
    rintro _ u4 ⟨rfl, hg4⟩
    refine ⟨_, rfl, ?_⟩
    rw [same_refl]
    refine rn ?_
    refine s_call (rEnd p v3 _ _ u4 ((hr3'.fresh hG (by simp)).fresh hg4 (by simp))) rfl ?_
    rintro _ _ ⟨rfl, rfl⟩
    refine ⟨_, rfl, ?_⟩
    rw [qe]
    refine rn ?_
    refine s_call (lives u4) rfl ?_
    rintro _ u5 ⟨rfl, hg5⟩
    refine ⟨_, rfl, ?_⟩
    refine rn ?_
    (apply ret1; exact rfl; (conv => lhs; whnf))
    exact ⟨rfl, (((hf1.trans0 hfu1).trans0 hG).trans0 hg4).trans0 hg5⟩
end Go.Proofs.Ytinafhpbhajdpaa
