/-
  The reference's reading of paths: read.
-/
import Derived.Test.YtpochcchekoonaaOg
namespace Go.Proofs.Ytpochcchekoonaa
open Go.Rf Go.RowKit
set_option linter.unusedVariables false
set_option linter.unusedSimpArgs false
attribute [local irreducible] Code.wp wpList Exit.then Exit.inBlock bodyPost A Calls execOp Addr.add
set_option maxHeartbeats 32000000 in
theorem readR (t : List Nd) (hv : VT t) (hok : ∀ x ∈ t, NdOk x) (path : List Int) (hpl : path.length ≤ 1000000000) (hm : ∀ k, k < t.length → nsp (tA t k) ≤ 100000000000) : ∀ k, k < t.length → RefC t path k := by
  refine vInd fun k hk ih => ?_
  intro S u a sn spv hn hp hSb ha
  have hrng := hv.rng hk
  have hmk := hm k hk
  have hlen := hv.len
  have hokk := hok t[k] (by simp)
  obtain ⟨an, cn, rfl, _⟩ := hn.slice
  obtain ⟨ap, cp, rfl, _⟩ := hp.slice
  obtain ⟨ad, cs0, rfl, hrow, hcell⟩ := Sl.at hn ndLen hk
  have hrow0 := hrow
  obtain ⟨sw, sl, sv, sk, sx, rfl, hsw, hsl, hsv, hsk, hsx⟩ := hrow
  obtain ⟨aw, cw, rfl, _⟩ := hsw.slice
  obtain ⟨al, cl, rfl, _⟩ := hsl.slice
  obtain ⟨av, cv, rfl, _⟩ := hsv.slice
  obtain ⟨ak, ck, rfl, _⟩ := hsk.slice
  obtain ⟨ax, cx, rfl, _⟩ := hsx.slice
  refine enter Try.func73 rfl Try.ntmps73 rfl ?_
  refine rx ?_
  refine s_box (l := [.slice (some ad) t.length cn]) rfl rfl (fun u1 hb1 hf1 hs1 => ?_)
  refine s_alloc rfl (fun u2 hb2 hf2 hs2 => ?_)
  have hb12 := hb1.tr0 hf2
  have hcell2 := hcell.tr0 (hf1.trans0 hf2)
  refine rx ?_
  refine s_alloc rfl (fun u3 hb3 hf3 hs3 => ?_)
  refine s_storeAggB (cs := nc t[k] (.slice aw t[k].ws.length cw) (.slice al t[k].labs.length cl) (.slice av t[k].vals.length cv) (.slice ak t[k].kids.length ck) (.slice ax t[k].val.kids.length cx)) rfl rfl hb3 (by simp [nc, Value.oneCell']) rfl rfl (fun w hbx hfx hsx' => ?_)
  obtain ⟨tb, htb⟩ : ∃ y, y = u.heap.size := ⟨_, rfl⟩
  obtain ⟨r8, hr8⟩ : ∃ y, y = u1.heap.size := ⟨_, rfl⟩
  obtain ⟨xb, hxb⟩ : ∃ y, y = u2.heap.size := ⟨_, rfl⟩
  rw [← htb] at hb12 ⊢
  rw [← hr8] at hb2 ⊢
  rw [← hxb] at hbx hfx ⊢
  have hF : Fr [] u w := ((hf1.trans0 hf2).trans0 hf3).trans hfx (by simp; omega)
  have hbt : Blk w tb [.slice (some ad) t.length cn] 25 := (hb12.tr0 hf3).tr hfx (by simp; omega)
  have hbr := (hb2.tr0 hf3).tr hfx (by simp; omega)
  have hszw : w.heap.size = u.heap.size + 3 := by omega
  have hSr : ∀ b ∈ r8 :: S, b ∈ S ∨ u.heap.size ≤ b := fun b hb => by
    rcases List.mem_cons.1 hb with h | h
    · right; omega
    · exact .inl h
  have hSrw : ∀ b ∈ r8 :: S, b < w.heap.size := fun b hb => by
    rcases List.mem_cons.1 hb with h | h
    · omega
    · have := hSb b h; omega
  have hnw : NS w (r8 :: S) t (.slice (some ad) t.length cn) := (hn.mono hSr).tr0 hF
  have hpw : IS w (r8 :: S) path (.slice ap path.length cp) := (hp.mono hSr).tr0 hF
  have hkw : IS w (r8 :: S) t[k].kids (.slice ak t[k].kids.length ck) := (hsk.mono hSr).tr0 hF
  have hvw : VS w (r8 :: S) t[k].vals (.slice av t[k].vals.length cv) := (hsv.mono hSr).tr0 hF
  clear hb1 hb12 hb2 hb3 hcell2 hsx'
  -- the result is put into its variable and handed back
  have fin : ∀ (z z' : World) (cs : List Value), RefR (r8 :: S) w.heap.size z a path.length (nsp (tA t k)) (rd path (tA t k) a) cs → Fr [] w z → Fr [r8] z z' → RefPost t path S u a k (.returned (.agg cs.toArray)) z' := by
    rintro z z' cs ⟨v, kv, us, st, sp, sv', rfl, h1, h2, h3, h4⟩ hz hz'
    refine ⟨_, rfl, ⟨v, kv, us, st, sp, sv', rfl, (h1.tr (hz'.mono (by simp))).mono (fun b hb => .inl (List.mem_cons_of_mem _ hb)), h2.tr hz' (fun q hq hm => (h3 q hq).2 (by simp at hm; simp [hm])), fun q hq => ⟨?_, fun hm' => (h3 q hq).2 (List.mem_cons_of_mem _ hm')⟩, h4⟩, (hF.trans0 hz).trans hz' (by simp; omega)⟩
    have := (h3 q hq).1; omega
  rcases kind5 hv hk with k0 | k1 | k2 | k3 | k4
  · have hrd : rd path (tA t k) a = .ok t[k].val a [] := by rw [tA_leaf hk k0]; simp only [rd]
    refine rx ?_
    refine s_build (rc t[k].val (.slice ax t[k].val.kids.length cx) 0 (-1) (.slice none 0 0)) rfl ?_
    refine s_storeAggB (cs := rc t[k].val (.slice ax t[k].val.kids.length cx) 0 (-1) (.slice none 0 0)) rfl rfl hbr (rc_one rfl rfl) rfl rfl (fun z hbz hfz hsz => ?_)
    refine rx ?_
    refine retc rfl rfl (AggT.load _ (rc t[k].val (.slice ax t[k].val.kids.length cx) 0 (-1) (.slice none 0 0)) rfl (fun j x hx => by rw [add_lit]; exact hbz.cell (by simpa using hx))) (fin w z _ ⟨t[k].val, _, 0, -1, [], _, rfl, (hsx.mono hSr).tr0 hF, Own.nil _ _ _, by simp [blks, Value.ownBlock], ha, Nat.zero_le _, ?_⟩ (Fr.refl _ _) hfz)
    rw [hrd]
    exact ⟨rfl, rfl, rfl, rfl⟩
  · have hopt : 0 < optN t[k] ∧ (optN t[k] : Int) = t[k].hi - t[k].lo + 1 := by unfold optN; rw [if_pos k1]; omega
    have hrde : rd path (tA t k) a = pick1 path k (optN t[k]) a fun c => .ok (numV (t[k].lo + c)) (a + 1) [] := by
      rw [tA_rng hk k1]
      simp only [rd]
      have : optN t[k] = (t[k].hi - t[k].lo + 1).toNat := by unfold optN; rw [if_pos k1]
      rw [this]
    by_cases hap : a < path.length
    case neg =>
      have hrd : rd path (tA t k) a = .stop k (optN t[k]) := by
        rw [hrde]; unfold pick1; rw [List.getElem?_eq_none (by omega)]
      refine rx ?_
      refine s_build (rc (numV 0) (.slice none 0 0) 0 (k : Nat) (.slice none 0 0)) rfl ?_
      refine s_storeAggB (cs := rc (numV 0) (.slice none 0 0) 0 (k : Nat) (.slice none 0 0)) rfl rfl hbr (rc_one rfl rfl) rfl rfl (fun z hbz hfz hsz => ?_)
      refine rx ?_
      refine retc rfl rfl (AggT.load _ (rc (numV 0) (.slice none 0 0) 0 (k : Nat) (.slice none 0 0)) rfl (fun j x hx => by rw [add_lit]; exact hbz.cell (by simpa using hx))) (fin w z _ ⟨numV 0, _, 0, k, [], _, rfl, VS.nil _ _, Own.nil _ _ _, by simp [blks, Value.ownBlock], ha, Nat.zero_le _, ?_⟩ (Fr.refl _ _) hfz)
      rw [hrd]; rfl
    obtain ⟨adp, rfl, hcp⟩ := Ls.at hpw hap
    have hpa : path[a]? = some path[a] := List.getElem?_eq_getElem hap
    generalize path[a] = c at hcp hpa
    have bad : ¬ (0 ≤ c ∧ c < optN t[k]) → ∀ z z', Fr [] w z → Fr [r8] z z' → RefPost t path S u a k (.returned (.agg (rc (numV 0) (.slice none 0 0) 0 (-2) (.slice none 0 0)).toArray)) z' := fun hno z z' hz hz' => by
      refine fin z z' _ ⟨numV 0, _, 0, -2, [], _, rfl, VS.nil _ _, Own.nil _ _ _, by simp [blks, Value.ownBlock], ha, Nat.zero_le _, ?_⟩ hz hz'
      rw [hrde]; unfold pick1; rw [hpa]; simp only [if_neg hno]; rfl
    by_cases hc0 : c < 0
    · refine rx ?_
      rw [Nat.mul_one]
      refine s_load rfl hcp ?_
      refine rx ?_
      refine s_build (rc (numV 0) (.slice none 0 0) 0 (-2) (.slice none 0 0)) rfl ?_
      refine s_storeAggB (cs := rc (numV 0) (.slice none 0 0) 0 (-2) (.slice none 0 0)) rfl rfl hbr (rc_one rfl rfl) rfl rfl (fun z hbz hfz hsz => ?_)
      refine rx ?_
      exact retc rfl rfl (AggT.load _ (rc (numV 0) (.slice none 0 0) 0 (-2) (.slice none 0 0)) rfl (fun j x hx => by rw [add_lit]; exact hbz.cell (by simpa using hx))) (bad (by omega) w z (Fr.refl _ _) hfz)
    obtain ⟨x, rfl⟩ : ∃ x : Nat, c = (x : Int) := ⟨c.toNat, by omega⟩
    refine rx ?_
    rw [Nat.mul_one]
    refine s_load rfl hcp ?_
    refine rx ?_
    refine s_call (optsR t[k] hokk (fun _ => by omega) _ _ _ _ _ w (hkw.mono (by simp))) rfl ?_
    rintro _ w1 ⟨rfl, hw1⟩
    refine ⟨_, rfl, ?_⟩
    have hbx1 := hbx.tr0 hw1
    have hbt1 := hbt.tr0 hw1
    have hbr1 := hbr.tr0 hw1
    by_cases hxo : x < optN t[k]
    case neg =>
      refine rx ?_
      refine s_build (rc (numV 0) (.slice none 0 0) 0 (-2) (.slice none 0 0)) rfl ?_
      refine s_storeAggB (cs := rc (numV 0) (.slice none 0 0) 0 (-2) (.slice none 0 0)) rfl rfl hbr1 (rc_one rfl rfl) rfl rfl (fun z hbz hfz hsz => ?_)
      refine rx ?_
      exact retc rfl rfl (AggT.load _ (rc (numV 0) (.slice none 0 0) 0 (-2) (.slice none 0 0)) rfl (fun j x hx => by rw [add_lit]; exact hbz.cell (by simpa using hx))) (bad (by omega) w1 z hw1 hfz)
    have hrd : rd path (tA t k) a = .ok (numV (t[k].lo + x)) (a + 1) [] := by
      rw [hrde]; unfold pick1; rw [hpa]
      simp only
      rw [if_pos (by omega), Int.toNat_natCast]
    refine rx ?_
    refine s_build (vc (numV (t[k].lo + x)) (.slice none 0 0)) rfl ?_
    refine s_build (rc (numV (t[k].lo + x)) (.slice none 0 0) 1 (-1) (.slice none 0 0)) rfl ?_
    refine s_storeAggB (cs := rc (numV (t[k].lo + x)) (.slice none 0 0) 1 (-1) (.slice none 0 0)) rfl rfl hbr1 (rc_one rfl rfl) rfl rfl (fun z hbz hfz hsz => ?_)
    refine rx ?_
    refine retc rfl rfl (AggT.load _ (rc (numV (t[k].lo + x)) (.slice none 0 0) 1 (-1) (.slice none 0 0)) rfl (fun j x hx => by rw [add_lit]; exact hbz.cell (by simpa using hx))) (fin w1 z _ ⟨numV (t[k].lo + x), _, 1, -1, [], _, rfl, VS.nil _ _, Own.nil _ _ _, by simp [blks, Value.ownBlock], by omega, Nat.zero_le _, ?_⟩ hw1 hfz)
    rw [hrd]
    exact ⟨rfl, rfl, rfl, rfl⟩
  · have hcho := hv.cho hk k2
    have hoe : optN t[k] = t[k].kids.length := by unfold optN; rw [if_neg (by omega)]
    have hrde : rd path (tA t k) a = pick1 path k (optN t[k]) a fun c => rdN path (kidsT t t[k].kids) c (a + 1) := by
      rw [tA_cho hv hk k2]
      simp only [rd]
      rw [kidsT_len, hoe]
    by_cases hap : a < path.length
    case neg =>
      have hrd : rd path (tA t k) a = .stop k (optN t[k]) := by
        rw [hrde]; unfold pick1; rw [List.getElem?_eq_none (by omega)]
      refine rx ?_
      refine s_build (rc (numV 0) (.slice none 0 0) 0 (k : Nat) (.slice none 0 0)) rfl ?_
      refine s_storeAggB (cs := rc (numV 0) (.slice none 0 0) 0 (k : Nat) (.slice none 0 0)) rfl rfl hbr (rc_one rfl rfl) rfl rfl (fun z hbz hfz hsz => ?_)
      refine rx ?_
      refine retc rfl rfl (AggT.load _ (rc (numV 0) (.slice none 0 0) 0 (k : Nat) (.slice none 0 0)) rfl (fun j x hx => by rw [add_lit]; exact hbz.cell (by simpa using hx))) (fin w z _ ⟨numV 0, _, 0, k, [], _, rfl, VS.nil _ _, Own.nil _ _ _, by simp [blks, Value.ownBlock], ha, Nat.zero_le _, ?_⟩ (Fr.refl _ _) hfz)
      rw [hrd]; rfl
    obtain ⟨adp, rfl, hcp⟩ := Ls.at hpw hap
    have hpa : path[a]? = some path[a] := List.getElem?_eq_getElem hap
    generalize path[a] = c at hcp hpa
    have bad : ¬ (0 ≤ c ∧ c < optN t[k]) → ∀ z z', Fr [] w z → Fr [r8] z z' → RefPost t path S u a k (.returned (.agg (rc (numV 0) (.slice none 0 0) 0 (-2) (.slice none 0 0)).toArray)) z' := fun hno z z' hz hz' => by
      refine fin z z' _ ⟨numV 0, _, 0, -2, [], _, rfl, VS.nil _ _, Own.nil _ _ _, by simp [blks, Value.ownBlock], ha, Nat.zero_le _, ?_⟩ hz hz'
      rw [hrde]; unfold pick1; rw [hpa]; simp only [if_neg hno]; rfl
    by_cases hc0 : c < 0
    · refine rx ?_
      rw [Nat.mul_one]
      refine s_load rfl hcp ?_
      refine rx ?_
      refine s_build (rc (numV 0) (.slice none 0 0) 0 (-2) (.slice none 0 0)) rfl ?_
      refine s_storeAggB (cs := rc (numV 0) (.slice none 0 0) 0 (-2) (.slice none 0 0)) rfl rfl hbr (rc_one rfl rfl) rfl rfl (fun z hbz hfz hsz => ?_)
      refine rx ?_
      exact retc rfl rfl (AggT.load _ (rc (numV 0) (.slice none 0 0) 0 (-2) (.slice none 0 0)) rfl (fun j x hx => by rw [add_lit]; exact hbz.cell (by simpa using hx))) (bad (by omega) w z (Fr.refl _ _) hfz)
    obtain ⟨x, rfl⟩ : ∃ x : Nat, c = (x : Int) := ⟨c.toNat, by omega⟩
    refine rx ?_
    rw [Nat.mul_one]
    refine s_load rfl hcp ?_
    refine rx ?_
    refine s_call (optsR t[k] hokk (fun _ => by omega) _ _ _ _ _ w (hkw.mono (by simp))) rfl ?_
    rintro _ w1 ⟨rfl, hw1⟩
    refine ⟨_, rfl, ?_⟩
    have hbx1 := hbx.tr0 hw1
    have hbt1 := hbt.tr0 hw1
    have hbr1 := hbr.tr0 hw1
    by_cases hxo : x < optN t[k]
    case neg =>
      refine rx ?_
      refine s_build (rc (numV 0) (.slice none 0 0) 0 (-2) (.slice none 0 0)) rfl ?_
      refine s_storeAggB (cs := rc (numV 0) (.slice none 0 0) 0 (-2) (.slice none 0 0)) rfl rfl hbr1 (rc_one rfl rfl) rfl rfl (fun z hbz hfz hsz => ?_)
      refine rx ?_
      exact retc rfl rfl (AggT.load _ (rc (numV 0) (.slice none 0 0) 0 (-2) (.slice none 0 0)) rfl (fun j x hx => by rw [add_lit]; exact hbz.cell (by simpa using hx))) (bad (by omega) w1 z hw1 hfz)
    have hxk : x < t[k].kids.length := by omega
    obtain ⟨q, hq, hqk⟩ := hv.kid hk (List.getElem_mem hxk)
    have hrd : rd path (tA t k) a = rd path (tA t q) (a + 1) := by
      rw [hrde]
      unfold pick1
      rw [hpa]
      simp only
      rw [if_pos (by omega), Int.toNat_natCast, rdN_get _ _ _ _ (by rw [kidsT_len]; exact hxk)]
      simp only [kidsT, List.getElem_map, hq, Int.toNat_natCast]
    have hnq : nsp (tA t q) ≤ nsp (tA t k) := by
      rw [tA_cho hv hk k2]
      simp only [nsp]
      refine nspM_mem ?_
      refine List.mem_map.2 ⟨_, List.getElem_mem hxk, ?_⟩
      rw [hq, Int.toNat_natCast]
    have hka : ∃ ad2, ak = some ad2 := by obtain ⟨ad2, e, _⟩ := Ls.at hsk hxk; exact ⟨ad2, e⟩
    obtain ⟨ad2, rfl⟩ := hka
    have hcellk : ∀ z, Fr [] w1 z → z.cell? (ad2.add (x * 1)) = some (.int .i64 q) := fun z hz => by
      obtain ⟨ad', e', hc'⟩ := Ls.at ((hkw.tr0 hw1).tr0 hz) hxk
      cases e'
      rw [hq] at hc'
      rw [Nat.mul_one]
      exact hc'
    refine rx ?_
    (refine d_begin (fun z => Fr [] w1 z) (by kernel_rfl) rfl ?_)
    have hS : Fr [] w1 w1.drew := Fr.drew _ _
    ((first | refine d_tx 0 hS ?_ | refine d_ty 0 hS ?_ | refine d_tn 0 hS ?_); (first | refine d_tx 1 hS ?_ | refine d_ty 1 hS ?_ | refine d_tn 1 hS ?_); (first | refine d_tx 2 hS ?_ | refine d_ty 2 hS ?_ | refine d_tn 2 hS ?_); (first | refine d_tx 3 hS ?_ | refine d_ty 3 hS ?_ | refine d_tn 3 hS ?_); (first | refine d_tx 4 hS ?_ | refine d_ty 4 hS ?_ | refine d_tn 4 hS ?_))
    (apply d_take (i := 5); exact rfl; kernel_rfl; kernel_rfl; kernel_rfl; (intro u hu; exact (r_load rfl (hcellk _ hu))); exact hS)
    ((first | refine d_tx 6 hS ?_ | refine d_ty 6 hS ?_ | refine d_tn 6 hS ?_); (first | refine d_tx 7 hS ?_ | refine d_ty 7 hS ?_ | refine d_tn 7 hS ?_); (first | refine d_tx 8 hS ?_ | refine d_ty 8 hS ?_ | refine d_tn 8 hS ?_))
    refine d_ca (i := 9) (j := 10) (vs := [.agg #[.slice (some ad) t.length cn], .int .i64 (q : Nat), .slice (some adp) path.length cp, .int .i64 ((a + 1 : Nat) : Int)]) (fun B v z => ∃ cs, v = .agg cs.toArray ∧ RefR (B ++ (r8 :: S)) w1.heap.size z (a + 1) path.length (nsp (tA t q)) (rd path (tA t q) (a + 1)) cs) rfl rfl rfl rfl (fun _ => rfl) (fun w0 B hf0 hB => ?ocb) ?otb (fun w0 hf0 => hS.trans0 hf0) ?ogb
    case ocb =>
      have hdr : w1.drew.heap.size = w1.heap.size := rfl
      have hFw : Fr [] w w0 := (hw1.trans0 hS).trans0 hf0
      have hBS : ∀ b ∈ B ++ (r8 :: S), b ∈ r8 :: S ∨ w.heap.size ≤ b := fun b hb => by
        rcases List.mem_append.1 hb with h | h
        · right; have := hB b h; have := hw1.size; omega
        · exact (fun b hb => .inl hb : ∀ b ∈ r8 :: S, b ∈ r8 :: S ∨ w.heap.size ≤ b) b h
      refine (ih q hqk (B ++ (r8 :: S)) w0 (a + 1) _ _ ((hnw.mono hBS).tr0 hFw) ((hpw.mono hBS).tr0 hFw) (fun b hb => ?_) (by omega)).mono fun e w1 ⟨cs, he, hR, hF⟩ => ⟨_, he, hF, cs, rfl, hR.from ?_⟩
      · rcases List.mem_append.1 hb with h | h
        · exact (hB b h).2
        · have := (fun b hb => Nat.lt_of_lt_of_le (hSrw b hb) hw1.size : ∀ b ∈ r8 :: S, b < w1.heap.size) b h; have := hf0.size; omega
      · have := hf0.size; omega
    case otb =>
      rintro B v w1 w2 b ⟨cs, rfl, hR⟩ hf hb
      exact ⟨cs, rfl, hR.fresh hf hb⟩
    rintro v bb z hfz0 ⟨cs, rfl, hR⟩ hbb hbbl
    have hbbl' : w1.heap.size ≤ bb := hbbl
    have hszw1 := hw1.size
    obtain ⟨vb, kb, us, st, spb, svb, rfl, hvsb, hownb, hfb, hus, hlenb, hends⟩ := hR
    have hkb1 := hvsb.one
    have hsb1 := hownb.one
    have hfz := hS.trans0 hfz0
    refine d_one (i := 11) rfl (by kernel_rfl) ?_
    refine s_storeAggB (cs := rc vb kb us st svb) rfl rfl hbb (rc_one hkb1 hsb1) rfl rfl (fun y1 hbb1 hf1' hs1' => ?_)
    have hF1 : Fr [] w1 y1 := hfz.trans hf1' (by simp; omega)
    refine wpList_nil (q_held hF1 ?_)
    (refine d_done (by kernel_rfl) ?_)
    refine rx ?_
    ((with_reducible apply s_storeB); exact rfl; (conv => lhs; whnf); exact rfl; exact hbb1; exact rfl)
    intro y2 hbb2' hf2' hs2'
    have hbb2 : Blk y2 bb (rc vb kb (us + 1) st svb) 78 := hbb2'
    have hF2 : Fr [] w1 y2 := hF1.trans hf2' (by simp; omega)
    have hbr2 := hbr1.tr0 hF2
    refine rx ?_
    refine s_storeAggB (cs := rc vb kb (us + 1) st svb) rfl rfl hbr2 (rc_one hkb1 hsb1) rfl rfl (fun y3 hbz hfz hsz => ?_)
    refine rx ?_
    have hF02 : Fr [bb] z y2 := hf1'.trans hf2' (by simp)
    refine retc rfl rfl (AggT.load _ (rc vb kb (us + 1) st svb) rfl (fun j x hx => by rw [add_lit]; exact hbz.cell (by simpa using hx))) (fin y2 y3 _ ⟨vb, kb, us + 1, st, spb, svb, rfl, (hvsb.tr (hF02.mono (by simp))).mono (fun b hb => .inl (by simp [List.mem_cons.1 hb])), hownb.tr hF02 (fun q hq hm => (hfb q hq).2 (by simp at hm; simp [hm])), fun q hq => ⟨?_, fun hm' => (hfb q hq).2 (by simp [List.mem_cons.1 hm'])⟩, by omega, by omega, ?_⟩ (hw1.trans0 hF2) hfz)
    · have := (hfb q hq).1; omega
    · rw [hrd]
      rcases hres : rd path (tA t q) (a + 1) with ⟨v', e', sp1⟩ | ⟨i, n⟩ | _
      · rw [hres] at hends; obtain ⟨rfl, h1, h2, rfl⟩ := hends; exact ⟨rfl, h1, by omega, rfl⟩
      · rw [hres] at hends; exact hends
      · rw [hres] at hends; exact hends
  · refine rx ?_
    refine s_call (partsR t hv hok path hpl hm k hk k3 ih (r8 :: S) w a _ _ _ hnw hpw ((ndStab.mono hrow0 hSr) |> fun h => ndStab.old h hF (by simp)) hSrw ha) rfl ?_
    rintro _ z ⟨cs, rfl, hR, hFz⟩
    refine ⟨_, rfl, ?_⟩
    have hR0 := hR
    obtain ⟨v, kv, us, st, sp, sv', rfl, h1, h2, h3, h4⟩ := hR
    refine s_storeAggB (cs := rc v kv us st sv') rfl rfl (hbr.tr0 hFz) (rc_one h1.one h2.one) rfl rfl (fun z' hbz hfz hsz => ?_)
    refine rx ?_
    exact retc rfl rfl (AggT.load _ (rc v kv us st sv') rfl (fun j x hx => by rw [add_lit]; exact hbz.cell (by simpa using hx))) (fin z z' _ hR0 hFz hfz)
  · have hbd4 := hv.bind hk k4
    obtain ⟨q, hqk, hqe, hqs⟩ := hv.first hk k4
    have h0 : 0 < t[k].kids.length := by omega
    have hrde : rd path (tA t k) a = (rd path (tA t q) a).bind fun v e sp => (rdN path (kidsT t t[k].kids.tail) (fndV t[k].vals v).1 e).bind fun v2 e2 sp2 => .ok v2 e2 (sp ++ sp2) := by
      rw [tA_bnd hv hk k4, hqe, Int.toNat_natCast]
      simp only [rd]
    have hnk : nsp (tA t k) = nsp (tA t q) + nspM (kidsT t t[k].kids.tail) := by
      rw [tA_bnd hv hk k4, hqe, Int.toNat_natCast]
      simp only [nsp]
    rw [headD_get h0] at hqe
    obtain ⟨ad2, e2, _⟩ := Ls.at hsk h0
    subst e2
    have hcell0 : ∀ z, Fr [] w z → z.cell? (ad2.add 0) = some (.int .i64 q) := fun z hz => by
      obtain ⟨ad', e', hc'⟩ := Ls.at (hkw.tr0 hz) h0
      cases e'
      rw [hqe] at hc'
      exact hc'
    have hq2 : q < t.length := by omega
    refine rx ?_
    (refine d_begin (fun z => Fr [] w z) (by kernel_rfl) rfl ?_)
    have hS : Fr [] w w.drew := Fr.drew _ _
    ((first | refine d_tx 0 hS ?_ | refine d_ty 0 hS ?_ | refine d_tn 0 hS ?_); (first | refine d_tx 1 hS ?_ | refine d_ty 1 hS ?_ | refine d_tn 1 hS ?_); (first | refine d_tx 2 hS ?_ | refine d_ty 2 hS ?_ | refine d_tn 2 hS ?_))
    (apply d_take (i := 3); exact rfl; kernel_rfl; kernel_rfl; kernel_rfl; (intro u hu; exact (r_index1 (j := 0) rfl rfl rfl (by omega) rfl)); exact hS)
    (apply d_take (i := 4); exact rfl; kernel_rfl; kernel_rfl; kernel_rfl; (intro u hu; exact (r_load rfl (hcell0 _ hu))); exact hS)
    ((first | refine d_tx 5 hS ?_ | refine d_ty 5 hS ?_ | refine d_tn 5 hS ?_); (first | refine d_tx 6 hS ?_ | refine d_ty 6 hS ?_ | refine d_tn 6 hS ?_))
    refine d_ca (i := 7) (j := 8) (vs := [.agg #[.slice (some ad) t.length cn], .int .i64 (q : Nat), .slice ap path.length cp, .int .i64 ((a : Nat) : Int)]) (fun B v z => ∃ cs, v = .agg cs.toArray ∧ RefR (B ++ (r8 :: S)) w.heap.size z (a) path.length (nsp (tA t q)) (rd path (tA t q) (a)) cs) rfl rfl rfl rfl (fun _ => rfl) (fun w0 B hf0 hB => ?occ) ?otc (fun w0 hf0 => hS.trans0 hf0) ?ogc
    case occ =>
      have hdr : w.drew.heap.size = w.heap.size := rfl
      have hFw : Fr [] w w0 := ((Fr.refl [] w).trans0 hS).trans0 hf0
      have hBS : ∀ b ∈ B ++ (r8 :: S), b ∈ r8 :: S ∨ w.heap.size ≤ b := fun b hb => by
        rcases List.mem_append.1 hb with h | h
        · right; have := hB b h; have := (Fr.refl [] w).size; omega
        · exact (fun b hb => .inl hb : ∀ b ∈ r8 :: S, b ∈ r8 :: S ∨ w.heap.size ≤ b) b h
      refine (ih q hqk (B ++ (r8 :: S)) w0 (a) _ _ ((hnw.mono hBS).tr0 hFw) ((hpw.mono hBS).tr0 hFw) (fun b hb => ?_) (by omega)).mono fun e w1 ⟨cs, he, hR, hF⟩ => ⟨_, he, hF, cs, rfl, hR.from ?_⟩
      · rcases List.mem_append.1 hb with h | h
        · exact (hB b h).2
        · have := (hSrw : ∀ b ∈ r8 :: S, b < w.heap.size) b h; have := hf0.size; omega
      · have := hf0.size; omega
    case otc =>
      rintro B v w1 w2 b ⟨cs, rfl, hR⟩ hf hb
      exact ⟨cs, rfl, hR.fresh hf hb⟩
    rintro v bb z hfz0 ⟨cs, rfl, hR⟩ hbb hbbl
    have hbbl' : w.heap.size ≤ bb := hbbl
    obtain ⟨vb, kb, us, st, spb, svb, rfl, hvsb, hownb, hfb, hus, hlenb, hends⟩ := hR
    have hkb1 := hvsb.one
    have hsb1 := hownb.one
    obtain ⟨akb, ckb, rfl, _⟩ := hvsb.slice
    obtain ⟨asb, csb, rfl⟩ := hownb.slice
    have hfz := hS.trans0 hfz0
    refine d_one (i := 9) rfl (by kernel_rfl) ?_
    refine s_storeAggB (cs := rc vb (.slice akb vb.kids.length ckb) us st (.slice asb spb.length csb)) rfl rfl hbb (rc_one hkb1 hsb1) rfl rfl (fun y1 hbb1 hf1' hs1' => ?_)
    have hF1 : Fr [] w y1 := hfz.trans hf1' (by simp; omega)
    refine wpList_nil (q_held hF1 ?_)
    (refine d_done (by kernel_rfl) ?_)
    have hbt1 := hbt.tr0 hF1
    have hbx1 := hbx.tr0 hF1
    have hbr1 := hbr.tr0 hF1
    have hvsb1 : VS y1 ([bb] ++ r8 :: S) vb.kids (.slice akb vb.kids.length ckb) := hvsb.tr (hf1'.mono (by simp))
    have hownb1 := hownb.tr hf1' (fun q hq hm => (hfb q hq).2 (by simp at hm; simp [hm]))
    have hszy1 := hF1.size
    by_cases hst : st = -1
    case neg =>
      refine rx ?_
      refine s_storeAggB (cs := rc vb (.slice akb vb.kids.length ckb) us st (.slice asb spb.length csb)) rfl rfl hbr1 (rc_one hkb1 hsb1) rfl rfl (fun y3 hbz hfz hsz => ?_)
      refine rx ?_
      refine retc rfl rfl (AggT.load _ (rc vb (.slice akb vb.kids.length ckb) us st (.slice asb spb.length csb)) rfl (fun j x hx => by rw [add_lit]; exact hbz.cell (by simpa using hx))) (fin y1 y3 _ ⟨vb, _, us, st, spb, _, rfl, hvsb1.mono (fun b hb => .inl (List.mem_append.2 (.inr hb))), hownb1, fun q hq => ⟨(hfb q hq).1, fun hm' => (hfb q hq).2 (List.mem_append.2 (.inr hm'))⟩, hus, by omega, ?_⟩ hF1 hfz)
      rcases hres : rd path (tA t q) a with ⟨v', e', sp1⟩ | ⟨i, n⟩ | _
      · rw [hres] at hends; exact absurd hends.2.1 hst
      · rw [hres] at hends; rw [hrde, hres]; exact hends
      · rw [hres] at hends; rw [hrde, hres]; exact hends
    have hok' : rd path (tA t q) a = .ok vb (a + us) spb := by
      rcases hres : rd path (tA t q) a with ⟨v', e', sp1⟩ | ⟨i, n⟩ | _
      · rw [hres] at hends; obtain ⟨rfl, _, rfl, rfl⟩ := hends; rfl
      · rw [hres] at hends; simp only [endsR] at hends; omega
      · rw [hres] at hends; simp only [endsR] at hends; omega
    subst hst
    obtain ⟨i1, hi1⟩ : ∃ i1, (fndV t[k].vals vb).1 = i1 := ⟨_, rfl⟩
    have hil : i1 < t[k].vals.length := by
      rw [← hi1]
      exact fnd_idx hbd4.2.2 (rd_mem hv q (by omega) _ _ _ _ _ hok' _ hqs)
    have hil' : i1 + 1 < t[k].kids.length := by omega
    obtain ⟨r, hr', hrk⟩ := hv.kid hk (List.getElem_mem hil')
    have htl : i1 < t[k].kids.tail.length := by rw [List.length_tail]; omega
    have hre : t[k].kids.tail[i1] = (r : Int) := by rw [List.getElem_tail, hr']
    rw [hok', Res.bind_ok, hi1, rdN_get _ _ _ _ (by rw [kidsT_len]; exact htl)] at hrde
    simp only [kidsT, List.getElem_map, hre, Int.toNat_natCast] at hrde
    have hnr : nsp (tA t r) ≤ nspM (kidsT t t[k].kids.tail) := by
      refine nspM_mem (List.mem_map.2 ⟨_, List.getElem_mem htl, ?_⟩)
      rw [hre, Int.toNat_natCast]
    have hlk := hokk.lk
    refine rx ?_
    refine s_call (findR t[k].vals vb _ _ y1 ((hvw.tr0 hF1).mono (by simp)) hvsb1.any) rfl ?_
    rintro _ y2 ⟨rfl, hf2'⟩
    refine ⟨_, rfl, ?_⟩
    rw [hi1]
    have hF2 := hF1.trans0 hf2'
    have hbb2 := hbb1.tr0 hf2'
    have hbt2 := hbt1.tr0 hf2'
    have hbx2 := hbx1.tr0 hf2'
    have hbr2 := hbr1.tr0 hf2'
    have hownb2 := hownb1.tr0 hf2'
    have hszy2 := hF2.size
    have hbb2l := hbb2.lt
    have hlt2 := hownb2.lt
    have hcell1 : ∀ z, Fr [] y2 z → z.cell? (ad2.add ((i1 + 1) * 1)) = some (.int .i64 r) := fun z hz => by
      obtain ⟨ad', e', hc'⟩ := Ls.at ((hkw.tr0 hF2).tr0 hz) hil'
      cases e'
      rw [hr'] at hc'
      rw [Nat.mul_one]
      exact hc'
    refine rx ?_
    (refine d_begin (fun z => Fr [] y2 z) (by kernel_rfl) rfl ?_)
    have hS : Fr [] y2 y2.drew := Fr.drew _ _
    ((first | refine d_tx 0 hS ?_ | refine d_ty 0 hS ?_ | refine d_tn 0 hS ?_); (first | refine d_tx 1 hS ?_ | refine d_ty 1 hS ?_ | refine d_tn 1 hS ?_); (first | refine d_tx 2 hS ?_ | refine d_ty 2 hS ?_ | refine d_tn 2 hS ?_); (first | refine d_tx 3 hS ?_ | refine d_ty 3 hS ?_ | refine d_tn 3 hS ?_); (first | refine d_tx 4 hS ?_ | refine d_ty 4 hS ?_ | refine d_tn 4 hS ?_))
    (apply d_take (i := 5); exact rfl; kernel_rfl; kernel_rfl; kernel_rfl; (intro u hu; exact (r_indexAddr (j := i1 + 1) rfl rfl rfl (by omega) rfl)); exact hS)
    (apply d_take (i := 6); exact rfl; kernel_rfl; kernel_rfl; kernel_rfl; (intro u hu; exact (r_load rfl (hcell1 _ hu))); exact hS)
    ((first | refine d_tx 7 hS ?_ | refine d_ty 7 hS ?_ | refine d_tn 7 hS ?_); (first | refine d_tx 8 hS ?_ | refine d_ty 8 hS ?_ | refine d_tn 8 hS ?_); (first | refine d_tx 9 hS ?_ | refine d_ty 9 hS ?_ | refine d_tn 9 hS ?_); (first | refine d_tx 10 hS ?_ | refine d_ty 10 hS ?_ | refine d_tn 10 hS ?_); (first | refine d_tx 11 hS ?_ | refine d_ty 11 hS ?_ | refine d_tn 11 hS ?_))
    have hS2y : ∀ b ∈ r8 :: S ++ blks (.slice asb spb.length csb), b < y2.heap.size := fun b hb => by
      rcases List.mem_append.1 hb with h | h
      · have := hSrw b h; omega
      · exact hlt2 b h
    have hS2w : ∀ b ∈ r8 :: S ++ blks (.slice asb spb.length csb), b ∈ r8 :: S ∨ w.heap.size ≤ b := fun b hb => by
      rcases List.mem_append.1 hb with h | h
      · exact .inl h
      · exact .inr (hfb b h).1
    refine d_ca (i := 12) (j := 13) (vs := [.agg #[.slice (some ad) t.length cn], .int .i64 (r : Nat), .slice ap path.length cp, .int .i64 ((a + us : Nat) : Int)]) (fun B v z => ∃ cs, v = .agg cs.toArray ∧ RefR (B ++ (r8 :: S ++ blks (.slice asb spb.length csb))) y2.heap.size z (a + us) path.length (nsp (tA t r)) (rd path (tA t r) (a + us)) cs) rfl rfl rfl rfl (fun _ => rfl) (fun w0 B hf0 hB => ?ocd) ?otd (fun w0 hf0 => hS.trans0 hf0) ?ogd
    case ocd =>
      have hdr : y2.drew.heap.size = y2.heap.size := rfl
      have hFw : Fr [] w w0 := (hF2.trans0 hS).trans0 hf0
      have hBS : ∀ b ∈ B ++ (r8 :: S ++ blks (.slice asb spb.length csb)), b ∈ r8 :: S ∨ w.heap.size ≤ b := fun b hb => by
        rcases List.mem_append.1 hb with h | h
        · right; have := hB b h; have := hF2.size; omega
        · exact hS2w b h
      refine (ih r hrk (B ++ (r8 :: S ++ blks (.slice asb spb.length csb))) w0 (a + us) _ _ ((hnw.mono hBS).tr0 hFw) ((hpw.mono hBS).tr0 hFw) (fun b hb => ?_) (by omega)).mono fun e w1 ⟨cs, he, hR, hF⟩ => ⟨_, he, hF, cs, rfl, hR.from ?_⟩
      · rcases List.mem_append.1 hb with h | h
        · exact (hB b h).2
        · have := hS2y b h; have := hf0.size; omega
      · have := hf0.size; omega
    case otd =>
      rintro B v w1 w2 b ⟨cs, rfl, hR⟩ hf hb
      exact ⟨cs, rfl, hR.fresh hf hb⟩
    rintro v2 bc z2 hfz2 ⟨cs2, rfl, hR2⟩ hbc hbcl
    have hbcl' : y2.heap.size ≤ bc := hbcl
    obtain ⟨vc2, kc2, us2, st2, sp2, sv2, rfl, hvs2, hown2, hfb2, hus2, hlen2, hends2⟩ := hR2
    have hkc1 := hvs2.one
    have hsc1 := hown2.one
    obtain ⟨akc, ckc, rfl, _⟩ := hvs2.slice
    have hfz2' := hS.trans0 hfz2
    refine d_one (i := 14) rfl (by kernel_rfl) ?_
    refine s_storeAggB (cs := rc vc2 (.slice akc vc2.kids.length ckc) us2 st2 sv2) rfl rfl hbc (rc_one hkc1 hsc1) rfl rfl (fun y3 hbc3 hf3' hs3' => ?_)
    have hF3 : Fr [] y2 y3 := hfz2'.trans hf3' (by simp; omega)
    refine wpList_nil (q_held hF3 ?_)
    (refine d_done (by kernel_rfl) ?_)
    have hbb3 := hbb2.tr0 hF3
    have hbr3 := hbr2.tr0 hF3
    have hownb3 := hownb2.tr0 hF3
    have hvs3 := hvs2.tr (hf3'.mono (by simp) : Fr ([bc] ++ (r8 :: S ++ blks (.slice asb spb.length csb))) z2 y3)
    have hown3 := hown2.tr hf3' (fun q hq hm => (hfb2 q hq).2 (by simp at hm; simp [hm]))
    refine rx ?_
    (refine d_begin (fun y => Blk y bb (rc vb (.slice akb vb.kids.length ckb) us (-1) (.slice asb spb.length csb)) 78 ∧ Blk y bc (rc vc2 (.slice akc vc2.kids.length ckc) us2 st2 sv2) 78) (by kernel_rfl) rfl ?_)
    have hD0 : Fr [] y3 y3.drew := Fr.drew _ _
    have hSb0 : Blk y3.drew bb (rc vb (.slice akb vb.kids.length ckb) us (-1) (.slice asb spb.length csb)) 78 ∧ Blk y3.drew bc (rc vc2 (.slice akc vc2.kids.length ckc) us2 st2 sv2) 78 := ⟨hbb3.tr0 hD0, hbc3.tr0 hD0⟩
    ((first | refine d_tx 0 hSb0 ?_ | refine d_ty 0 hSb0 ?_ | refine d_tn 0 hSb0 ?_))
    (apply d_take (i := 1); exact rfl; kernel_rfl; kernel_rfl; kernel_rfl; (intro u hu; exact (r_loadSubB rfl hu.2 (by rfl))); exact hSb0)
    ((first | refine d_tx 2 hSb0 ?_ | refine d_ty 2 hSb0 ?_ | refine d_tn 2 hSb0 ?_))
    (apply d_take (i := 3); exact rfl; kernel_rfl; kernel_rfl; kernel_rfl; (intro u hu; exact (r_load rfl (Blk.cell hu.1 rfl))); exact hSb0)
    ((first | refine d_tx 4 hSb0 ?_ | refine d_ty 4 hSb0 ?_ | refine d_tn 4 hSb0 ?_))
    (apply d_take (i := 5); exact rfl; kernel_rfl; kernel_rfl; kernel_rfl; (intro u hu; exact (r_load rfl (Blk.cell hu.2 rfl))); exact hSb0)
    ((first | refine d_tx 6 hSb0 ?_ | refine d_ty 6 hSb0 ?_ | refine d_tn 6 hSb0 ?_); (first | refine d_tx 7 hSb0 ?_ | refine d_ty 7 hSb0 ?_ | refine d_tn 7 hSb0 ?_))
    (apply d_take (i := 8); exact rfl; kernel_rfl; kernel_rfl; kernel_rfl; (intro u hu; exact (r_load rfl (Blk.cell hu.2 rfl))); exact hSb0)
    ((first | refine d_tx 9 hSb0 ?_ | refine d_ty 9 hSb0 ?_ | refine d_tn 9 hSb0 ?_))
    (apply d_take (i := 10); exact rfl; kernel_rfl; kernel_rfl; kernel_rfl; (intro u hu; exact (r_load rfl (Blk.cell hu.1 rfl))); exact hSb0)
    ((first | refine d_tx 11 hSb0 ?_ | refine d_ty 11 hSb0 ?_ | refine d_tn 11 hSb0 ?_))
    (apply d_take (i := 12); exact rfl; kernel_rfl; kernel_rfl; kernel_rfl; (intro u hu; exact (r_load rfl (Blk.cell hu.2 rfl))); exact hSb0)
    refine d_one (i := 13) rfl (by kernel_rfl) ?_
    refine s_append (hownb3.tr0 hD0) rfl (hown3.tr0 hD0).src rfl (spC_len _) (spC_one _) (by unfold maxLen; omega) (by omega) (fun svm y4 ho4 hf4 hk4 _ => ?_)
    rw [← spC_app, ← List.length_append] at ho4
    have ho4one := ho4.one
    obtain ⟨am4, cm4, rfl⟩ := ho4.slice
    have hbbn : bb ∉ blks (.slice asb spb.length csb) := fun h => (hfb _ h).2 (by simp)
    have hbcn : bc ∉ blks (.slice asb spb.length csb) := fun h => by have := hlt2 _ h; omega
    have hSb4 := And.intro (hSb0.1.tr hf4 hbbn) (hSb0.2.tr hf4 hbcn)
    refine wpList_nil (q_held hSb4 ?_)
    refine d_one (i := 14) rfl (by kernel_rfl) ?_
    refine s_build (rc vc2 (.slice akc vc2.kids.length ckc) (us + us2) st2 (.slice am4 (spb ++ sp2).length cm4)) rfl ?_
    refine wpList_nil (q_held hSb4 ?_)
    refine d_one (i := 15) rfl (by kernel_rfl) ?_
    have hr8n : r8 ∉ blks (.slice asb spb.length csb) := fun h => by have := (hfb _ h).1; omega
    have hbr4 := (hbr3.tr0 hD0).tr hf4 hr8n
    refine s_storeAggB (cs := rc vc2 (.slice akc vc2.kids.length ckc) (us + us2) st2 (.slice am4 (spb ++ sp2).length cm4)) rfl rfl hbr4 (rc_one hkc1 ho4.one) rfl rfl (fun y5 hb5 hf5 hs5 => ?_)
    refine wpList_nil (q_held ⟨hSb4.1.tr hf5 (by simp; omega), hSb4.2.tr hf5 (by simp; omega)⟩ ?_)
    (refine d_done (by kernel_rfl) ?_)
    refine rx ?_
    have hF34 : Fr (blks (.slice asb spb.length csb)) y3 y4 := (hD0.mono (fun _ h => by simp at h)).trans hf4 (fun _ h => .inl h)
    have hF4w : Fr [] w y4 := (hF2.trans0 hF3).trans hF34 (fun b hb => .inr (hfb b hb).1)
    have hsz3 := hF3.size
    have hm4 : ∀ b ∈ blks (.slice am4 (spb ++ sp2).length cm4), b ∈ blks (.slice asb spb.length csb) ∨ y3.heap.size ≤ b := fun b hb => hk4 b hb
    refine retc rfl rfl (AggT.load _ (rc vc2 (.slice akc vc2.kids.length ckc) (us + us2) st2 (.slice am4 (spb ++ sp2).length cm4)) rfl (fun j x hx => by rw [add_lit]; exact hb5.cell (by simpa using hx))) (fin y4 y5 _ ⟨vc2, _, us + us2, st2, spb ++ sp2, _, rfl, ?_, ho4, fun b hb => ⟨?_, fun hmm => ?_⟩, by omega, ?_, ?_⟩ hF4w hf5)
    · exact (hvs3.tr (hF34.mono (fun b hb => .inl (by simp [hb])))).mono (fun b hb => .inl (List.mem_append.2 (.inr (List.mem_append.2 (.inl hb)))))
    · rcases hm4 b hb with h | h
      · exact (hfb b h).1
      · omega
    · rcases hm4 b hb with h | h
      · exact (hfb b h).2 (List.mem_append.2 (.inr hmm))
      · have := hSrw b hmm; omega
    · rw [List.length_append]; omega
    · rcases hres : rd path (tA t r) (a + us) with ⟨v', e', sp1⟩ | ⟨i, n⟩ | _
      · rw [hres] at hends2 hrde
        obtain ⟨rfl, h1, h2, rfl⟩ := hends2
        rw [hrde]
        exact ⟨rfl, h1, by omega, rfl⟩
      · rw [hres] at hends2 hrde; rw [hrde]; exact hends2
      · rw [hres] at hends2 hrde; rw [hrde]; exact hends2
end Go.Proofs.Ytpochcchekoonaa
