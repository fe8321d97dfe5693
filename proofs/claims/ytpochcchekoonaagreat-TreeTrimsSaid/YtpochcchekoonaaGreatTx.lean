/-
  Package tree: small, cases.
-/
import Derived.Test.YtpochcchekoonaaGreatTw
namespace Go.Proofs.YtpochcchekoonaaGreat
open Go.Rf Go.RowKit
set_option linter.unusedVariables false
set_option linter.unusedSimpArgs false
attribute [local irreducible] Code.wp wpList Exit.then Exit.inBlock bodyPost A Calls execOp Addr.add
/-- the checker in memory -/
structure ChkM (t : List Nd) (S : List Nat) (sn : Value) (cb A Z b K L M : Nat) (u : World) (kn : List Bool) (la za : List Int) : Prop where
  blk : Blk u cb [sn, .slice (some ⟨A, 0, none⟩) t.length t.length, .slice (some ⟨Z, 0, none⟩) t.length t.length, .pointer (some ⟨b, 0, none⟩)] 85
  ll : la.length = t.length
  lz : za.length = t.length
  len : Blk u A (la.map (.int .i64)) 3
  siz : Blk u Z (za.map (.int .i64)) 3
  set : SetK t S sn b K L M u kn
  d1 : cb ≠ A ∧ cb ≠ Z ∧ A ≠ Z
  d2 : ∀ x ∈ [cb, A, Z], x ≠ b ∧ x ≠ K ∧ x ≠ L ∧ x ≠ M
  mem : A ∈ S ∧ Z ∈ S
theorem ChkM.tr0 {t : List Nd} {S : List Nat} {sn : Value} {cb A Z b K L M : Nat} {u u' : World} {kn : List Bool} {la za : List Int} (h : ChkM t S sn cb A Z b K L M u kn la za) (hf : Fr [] u u') : ChkM t S sn cb A Z b K L M u' kn la za :=
  ⟨h.blk.tr0 hf, h.ll, h.lz, h.len.tr0 hf, h.siz.tr0 hf, h.set.tr0 hf, h.d1, h.d2, h.mem⟩
theorem ChkM.sets {t : List Nd} {S : List Nat} {sn : Value} {cb A Z b K L M : Nat} {u u' : World} {kn kn' : List Bool} {la za : List Int} (h : ChkM t S sn cb A Z b K L M u kn la za) (hf : Fr [K, L, M] u u') (hs : SetK t S sn b K L M u' kn') : ChkM t S sn cb A Z b K L M u' kn' la za := by
  have hd := h.d2
  simp only [List.mem_cons, List.not_mem_nil, or_false, forall_eq_or_imp, forall_eq] at hd
  exact ⟨h.blk.tr hf (by simp; omega), h.ll, h.lz, h.len.tr hf (by simp; omega), h.siz.tr hf (by simp; omega), hs, h.d1, h.d2, h.mem⟩
def szP (za : List Int) (x : Nd) : Int := if x.kind = 0 then vsz x.val else if x.kind = 3 then 1 + sumI (x.kids.map (kd za)) else if x.kind = 2 ∨ x.kind = 4 then max 1 (mst za x.kind x.kids) else 1
theorem blkIs {u : World} {g e : Nat} {l : List Int} {n : Nat} (h : Blk u g (l.map (.int .i64)) e) (hn : l.length = n) : IS u [] l (.slice (some ⟨g, 0, none⟩) n n) := by
  subst hn
  refine Ls.ofSrc ⟨_, _, rfl, Nat.le_refl _, fun e => (by cases e), fun ad ha j v hv => ?_⟩
  cases ha
  exact (Cells.ofBlk h) j v hv
theorem set_map {l : List Int} {i : Nat} {v : Int} : (l.map (Value.int .i64)).set i (.int .i64 v) = (l.set i v).map (.int .i64) := by rw [List.map_set]

set_option maxHeartbeats 16000000 in
theorem smallP (t : List Nd) (hok : ∀ x ∈ t, NdOk x) (i : Nat) (hi : i < t.length) (S : List Nat) (sn : Value) (cb A Z b K L M : Nat) (w : World) (kn : List Bool) (la za : List Int) (hm : ChkM t S sn cb A Z b K L M w kn la za) (ht : NS w S t sn)
    (hla : LsOk la t[i] 100000) (hza : LsOk za t[i] 100000) (hkd : 0 ≤ t[i].kind ∧ t[i].kind ≤ 4) (hk4 : t[i].kind = 4 → 0 < t[i].kids.length) :
    Calls Tryz.prog 50 #[.pointer (some ⟨cb, 0, none⟩), .int .i64 i] w fun e w' => e = .returned (.bool (decide (lenN la t[i] ≤ 256 ∧ szP za t[i] ≤ 1024))) ∧ ChkM t S sn cb A Z b K L M w' kn (la.set i (lenN la t[i])) (za.set i (szP za t[i])) ∧ Fr [A, Z] w w' := by
  obtain ⟨as_, cs_, rfl, _⟩ := ht.slice
  obtain ⟨ad, rfl, hn⟩ := NS.ptr ht hi
  have hokx := hok t[i] (by simp)
  generalize hX : t[i] = x at *
  generalize hpn : ad.add (i * 12) = pn at *
  have hlk := hokx.lk
  have hb := hm.blk
  have hd1 := hm.d1
  have hd2 := hm.d2
  simp only [List.mem_cons, List.not_mem_nil, or_false, forall_eq_or_imp, forall_eq] at hd2
  have hmem := hm.mem
  have hll := hm.ll
  have hlz := hm.lz
  have hAZ : ∀ y ∈ [A, Z], y ∈ S := by simp; exact hmem
  have hlen0 : 0 ≤ lenN la x := lenN_nonneg hla
  have hlenb : lenN la x ≤ 1000000000000 := by
    have h1 := sumI_bd (hla.all (l := x.kids) (fun k hk => hk))
    have h2 := hla.mst (by omega) (l := x.kids) (fun k hk => hk)
    have h3 : (x.kids.map (kd la)).headD 0 ≤ 100000 := by
      rcases hk : x.kids.map (kd la) with _ | ⟨a, r⟩
      · simp
      · exact (hla.all (l := x.kids) (fun k hk => hk) a (by rw [hk]; simp)).2
    have h4 : ((x.kids.map (kd la)).length : Int) ≤ 1000000 := by simp; omega
    unfold lenN
    repeat' split
    all_goals omega
  refine enter Tryz.func50 rfl Tryz.ntmps50 rfl ?_
  refine rx ?_
  rw [hpn]
  (refine d_begin (fun y => Fr [A] w y) (by kernel_rfl) rfl ?_)
  have hS0 : Fr [] w w.drew := Fr.drew _ _
  have hS : Fr [A] w w.drew := Fr.drew _ _
  ((first | refine d_tx 0 hS ?_ | refine d_ty 0 hS ?_ | refine d_tn 0 hS ?_); (first | refine d_tx 1 hS ?_ | refine d_ty 1 hS ?_ | refine d_tn 1 hS ?_); (first | refine d_tx 2 hS ?_ | refine d_ty 2 hS ?_ | refine d_tn 2 hS ?_))
  (apply d_take (i := 3); exact rfl; kernel_rfl; kernel_rfl; kernel_rfl; (intro u hu; exact (r_load rfl (Blk.cell (Blk.tr hb hu (by simp; omega)) rfl))); exact hS)
  ((first | refine d_tx 4 hS ?_ | refine d_ty 4 hS ?_ | refine d_tn 4 hS ?_); (first | refine d_tx 5 hS ?_ | refine d_ty 5 hS ?_ | refine d_tn 5 hS ?_); (first | refine d_tx 6 hS ?_ | refine d_ty 6 hS ?_ | refine d_tn 6 hS ?_); (first | refine d_tx 7 hS ?_ | refine d_ty 7 hS ?_ | refine d_tn 7 hS ?_); (first | refine d_tx 8 hS ?_ | refine d_ty 8 hS ?_ | refine d_tn 8 hS ?_))
  (apply d_take (i := 9); exact rfl; kernel_rfl; kernel_rfl; kernel_rfl; (intro u hu; exact (r_load rfl (Blk.cell (Blk.tr hb hu (by simp; omega)) rfl))); exact hS)
  refine d_one (i := 10) rfl (by kernel_rfl) ?_
  refine s_call (lengthP x pn la _ w.drew hokx hla hkd hk4 ((hn.mono (by simp)).tr0 hS0) (blkIs (hm.len.tr0 hS0) hll)) rfl ?_
  rintro _ _ ⟨rfl, rfl⟩
  refine ⟨_, rfl, ?_⟩
  refine wpList_nil (q_held hS ?_)
  (apply d_take (i := 11); exact rfl; kernel_rfl; kernel_rfl; kernel_rfl; (intro u hu; exact (r_index1 (j := i) rfl rfl rfl (by omega) rfl)); exact hS)
  refine d_one (i := 12) rfl (by kernel_rfl) ?_
  rw [add_lit, Nat.zero_add]
  refine s_storeBj (v := .int .i64 (lenN la x)) rfl rfl rfl (hm.len.tr0 hS0) (by rw [List.length_map]; omega) (fun w1 hA1 hf1 hs1 => ?_)
  rw [set_map] at hA1
  have hS1 : Fr [A] w w1 := hS.trans hf1 (by simp)
  refine wpList_nil (q_held hS1 ?_)
  (refine d_done (by kernel_rfl) ?_)
  have hSS1 : Fr S w w1 := hS1.mono (by simp [hmem.1])
  have hb1 := hb.tr hS1 (by simp; omega)
  have hZ1 := hm.siz.tr hS1 (by simp; omega)
  have hset1 : SetK t S (.slice (some ad) t.length cs_) b K L M w1 kn := hm.set.old hS1 (by simp [hmem.1]) (by simp; omega)
  have hn1 := hn.tr hSS1
  obtain ⟨hpS, _, hc, ⟨sw, sl, sv, sk, sx, rfl, _, _, _, hk, hx⟩⟩ := hn1
  obtain ⟨ak, ck, rfl, _⟩ := hk.slice
  have hiZ := blkIs hZ1 hlz
  have hA1' := Cells.ofBlk hA1
  -- what is left when the size is known
  refine q_then ?_
  refine wp_seq ?_
  refine c_region ?_
  refine rr ?_
  refine wpList_nil ?_
  refine q_then ?_
  refine wp_seq ?_
  refine c_cut (fun g u => g 0 = .pointer (some ⟨cb, 0, none⟩) ∧ g 1 = .int .i64 (i : Nat) ∧ g 6 = .int .i64 (szP za x) ∧ Fr [] w1 u) ?_ ?_
  · by_cases k0 : x.kind = 0
    · have e : szP za x = vsz x.val := by unfold szP; rw [if_pos k0]
      refine rx ?_
      refine s_call (sizeP x.val sx w1 hx.any hokx.val.1 (by have := hokx.val.2; omega)) rfl ?_
      rintro _ w2 ⟨rfl, hf2⟩
      refine ⟨_, rfl, ?_⟩
      refine rx ?_
      exact q_cut ⟨rfl, rfl, (by rw [e]; rfl), hf2⟩
    by_cases k3 : x.kind = 3
    · have e : szP za x = 1 + sumI (x.kids.map (kd za)) := by unfold szP; rw [if_neg k0, if_pos k3]
      refine rx ?_
      refine c_loopK 11 [6, 8] (σ := Nat) (fun j g u => g 45 = .slice ak x.kids.length ck ∧ g 46 = .int .i64 x.kids.length ∧ g 47 = .int .i64 j ∧ j ≤ x.kids.length ∧ g 6 = .int .i64 (1 + sumI ((x.kids.take j).map (kd za))) ∧ w1 = u) (fun j => x.kids.length - j) 0 ⟨rfl, rfl, rfl, Nat.zero_le _, rfl, rfl⟩ ?_
      rintro j g u ⟨h45, h46, h47, hj, h6, rfl⟩
      rw [eq_upd h6, eq_upd h45, eq_upd h46, eq_upd h47]
      have hSm := sumI_bd (hza.all (l := x.kids.take j) (fun k hk => List.mem_of_mem_take hk))
      have hlt0 : (((x.kids.take j).map (kd za)).length : Int) ≤ 1000000 := by simp; omega
      by_cases hlt : j < x.kids.length
      case neg =>
        have he : x.kids.take j = x.kids := List.take_of_length_le (by omega)
        rw [he]
        refine rx ?_
        exact q_cut ⟨rfl, rfl, (by rw [e]; rfl), Fr.refl _ _⟩
      obtain ⟨ad1, rfl, hcell⟩ := Ls.at hk hlt
      obtain ⟨q, hq, ej, ek, e0, e1⟩ := hza.kd hlt
      obtain ⟨ad2, eA, hcell2⟩ := Ls.at hiZ hq
      cases eA
      have hsn : sumI ((x.kids.take (j + 1)).map (kd za)) = sumI ((x.kids.take j).map (kd za)) + za[q] := by rw [List.take_succ_eq_append_getElem hlt, List.map_append, List.map_cons, List.map_nil, sumI_snoc, ek]
      rw [ej] at hcell
      generalize hSS : sumI ((x.kids.take j).map (kd za)) = SS at hSm hsn
      have hSb : SS ≤ 100000000000 := by omega
      refine rx ?_
      rw [Nat.mul_one]
      refine s_load rfl hcell ?_
      refine rx ?_
      rw [Nat.mul_one]
      refine s_load rfl hcell2 ?_
      refine rx ?_
      exact q_roundK (j + 1) (by (repeat (first | exact Keep.mrg _ _ _ _ | (refine Keep.hi rfl ?_) | (refine Keep.one rfl ?_) | exact Keep.all rfl | (refine Keep.inn rfl ?_) | (refine Keep.set rfl ?_)))) ⟨rfl, rfl, rfl, by omega, (by rw [hsn, ← Int.add_assoc]; rfl), rfl⟩ (by omega)
    by_cases k1 : x.kind = 1
    · have e : szP za x = 1 := by unfold szP; rw [if_neg k0, if_neg k3, if_neg (by omega)]
      refine rx ?_
      exact q_cut ⟨rfl, rfl, (by rw [e]; rfl), Fr.refl _ _⟩
    have hk24 : x.kind = 2 ∨ x.kind = 4 := by omega
    have e : szP za x = max 1 (mst za x.kind x.kids) := by unfold szP; rw [if_neg k0, if_neg k3, if_pos hk24]
    by_cases k2 : x.kind = 2
    case' neg => have k4 : x.kind = 4 := by omega
    all_goals
      refine rx ?_
      refine c_loopK 11 [6, 9, 10] (σ := Nat) (fun j g u => g 67 = .slice ak x.kids.length ck ∧ g 68 = .int .i64 x.kids.length ∧ g 69 = .int .i64 j ∧ j ≤ x.kids.length ∧ g 6 = .int .i64 (max 1 (mst za x.kind (x.kids.take j))) ∧ w1 = u) (fun j => x.kids.length - j) 0 ⟨rfl, rfl, rfl, Nat.zero_le _, (by rw [List.take_zero]; unfold mst; split <;> rfl), rfl⟩ ?_
      rintro j g u ⟨h67, h68, h69, hj, h6, rfl⟩
      rw [eq_upd h6, eq_upd h67, eq_upd h68, eq_upd h69]
      have hM := hza.mst (by omega) (l := x.kids.take j) (fun k hk => List.mem_of_mem_take hk)
      by_cases hlt : j < x.kids.length
      case neg =>
        have he : x.kids.take j = x.kids := List.take_of_length_le (by omega)
        rw [he]
        refine rx ?_
        exact q_cut ⟨rfl, rfl, (by rw [e]; rfl), Fr.refl _ _⟩
      obtain ⟨ad1, rfl, hcell⟩ := Ls.at hk hlt
      obtain ⟨q, hq, ej, ek, e0, e1⟩ := hza.kd hlt
      obtain ⟨ad2, eA, hcell2⟩ := Ls.at hiZ hq
      cases eA
      have hmn := mst_snoc (ls := za) (kind := x.kind) hlt
      rw [ek] at hmn
      rw [ej] at hcell
      generalize hMM : mst za x.kind (x.kids.take j) = MM at hM hmn
      refine rx ?_
      rw [Nat.mul_one]
      refine s_load rfl hcell ?_
      by_cases hj0 : 0 < j
      all_goals
        first
        | (rw [if_neg (by omega)] at hmn
           refine rx ?_
           exact q_roundK (j + 1) (by (repeat (first | exact Keep.mrg _ _ _ _ | (refine Keep.hi rfl ?_) | (refine Keep.one rfl ?_) | exact Keep.all rfl | (refine Keep.inn rfl ?_) | (refine Keep.set rfl ?_)))) ⟨rfl, rfl, rfl, by omega, (by rw [hmn]; rfl), rfl⟩ (by omega))
        | (rw [if_pos (by omega)] at hmn
           refine rx ?_
           rw [Nat.mul_one]
           refine s_load rfl hcell2 ?_
           refine s_max rfl rfl rfl ?_
           refine rx ?_
           exact q_roundK (j + 1) (by (repeat (first | exact Keep.mrg _ _ _ _ | (refine Keep.hi rfl ?_) | (refine Keep.one rfl ?_) | exact Keep.all rfl | (refine Keep.inn rfl ?_) | (refine Keep.set rfl ?_)))) ⟨rfl, rfl, rfl, by omega, congrArg (Value.int .i64) (by rw [hmn]; split <;> omega), rfl⟩ (by omega))
  rintro g u ⟨g0, g1, g6, hfu⟩
  rw [eq_upd g0, eq_upd g1, eq_upd g6]
  have hbu := hb1.tr0 hfu
  have hZu := hZ1.tr0 hfu
  refine rx ?_
  rw [add_lit, Nat.zero_add, Nat.mul_one]
  refine s_storeBj (v := .int .i64 (szP za x)) rfl rfl rfl hZu (by rw [List.length_map]; omega) (fun u2 hZ2 hf2 hs2 => ?_)
  rw [set_map] at hZ2
  have hbu2 := hbu.tr hf2 (by simp; omega)
  have hAu2 := (hA1.tr0 hfu).tr hf2 (by simp; omega)
  have hcA := Cells.ofBlk hAu2
  have hFw : Fr [A, Z] w u2 := ((hS1.mono (by simp)).trans0 hfu).trans hf2 (by simp)
  have hsetu : SetK t S (.slice (some ad) t.length cs_) b K L M u2 kn := (hset1.tr0 hfu).old hf2 (by simp [hmem.2]) (by simp; omega)
  have hget : ((la.set i (lenN la x)).map (Value.int .i64))[i]? = some (.int .i64 (lenN la x)) := by simp [hll, hi]
  have hfin : ChkM t S (.slice (some ad) t.length cs_) cb A Z b K L M u2 kn (la.set i (lenN la x)) (za.set i (szP za x)) := ⟨hbu2, by simp [hll], by simp [hlz], hAu2, hZ2, hsetu, hd1, hm.d2, hmem⟩
  generalize hLL : lenN la x = LL at *
  generalize hZZ : szP za x = ZZ at *
  refine rx ?_
  rw [Nat.mul_one]
  refine s_loadC rfl hcA hget ?_
  by_cases h1 : LL ≤ 256 ∧ ZZ ≤ 1024
  · obtain ⟨h1a, h1b⟩ := h1
    rw [decide_eq_true ⟨h1a, h1b⟩]
    refine rx ?_
    (apply ret1; exact rfl; (conv => lhs; whnf))
    exact ⟨rfl, hfin, hFw⟩
  · rw [decide_eq_false h1]
    by_cases h2 : LL ≤ 256
    all_goals
      refine rx ?_
      (apply ret1; exact rfl; (conv => lhs; whnf))
      exact ⟨rfl, hfin, hFw⟩

set_option maxHeartbeats 8000000 in
theorem casesP (t : List Nd) (hok : ∀ x ∈ t, NdOk x) (x : Nd) (pn : Addr) (k : Nat) (hk : k < t.length) (hwf : Wf t (k + 1)) (S : List Nat) (sn : Value) (cb A Z b K L M : Nat) (w : World) (kn : List Bool) (la za : List Int) (hSb : ∀ y ∈ S, y < w.heap.size) (hm : ChkM t S sn cb A Z b K L M w kn la za) (ht : NS w S t sn)
    (hn : PN w S x pn) (hx4 : x.kind = 4) (h0 : 0 < x.kids.length) (hk0 : x.kids[0] = (k : Int)) :
    Calls Tryz.prog 51 #[.pointer (some ⟨cb, 0, none⟩), .pointer (some pn)] w fun e w' => e = .returned (.int .i64 (bndE (sT t k) x.vals)) ∧ (∃ kn', ChkM t S sn cb A Z b K L M w' kn' la za) ∧ Fr [K, L, M] w w' := by
  have hb := hm.blk
  have hmem := hm.set.mem
  have hKS : ∀ y ∈ [K, L, M], y ∈ S := by simp; exact ⟨hmem.2.1, hmem.2.2.1, hmem.2.2.2⟩
  have hn0 := hn
  obtain ⟨hpS, _, hc, ⟨sw, sl, sv, sk, sx, rfl, hw, hl, hv, hks, hx⟩⟩ := hn
  obtain ⟨ak, ck, rfl, _⟩ := hks.slice
  obtain ⟨av, cv, rfl, _⟩ := hv.slice
  obtain ⟨ad, rfl, hcell⟩ := Ls.at hks h0
  rw [hk0] at hcell
  refine enter Tryz.func51 rfl Tryz.ntmps51 rfl ?_
  refine rx ?_
  (refine d_begin (fun y => Fr [K, L, M] w y) (by kernel_rfl) rfl ?_)
  have hS0 : Fr [] w w.drew := Fr.drew _ _
  have hS : Fr [K, L, M] w w.drew := Fr.drew _ _
  have hd2 := hm.d2
  simp only [List.mem_cons, List.not_mem_nil, or_false, forall_eq_or_imp, forall_eq] at hd2
  have hpK : pn.block ∉ [K, L, M] := fun h => hpS (hKS _ h)
  have hksK : ∀ z, Fr [K, L, M] w z → z.cell? (ad.add 0) = some (.int .i64 k) := fun z hz => by
    have := hks.tr (hz.mono (fun y hy => .inl (hKS y hy)))
    obtain ⟨ad', e', hc'⟩ := Ls.at this h0
    cases e'
    rw [hk0] at hc'
    exact hc'
  ((first | refine d_tx 0 hS ?_ | refine d_ty 0 hS ?_ | refine d_tn 0 hS ?_); (first | refine d_tx 1 hS ?_ | refine d_ty 1 hS ?_ | refine d_tn 1 hS ?_); (first | refine d_tx 2 hS ?_ | refine d_ty 2 hS ?_ | refine d_tn 2 hS ?_))
  (apply d_take (i := 3); exact rfl; kernel_rfl; kernel_rfl; kernel_rfl; (intro u hu; exact (r_load rfl (Blk.cell (Blk.tr hb hu (by simp; omega)) rfl))); exact hS)
  ((first | refine d_tx 4 hS ?_ | refine d_ty 4 hS ?_ | refine d_tn 4 hS ?_); (first | refine d_tx 5 hS ?_ | refine d_ty 5 hS ?_ | refine d_tn 5 hS ?_); (first | refine d_tx 6 hS ?_ | refine d_ty 6 hS ?_ | refine d_tn 6 hS ?_))
  (apply d_take (i := 7); exact rfl; kernel_rfl; kernel_rfl; kernel_rfl; (intro u hu; exact (r_load rfl (Cells.get (Cells.tr hc hu hpK) rfl))); exact hS)
  ((first | refine d_tx 8 hS ?_ | refine d_ty 8 hS ?_ | refine d_tn 8 hS ?_))
  (apply d_take (i := 9); exact rfl; kernel_rfl; kernel_rfl; kernel_rfl; (intro u hu; exact (r_load rfl (by rw [Nat.zero_mul]; exact hksK _ hu))); exact hS)
  refine d_one (i := 10) rfl (by kernel_rfl) ?_
  refine s_call (ofP t hok k hk hwf S sn b K L M w.drew kn hSb (hm.set.tr0 hS0) (ht.tr0 hS0)) rfl ?_
  rintro _ w1 ⟨s, kn', rfl, hvs, hset, hf1⟩
  refine ⟨_, rfl, ?_⟩
  have hT : Fr [K, L, M] w w1 := hS.trans hf1 (fun y hy => .inl hy)
  refine wpList_nil (q_held hT ?_)
  ((first | refine d_tx 11 hT ?_ | refine d_ty 11 hT ?_ | refine d_tn 11 hT ?_); (first | refine d_tx 12 hT ?_ | refine d_ty 12 hT ?_ | refine d_tn 12 hT ?_); (first | refine d_tx 13 hT ?_ | refine d_ty 13 hT ?_ | refine d_tn 13 hT ?_))
  (refine d_one (i := 14) rfl (by kernel_rfl) ?_; refine rx ?_; refine q_held hT ?_)
  (refine d_one (i := 15) rfl (by kernel_rfl) ?_; refine rx ?_; refine q_held hT ?_)
  (refine d_done (by kernel_rfl) ?_)
  have hm1 := (hm.tr0 hS0).sets hf1 hset
  have hc1 := hc.tr hT hpK
  have hv1 := hv.tr (hT.mono (fun y hy => .inl (hKS y hy)))
  generalize hoq : sT t k = o at hvs
  cases o with
  | none =>
    refine rx ?_
    (apply ret1; exact rfl; (conv => lhs; whnf))
    exact ⟨rfl, ⟨_, hm1⟩, hT⟩
  | some l =>
  simp only [Option.getD_some] at hvs
  obtain ⟨a3, c3, rfl, _⟩ := hvs.slice
  refine rx ?_
  refine s_call (equalP l x.vals _ _ w1 hvs.any hv1.any) rfl ?_
  rintro _ w2 ⟨rfl, hf2⟩
  refine ⟨_, rfl, ?_⟩
  rcases hq : sameVs l x.vals with _ | _
  all_goals
    refine rx ?_
    (apply ret1; exact rfl; (conv => lhs; whnf))
    exact ⟨by simp [bndE, hq], ⟨_, hm1.tr0 hf2⟩, hT.trans0 hf2⟩
end Go.Proofs.YtpochcchekoonaaGreat
