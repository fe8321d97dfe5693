/-
  The reference's reading of paths: Options, parts.
-/
import Derived.Test.YtpochcchekoonaaOd
import Derived.Test.YtpochcchekoonaaK2
namespace Go.Proofs.Ytpochcchekoonaa
open Go.Rf Go.RowKit
set_option linter.unusedVariables false
set_option linter.unusedSimpArgs false
/-- the cells of what reading hands back -/
def rc (v : V) (kv : Value) (us : Nat) (st : Int) (sv : Value) : List Value := [.int .i64 v.kind, .int .i64 v.n, .string v.s, kv, .int .i64 (us : Nat), .int .i64 st, sv]
def endsR (a us : Nat) (st : Int) (v : V) (sp : List Sp) : Res V → Prop
  | .ok v' e sp' => v = v' ∧ st = -1 ∧ a + us = e ∧ sp = sp'
  | .stop i _ => st = (i : Nat)
  | .bad => st = -2
def RefR (S : List Nat) (N : Nat) (u' : World) (a pl m : Nat) (r : Res V) (cs : List Value) : Prop :=
  ∃ v kv us st sp sv, cs = rc v kv us st sv ∧ VS u' S v.kids kv ∧ Own u' 48 3 sv sp.length (spC sp) ∧ (∀ q ∈ blks sv, N ≤ q ∧ q ∉ S) ∧ a + us ≤ pl ∧ sp.length ≤ m ∧ endsR a us st v sp r
theorem RefR.fresh {S : List Nat} {N b : Nat} {u1 u2 : World} {a pl m : Nat} {r : Res V} {cs : List Value} (h : RefR S N u1 a pl m r cs) (hf : Fr [] u1 u2) (hb : u1.heap.size ≤ b) : RefR (b :: S) N u2 a pl m r cs := by
  obtain ⟨v, kv, us, st, sp, sv, rfl, h1, h2, h3, h4⟩ := h
  refine ⟨v, kv, us, st, sp, sv, rfl, (h1.mono (fun q hq => ?_)).tr0 hf, h2.tr0 hf, fun q hq => ⟨(h3 q hq).1, fun hm => ?_⟩, h4⟩
  · rcases List.mem_cons.1 hq with h | h
    · right; omega
    · exact .inl h
  · rcases List.mem_cons.1 hm with h | h
    · have := h2.lt q hq; omega
    · exact (h3 q hq).2 h
theorem RefR.from {S : List Nat} {N N' : Nat} {u1 : World} {a pl m : Nat} {r : Res V} {cs : List Value} (h : RefR S N u1 a pl m r cs) (hN : N' ≤ N) : RefR S N' u1 a pl m r cs := by
  obtain ⟨v, kv, us, st, sp, sv, rfl, h1, h2, h3, h4⟩ := h
  exact ⟨v, kv, us, st, sp, sv, rfl, h1, h2, fun q hq => ⟨Nat.le_trans hN (h3 q hq).1, (h3 q hq).2⟩, h4⟩
theorem rc_one {v : V} {kv sv : Value} {us : Nat} {st : Int} (h1 : kv.oneCell' = true) (h2 : sv.oneCell' = true) : ∀ c ∈ rc v kv us st sv, c.oneCell' = true := fun c hc => by
  simp only [rc, List.mem_cons, List.not_mem_nil, or_false] at hc
  rcases hc with rfl | rfl | rfl | rfl | rfl | rfl | rfl
  all_goals first | rfl | exact h1 | exact h2
def RefPost (t : List Nd) (path : List Int) (S : List Nat) (u : World) (a k : Nat) : Ending → World → Prop := fun e u' =>
  ∃ cs, e = .returned (.agg cs.toArray) ∧ RefR S u.heap.size u' a path.length (nsp (tA t k)) (rd path (tA t k) a) cs ∧ Fr [] u u'
def RefC (t : List Nd) (path : List Int) (k : Nat) : Prop := ∀ (S : List Nat) (u : World) (a : Nat) (sn spv : Value), NS u S t sn → IS u S path spv → (∀ q ∈ S, q < u.heap.size) → a ≤ path.length →
  Calls Try.prog 73 #[.agg #[sn], .int .i64 (k : Nat), spv, .int .i64 (a : Nat)] u (RefPost t path S u a k)
attribute [local irreducible] Code.wp wpList Exit.then Exit.inBlock bodyPost A Calls execOp Addr.add
theorem optsR (x : Nd) (hx : NdOk x) (h1 : x.kind = 1 → x.lo ≤ x.hi ∧ x.hi < x.lo + 1099511627776 ∧ -4611686018427387904 ≤ x.lo ∧ x.hi ≤ 4611686018427387904) (sw sl sv sk sx : Value) (w : World) (hk : IS w [] x.kids sk) :
    Calls Try.prog 29 #[.agg (nc x sw sl sv sk sx).toArray] w fun e w' => e = .returned (.int .i64 (optN x : Nat)) ∧ Fr [] w w' := by
  obtain ⟨ak, ck, rfl, _⟩ := hk.slice
  refine enter Try.func29 rfl Try.ntmps29 rfl ?_
  refine rx ?_
  refine s_box rfl rfl (fun w1 hb1 hf1 hs1 => ?_)
  unfold optN
  by_cases k1 : x.kind = 1
  · have := h1 k1
    rw [if_pos k1]
    refine rx ?_
    (apply ret1; exact rfl; (conv => lhs; whnf))
    refine ⟨?_, hf1⟩
    congr 2
    omega
  · rw [if_neg k1]
    refine rx ?_
    (apply ret1; exact rfl; (conv => lhs; whnf))
    exact ⟨rfl, hf1⟩

set_option maxHeartbeats 32000000 in
theorem partsR (t : List Nd) (hv : VT t) (hok : ∀ x ∈ t, NdOk x) (path : List Int) (hpl : path.length ≤ 1000000000) (hm : ∀ k, k < t.length → nsp (tA t k) ≤ 100000000000) (k : Nat) (hk : k < t.length) (k3 : t[k].kind = 3) (ih : ∀ j, j < k → RefC t path j)
    (S : List Nat) (u : World) (a : Nat) (sn spv : Value) (cs : List Value) (hn : NS u S t sn) (hp : IS u S path spv) (hx : NdR u S t[k] cs) (hSb : ∀ q ∈ S, q < u.heap.size) (ha : a ≤ path.length) :
    Calls Try.prog 97 #[.agg #[sn], .agg cs.toArray, spv, .int .i64 (a : Nat)] u (RefPost t path S u a k) := by
  have hsq := hv.seq hk k3
  have hmk := hm k hk
  have hrde : rd path (tA t k) a = (rdS path a (kidsT t t[k].kids) a).bind fun vs e sp => .ok (madeV t[k] vs) e sp := by
    rw [tA_seq hv hk k3]
    simp only [rd]
  have hspm : nsp (tA t k) = (t[k].kids.map fun q => 1 + nsp (tA t q.toNat)).sum := by
    rw [tA_seq hv hk k3, nspS_sum]
    simp only [nsp]
  obtain ⟨an, cn, rfl, _⟩ := hn.slice
  obtain ⟨ap, cp, rfl, _⟩ := hp.slice
  obtain ⟨sw, sl, sv0, sk, sx, rfl, hsw, hsl, hsv, hsk, hsx⟩ := hx
  obtain ⟨ak, ck, rfl, _⟩ := hsk.slice
  refine enter Try.func97 rfl Try.ntmps97 rfl ?_
  refine rx ?_
  refine s_box (l := [.slice an t.length cn]) rfl rfl (fun u1 hb1 hf1 hs1 => ?_)
  refine s_box (l := nc t[k] sw sl sv0 (.slice ak t[k].kids.length ck) sx) rfl rfl (fun u2 hb2 hf2 hs2 => ?_)
  refine s_alloc rfl (fun u3 hb3 hf3 hs3 => ?_)
  refine rx ?_
  refine s_build (rc (numV 0) (.slice none 0 0) 0 (-1) (.slice none 0 0)) rfl ?_
  refine s_alloc rfl (fun u4 hb4 hf4 hs4 => ?_)
  refine s_storeAggB (cs := rc (numV 0) (.slice none 0 0) 0 (-1) (.slice none 0 0)) rfl rfl hb4 (by simp [rc, Value.oneCell']) rfl rfl (fun u5 hb5 hf5 hs5 => ?_)
  obtain ⟨tb, htb⟩ : ∃ y, y = u.heap.size := ⟨_, rfl⟩
  obtain ⟨xb, hxb⟩ : ∃ y, y = u1.heap.size := ⟨_, rfl⟩
  obtain ⟨r8, hr8⟩ : ∃ y, y = u2.heap.size := ⟨_, rfl⟩
  obtain ⟨ob, hob⟩ : ∃ y, y = u3.heap.size := ⟨_, rfl⟩
  rw [← htb] at hb1 ⊢
  rw [← hxb] at hb2 ⊢
  rw [← hr8] at hb3 ⊢
  rw [← hob] at hb5 hf5 ⊢
  have hF5 : Fr [] u u5 := ((((hf1.trans0 hf2).trans0 hf3).trans0 hf4)).trans hf5 (by simp; omega)
  have htb5 : Blk u5 tb [.slice an t.length cn] 25 := (((hb1.tr0 hf2).tr0 hf3).tr0 hf4).tr hf5 (by simp; omega)
  have hxb5 : Blk u5 xb (nc t[k] sw sl sv0 (.slice ak t[k].kids.length ck) sx) 39 := ((hb2.tr0 hf3).tr0 hf4).tr hf5 (by simp; omega)
  have hr85 := (hb3.tr0 hf4).tr hf5 (by simp; omega)
  have hsz5 : u5.heap.size = u.heap.size + 4 := by omega
  clear hb1 hb2 hb3 hb4
  refine rx ?_
  refine c_loopK 12 [10, 11, 12] (σ := Nat × List V × Value × Nat × List Sp × Value) (fun s g y => g 10 = s.2.2.1 ∧ g 11 = .int .i64 (s.1 : Nat) ∧ s.1 ≤ t[k].kids.length ∧ a + s.2.2.2.1 ≤ path.length ∧ rdS path a (kidsT t t[k].kids) a = contS s.2.1 s.2.2.2.2.1 (rdS path a (kidsT t (t[k].kids.drop s.1)) (a + s.2.2.2.1)) ∧ s.2.1.length ≤ s.1 ∧ s.2.2.2.2.1.length + ((t[k].kids.drop s.1).map fun q => 1 + nsp (tA t q.toNat)).sum ≤ nsp (tA t k) ∧
      Blk y ob (rc (numV 0) (.slice none 0 0) s.2.2.2.1 (-1) s.2.2.2.2.2) 78 ∧ Own y 48 3 s.2.2.2.2.2 s.2.2.2.2.1.length (spC s.2.2.2.2.1) ∧ OwnR y 37 4 (plusR VR (r8 :: ob :: S ++ blks s.2.2.2.2.2)) s.2.1 s.2.2.1 ∧ (∀ q ∈ blks s.2.2.2.2.2, u5.heap.size ≤ q) ∧ (∀ q ∈ blks s.2.2.1, u5.heap.size ≤ q ∧ q ∉ blks s.2.2.2.2.2) ∧ Fr [ob] u5 y)
    (fun s => t[k].kids.length - s.1) (0, [], .slice none 0 0, 0, [], .slice none 0 0) ⟨rfl, rfl, Nat.zero_le _, ha, ?_, Nat.le_refl _, by simp only [List.drop_zero, List.length_nil]; omega, hb5, Own.nil _ _ _, OwnR.nil _ _ _ _, by simp [blks, Value.ownBlock], by simp [blks, Value.ownBlock], Fr.refl _ _⟩ ?_
  · simp only [List.drop_zero, Nat.add_zero]
    rcases rdS path a (kidsT t t[k].kids) a with ⟨v2, e2, sp2⟩ | ⟨i, n⟩ | _ <;> simp [contS]
  rintro ⟨j, vs, kv, d, sq, sv⟩ g y ⟨h10, h11, hj, haj, hval, hvl, hbd, hby, hos, hok2, hps, hpk, hfy⟩
  simp only at h10 h11 hj haj hval hvl hbd hby hos hok2 hps hpk
  obtain ⟨a10, c10, rfl⟩ := hok2.slice
  obtain ⟨a9, c9, rfl⟩ := hos.slice
  rw [eq_upd h10, eq_upd h11]
  have hFy : Fr [] u y := hF5.trans hfy (by simp; omega)
  have hszy := hfy.size
  have htby : Blk y tb [.slice an t.length cn] 25 := htb5.tr hfy (by simp; omega)
  have hxby : Blk y xb (nc t[k] sw sl sv0 (.slice ak t[k].kids.length ck) sx) 39 := hxb5.tr hfy (by simp; omega)
  have hr8y := hr85.tr hfy (by simp; omega)
  have hlk := (hok t[k] (by simp)).lk
  by_cases hjl : j < t[k].kids.length
  case neg =>
    have hnil : t[k].kids.drop j = [] := List.drop_eq_nil_of_le (by omega)
    rw [hnil] at hval
    simp only [kidsT, List.map_nil, rdS, contS, List.append_nil] at hval
    have hrd : rd path (tA t k) a = .ok (madeV t[k] vs) (a + d) sq := by
      rw [hrde]
      unfold kidsT
      rw [hval]; rfl
    have hvs := vsP hok2 (by omega) (fun q hq hm => by
      have h1 := hpk q hq
      rcases List.mem_append.1 hm with h | h
      · rcases List.mem_cons.1 h with h | h
        · omega
        rcases List.mem_cons.1 h with h | h
        · omega
        · have := hSb q h; omega
      · exact h1.2 h)
    refine rx ?_
    refine s_call (made14 t[k] vs sw sl sv0 (.slice ak t[k].kids.length ck) sx _ y hvs.any) rfl ?_
    rintro _ y1 ⟨rfl, hf1'⟩
    refine ⟨_, rfl, ?_⟩
    refine rx ?_
    refine s_storeSubB (cs := vc (madeV t[k] vs) (.slice a10 vs.length c10)) rfl rfl (hby.tr0 hf1') (VR.mem1 (w := y) (S := []) (madeV t[k] vs) _ ⟨_, rfl, by rw [madeV_kids]; exact hvs.any⟩) (by simp [rc, vc]) rfl (fun y2 hb2' hf2' hs2' => ?_)
    have hb2 : Blk y2 ob (rc (madeV t[k] vs) (.slice a10 vs.length c10) d (-1) (.slice a9 sq.length c9)) 78 := hb2'
    have hr82 := (hr8y.tr0 hf1').tr hf2' (by simp; omega)
    refine rx ?_
    refine s_storeAggB (cs := rc (madeV t[k] vs) (.slice a10 vs.length c10) d (-1) (.slice a9 sq.length c9)) rfl rfl hr82 (rc_one rfl rfl) rfl rfl (fun y3 hb3' hf3' hs3' => ?_)
    refine rx ?_
    have hF3 : Fr [r8, ob] y y3 := ((hf1'.mono (by simp)).trans hf2' (by simp)).trans hf3' (by simp)
    refine retc rfl rfl (AggT.load _ (rc (madeV t[k] vs) (.slice a10 vs.length c10) d (-1) (.slice a9 sq.length c9)) rfl (fun j x hx => by rw [add_lit]; exact hb3'.cell (by simpa using hx))) ⟨_, rfl, ⟨madeV t[k] vs, _, d, -1, sq, _, rfl, ?_, hos.tr hF3 (fun q hq hm => ?_), fun q hq => ⟨?_, fun hm => ?_⟩, haj, ?_, ?_⟩, hFy.trans hF3 (by simp; omega)⟩
    · rw [madeV_kids]
      exact (hvs.tr (hF3.mono (by simp))).mono (fun q hq => .inl (by simp [hq]))
    · have := hps q hq; simp at hm; omega
    · have := hps q hq; omega
    · have := hps q hq; have := hSb q hm; omega
    · rw [hnil] at hbd; simp at hbd; exact hbd
    · rw [hrd]; exact ⟨rfl, rfl, rfl, rfl⟩
  have hka : ∃ ad2, ak = some ad2 := by obtain ⟨ad2, e, _⟩ := Ls.at hsk hjl; exact ⟨ad2, e⟩
  obtain ⟨ad2, rfl⟩ := hka
  obtain ⟨q, hq, hqk⟩ := hv.kid hk (List.getElem_mem hjl)
  have hcell : ∀ z, Fr [] y z → z.cell? (ad2.add (j * 1)) = some (.int .i64 q) := fun z hz => by
    obtain ⟨ad', e', hc'⟩ := Ls.at (hsk.tr0 (hFy.trans0 hz)) hjl
    cases e'
    rw [hq] at hc'
    rw [Nat.mul_one]
    exact hc'
  have hdk : kidsT t (t[k].kids.drop j) = tA t q :: kidsT t (t[k].kids.drop (j + 1)) := by
    rw [List.drop_eq_getElem_cons hjl]
    simp only [kidsT, List.map_cons, hq, Int.toNat_natCast]
  rw [hdk] at hval
  rw [sum_tail hjl, hq, Int.toNat_natCast] at hbd
  have hlos := hos.lt
  have hlok := hok2.lt
  obtain ⟨S2, hS2⟩ : ∃ S2, S2 = (r8 :: ob :: S ++ blks (.slice a9 sq.length c9)) ++ blks (.slice a10 vs.length c10) := ⟨_, rfl⟩
  have hS2u : ∀ b ∈ S2, b ∈ S ∨ u.heap.size ≤ b := fun b hb => by
    rw [hS2] at hb
    simp only [List.mem_append, List.cons_append, List.mem_cons] at hb
    rcases hb with h | h | (h | h) | h
    · right; omega
    · right; omega
    · exact .inl h
    · right; have := hps b h; omega
    · right; have := hpk b h; omega
  have hS2y : ∀ b ∈ S2, b < y.heap.size := fun b hb => by
    rw [hS2] at hb
    simp only [List.mem_append, List.cons_append, List.mem_cons] at hb
    rcases hb with h | h | (h | h) | h
    · omega
    · omega
    · have := hSb b h; omega
    · exact hlos b h
    · exact hlok b h
  refine rx ?_
  (refine d_begin (fun z => Fr [] y z) (by kernel_rfl) rfl ?_)
  have hS : Fr [] y y.drew := Fr.drew _ _
  ((first | refine d_tx 0 hS ?_ | refine d_ty 0 hS ?_ | refine d_tn 0 hS ?_); (first | refine d_tx 1 hS ?_ | refine d_ty 1 hS ?_ | refine d_tn 1 hS ?_); (first | refine d_tx 2 hS ?_ | refine d_ty 2 hS ?_ | refine d_tn 2 hS ?_); (first | refine d_tx 3 hS ?_ | refine d_ty 3 hS ?_ | refine d_tn 3 hS ?_); (first | refine d_tx 4 hS ?_ | refine d_ty 4 hS ?_ | refine d_tn 4 hS ?_))
  (apply d_take (i := 5); exact rfl; kernel_rfl; kernel_rfl; kernel_rfl; (intro u hu; exact (r_load rfl (hcell _ hu))); exact hS)
  ((first | refine d_tx 6 hS ?_ | refine d_ty 6 hS ?_ | refine d_tn 6 hS ?_); (first | refine d_tx 7 hS ?_ | refine d_ty 7 hS ?_ | refine d_tn 7 hS ?_); (first | refine d_tx 8 hS ?_ | refine d_ty 8 hS ?_ | refine d_tn 8 hS ?_); (first | refine d_tx 9 hS ?_ | refine d_ty 9 hS ?_ | refine d_tn 9 hS ?_); (first | refine d_tx 10 hS ?_ | refine d_ty 10 hS ?_ | refine d_tn 10 hS ?_))
  refine d_ca (i := 11) (j := 12) (vs := [.agg #[.slice an t.length cn], .int .i64 (q : Nat), .slice ap path.length cp, .int .i64 ((a + d : Nat) : Int)]) (fun B v z => ∃ cs, v = .agg cs.toArray ∧ RefR (B ++ S2) y.heap.size z (a + d) path.length (nsp (tA t q)) (rd path (tA t q) (a + d)) cs) rfl rfl rfl rfl (fun _ => rfl) (fun w0 B hf0 hB => ?oc) ?ot (fun w0 hf0 => hS.trans0 hf0) ?og
  case oc =>
    have hBS : ∀ b ∈ B ++ S2, b ∈ S ∨ u.heap.size ≤ b := fun b hb => by
      rcases List.mem_append.1 hb with h | h
      · right; have := hB b h; have : y.drew.heap.size = y.heap.size := rfl; omega
      · exact hS2u b h
    have hFw : Fr [] u w0 := (hFy.trans0 hS).trans0 hf0
    refine (ih q hqk (B ++ S2) w0 (a + d) _ _ ((hn.mono hBS).tr0 hFw) ((hp.mono hBS).tr0 hFw) (fun b hb => ?_) haj).mono fun e w1 ⟨cs, he, hR, hF⟩ => ⟨_, he, hF, cs, rfl, hR.from ?_⟩
    · rcases List.mem_append.1 hb with h | h
      · exact (hB b h).2
      · have := hS2y b h; have := hf0.size; have : y.drew.heap.size = y.heap.size := rfl; omega
    · have := hf0.size; have : y.drew.heap.size = y.heap.size := rfl; omega
  case ot =>
    rintro B v w1 w2 b ⟨cs, rfl, hR⟩ hf hb
    exact ⟨cs, rfl, hR.fresh hf hb⟩
  rintro v bb z hfz0 ⟨cs, rfl, hR⟩ hbb hbbl
  have hbbl' : y.heap.size ≤ bb := hbbl
  obtain ⟨vb, kb, us, st, spb, svb, rfl, hvsb, hownb, hfb, hus, hlen, hends⟩ := hR
  have hkb1 := hvsb.one
  have hsb1 := hownb.one
  obtain ⟨akb, ckb, rfl, _⟩ := hvsb.slice
  obtain ⟨asb, csb, rfl⟩ := hownb.slice
  have hfz := hS.trans0 hfz0
  refine d_one (i := 13) rfl (by kernel_rfl) ?_
  refine s_storeAggB (cs := rc vb (.slice akb vb.kids.length ckb) us st (.slice asb spb.length csb)) rfl rfl hbb (rc_one rfl rfl) rfl rfl (fun y1 hbb1 hf1' hs1' => ?_)
  have hF1 : Fr [] y y1 := hfz.trans hf1' (by simp; omega)
  refine wpList_nil (q_held hF1 ?_)
  (refine d_done (by kernel_rfl) ?_)
  have hby1 := hby.tr0 hF1
  have hoby := hby.lt
  have hos1 := hos.tr0 hF1
  have stK : Stab (plusR VR (r8 :: ob :: S ++ blks (.slice a9 sq.length c9))) 4 := plusStab vrStab
  have hok1 := hok2.tr0 stK hF1
  have hvb1 : VS y1 ([bb] ++ S2) vb.kids (.slice akb vb.kids.length ckb) := hvsb.tr (hf1'.mono (by simp))
  have hob1 := hownb.tr hf1' (fun q hq hm => (hfb q hq).2 (by simp at hm; simp [hm]))
  have hsz1 := hF1.size
  have hbblt := hbb1.lt
  refine rx ?_
  refine s_buildA [.int .i64 (a : Nat), .int .i64 ((a : Nat) + (d : Nat)), .int .i64 ((a : Nat) + (d : Nat) + (us : Nat))] rfl ?_
  refine s_pushA (R := spR) (a := (a, a + d, a + d + us)) (cs := [.int .i64 (a : Nat), .int .i64 ((a : Nat) + (d : Nat)), .int .i64 ((a : Nat) + (d : Nat) + (us : Nat))]) (spOwn.2 hos1) spStab rfl rfl rfl (by simp [spR]) rfl rfl rfl (by unfold maxLen; omega) (by omega) (fun svn y3 ho3 hf3' hk3' => ?_)
  rw [spOwn] at ho3
  have hon3 := ho3.one
  have hobs : ob ∉ blks (.slice a9 sq.length c9) := fun h => by have := hps _ h; omega
  have hbbs : bb ∉ blks (.slice a9 sq.length c9) := fun h => by have := hlos _ h; omega
  have hby3 := hby1.tr hf3' hobs
  have hbb3 := hbb1.tr hf3' hbbs
  refine rx ?_
  ((with_reducible apply s_storeB); exact rfl; (conv => lhs; whnf); exact hon3; exact hby3; exact rfl)
  intro y4 hb4' hf4' hs4'
  have hsn : ∀ b ∈ blks svn, u5.heap.size ≤ b ∧ b ≠ ob ∧ b ≠ bb := fun b hb => by
    rcases hk3' b hb with h | h
    · have := hps b h; have := hlos b h; omega
    · omega
  have ho4 := ho3.tr hf4' (fun b hb hm => by simp at hm; exact (hsn b hb).2.1 hm)
  have hF14 : Fr (ob :: blks (.slice a9 sq.length c9)) y1 y4 := (hf3'.mono (fun b hb => .inl (List.mem_cons_of_mem _ hb))).trans hf4' (by simp)
  have hdb : ∀ b ∈ blks (.slice asb spb.length csb), b ∉ ob :: blks (.slice a9 sq.length c9) := fun b hb hm => (hfb b hb).2 (by
    rw [hS2]
    rcases List.mem_cons.1 hm with h | h
    · simp [h]
    · simp [h])
  have hob4 := hob1.tr hF14 hdb
  have hbb4 := hbb3.tr hf4' (by simp; omega)
  obtain ⟨an4, cn4, rfl⟩ := ho4.slice
  refine rx ?_
  refine s_append ho4 rfl hob4.src rfl (spC_len _) (spC_one _) (by unfold maxLen; simp only [List.length_append, List.length_cons, List.length_nil]; omega) (by simp only [List.length_append, List.length_cons, List.length_nil]; omega) (fun svm y5 ho5 hf5' hk5' _ => ?_)
  rw [← spC_app] at ho5
  have hon5 := ho5.one
  have hby5 := hb4'.tr hf5' (fun h => (hsn _ h).2.1 rfl)
  have hbb5 := hbb4.tr hf5' (fun h => (hsn _ h).2.2 rfl)
  have hsz4 := hF14.size
  refine rx ?_
  ((with_reducible apply s_storeB); exact rfl; (conv => lhs; whnf); exact hon5; exact hby5; exact rfl)
  intro y6 hb6' hf6' hs6'
  have hbb6 := hbb5.tr hf6' (by simp; omega)
  refine rx ?_
  ((with_reducible apply s_storeB); exact rfl; (conv => lhs; whnf); exact rfl; exact hb6'; exact rfl)
  intro y7 hb7' hf7' hs7'
  have hob7 : Blk y7 ob (rc (numV 0) (.slice none 0 0) (d + us) (-1) svm) 78 := hb7'
  have hbb7 := hbb6.tr hf7' (by simp; omega)
  have hsm : ∀ b ∈ blks svm, u5.heap.size ≤ b ∧ b ≠ ob ∧ b ≠ bb := fun b hb => by
    rcases hk5' b hb with h | h
    · exact hsn b h
    · omega
  have ho7 := (ho5.tr hf6' (fun b hb hm => by simp at hm; exact (hsm b hb).2.1 hm)).tr hf7' (fun b hb hm => by simp at hm; exact (hsm b hb).2.1 hm)
  have hF17 : Fr (ob :: blks (.slice a9 sq.length c9)) y1 y7 := ((hF14.trans hf5' (fun b hb => by
    rcases hk3' b hb with h | h
    · left; simp [h]
    · exact .inr h)).trans hf6' (by simp)).trans hf7' (by simp)
  have hsm1 : ∀ b ∈ blks svm, b ∈ blks (.slice a9 sq.length c9) ∨ y1.heap.size ≤ b := fun b hb => by
    rcases hk5' b hb with h | h
    · exact hk3' b h
    · right; omega
  have hlok1 := hok1.lt
  have hok7 : OwnR y7 37 4 (plusR VR (r8 :: ob :: S ++ blks svm)) vs (.slice a10 vs.length c10) := ownTurn hok1 hF17 (fun b hb => by
      rcases List.mem_cons.1 hb with h | h
      · simp [h]
      · simp [h]) (fun b hb hm => by
      have h1 := hpk b hb
      rcases List.mem_cons.1 hm with h | h
      · omega
      · exact h1.2 h) (fun b hb => by
      rcases List.mem_append.1 hb with h | h
      · exact .inl (List.mem_append.2 (.inl h))
      · rcases hsm1 b h with h | h
        · exact .inl (List.mem_append.2 (.inr h))
        · exact .inr h)
  have hvb7 : VS y7 (blks (.slice a10 vs.length c10) ++ (r8 :: ob :: S ++ blks svm)) vb.kids (.slice akb vb.kids.length ckb) := by
    refine (hvb1.mono (T := S2) (fun b hb => .inl (by simp [hb]))).turn (hF17.mono (fun b hb => .inl ?_)) (fun b hb => ?_)
    · rw [hS2]
      rcases List.mem_cons.1 hb with h | h
      · simp [h]
      · simp [h]
    · rw [hS2]
      rcases List.mem_append.1 hb with h | h
      · exact .inl (List.mem_append.2 (.inr h))
      · rcases List.mem_append.1 h with h | h
        · exact .inl (List.mem_append.2 (.inl (List.mem_append.2 (.inl h))))
        · rcases hsm1 b h with h | h
          · exact .inl (List.mem_append.2 (.inl (List.mem_append.2 (.inr h))))
          · exact .inr h
  have stK7 : Stab (plusR VR (r8 :: ob :: S ++ blks svm)) 4 := plusStab vrStab
  refine rx ?_
  refine s_pushA (R := plusR VR (r8 :: ob :: S ++ blks svm)) (a := vb) (cs := vc vb (.slice akb vb.kids.length ckb)) hok7 stK7 rfl rfl rfl ⟨_, rfl, hvb7⟩ rfl rfl rfl (by unfold maxLen; omega) (by omega) (fun kv8 y8 hok8 hf8' hk8' => ?_)
  have hobk : ob ∉ blks (.slice a10 vs.length c10) := fun h => by have := (hpk _ h).1; omega
  have hbbk : bb ∉ blks (.slice a10 vs.length c10) := fun h => by have := hlok _ h; omega
  have hob8 := hob7.tr hf8' hobk
  have hbb8 := hbb7.tr hf8' hbbk
  have hdm : ∀ b ∈ blks (.slice a10 vs.length c10), b ∉ blks svm := fun b hb hm => by
    rcases hsm1 b hm with h | h
    · exact (hpk b hb).2 h
    · have := hlok1 b hb; omega
  have ho8 := ho7.tr hf8' (fun b hb hm => hdm b hm hb)
  have hsz7 := hF17.size
  have hF18 : Fr [ob] u5 y8 := ((hfy.trans0 hF1).trans hF17 (fun b hb => by
    rcases List.mem_cons.1 hb with h | h
    · left; simp [h]
    · right; exact hps b h)).trans hf8' (fun b hb => .inr (hpk b hb).1)
  have hlm := ho7.lt
  have hk8 : ∀ b ∈ blks kv8, u5.heap.size ≤ b ∧ b ∉ blks svm := fun b hb => by
    rcases hk8' b hb with h | h
    · exact ⟨(hpk b h).1, hdm b h⟩
    · exact ⟨by omega, fun hm => by have := hlm b hm; omega⟩
  have hsl8 : (sq ++ [(a, a + d, a + d + us)] ++ spb).length = (sq ++ (a, a + d, a + d + us) :: spb).length := by simp
  have hsa8 : sq ++ [(a, a + d, a + d + us)] ++ spb = sq ++ (a, a + d, a + d + us) :: spb := by simp
  rw [← List.length_append, hsa8] at ho8
  have hbd' : (sq ++ (a, a + d, a + d + us) :: spb).length + ((t[k].kids.drop (j + 1)).map fun q => 1 + nsp (tA t q.toNat)).sum ≤ nsp (tA t k) := by
    simp only [List.length_append, List.length_cons]; omega
  by_cases hst : st = -1
  case neg =>
    have hfin : endsR a (d + us) st (numV 0) (sq ++ (a, a + d, a + d + us) :: spb) (rd path (tA t k) a) := by
      rcases hres : rd path (tA t q) (a + d) with ⟨v', e', sp1⟩ | ⟨i, n⟩ | _
      · rw [hres] at hends; exact absurd hends.2.1 hst
      · rw [hres] at hends; rw [hrde, hval, contS_stop hres]; exact hends
      · rw [hres] at hends; rw [hrde, hval, contS_bad hres]; exact hends
    have hr88 := ((hr8y.tr0 hF1).tr hF17 (fun hm => by
      rcases List.mem_cons.1 hm with h | h
      · omega
      · have := hps _ h; omega)).tr hf8' (fun h => by have := (hpk _ h).1; omega)
    refine rx ?_
    ((with_reducible apply s_storeB); exact rfl; (conv => lhs; whnf); exact rfl; exact hob8; exact rfl)
    intro y9 hb9' hf9' hs9'
    have hob9 : Blk y9 ob (rc (numV 0) (.slice none 0 0) (d + us) st svm) 78 := hb9'
    have hr89 := hr88.tr hf9' (by simp; omega)
    refine rx ?_
    refine s_storeAggB (cs := rc (numV 0) (.slice none 0 0) (d + us) st svm) rfl rfl hr89 (rc_one rfl hon5) rfl rfl (fun y10 hb10' hf10' hs10' => ?_)
    refine rx ?_
    have hF10 : Fr [ob] u5 y9 := hF18.trans hf9' (by simp)
    refine retc rfl rfl (AggT.load _ (rc (numV 0) (.slice none 0 0) (d + us) st svm) rfl (fun j x hx => by rw [add_lit]; exact hb10'.cell (by simpa using hx))) ⟨_, rfl, ⟨numV 0, _, d + us, st, _, _, rfl, VS.nil _ _, (ho8.tr hf9' (fun q hq hm => ?_)).tr hf10' (fun q hq hm => ?_), fun q hq => ⟨?_, fun hm => ?_⟩, by omega, by omega, hfin⟩, (hF5.trans hF10 (by simp; omega)).trans hf10' (by simp; omega)⟩
    · simp at hm; exact (hsm q hq).2.1 hm
    · have := (hsm q hq).1; simp at hm; omega
    · have := (hsm q hq).1; omega
    · have := (hsm q hq).1; have := hSb q hm; omega
  have hok' : rd path (tA t q) (a + d) = .ok vb (a + d + us) spb := by
    rcases hres : rd path (tA t q) (a + d) with ⟨v', e', sp1⟩ | ⟨i, n⟩ | _
    · rw [hres] at hends; obtain ⟨rfl, _, rfl, rfl⟩ := hends; rfl
    · rw [hres] at hends; simp only [endsR] at hends; omega
    · rw [hres] at hends; simp only [endsR] at hends; omega
  rw [contS_step hok', Nat.add_assoc a d us] at hval
  rw [Nat.add_assoc a d us] at ho8 hbd'
  subst hst
  refine rx ?_
  refine q_roundK (j + 1, vs ++ [vb], kv8, d + us, sq ++ (a, a + d, a + (d + us)) :: spb, svm) (by (repeat (first | exact Keep.mrg _ _ _ _ | (refine Keep.hi rfl ?_) | (refine Keep.one rfl ?_) | exact Keep.all rfl | (refine Keep.inn rfl ?_) | (refine Keep.set rfl ?_)))) ⟨rfl, rfl, by simp only; omega, by simp only; omega, hval, by simp only [List.length_append, List.length_cons, List.length_nil]; omega, hbd', hob8, ho8, ?_, fun b hb => (hsm b hb).1, hk8, hF18⟩ (by simp only; omega)
  exact ownTurn hok8 (Fr.refl [] _) (by simp) (by simp) (fun b hb => .inl hb)
end Go.Proofs.Ytpochcchekoonaa
