/-
  scan of package history.
-/
import Derived.Test.YtcogpedfnnfnaaaHq
import Derived.Test.YtcogpedfnnfnaaaHo
namespace Go.Proofs.Ytcogpedfnnfnaaa
open Go.Rf Go.RowKit
set_option linter.unusedVariables false
set_option maxHeartbeats 4000000
attribute [local irreducible] Code.wp wpList Exit.then Exit.inBlock bodyPost A Calls execOp Addr.add

theorem chk_ok {l : List Ev} {i : Nat} {e : Ev} (h : fmdE e = 0) : chk l i e = if e.kind = 0 ∧ 0 ≤ opn l e.client i then 20 else if e.kind = 1 ∧ opn l e.client i < 0 then 25 else 0 := by
  unfold chk; rw [if_neg (fun h2 => h2 h)]

theorem s_addrArrI {P : Program} {ops : Array Oper} {Q : Exit → Act → World → Prop} {rest : List Oper} {n : Nat} {f : Env} {w : World} {d : Nat} {ty : TypeId} {ps : String} {af : Array Edge} {x y : Operand} {t : Nat} {k e b : Nat} {kk : IntKind} {j : Nat} {i : Int} [R : ArrT P t k e 1] (hx : ev n f x = .pointer (some ⟨b, 0, none⟩)) (hy : ev n f y = .int kk i) (hi : i = (j : Int)) (hj : j < k)
    (h : wpList P ops Q rest (A n (upd f d (.pointer (some ⟨b, j, none⟩)))) w) : wpList P ops Q (⟨some d, .indexAddr t x y, ty, ps, af, none⟩ :: rest) (A n f) w := by
  subst hi; exact s_addrArr1 hx hy hj h
theorem patchR {α : Type} {R : World → List Nat → α → List Value → Prop} {k : Nat} (hs : Stab R k) {w : World} {S : List Nat} {l : List α} {ys cs us : List Value} {j off : Nat} {x : α} (hr : Rws (R w S) l ys) (hj : j < l.length) (hc : (ys.drop (j * k)).take k = cs) (hcl : cs.length = k) (ho : off + us.length ≤ k)
    (hx : R w S x (cs.take off ++ us ++ cs.drop (off + us.length))) : Rws (R w S) (l.set j x) (ys.take (j * k + off) ++ us ++ ys.drop (j * k + off + us.length)) := by
  have hlen := Rws.len (k := k) (fun x cs h => hs.len h) hr
  rw [row_patch hc hcl ho (by rw [hlen]; exact Nat.mul_le_mul_right _ hj)]
  exact Rws.set (k := k) (fun x cs h => hs.len h) hr hx hj

theorem scanC (l : List Ev) (sl : Value) (w : World) (hl : EvS w l sl) (hok : ∀ e ∈ l, EvOk e) (hb : l.length ≤ 1000000) :
    Calls Try.prog 46 #[sl] w fun r w' => ∃ v', r = .returned (.tuple #[v', .int .i64 (validH l)]) ∧ OwnR w' 55 10 OpR (if validH l = 0 then opsFrom 0 l else []) v' ∧ (∀ k ∈ blks v', w.heap.size ≤ k) ∧ Fr [] w w' := by
  obtain ⟨ao, c, rfl, hc⟩ := Sl.slice hl
  refine enter Try.func46 rfl Try.ntmps46 rfl ?_
  have fail : ∀ (u : World) (x : Int), Fr [] w u → x ≠ 0 → validH l = x → ∃ v', Ending.returned (.tuple #[.slice none 0 0, .int .i64 x]) = .returned (.tuple #[v', .int .i64 (validH l)]) ∧ OwnR u 55 10 OpR (if validH l = 0 then opsFrom 0 l else []) v' ∧ (∀ k ∈ blks v', w.heap.size ≤ k) ∧ Fr [] w u := fun u x hf hx hv =>
    ⟨_, by rw [hv], by rw [if_neg (by rw [hv]; exact hx)]; exact OwnR.nil _ _ _ _, by simp [blks, Value.ownBlock], hf⟩
  refine rx ?_
  refine c_loopK 15 [4, 6] (σ := Nat) (fun i g u => g 4 = .int .i64 (nbeg (l.take i)) ∧ g 15 = .slice ao l.length c ∧ g 16 = .int .i64 l.length ∧ g 17 = .int .i64 i ∧ i ≤ l.length ∧ Fr [] w u) (fun i => l.length - i) 0 ⟨rfl, rfl, rfl, rfl, Nat.zero_le _, Fr.refl _ _⟩ ?_
  rintro i g u ⟨h4, h15, h16, h17, hi, hfu⟩
  rw [eq_upd h4, eq_upd h15, eq_upd h16, eq_upd h17]
  by_cases hlt : i < l.length
  · obtain ⟨ad, cs, rfl, ⟨sa, sr, rfl, ha, hr⟩, hcell⟩ := Sl.at (EvS.tr0 hl hfu) evLen hlt
    have hn := nbeg_take hlt
    have hle := nbeg_le l i
    refine rx ?_
    refine s_alloc rfl (fun u1 hb1 hf1 hs1 => ?_)
    refine s_storeAggB rfl rfl hb1 (evStab.one (w := u) (S := []) ⟨sa, sr, rfl, ha, hr⟩) rfl rfl (fun u2 hb2 hf2 hs2 => ?_)
    have hF2 : Fr [] u u2 := hf1.trans hf2 (by simp)
    by_cases k0 : l[i].kind = 0
    · rw [if_pos k0] at hn
      refine rx ?_
      exact q_roundK (i + 1) (by (repeat (first | exact Keep.mrg _ _ _ _ | (refine Keep.hi rfl ?_) | (refine Keep.one rfl ?_) | exact Keep.all rfl | (refine Keep.inn rfl ?_) | (refine Keep.set rfl ?_)))) ⟨by rw [hn]; rfl, rfl, rfl, rfl, by omega, hfu.trans0 hF2⟩ (by omega)
    · rw [if_neg k0] at hn
      refine rx ?_
      exact q_roundK (i + 1) (by (repeat (first | exact Keep.mrg _ _ _ _ | (refine Keep.hi rfl ?_) | (refine Keep.one rfl ?_) | exact Keep.all rfl | (refine Keep.inn rfl ?_) | (refine Keep.set rfl ?_)))) ⟨by rw [hn]; rfl, rfl, rfl, rfl, by omega, hfu.trans0 hF2⟩ (by omega)
  have ei : i = l.length := by omega
  subst ei
  rw [List.take_length]
  by_cases hb4 : 64 < l.length ∨ 16 < nbeg l
  · have hv : validH l = 4 := by unfold validH; rw [if_pos hb4]
    (refine rx ?_; repeat' ((first | refine s_eql rfl rfl (fun h => ?_) (fun h => ?_) | refine s_neq rfl rfl (fun h => ?_) (fun h => ?_) | refine s_lss rfl rfl (fun h => ?_) (fun h => ?_) | refine s_leq rfl rfl (fun h => ?_) (fun h => ?_) | refine s_gtr rfl rfl (fun h => ?_) (fun h => ?_) | refine s_geq rfl rfl (fun h => ?_) (fun h => ?_) | refine s_eqlE rfl rfl (fun h => ?_) (fun h => ?_) | refine s_neqE rfl rfl (fun h => ?_) (fun h => ?_) | refine s_lssS rfl rfl (fun h => ?_) (fun h => ?_) | refine s_gtrS rfl rfl (fun h => ?_) (fun h => ?_)) <;> refine rx ?_))
    all_goals
      (apply ret2; exact rfl; (conv => lhs; whnf); (conv => lhs; whnf))
      exact fail u 4 hfu (by decide) hv
  have hvv : validH l = errL l 0 l := by unfold validH; rw [if_neg hb4]
  have h64 : l.length ≤ 64 := by omega
  refine rx ?_
  refine s_buildA [.int .i64 (-1), .int .i64 (-1), .int .i64 (-1), .int .i64 (-1)] rfl ?_
  refine s_alloc rfl (fun u1 hb1 hf1 hs1 => ?_)
  refine s_storeAggB rfl rfl hb1 (by simp [Value.oneCell']) rfl rfl (fun u2 hb2 hf2 hs2 => ?_)
  have hF2 : Fr [] w u2 := (hfu.trans0 hf1).trans hf2 (by simp; have := hfu.size; omega)
  obtain ⟨NB, hNB⟩ : ∃ NB, u.heap.size = NB := ⟨_, rfl⟩
  rw [hNB] at hb2 hs1 ⊢
  have hNBw : w.heap.size ≤ NB := by have := hfu.size; omega
  have hl2 := EvS.tr0 hl hF2
  refine rx ?_
  refine c_loopK 15 [7, 9, 10, 11, 12, 13, 14] (σ := Nat × Value × List Int × List Value) (fun st g z => g 7 = st.2.1 ∧ g 35 = .slice ao l.length c ∧ g 36 = .int .i64 l.length ∧ g 37 = .int .i64 st.1 ∧ st.1 ≤ l.length ∧ errL l 0 l = errL l st.1 (l.drop st.1) ∧
      OI (opsFrom 0 (l.take st.1)) st.2.2.1 ∧ Blk z NB (st.2.2.1.map (.int .i64)) 122 ∧ Own z 55 10 st.2.1 (opsFrom 0 (l.take st.1)).length st.2.2.2 ∧ Rws (OpR w []) (opsFrom 0 (l.take st.1)) st.2.2.2 ∧ (∀ k ∈ blks st.2.1, u2.heap.size ≤ k) ∧ Fr [NB] u2 z)
    (fun st => l.length - st.1) (0, .slice none 0 0, [-1, -1, -1, -1], []) ⟨rfl, rfl, rfl, rfl, Nat.zero_le _, rfl, OI.start, hb2, Own.nil _ _ _, .nil, by simp [blks, Value.ownBlock], Fr.refl _ _⟩ ?_
  rintro ⟨i, v, op, ys⟩ g z ⟨h7, h35, h36, h37, hi', he, hoi, hbz, ho, hrw, hk, hfz⟩
  simp only at h7 h37 hi' he hoi hbz ho hrw hk
  rw [eq_upd h7, eq_upd h35, eq_upd h36, eq_upd h37]
  have hFz : Fr [] w z := hF2.trans hfz (by simp; omega)
  have hlo := opsFrom_len (l.take i) 0
  rw [List.length_take] at hlo
  by_cases hlt : i < l.length
  case neg =>
    refine rx ?_
    (apply ret2; exact rfl; (conv => lhs; whnf); (conv => lhs; whnf))
    rw [List.drop_eq_nil_of_le (by omega), errL] at he
    rw [hvv, he, if_pos rfl]
    rw [List.take_of_length_le (by omega)] at ho hrw
    have hkw : ∀ k ∈ blks v, w.heap.size ≤ k := fun k hm => by have := hk k hm; have := hF2.size; omega
    exact ⟨_, rfl, ⟨ys, ho, hrw.imp (fun x cs _ hx => opStab.old (opStab.mono hx (fun b hb => .inr (hkw b hb))) hFz (by simp))⟩, hkw, hFz⟩
  obtain ⟨ad, cs, rfl, ⟨sa, sr, rfl, ha, hr⟩, hcellw⟩ := Sl.at hl evLen hlt
  obtain ⟨aa, ca, hsa, _⟩ := ha.slice
  subst hsa
  obtain ⟨ar, cr, hsr, _⟩ := hr.slice
  subst hsr
  have hcell := hcellw.tr0 hFz
  have hmem : l[i] ∈ l := by simp
  rw [errL_drop hlt] at he
  have hszF := hF2.size
  have hszz := hfz.size
  have hoz := opn_hasOpen l l[i].client i (by omega)
  have hsnoc : opsFrom 0 (l.take (i + 1)) = (opsFrom 0 (l.take i)).map (updCl i l[i]) ++ (if l[i].kind = 0 then [newCl i l[i]] else []) := by
    rw [List.take_succ_eq_append_getElem hlt, opsFrom_snoc]
    simp [Nat.min_eq_left (Nat.le_of_lt hlt)]
  have hNBv : NB ∉ blks v := fun h => by have := hk _ h; omega
  refine rx ?_
  refine s_alloc rfl (fun z1 hbx1 hfz1 hsz1 => ?_)
  refine rx ?_
  refine s_storeAggB rfl rfl hbx1 (evStab.one (w := w) (S := []) ⟨_, _, rfl, ha, hr⟩) rfl rfl (fun z2 hbx hfz2 hsz2 => ?_)
  have hFz2 : Fr [] z z2 := hfz1.trans hfz2 (by simp)
  obtain ⟨NX, hNX⟩ : ∃ NX, z.heap.size = NX := ⟨_, rfl⟩
  rw [hNX] at hbx hfz2 ⊢
  have hFw2 : Fr [] w z2 := hFz.trans0 hFz2
  refine rx ?_
  refine s_call (formedE l[i] _ _ z2 (ha.tr0 hFw2) (hr.tr0 hFw2) (hok _ hmem)) rfl ?_
  rintro _ z3 ⟨rfl, hf3⟩
  refine ⟨_, rfl, ?_⟩
  have hFw3 := hFw2.trans0 hf3
  have hFz3 : Fr [] z z3 := hFz2.trans0 hf3
  have hbx3 := hbx.tr0 hf3
  have hbz3 := hbz.tr0 hFz3
  have ho3 := ho.tr0 hFz3
  have hs3 := hFz3.size
  refine rx ?_
  refine s_neq rfl rfl (fun h => ?_) (fun h => ?_)
  · have hk1 : chk l i l[i] = fmdE l[i] := by unfold chk; rw [if_pos h]
    rw [hk1, if_pos h] at he
    refine rx ?_
    (apply ret2; exact rfl; (conv => lhs; whnf); (conv => lhs; whnf))
    exact fail z3 _ hFw3 h (by rw [hvv, he])
  obtain ⟨q1, q2, q3, q4, q5⟩ := fmd_ok h
  obtain ⟨cn, hcn⟩ : ∃ cn : Nat, l[i].client = (cn : Int) := ⟨l[i].client.toNat, by omega⟩
  have hcn4 : cn < 4 := by omega
  obtain ⟨a, hga, haj, haO⟩ := hoi.none hcn4
  rw [hcn] at hoz
  have hao : 0 ≤ a ↔ 0 ≤ opn l l[i].client i := by rw [haO, hcn, hoz]
  clear hbx hbx1
  have hlen4 := hoi.len
  have hgm : (op.map (Value.int .i64))[cn]? = some (.int .i64 a) := by rw [List.getElem?_map, hga]; rfl
  have hltv := ho.lt
  have hNXv : NX ∉ blks v := fun h => by have := hltv _ h; omega
  have hNBX : NB ≠ NX := by have := hbz.lt; omega
  refine rx ?_
  refine s_addrArrI (j := cn) rfl rfl hcn hcn4 ?_
  refine s_loadB rfl hbz3 hgm ?_
  by_cases k0 : l[i].kind = 0
  · by_cases ha0 : 0 ≤ a
    · have hk1 : chk l i l[i] = 20 := by rw [chk_ok h, if_pos ⟨k0, hao.1 ha0⟩]
      rw [hk1, if_pos (by decide)] at he
      refine rx ?_
      (apply ret2; exact rfl; (conv => lhs; whnf); (conv => lhs; whnf))
      exact fail z3 _ hFw3 (by decide) (by rw [hvv, he])
    have hk1 : chk l i l[i] = 0 := by rw [chk_ok h, if_neg (fun h => ha0 (hao.2 h.2)), if_neg (by omega)]
    rw [hk1, if_neg (by simp)] at he
    obtain ⟨av, cv, hv⟩ := ho3.slice
    subst hv
    rw [map_upd_begin k0, if_pos k0] at hsnoc
    refine rx ?_
    refine s_addrArrI (j := cn) rfl rfl hcn hcn4 ?_
    refine s_storeBj rfl rfl rfl hbz3 (by simp; omega) (fun z4 hbz4 hfz4 hsz4 => ?_)
    have hbx4 := hbx3.tr hfz4 (by simp; omega)
    have ho4 := ho3.tr hfz4 (fun k hm => by simp; intro e; exact hNBv (e ▸ hm))
    have hrow : OpR w [] (newCl i l[i]) (oc (newCl i l[i]) (.slice aa l[i].args.length ca) (.slice none 0 0)) := ⟨_, _, rfl, ha, VS.nil _ _⟩
    refine rx ?_
    refine s_build (oc (newCl i l[i]) (.slice aa l[i].args.length ca) (.slice none 0 0)) rfl ?_
    refine s_buildS (oc (newCl i l[i]) (.slice aa l[i].args.length ca) (.slice none 0 0)) rfl rfl rfl rfl (fun z5 ho5 hf5 hs5 => ?_)
    refine s_append (ho4.tr0 hf5) rfl ho5.src rfl rfl (opStab.one hrow) (by unfold maxLen; omega) (by omega) (fun v' z6 ho6 hf6 hk6 _ => ?_)
    refine rx ?_
    have hs6 := hf6.size
    have hOI := OI.begin_ hoi (o := newCl i l[i]) hcn4 ⟨rfl, rfl⟩ hcn (fun hh => ha0 (haO.2 hh))
    have hbz5 : Blk z6 NB ((op.set cn ((opsFrom 0 (l.take i)).length : Int)).map (.int .i64)) 122 := by
      rw [List.map_set]
      exact (hbz4.tr0 hf5).tr hf6 hNBv
    refine q_roundK (i + 1, v', op.set cn ((opsFrom 0 (l.take i)).length : Int), ys ++ oc (newCl i l[i]) (.slice aa l[i].args.length ca) (.slice none 0 0)) (by (repeat (first | exact Keep.mrg _ _ _ _ | (refine Keep.hi rfl ?_) | (refine Keep.one rfl ?_) | exact Keep.all rfl | (refine Keep.inn rfl ?_) | (refine Keep.set rfl ?_)))) ⟨rfl, rfl, rfl, rfl, by simp only; omega, he, by simp only [hsnoc]; exact hOI, hbz5, by simp only [hsnoc, List.length_append]; exact ho6, by simp only [hsnoc]; exact hrw.app (Rws.one hrow), fun k hm => ?_, ?_⟩ (by simp only; omega)
    · rcases hk6 k hm with h | h
      · exact hk k h
      · omega
    · have h1 : Fr [NB] u2 z3 := hfz.trans0 hFz3
      exact ((h1.trans hfz4 (by simp)).trans0 hf5).trans hf6 (fun b hb => .inr (hk b hb))
  by_cases k1 : l[i].kind = 1
  · rw [if_neg k0, List.append_nil] at hsnoc
    by_cases ha0 : 0 ≤ a
    case neg =>
      have hk1 : chk l i l[i] = 25 := by rw [chk_ok h, if_neg (fun h => k0 h.1), if_pos ⟨k1, by have := fun h => ha0 (hao.2 h); omega⟩]
      rw [hk1, if_pos (by decide)] at he
      refine rx ?_
      (apply ret2; exact rfl; (conv => lhs; whnf); (conv => lhs; whnf))
      exact fail z3 _ hFw3 (by decide) (by rw [hvv, he])
    have hk1 : chk l i l[i] = 0 := by rw [chk_ok h, if_neg (fun h => k0 h.1), if_neg (fun h => by have := hao.1 ha0; omega)]
    rw [hk1, if_neg (by simp)] at he
    obtain ⟨j, hj, hjl⟩ : ∃ j : Nat, a = j ∧ j < (opsFrom 0 (l.take i)).length := by
      rcases haj with h | h
      · omega
      · exact h
    subst hj
    obtain ⟨av, cv, hv⟩ := ho3.slice
    subst hv
    obtain ⟨ad2, hav⟩ : ∃ ad2, av = some ad2 := by
      cases av with
      | some x => exact ⟨x, rfl⟩
      | none =>
        obtain ⟨_, _, e, _, hn, _⟩ := ho3.src
        simp only [Value.slice.injEq] at e
        have := (hn e.1.symm).1
        omega
    subst hav
    rw [map_upd_end k1 hoi hcn4 hcn hjl hga] at hsnoc
    obtain ⟨cs0, hR0, hcs0⟩ := Rws.get opLen hrw hjl
    obtain ⟨sa0, sr0, hc0, ha0', hr0'⟩ := id hR0
    rw [hc0] at hcs0
    have hp1 := patchR (off := 2) (us := [.int .i64 (i : Int)]) (x := { (opsFrom 0 (l.take i))[j] with fin := (i : Int) }) opStab hrw hjl hcs0 rfl (by simp) ⟨sa0, sr0, rfl, ha0', hr0'⟩
    obtain ⟨cs1, hR1, hcs1⟩ := Rws.get opLen hp1 (i := j) (by simpa using hjl)
    obtain ⟨sa1, sr1, hc1, ha1', hr1'⟩ := id hR1
    rw [hc1] at hcs1
    have hp2 := patchR (off := 6) (us := vc l[i].res (.slice ar l[i].res.kids.length cr)) (x := { ((opsFrom 0 (l.take i)).set j { (opsFrom 0 (l.take i))[j] with fin := (i : Int) })[j]'(by simpa using hjl) with res := l[i].res }) opStab hp1 (by simpa using hjl) hcs1 rfl (by simp [vc]) ⟨sa1, _, rfl, ha1', hr⟩
    have hset : ((opsFrom 0 (l.take i)).set j { (opsFrom 0 (l.take i))[j] with fin := (i : Int) }).set j { ((opsFrom 0 (l.take i)).set j { (opsFrom 0 (l.take i))[j] with fin := (i : Int) })[j]'(by simpa using hjl) with res := l[i].res } = opsFrom 0 (l.take (i + 1)) := by
      rw [hsnoc, List.set_set]
      simp
    rw [hset] at hp2
    have hlen' : (opsFrom 0 (l.take (i + 1))).length = (opsFrom 0 (l.take i)).length := by rw [hsnoc]; simp
    refine rx ?_
    (refine d_begin (fun q => True ∧ Blk q NX (ec l[i] (.slice aa l[i].args.length ca) (.slice ar l[i].res.kids.length cr)) 61) (by kernel_rfl) rfl ?_)
    have hS : True ∧ Blk z3.drew NX (ec l[i] (.slice aa l[i].args.length ca) (.slice ar l[i].res.kids.length cr)) 61 := ⟨trivial, hbx3.tr0 (Fr.drew _ _)⟩
    ((first | refine d_tx 0 hS ?_ | refine d_ty 0 hS ?_ | refine d_tn 0 hS ?_); (first | refine d_tx 1 hS ?_ | refine d_ty 1 hS ?_ | refine d_tn 1 hS ?_); (first | refine d_tx 2 hS ?_ | refine d_ty 2 hS ?_ | refine d_tn 2 hS ?_); (first | refine d_tx 3 hS ?_ | refine d_ty 3 hS ?_ | refine d_tn 3 hS ?_); (first | refine d_tx 4 hS ?_ | refine d_ty 4 hS ?_ | refine d_tn 4 hS ?_); (first | refine d_tx 5 hS ?_ | refine d_ty 5 hS ?_ | refine d_tn 5 hS ?_); (first | refine d_tx 6 hS ?_ | refine d_ty 6 hS ?_ | refine d_tn 6 hS ?_); (first | refine d_tx 7 hS ?_ | refine d_ty 7 hS ?_ | refine d_tn 7 hS ?_); (first | refine d_tx 8 hS ?_ | refine d_ty 8 hS ?_ | refine d_tn 8 hS ?_))
    refine d_one (i := 9) rfl (by kernel_rfl) ?_
    refine s_storeRow1 (q := j * 10 + 2) (ho3.tr0 (Fr.drew [] z3)) rfl rfl (add_add _ _ _) rfl rfl (by omega) (fun z4 ho4 hf4 hs4 => ?_)
    have hS4 := hS.2.tr hf4 hNXv
    refine wpList_nil (q_held ⟨trivial, hS4⟩ ?_)
    ((first | refine d_tx 10 ⟨trivial, hS4⟩ ?_ | refine d_ty 10 ⟨trivial, hS4⟩ ?_ | refine d_tn 10 ⟨trivial, hS4⟩ ?_); (first | refine d_tx 11 ⟨trivial, hS4⟩ ?_ | refine d_ty 11 ⟨trivial, hS4⟩ ?_ | refine d_tn 11 ⟨trivial, hS4⟩ ?_))
    refine d_one (i := 12) rfl (by kernel_rfl) ?_
    refine s_storeRowA (q := j * 10 + 6) (m := 4) (cs := vc l[i].res (.slice ar l[i].res.kids.length cr)) ho4 rfl rfl (add_add _ _ _) rfl rfl (VR.mem1 l[i].res _ ⟨_, rfl, hr⟩) (by omega) (fun z5 ho5 hf5 hs5 => ?_)
    have hS5 := hS4.tr hf5 hNXv
    refine wpList_nil (q_held ⟨trivial, hS5⟩ ?_)
    (refine d_done (by kernel_rfl) ?_)
    have hbz5 := ((hbz3.tr0 (Fr.drew [] z3)).tr hf4 hNBv).tr hf5 hNBv
    clear hbx3
    refine rx ?_
    refine s_addrArrI (j := cn) rfl rfl hcn hcn4 ?_
    refine s_storeBj rfl rfl rfl hbz5 (by simp; omega) (fun z6 hbz6 hf6 hs6 => ?_)
    refine rx ?_
    have hOI := OI.end_ hoi hcn4 hjl hga (o := { (opsFrom 0 (l.take i))[j] with fin := (i : Int), res := l[i].res }) (fun hh => by have := hh.1; simp at this) rfl
    refine q_roundK (i + 1, _, op.set cn (-1), _) (by (repeat (first | exact Keep.mrg _ _ _ _ | (refine Keep.hi rfl ?_) | (refine Keep.one rfl ?_) | exact Keep.all rfl | (refine Keep.inn rfl ?_) | (refine Keep.set rfl ?_)))) ⟨rfl, rfl, rfl, rfl, by simp only; omega, he, by simp only [hsnoc]; exact hOI, by rw [List.map_set]; exact hbz6, by simp only [hlen']; exact ho5.tr hf6 (fun k hm => by simp; intro e; exact hNBv (e ▸ hm)), hp2, hk, ?_⟩ (by simp only; omega)
    have h1 : Fr [NB] u2 z3 := hfz.trans0 hFz3
    exact (((h1.trans0 (Fr.drew _ _)).trans hf4 (fun b hb => .inr (hk b hb))).trans hf5 (fun b hb => .inr (hk b hb))).trans hf6 (by simp)
  have k2 : l[i].kind = 2 := by omega
  rw [if_neg k0, List.append_nil] at hsnoc
  have hk1 : chk l i l[i] = 0 := by rw [chk_ok h, if_neg (fun h => k0 h.1), if_neg (fun h => k1 h.1)]
  rw [hk1, if_neg (by simp)] at he
  obtain ⟨a0, a1, a2, a3, hop⟩ : ∃ a0 a1 a2 a3, op = [a0, a1, a2, a3] := by
    match op, hlen4 with
    | [a0, a1, a2, a3], _ => exact ⟨a0, a1, a2, a3, rfl⟩
  obtain ⟨av, cv, hv⟩ := ho3.slice
  refine rx ?_
  refine s_loadAggB rfl hbz3 (by rw [hop]; rfl) ?_
  refine rx ?_
  refine c_loopK 94 [13, 14] (σ := Nat × List Value) (fun st g q => g 94 = .int .i64 st.1 ∧ st.1 ≤ 4 ∧ Own q 55 10 v (opsFrom 0 (l.take i)).length st.2 ∧ Rws (OpR w []) ((opsFrom 0 (l.take i)).map (crashTo i st.1)) st.2 ∧ Blk q NB ((List.replicate st.1 (-1) ++ op.drop st.1).map (.int .i64)) 122 ∧ Fr (NB :: blks v) z3 q)
    (fun st => 4 - st.1) (0, ys) ⟨rfl, by omega, ho3, by rw [crash0 i hoi]; exact hrw, hbz3, Fr.refl _ _⟩ ?_
  rintro ⟨c', ys'⟩ g' q ⟨h94, hc4, hoq, hrq, hbq, hfq⟩
  simp only at h94 hc4 hoq hrq hbq
  rw [eq_upd h94]
  by_cases hcl : c' < 4
  case neg =>
    have : c' = 4 := by omega
    subst this
    rw [crash4 k2 hoi, ← hsnoc] at hrq
    have hOI := OI.crash (i := i) hoi
    rw [crash4 k2 hoi, ← hsnoc] at hOI
    have hlen' : (opsFrom 0 (l.take (i + 1))).length = (opsFrom 0 (l.take i)).length := by rw [hsnoc]; simp
    refine rx ?_
    refine q_roundK (i + 1, v, [-1, -1, -1, -1], ys') (by (repeat (first | exact Keep.mrg _ _ _ _ | (refine Keep.hi rfl ?_) | (refine Keep.one rfl ?_) | exact Keep.all rfl | (refine Keep.inn rfl ?_) | (refine Keep.set rfl ?_)))) ⟨rfl, rfl, rfl, rfl, by simp only; omega, he, hOI, by rw [hop] at hbq; exact hbq, by simp only [hlen']; exact hoq, hrq, hk, ?_⟩ (by simp only; omega)
    have h1 : Fr [NB] u2 z3 := hfz.trans0 hFz3
    exact h1.trans hfq (fun b hb => by
      rcases List.mem_cons.1 hb with rfl | hb
      · exact .inl (by simp)
      · exact .inr (hk b hb))
  obtain ⟨ac, hgc, hcj, hcO⟩ := hoi.none hcl
  have hset4 : ((List.replicate c' (-1) ++ op.drop c').map (Value.int .i64)).set c' (.int .i64 (-1)) = (List.replicate (c' + 1) (-1) ++ op.drop (c' + 1)).map (.int .i64) := by
    rw [hop]
    have : c' = 0 ∨ c' = 1 ∨ c' = 2 ∨ c' = 3 := by omega
    rcases this with rfl | rfl | rfl | rfl <;> rfl
  have hlen4' : ((List.replicate c' (-1) ++ op.drop c').map (Value.int .i64)).length = 4 := by simp; omega
  refine rx ?_
  refine s_indexArr (j := c') (v := .int .i64 ac) rfl rfl hcl (by rw [List.getElem?_map, hgc]; rfl) ?_
  by_cases hac : 0 ≤ ac
  · obtain ⟨j, hj, hjl⟩ : ∃ j : Nat, ac = j ∧ j < (opsFrom 0 (l.take i)).length := by
      rcases hcj with h | h
      · omega
      · exact h
    subst hj
    have hjc : isOpen (opsFrom 0 (l.take i))[j] ∧ (opsFrom 0 (l.take i))[j].client = c' ∧ ∀ j' (h' : j' < (opsFrom 0 (l.take i)).length), isOpen (opsFrom 0 (l.take i))[j'] → (opsFrom 0 (l.take i))[j'].client = c' → j' = j := by
      rcases hoi.at_ c' hcl with ⟨h1, h2⟩ | ⟨j2, hj2, h1, h2, h3, h4⟩
      · rw [hgc] at h1; simp at h1
      · rw [hgc] at h1
        simp at h1
        have : j = j2 := by omega
        subst this
        exact ⟨h2, h3, h4⟩
    obtain ⟨g1, g2, g3⟩ := hjc
    subst hv
    obtain ⟨ad2, hav⟩ : ∃ ad2, av = some ad2 := by
      cases av with
      | some x => exact ⟨x, rfl⟩
      | none =>
        obtain ⟨_, _, e, _, hn, _⟩ := ho3.src
        simp only [Value.slice.injEq] at e
        have := (hn e.1.symm).1
        omega
    subst hav
    obtain ⟨cs0, hR0, hcs0⟩ := Rws.get opLen hrq (i := j) (by simpa using hjl)
    rw [List.getElem_map] at hR0
    have ecr : crashTo i c' (opsFrom 0 (l.take i))[j] = (opsFrom 0 (l.take i))[j] := by unfold crashTo; rw [if_neg (by omega)]
    rw [ecr] at hR0
    obtain ⟨sa0, sr0, hc0, ha0', hr0'⟩ := id hR0
    rw [hc0] at hcs0
    have hp1 := patchR (off := 3) (us := [.int .i64 (i : Int)]) (x := { (opsFrom 0 (l.take i))[j] with lost := (i : Int) }) opStab hrq (by simpa using hjl) hcs0 rfl (by simp) ⟨sa0, sr0, rfl, ha0', hr0'⟩
    rw [← crash_one hjl g1 g2 g3] at hp1
    refine rx ?_
    refine s_storeRow1 (q := j * 10 + 3) hoq rfl rfl (add_add _ _ _) rfl rfl (by omega) (fun q1 ho1 hf1' hs1' => ?_)
    have hbq1 := hbq.tr hf1' hNBv
    refine rx ?_
    refine s_storeBj (v := .int .i64 (-1)) rfl rfl rfl hbq1 (by omega) (fun q2 hbq2 hf2' hs2' => ?_)
    rw [hset4] at hbq2
    refine rx ?_
    exact q_roundK (c' + 1, _) (by (repeat (first | exact Keep.mrg _ _ _ _ | (refine Keep.hi rfl ?_) | (refine Keep.one rfl ?_) | exact Keep.all rfl | (refine Keep.inn rfl ?_) | (refine Keep.set rfl ?_)))) ⟨rfl, by simp only; omega, ho1.tr hf2' (fun k hm => by simp; intro e; exact hNBv (e ▸ hm)), hp1, hbq2, (hfq.trans hf1' (fun b hb => .inl (by simp [hb]))).trans hf2' (by simp)⟩ (by simp only; omega)
  · have hno : ∀ o ∈ opsFrom 0 (l.take i), isOpen o → o.client ≠ c' := fun o ho' h1 h2 => hac (hcO.2 ⟨o, ho', h1, h2⟩)
    rw [← crash_none hno] at hrq
    refine rx ?_
    refine s_storeBj (v := .int .i64 (-1)) rfl rfl rfl hbq (by omega) (fun q2 hbq2 hf2' hs2' => ?_)
    rw [hset4] at hbq2
    refine rx ?_
    exact q_roundK (c' + 1, ys') (by (repeat (first | exact Keep.mrg _ _ _ _ | (refine Keep.hi rfl ?_) | (refine Keep.one rfl ?_) | exact Keep.all rfl | (refine Keep.inn rfl ?_) | (refine Keep.set rfl ?_)))) ⟨rfl, by simp only; omega, hoq.tr hf2' (fun k hm => by simp; intro e; exact hNBv (e ▸ hm)), hrq, hbq2, hfq.trans hf2' (by simp)⟩ (by simp only; omega)
end Go.Proofs.Ytcogpedfnnfnaaa
