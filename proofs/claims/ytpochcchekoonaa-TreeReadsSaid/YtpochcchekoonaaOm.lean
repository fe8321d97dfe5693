/-
  For every input TreeReads returns true.
-/
import Derived.Test.YtpochcchekoonaaOl
namespace Go.Proofs.Ytpochcchekoonaa
open Go.Rf Go.RowKit
set_option linter.unusedVariables false
set_option linter.unusedSimpArgs false
theorem optT_two {t : List Nd} {p : List Int} (h : (atT t p).1 < 0) : optT t p = (0, (atT t p).2) := by unfold optT; rw [if_pos h]
theorem optT_at {t : List Nd} {p : List Int} (h : ¬ (atT t p).1 < 0) : ∃ (i : Nat) (hi : i < t.length), atT t p = ((i : Int), 0) ∧ optT t p = ((optN t[i] : Int), 0) ∧ validT t = 0 := by
  obtain ⟨hz, hi, hk, h2⟩ := atT_lt (t := t) (path := p) (by omega)
  refine ⟨(atT t p).1.toNat, hi, Prod.ext (by simp only; omega) h2, ?_, hz⟩
  unfold optT
  rw [if_neg h, List.getD_eq_getElem?_getD, List.getElem?_map, List.getElem?_eq_getElem hi]; rfl
/-- the slots of a round -/
def RdG (sm sa sn sall : Value) (i N5 k : Nat) (g : Env) : Prop := g 1 = sm ∧ g 2 = sa ∧ g 4 = sn ∧ g 12 = sall ∧ g 13 = .int .i64 (i : Nat) ∧ g 17 = .slice (some ⟨N5, 0, none⟩) 5 5 ∧ g 18 = .int .i64 (k : Nat)
theorem RdG.env {sm sa sn sall : Value} {i N5 k : Nat} {g : Env} (h : RdG sm sa sn sall i N5 k g) : g = upd (upd (upd (upd (upd (upd (upd g 1 sm) 2 sa) 4 sn) 12 sall) 13 (.int .i64 (i : Nat))) 17 (.slice (some ⟨N5, 0, none⟩) 5 5)) 18 (.int .i64 (k : Nat)) := by
  obtain ⟨h1, h2, h4, h12, h13, h17, h18⟩ := h
  rw [← eq_upd h1, ← eq_upd h2, ← eq_upd h4, ← eq_upd h12, ← eq_upd h13, ← eq_upd h17, ← eq_upd h18]
attribute [local irreducible] Code.wp wpList Exit.then Exit.inBlock bodyPost A Calls execOp Addr.add
set_option maxHeartbeats 32000000 in
theorem treeReads_walk (x : Value) (l : List Int) (y : Value) (ms : List Int) (a h n : Int) (u : World) (hx : Src u x l.length (l.map (.int .i64))) (hl : ∀ n ∈ l, InI64 n) (hy : Src u y ms.length (ms.map (.int .i64))) (hms : ∀ n ∈ ms, InI64 n) (ha : InI64 a) (hh : InI64 h) (hn : InI64 n) :
    Calls Try.prog 8 #[x, y, .int .i64 a, .int .i64 h, .int .i64 n] u fun e u' => e = .returned (.bool true) ∧ Fr [] u u' := by
  obtain ⟨ax, cx, rfl, _⟩ := id hx
  obtain ⟨ay, cy, rfl, _⟩ := id hy
  refine enter Try.func8 rfl Try.ntmps8 rfl ?_
  refine rx ?_
  refine s_call (treeP l hl _ u hx) rfl ?_
  rintro _ u1 ⟨t, sn, rfl, hns, hval, hg, hlen, hf1⟩
  refine ⟨_, rfl, ?_⟩
  have htg := tg_of (by omega) hg hlen
  refine s_alloc rfl (fun u2 hb2 hf2 hs2 => ?_)
  refine s_storeAggB (cs := [sn]) rfl rfl hb2 (fun c hc => by simp at hc; subst hc; exact Sl.one hns) rfl rfl (fun u3 hb3 hf3 hs3 => ?_)
  obtain ⟨tb, htb⟩ : ∃ y, y = u1.heap.size := ⟨_, rfl⟩
  rw [← htb] at hb3 hf3 ⊢
  have hf13 : Fr [] u1 u3 := hf2.trans hf3 (by simp; omega)
  have hn3 := hns.tr0 hf13
  have hF3 := hf1.trans0 hf13
  have hlt0 : ∀ (w : World), ∀ q ∈ ([] : List Nat), q < w.heap.size := fun w q hq => by simp at hq
  refine rx ?_
  (refine d_begin (fun y => Fr [] u3 y) (by kernel_rfl) rfl ?_)
  have hS : Fr [] u3 u3.drew := Fr.drew _ _
  ((first | refine d_tx 0 hS ?_ | refine d_ty 0 hS ?_ | refine d_tn 0 hS ?_); (first | refine d_tx 1 hS ?_ | refine d_ty 1 hS ?_ | refine d_tn 1 hS ?_); (first | refine d_tx 2 hS ?_ | refine d_ty 2 hS ?_ | refine d_tn 2 hS ?_); (first | refine d_tx 3 hS ?_ | refine d_ty 3 hS ?_ | refine d_tn 3 hS ?_); (first | refine d_tx 4 hS ?_ | refine d_ty 4 hS ?_ | refine d_tn 4 hS ?_))
  refine d_one (i := 5) rfl (by kernel_rfl) ?_
  refine s_call (spoiltT t 0 (by omega) hg (by omega) a h n ha hh hn sn u3.drew (hn3.tr0 hS)) rfl ?_
  rintro _ u4 ⟨tx, sx, rfl, hnx, hlx, hgx, hf4⟩
  refine ⟨_, rfl, ?_⟩
  have htgx := tg_of (by omega) hgx (by omega)
  have hS4 := hS.trans0 hf4
  refine wpList_nil (q_held hS4 ?_)
  refine d_one (i := 6) rfl (by kernel_rfl) ?_
  refine s_buildS [sn, sx] rfl rfl rfl rfl (fun u5 ho5 hf5 hs5 => ?_)
  have hS5 := hS4.trans0 hf5
  refine wpList_nil (q_held hS5 ?_)
  (refine d_one (i := 7) rfl (by kernel_rfl) ?_; refine rx ?_; refine q_held hS5 ?_)
  (refine d_done (by kernel_rfl) ?_)
  have hrwt : Rws (TrR u5) [t, tx] [sn, sx] := by
    have r1 : TrR u5 t [sn] := ⟨sn, rfl, hn3.tr0 hS5⟩
    have r2 : TrR u5 tx [sx] := ⟨sx, rfl, hnx.tr0 hf5⟩
    exact .cons r1 (Rws.one r2)
  have hallt : Sl u5 [] (TrR u5) [t, tx] (.slice (some ⟨u4.heap.size, 0, none⟩) 2 2) := ⟨[sn, sx], ho5.src, fun _ _ _ _ _ => by simp, hrwt⟩
  have htgl : ∀ tt ∈ [t, tx], TG tt := by
    intro tt htt
    simp only [List.mem_cons, List.not_mem_nil, or_false] at htt
    rcases htt with rfl | rfl
    · exact htg
    · exact htgx
  have hF5 := hF3.trans0 hS5
  have hy5 := hy.tr0 hF5
  generalize u4.heap.size = N4 at hallt
  refine rx ?_
  refine c_loop (σ := Nat) (fun i g z => g 1 = .slice ay ms.length cy ∧ g 2 = .int .i64 a ∧ g 4 = .int .i64 n ∧ g 12 = .slice (some ⟨N4, 0, none⟩) 2 2 ∧ g 13 = .int .i64 (i : Nat) ∧ i ≤ 2 ∧ Fr [] u5 z) (fun i => 2 - i) 0 ⟨rfl, rfl, rfl, rfl, rfl, Nat.zero_le _, Fr.refl _ _⟩ ?_
  rintro i g z ⟨h1, h2, h4, h12, h13, hi, hfz⟩
  rw [eq_upd h1, eq_upd h2, eq_upd h4, eq_upd h12, eq_upd h13]
  have hFz := hF5.trans0 hfz
  by_cases hi2 : i < 2
  case neg =>
    refine rx ?_
    refine s_call (livesP z) rfl ?_
    rintro _ z2 ⟨rfl, hz2⟩
    refine ⟨_, rfl, ?_⟩
    refine rx ?_
    (apply ret1; exact rfl; (conv => lhs; whnf))
    exact ⟨rfl, hFz.trans0 hz2⟩
  have hi2' : i < [t, tx].length := hi2
  obtain ⟨adt, cst, e8, ⟨st, rfl, hnt⟩, hct⟩ := Sl.at hallt trrLen hi2'
  have htgi := htgl _ (List.getElem_mem hi2')
  generalize [t, tx][i] = tq at hnt htgi
  cases e8
  obtain ⟨aq, cq, rfl, _⟩ := hnt.slice
  replace hnt := hnt.tr0 hfz
  replace hct := hct.tr0 hfz
  have hyz := hy5.tr0 hfz
  refine rx ?_
  (refine d_begin (fun y => Fr [] z y) (by kernel_rfl) rfl ?_)
  have hD : Fr [] z z.drew := Fr.drew _ _
  ((first | refine d_tx 0 hD ?_ | refine d_ty 0 hD ?_ | refine d_tn 0 hD ?_); (first | refine d_tx 1 hD ?_ | refine d_ty 1 hD ?_ | refine d_tn 1 hD ?_))
  (apply d_take (i := 2); exact rfl; kernel_rfl; kernel_rfl; kernel_rfl; (intro u hu; exact (r_indexAddr (j := i) rfl rfl rfl hi2 rfl)); exact hD)
  (apply d_take (i := 3); exact rfl; kernel_rfl; kernel_rfl; kernel_rfl; (intro u hu; exact (r_loadC rfl (hct.tr0 hu) (by rfl))); exact hD)
  ((first | refine d_tx 4 hD ?_ | refine d_ty 4 hD ?_ | refine d_tn 4 hD ?_))
  refine d_one (i := 5) rfl (by kernel_rfl) ?_
  refine s_call (rawP ms hms _ 12 (by omega) z.drew (hyz.tr0 hD)) rfl ?_
  rintro _ z1 ⟨rv, rfl, hor, hnr, hz1⟩
  refine ⟨_, rfl, ?_⟩
  have hD1 := hD.trans0 hz1
  refine wpList_nil (q_held hD1 ?_)
  refine d_one (i := 6) rfl (by kernel_rfl) ?_
  refine s_call (fitR tq htgi (rawN ms 12) (Nat.zero_le _) [] _ rv z1 (hnt.tr0 hD1) (Ls.ofSrc (by rw [rawN_len]; exact hor.src)) (hlt0 _)) rfl ?_
  rintro _ y0 ⟨pv, rfl, hoP, hnp, hz2⟩
  refine ⟨_, rfl, ?_⟩
  have hPl : (fitT tq (rawN ms 12)).1.length ≤ 256 := fitT_len
  generalize fitT tq (rawN ms 12) = fp at hoP hPl ⊢
  obtain ⟨P, pe⟩ := fp
  simp only at hoP hPl ⊢
  have hD2 := hD1.trans0 hz2
  refine wpList_nil (q_held hD2 ?_)
  ((first | refine d_tx 7 hD2 ?_ | refine d_ty 7 hD2 ?_ | refine d_tn 7 hD2 ?_); (first | refine d_tx 8 hD2 ?_ | refine d_ty 8 hD2 ?_ | refine d_tn 8 hD2 ?_); (first | refine d_tx 9 hD2 ?_ | refine d_ty 9 hD2 ?_ | refine d_tn 9 hD2 ?_))
  (refine d_one (i := 10) rfl (by kernel_rfl) ?_; refine rx ?_; refine q_held hD2 ?_)
  (refine d_one (i := 11) rfl (by kernel_rfl) ?_; refine rx ?_; refine q_held hD2 ?_)
  (refine d_done (by kernel_rfl) ?_)
  have hPl0 : ∀ b ∈ blks pv, b < y0.heap.size := hoP.lt
  obtain ⟨ap, cp, rfl⟩ := hoP.slice
  have hcp : P.length ≤ cp := by obtain ⟨_, _, e, h, _⟩ := hoP.src; injection e with _ _ e3; omega
  have hFy := hFz.trans0 hD2
  refine rx ?_
  refine s_build0 (fun y1 ho1 hf1y hs1y => ?_)
  refine rx ?_
  refine s_append ho1 rfl (hoP.tr0 hf1y).src rfl (by simp) map_one (by unfold maxLen; omega) (by omega) (fun qv y2 ho2 hf2y hk2y _ => ?_)
  simp only [List.nil_append, Nat.zero_add] at ho2
  have hg2 : Fr [] y0 y2 := hf1y.trans hf2y (by simp [blks, Value.ownBlock])
  have hQg0 : ∀ b ∈ blks qv, y0.heap.size ≤ b := fun b hb => by
    rcases hk2y b hb with h | h
    · simp [blks, Value.ownBlock] at h; omega
    · have := hf1y.size; omega
  replace hoP := hoP.tr0 hg2
  obtain ⟨a2, c2, rfl⟩ := ho2.slice
  refine rx ?_
  refine s_run (r_gtr (p := decide ((0 : Int) < (P.length : Int))) rfl rfl rfl) ?_
  refine wpList_nil ?_
  refine q_then ?_
  refine c_cut (fun g w => g 1 = .slice ay ms.length cy ∧ g 2 = .int .i64 a ∧ g 4 = .int .i64 n ∧ g 12 = .slice (some ⟨N4, 0, none⟩) 2 2 ∧ g 13 = .int .i64 (i : Nat) ∧ g 14 = .slice ap P.length cp ∧ ∃ (Q : List Int) (aQ : Option Addr), g 16 = .slice aQ P.length c2 ∧ Own w 3 1 (.slice aQ P.length c2) P.length (Q.map (.int .i64)) ∧ Q.length = P.length ∧ (∀ b ∈ blks (.slice aQ P.length c2), y0.heap.size ≤ b) ∧ Own w 3 1 (.slice ap P.length cp) P.length (P.map (.int .i64)) ∧ Fr [] y0 w) ?_ ?_
  · by_cases hP0 : 0 < P.length
    · rw [decide_eq_true (show (0 : Int) < (P.length : Int) by omega)]
      obtain ⟨ad2, rfl⟩ := own_some ho2 hP0
      have hjr := arnd_range (a := a) (m := (P.length : Int)) (by omega)
      obtain ⟨jq, hjq, hjql⟩ : ∃ j : Nat, arnd a (P.length : Int) = (j : Int) ∧ j < P.length := ⟨(arnd a (P.length : Int)).toNat, by omega, by omega⟩
      refine rx ?_
      refine s_call (around a _ y2 ha.1 ha.2 (by omega)) rfl ?_
      rintro _ _ ⟨rfl, rfl⟩
      refine ⟨_, rfl, ?_⟩
      rw [hjq]
      refine rx ?_
      rw [show jq * 1 = jq from Nat.mul_one jq]
      refine s_storeOwn (j := jq) (u := .int .i64 n) ho2 rfl hjql rfl rfl rfl (fun w0 hoQ hf0 hs0 => ?_)
      refine rx ?_
      refine q_cut ⟨rfl, rfl, rfl, rfl, rfl, rfl, P.set jq n, _, rfl, ?_, by simp, hQg0, hoP.tr hf0 (fun b hb hm => by have := hQg0 b hm; have := hPl0 b hb; omega), hg2.trans hf0 (fun b hb => .inr (hQg0 b hb))⟩
      rw [List.map_set]; exact hoQ
    · rw [decide_eq_false (show ¬ (0 : Int) < (P.length : Int) by omega)]
      refine rx ?_
      exact q_cut ⟨rfl, rfl, rfl, rfl, rfl, rfl, P, _, rfl, ho2, rfl, hQg0, hoP, hg2⟩
  clear hoP ho2 hg2 ho1
  rintro g0 w0 ⟨m1, m2, m4, m12, m13, m14, Q, aQ, m16, hoQ, hQl2, hQg, hoP, hg0⟩
  rw [eq_upd m1, eq_upd m2, eq_upd m4, eq_upd m12, eq_upd m13, eq_upd m14, eq_upd m16]
  have hQl : ∀ b ∈ blks (.slice aQ P.length c2), b < w0.heap.size := hoQ.lt
  have hjr := arnd_range (a := a) (m := (P.length : Int) + 1) (by omega)
  obtain ⟨jP, hjP, hjPl⟩ : ∃ j : Nat, arnd a ((P.length : Int) + 1) = (j : Int) ∧ j ≤ P.length := ⟨(arnd a ((P.length : Int) + 1)).toNat, by omega, by omega⟩
  refine rx ?_
  refine c_cut (fun g w => g 1 = .slice ay ms.length cy ∧ g 2 = .int .i64 a ∧ g 4 = .int .i64 n ∧ g 12 = .slice (some ⟨N4, 0, none⟩) 2 2 ∧ g 13 = .int .i64 (i : Nat) ∧ ∃ (Ls5 : List (List Int)) (N5 : Nat), g 17 = .slice (some ⟨N5, 0, none⟩) 5 5 ∧ Sl w [] (IsR w) Ls5 (.slice (some ⟨N5, 0, none⟩) 5 5) ∧ Ls5.length = 5 ∧ (∀ q ∈ Ls5, q.length ≤ 1000000000) ∧ Fr [] z w) ?_ ?_
  · (refine d_begin (fun _ => True) (by kernel_rfl) rfl ?_)
    have hDr : Fr [] w0 w0.drew := Fr.drew _ _
    have hFx := hg0.trans0 hDr
    have hszx : w0.heap.size ≤ w0.drew.heap.size := hDr.size
    replace hoP := hoP.tr0 hDr
    replace hoQ := hoQ.tr0 hDr
    generalize w0.drew = wd at hFx hszx hoP hoQ
    ((first | refine d_tx 0 trivial ?_ | refine d_ty 0 trivial ?_ | refine d_tn 0 trivial ?_); (first | refine d_tx 1 trivial ?_ | refine d_ty 1 trivial ?_ | refine d_tn 1 trivial ?_); (first | refine d_tx 2 trivial ?_ | refine d_ty 2 trivial ?_ | refine d_tn 2 trivial ?_); (first | refine d_tx 3 trivial ?_ | refine d_ty 3 trivial ?_ | refine d_tn 3 trivial ?_); (first | refine d_tx 4 trivial ?_ | refine d_ty 4 trivial ?_ | refine d_tn 4 trivial ?_); (first | refine d_tx 5 trivial ?_ | refine d_ty 5 trivial ?_ | refine d_tn 5 trivial ?_))
    ((first | refine d_tx 8 trivial ?_ | refine d_ty 8 trivial ?_ | refine d_tn 8 trivial ?_); (first | refine d_tx 9 trivial ?_ | refine d_ty 9 trivial ?_ | refine d_tn 9 trivial ?_))
    ((first | refine d_tx 12 trivial ?_ | refine d_ty 12 trivial ?_ | refine d_tn 12 trivial ?_); (first | refine d_tx 13 trivial ?_ | refine d_ty 13 trivial ?_ | refine d_tn 13 trivial ?_))
    refine d_three (i := 6) (j := 10) (k := 14) rfl rfl rfl (by kernel_rfl) ?qa1 ?qb1 ?qc1
    case' qa1 =>
      refine s_call (around a _ _ ha.1 ha.2 (by omega)) rfl ?_
      rintro _ _ ⟨rfl, rfl⟩
      refine ⟨_, rfl, ?_⟩
      refine wpList_nil (q_held trivial ?_)
      rw [hjP]
      (apply d_take (i := 7); exact rfl; kernel_rfl; kernel_rfl; kernel_rfl; (intro u hu; exact (r_sliceTo (k := jP) rfl rfl (by omega))); exact trivial)
      refine d_two (i := 10) (j := 14) rfl rfl (by kernel_rfl) ?qa2 ?qb2
      case' qa2 =>
        refine s_build1G (v := .int .i64 0) rfl rfl (fun N76 zz hN76 hs76 hfx => ?_)
        (first | (replace hoP := hoP.tr0 hfx) | skip)
        (first | (replace hoQ := hoQ.tr0 hfx) | skip)
        (first | (replace hs76 := hs76.tr0 hfx) | skip)
        (first | (replace hs80 := hs80.tr0 hfx) | skip)
        (first | (replace hq2 := hq2.tr0 hfx) | skip)
        (first | (replace hsq := hsq.tr0 hfx) | skip)
        replace hFx := hFx.trans0 hfx
        replace hszx := Nat.le_trans hszx hfx.size
        refine wpList_nil (q_held trivial ?_)
        refine d_two (i := 11) (j := 14) rfl rfl (by kernel_rfl) ?qa3 ?qb3
        case' qa3 =>
          refine s_appendK hoQ rfl hs76.src rfl rfl (by simp [Value.oneCell']) (by unfold maxLen; omega) (by omega) (fun q2 zz hq2 hfx hkx hsq => ?_)
          have hq2g : ∀ b ∈ blks q2, y0.heap.size ≤ b := fun b hb => by
            rcases hkx b hb with h | h
            · exact hQg b h
            · have h0 := hg0.size; omega
          (first | (replace hs80 := hs80.tr hfx (fun b hb hm => by simp [blks, Value.ownBlock] at hb; have := hQl b hm; omega)) | skip)
          replace hoP := hoP.tr hfx (fun b hb hm => by have := hQg b hm; have := hPl0 b hb; omega)
          replace hFx := hFx.trans hfx (fun b hb => .inr (hQg b hb))
          replace hszx := Nat.le_trans hszx hfx.size
          clear hoQ hs76
          refine wpList_nil (q_held trivial ?_)
          refine d_one (i := 14) rfl (by kernel_rfl) ?_
          refine s_build1G (v := .int .i64 n) rfl rfl (fun N80 zz hN80 hs80 hfx => ?_)
          have hN80g := Nat.le_trans hszx hN80
          (first | (replace hoP := hoP.tr0 hfx) | skip)
          (first | (replace hoQ := hoQ.tr0 hfx) | skip)
          (first | (replace hs76 := hs76.tr0 hfx) | skip)
          (first | (replace hs80 := hs80.tr0 hfx) | skip)
          (first | (replace hq2 := hq2.tr0 hfx) | skip)
          (first | (replace hsq := hsq.tr0 hfx) | skip)
          replace hFx := hFx.trans0 hfx
          replace hszx := Nat.le_trans hszx hfx.size
          refine wpList_nil (q_held trivial ?_)
        case' qb3 =>
          refine s_build1G (v := .int .i64 n) rfl rfl (fun N80 zz hN80 hs80 hfx => ?_)
          have hN80g := Nat.le_trans hszx hN80
          (first | (replace hoP := hoP.tr0 hfx) | skip)
          (first | (replace hoQ := hoQ.tr0 hfx) | skip)
          (first | (replace hs76 := hs76.tr0 hfx) | skip)
          (first | (replace hs80 := hs80.tr0 hfx) | skip)
          (first | (replace hq2 := hq2.tr0 hfx) | skip)
          (first | (replace hsq := hsq.tr0 hfx) | skip)
          replace hFx := hFx.trans0 hfx
          replace hszx := Nat.le_trans hszx hfx.size
          refine wpList_nil (q_held trivial ?_)
          refine d_one (i := 11) rfl (by kernel_rfl) ?_
          refine s_appendK hoQ rfl hs76.src rfl rfl (by simp [Value.oneCell']) (by unfold maxLen; omega) (by omega) (fun q2 zz hq2 hfx hkx hsq => ?_)
          have hq2g : ∀ b ∈ blks q2, y0.heap.size ≤ b := fun b hb => by
            rcases hkx b hb with h | h
            · exact hQg b h
            · have h0 := hg0.size; omega
          (first | (replace hs80 := hs80.tr hfx (fun b hb hm => by simp [blks, Value.ownBlock] at hb; have := hQl b hm; omega)) | skip)
          replace hoP := hoP.tr hfx (fun b hb hm => by have := hQg b hm; have := hPl0 b hb; omega)
          replace hFx := hFx.trans hfx (fun b hb => .inr (hQg b hb))
          replace hszx := Nat.le_trans hszx hfx.size
          clear hoQ hs76
          refine wpList_nil (q_held trivial ?_)
      case' qb2 =>
        refine s_build1G (v := .int .i64 n) rfl rfl (fun N80 zz hN80 hs80 hfx => ?_)
        have hN80g := Nat.le_trans hszx hN80
        (first | (replace hoP := hoP.tr0 hfx) | skip)
        (first | (replace hoQ := hoQ.tr0 hfx) | skip)
        (first | (replace hs76 := hs76.tr0 hfx) | skip)
        (first | (replace hs80 := hs80.tr0 hfx) | skip)
        (first | (replace hq2 := hq2.tr0 hfx) | skip)
        (first | (replace hsq := hsq.tr0 hfx) | skip)
        replace hFx := hFx.trans0 hfx
        replace hszx := Nat.le_trans hszx hfx.size
        refine wpList_nil (q_held trivial ?_)
        refine d_one (i := 10) rfl (by kernel_rfl) ?_
        refine s_build1G (v := .int .i64 0) rfl rfl (fun N76 zz hN76 hs76 hfx => ?_)
        (first | (replace hoP := hoP.tr0 hfx) | skip)
        (first | (replace hoQ := hoQ.tr0 hfx) | skip)
        (first | (replace hs76 := hs76.tr0 hfx) | skip)
        (first | (replace hs80 := hs80.tr0 hfx) | skip)
        (first | (replace hq2 := hq2.tr0 hfx) | skip)
        (first | (replace hsq := hsq.tr0 hfx) | skip)
        replace hFx := hFx.trans0 hfx
        replace hszx := Nat.le_trans hszx hfx.size
        refine wpList_nil (q_held trivial ?_)
        refine d_one (i := 11) rfl (by kernel_rfl) ?_
        refine s_appendK hoQ rfl hs76.src rfl rfl (by simp [Value.oneCell']) (by unfold maxLen; omega) (by omega) (fun q2 zz hq2 hfx hkx hsq => ?_)
        have hq2g : ∀ b ∈ blks q2, y0.heap.size ≤ b := fun b hb => by
          rcases hkx b hb with h | h
          · exact hQg b h
          · have h0 := hg0.size; omega
        (first | (replace hs80 := hs80.tr hfx (fun b hb hm => by simp [blks, Value.ownBlock] at hb; have := hQl b hm; omega)) | skip)
        replace hoP := hoP.tr hfx (fun b hb hm => by have := hQg b hm; have := hPl0 b hb; omega)
        replace hFx := hFx.trans hfx (fun b hb => .inr (hQg b hb))
        replace hszx := Nat.le_trans hszx hfx.size
        clear hoQ hs76
        refine wpList_nil (q_held trivial ?_)
    case' qb1 =>
      refine s_build1G (v := .int .i64 0) rfl rfl (fun N76 zz hN76 hs76 hfx => ?_)
      (first | (replace hoP := hoP.tr0 hfx) | skip)
      (first | (replace hoQ := hoQ.tr0 hfx) | skip)
      (first | (replace hs76 := hs76.tr0 hfx) | skip)
      (first | (replace hs80 := hs80.tr0 hfx) | skip)
      (first | (replace hq2 := hq2.tr0 hfx) | skip)
      (first | (replace hsq := hsq.tr0 hfx) | skip)
      replace hFx := hFx.trans0 hfx
      replace hszx := Nat.le_trans hszx hfx.size
      refine wpList_nil (q_held trivial ?_)
      refine d_two (i := 6) (j := 14) rfl rfl (by kernel_rfl) ?qa4 ?qb4
      case' qa4 =>
        refine s_call (around a _ _ ha.1 ha.2 (by omega)) rfl ?_
        rintro _ _ ⟨rfl, rfl⟩
        refine ⟨_, rfl, ?_⟩
        refine wpList_nil (q_held trivial ?_)
        rw [hjP]
        (apply d_take (i := 7); exact rfl; kernel_rfl; kernel_rfl; kernel_rfl; (intro u hu; exact (r_sliceTo (k := jP) rfl rfl (by omega))); exact trivial)
        refine d_two (i := 11) (j := 14) rfl rfl (by kernel_rfl) ?qa5 ?qb5
        case' qa5 =>
          refine s_appendK hoQ rfl hs76.src rfl rfl (by simp [Value.oneCell']) (by unfold maxLen; omega) (by omega) (fun q2 zz hq2 hfx hkx hsq => ?_)
          have hq2g : ∀ b ∈ blks q2, y0.heap.size ≤ b := fun b hb => by
            rcases hkx b hb with h | h
            · exact hQg b h
            · have h0 := hg0.size; omega
          (first | (replace hs80 := hs80.tr hfx (fun b hb hm => by simp [blks, Value.ownBlock] at hb; have := hQl b hm; omega)) | skip)
          replace hoP := hoP.tr hfx (fun b hb hm => by have := hQg b hm; have := hPl0 b hb; omega)
          replace hFx := hFx.trans hfx (fun b hb => .inr (hQg b hb))
          replace hszx := Nat.le_trans hszx hfx.size
          clear hoQ hs76
          refine wpList_nil (q_held trivial ?_)
          refine d_one (i := 14) rfl (by kernel_rfl) ?_
          refine s_build1G (v := .int .i64 n) rfl rfl (fun N80 zz hN80 hs80 hfx => ?_)
          have hN80g := Nat.le_trans hszx hN80
          (first | (replace hoP := hoP.tr0 hfx) | skip)
          (first | (replace hoQ := hoQ.tr0 hfx) | skip)
          (first | (replace hs76 := hs76.tr0 hfx) | skip)
          (first | (replace hs80 := hs80.tr0 hfx) | skip)
          (first | (replace hq2 := hq2.tr0 hfx) | skip)
          (first | (replace hsq := hsq.tr0 hfx) | skip)
          replace hFx := hFx.trans0 hfx
          replace hszx := Nat.le_trans hszx hfx.size
          refine wpList_nil (q_held trivial ?_)
        case' qb5 =>
          refine s_build1G (v := .int .i64 n) rfl rfl (fun N80 zz hN80 hs80 hfx => ?_)
          have hN80g := Nat.le_trans hszx hN80
          (first | (replace hoP := hoP.tr0 hfx) | skip)
          (first | (replace hoQ := hoQ.tr0 hfx) | skip)
          (first | (replace hs76 := hs76.tr0 hfx) | skip)
          (first | (replace hs80 := hs80.tr0 hfx) | skip)
          (first | (replace hq2 := hq2.tr0 hfx) | skip)
          (first | (replace hsq := hsq.tr0 hfx) | skip)
          replace hFx := hFx.trans0 hfx
          replace hszx := Nat.le_trans hszx hfx.size
          refine wpList_nil (q_held trivial ?_)
          refine d_one (i := 11) rfl (by kernel_rfl) ?_
          refine s_appendK hoQ rfl hs76.src rfl rfl (by simp [Value.oneCell']) (by unfold maxLen; omega) (by omega) (fun q2 zz hq2 hfx hkx hsq => ?_)
          have hq2g : ∀ b ∈ blks q2, y0.heap.size ≤ b := fun b hb => by
            rcases hkx b hb with h | h
            · exact hQg b h
            · have h0 := hg0.size; omega
          (first | (replace hs80 := hs80.tr hfx (fun b hb hm => by simp [blks, Value.ownBlock] at hb; have := hQl b hm; omega)) | skip)
          replace hoP := hoP.tr hfx (fun b hb hm => by have := hQg b hm; have := hPl0 b hb; omega)
          replace hFx := hFx.trans hfx (fun b hb => .inr (hQg b hb))
          replace hszx := Nat.le_trans hszx hfx.size
          clear hoQ hs76
          refine wpList_nil (q_held trivial ?_)
      case' qb4 =>
        refine s_build1G (v := .int .i64 n) rfl rfl (fun N80 zz hN80 hs80 hfx => ?_)
        have hN80g := Nat.le_trans hszx hN80
        (first | (replace hoP := hoP.tr0 hfx) | skip)
        (first | (replace hoQ := hoQ.tr0 hfx) | skip)
        (first | (replace hs76 := hs76.tr0 hfx) | skip)
        (first | (replace hs80 := hs80.tr0 hfx) | skip)
        (first | (replace hq2 := hq2.tr0 hfx) | skip)
        (first | (replace hsq := hsq.tr0 hfx) | skip)
        replace hFx := hFx.trans0 hfx
        replace hszx := Nat.le_trans hszx hfx.size
        refine wpList_nil (q_held trivial ?_)
        refine d_one (i := 6) rfl (by kernel_rfl) ?_
        refine s_call (around a _ _ ha.1 ha.2 (by omega)) rfl ?_
        rintro _ _ ⟨rfl, rfl⟩
        refine ⟨_, rfl, ?_⟩
        refine wpList_nil (q_held trivial ?_)
        rw [hjP]
        (apply d_take (i := 7); exact rfl; kernel_rfl; kernel_rfl; kernel_rfl; (intro u hu; exact (r_sliceTo (k := jP) rfl rfl (by omega))); exact trivial)
        refine d_one (i := 11) rfl (by kernel_rfl) ?_
        refine s_appendK hoQ rfl hs76.src rfl rfl (by simp [Value.oneCell']) (by unfold maxLen; omega) (by omega) (fun q2 zz hq2 hfx hkx hsq => ?_)
        have hq2g : ∀ b ∈ blks q2, y0.heap.size ≤ b := fun b hb => by
          rcases hkx b hb with h | h
          · exact hQg b h
          · have h0 := hg0.size; omega
        (first | (replace hs80 := hs80.tr hfx (fun b hb hm => by simp [blks, Value.ownBlock] at hb; have := hQl b hm; omega)) | skip)
        replace hoP := hoP.tr hfx (fun b hb hm => by have := hQg b hm; have := hPl0 b hb; omega)
        replace hFx := hFx.trans hfx (fun b hb => .inr (hQg b hb))
        replace hszx := Nat.le_trans hszx hfx.size
        clear hoQ hs76
        refine wpList_nil (q_held trivial ?_)
    case' qc1 =>
      refine s_build1G (v := .int .i64 n) rfl rfl (fun N80 zz hN80 hs80 hfx => ?_)
      have hN80g := Nat.le_trans hszx hN80
      (first | (replace hoP := hoP.tr0 hfx) | skip)
      (first | (replace hoQ := hoQ.tr0 hfx) | skip)
      (first | (replace hs76 := hs76.tr0 hfx) | skip)
      (first | (replace hs80 := hs80.tr0 hfx) | skip)
      (first | (replace hq2 := hq2.tr0 hfx) | skip)
      (first | (replace hsq := hsq.tr0 hfx) | skip)
      replace hFx := hFx.trans0 hfx
      replace hszx := Nat.le_trans hszx hfx.size
      refine wpList_nil (q_held trivial ?_)
      refine d_two (i := 6) (j := 10) rfl rfl (by kernel_rfl) ?qa6 ?qb6
      case' qa6 =>
        refine s_call (around a _ _ ha.1 ha.2 (by omega)) rfl ?_
        rintro _ _ ⟨rfl, rfl⟩
        refine ⟨_, rfl, ?_⟩
        refine wpList_nil (q_held trivial ?_)
        rw [hjP]
        (apply d_take (i := 7); exact rfl; kernel_rfl; kernel_rfl; kernel_rfl; (intro u hu; exact (r_sliceTo (k := jP) rfl rfl (by omega))); exact trivial)
        refine d_one (i := 10) rfl (by kernel_rfl) ?_
        refine s_build1G (v := .int .i64 0) rfl rfl (fun N76 zz hN76 hs76 hfx => ?_)
        (first | (replace hoP := hoP.tr0 hfx) | skip)
        (first | (replace hoQ := hoQ.tr0 hfx) | skip)
        (first | (replace hs76 := hs76.tr0 hfx) | skip)
        (first | (replace hs80 := hs80.tr0 hfx) | skip)
        (first | (replace hq2 := hq2.tr0 hfx) | skip)
        (first | (replace hsq := hsq.tr0 hfx) | skip)
        replace hFx := hFx.trans0 hfx
        replace hszx := Nat.le_trans hszx hfx.size
        refine wpList_nil (q_held trivial ?_)
        refine d_one (i := 11) rfl (by kernel_rfl) ?_
        refine s_appendK hoQ rfl hs76.src rfl rfl (by simp [Value.oneCell']) (by unfold maxLen; omega) (by omega) (fun q2 zz hq2 hfx hkx hsq => ?_)
        have hq2g : ∀ b ∈ blks q2, y0.heap.size ≤ b := fun b hb => by
          rcases hkx b hb with h | h
          · exact hQg b h
          · have h0 := hg0.size; omega
        (first | (replace hs80 := hs80.tr hfx (fun b hb hm => by simp [blks, Value.ownBlock] at hb; have := hQl b hm; omega)) | skip)
        replace hoP := hoP.tr hfx (fun b hb hm => by have := hQg b hm; have := hPl0 b hb; omega)
        replace hFx := hFx.trans hfx (fun b hb => .inr (hQg b hb))
        replace hszx := Nat.le_trans hszx hfx.size
        clear hoQ hs76
        refine wpList_nil (q_held trivial ?_)
      case' qb6 =>
        refine s_build1G (v := .int .i64 0) rfl rfl (fun N76 zz hN76 hs76 hfx => ?_)
        (first | (replace hoP := hoP.tr0 hfx) | skip)
        (first | (replace hoQ := hoQ.tr0 hfx) | skip)
        (first | (replace hs76 := hs76.tr0 hfx) | skip)
        (first | (replace hs80 := hs80.tr0 hfx) | skip)
        (first | (replace hq2 := hq2.tr0 hfx) | skip)
        (first | (replace hsq := hsq.tr0 hfx) | skip)
        replace hFx := hFx.trans0 hfx
        replace hszx := Nat.le_trans hszx hfx.size
        refine wpList_nil (q_held trivial ?_)
        refine d_one (i := 6) rfl (by kernel_rfl) ?_
        refine s_call (around a _ _ ha.1 ha.2 (by omega)) rfl ?_
        rintro _ _ ⟨rfl, rfl⟩
        refine ⟨_, rfl, ?_⟩
        refine wpList_nil (q_held trivial ?_)
        rw [hjP]
        (apply d_take (i := 7); exact rfl; kernel_rfl; kernel_rfl; kernel_rfl; (intro u hu; exact (r_sliceTo (k := jP) rfl rfl (by omega))); exact trivial)
        refine d_one (i := 11) rfl (by kernel_rfl) ?_
        refine s_appendK hoQ rfl hs76.src rfl rfl (by simp [Value.oneCell']) (by unfold maxLen; omega) (by omega) (fun q2 zz hq2 hfx hkx hsq => ?_)
        have hq2g : ∀ b ∈ blks q2, y0.heap.size ≤ b := fun b hb => by
          rcases hkx b hb with h | h
          · exact hQg b h
          · have h0 := hg0.size; omega
        (first | (replace hs80 := hs80.tr hfx (fun b hb hm => by simp [blks, Value.ownBlock] at hb; have := hQl b hm; omega)) | skip)
        replace hoP := hoP.tr hfx (fun b hb hm => by have := hQg b hm; have := hPl0 b hb; omega)
        replace hFx := hFx.trans hfx (fun b hb => .inr (hQg b hb))
        replace hszx := Nat.le_trans hszx hfx.size
        clear hoQ hs76
        refine wpList_nil (q_held trivial ?_)
    all_goals
      refine d_one (i := 15) rfl (by kernel_rfl) ?_
      refine s_appendK hoP rfl hs80.src rfl rfl (by simp [Value.oneCell']) (by unfold maxLen; omega) (by omega) (fun p2 w5 hp2 hf5' hk5' hsp => ?_)
      have hPg : ∀ b ∈ blks (.slice ap P.length cp), z.heap.size ≤ b := fun b hb => by
        have := hnp b hb; have := hD1.size; omega
      replace hq2 := hq2.tr hf5' (fun b hb hm => by have := hq2g b hb; have := hPl0 b hm; omega)
      replace hsq := hsq.tr hf5' (fun ad n c e _ hm => by
        injection e with e1 _ _
        have h1 := hQg ad.block (by rw [e1]; simp [blks, Value.ownBlock])
        have h2 := hPl0 _ hm
        omega)
      have hF5x : Fr [] z w5 := (hD2.trans0 hFx).trans hf5' (fun b hb => .inr (hPg b hb))
      refine wpList_nil (q_held trivial ?_)
      refine d_one (i := 16) rfl (by kernel_rfl) ?_
      have hone2 := hq2.one
      have hone3 := hp2.one
      obtain ⟨aq2, cq2, rfl⟩ := hq2.slice
      obtain ⟨ap2, cp2, rfl⟩ := hp2.slice
      refine s_buildS [.slice ap P.length cp, .slice ap jP cp, .slice aQ P.length c2, .slice aq2 (P.length + 1) cq2, .slice ap2 (P.length + 1) cp2] rfl rfl rfl rfl (fun w6 ho6 hf6' hs6' => ?_)
      refine wpList_nil (q_held trivial ?_)
      (refine d_one (i := 17) rfl (by kernel_rfl) ?_; refine rx ?_; refine q_held trivial ?_)
      (refine d_done (by kernel_rfl) ?_)
      have hF6x := hF5x.trans0 hf6'
      have hrwl : Rws (IsR w6) [P, P.take jP, Q, Q ++ [0], P ++ [n]] [.slice ap P.length cp, .slice ap jP cp, .slice aQ P.length c2, .slice aq2 (P.length + 1) cq2, .slice ap2 (P.length + 1) cp2] := by
        have r1 : IsR w6 P [.slice ap P.length cp] := ⟨_, rfl, Ls.ofSrc (hsp.tr0 hf6')⟩
        have r2 : IsR w6 (P.take jP) [.slice ap jP cp] := ⟨_, rfl, Ls.ofSrc (by
          have := Src.pre (hsp.tr0 hf6') hjPl (by simp)
          rw [List.length_take, Nat.min_eq_left hjPl, List.map_take]; exact this)⟩
        have r3 : IsR w6 Q [.slice aQ P.length c2] := ⟨_, rfl, Ls.ofSrc (by rw [hQl2]; exact hsq.tr0 hf6')⟩
        have r4 : IsR w6 (Q ++ [0]) [.slice aq2 (P.length + 1) cq2] := ⟨_, rfl, Ls.ofSrc (by
          rw [List.length_append, List.map_append, hQl2]; exact (hq2.tr0 hf6').src)⟩
        have r5 : IsR w6 (P ++ [n]) [.slice ap2 (P.length + 1) cp2] := ⟨_, rfl, Ls.ofSrc (by
          rw [List.length_append, List.map_append]; exact (hp2.tr0 hf6').src)⟩
        exact .cons r1 (.cons r2 (.cons r3 (.cons r4 (Rws.one r5))))
      have halll : Sl w6 [] (IsR w6) [P, P.take jP, Q, Q ++ [0], P ++ [n]] (.slice (some ⟨w5.heap.size, 0, none⟩) 5 5) := ⟨_, ho6.src, fun _ _ _ _ _ => by simp, hrwl⟩
      have hlens : ∀ q ∈ [P, P.take jP, Q, Q ++ [0], P ++ [n]], q.length ≤ 1000000000 := by
        intro q hq
        simp only [List.mem_cons, List.not_mem_nil, or_false] at hq
        rcases hq with rfl | rfl | rfl | rfl | rfl
        · omega
        · rw [List.length_take]; omega
        · omega
        · rw [List.length_append]; simp only [List.length_cons, List.length_nil]; omega
        · rw [List.length_append]; simp only [List.length_cons, List.length_nil]; omega
      exact q_cut ⟨rfl, rfl, rfl, rfl, rfl, _, _, rfl, halll, rfl, hlens, hF6x⟩
  · rintro g6 w6 ⟨k1, k2, k4, k12, k13, Ls5, N5, k17, halll, hL5, hlens, hF6x⟩
    rw [eq_upd k1, eq_upd k2, eq_upd k4, eq_upd k12, eq_upd k13, eq_upd k17]
    have hnt6 := hnt.tr0 hF6x
    have hct6 := hct.tr0 hF6x
    refine rx ?_
    refine c_loop (σ := Nat) (fun k g w => RdG (.slice ay ms.length cy) (.int .i64 a) (.int .i64 n) (.slice (some ⟨N4, 0, none⟩) 2 2) i N5 k g ∧ k ≤ 5 ∧ Fr [] w6 w) (fun k => 5 - k) 0 ⟨⟨rfl, rfl, rfl, rfl, rfl, rfl, rfl⟩, Nat.zero_le _, Fr.refl _ _⟩ ?_
    rintro k g w ⟨hG, hk, hfw⟩
    rw [hG.env]
    by_cases hk5 : k < 5
    case neg =>
      refine rx ?_
      exact q_round (i + 1) ⟨rfl, rfl, rfl, rfl, rfl, by omega, (hfz.trans0 hF6x).trans0 hfw⟩ (by omega)
    have hkL : k < Ls5.length := by omega
    obtain ⟨adi, csi, e9, ⟨si, rfl, hii⟩, hci⟩ := Sl.at halll isrLen hkL
    have hql := hlens _ (List.getElem_mem hkL)
    generalize Ls5[k] = pq at hii hql
    cases e9
    replace hii := hii.tr0 hfw
    replace hci := hci.tr0 hfw
    have hiiw := hii
    have hciw := hci
    have hntw := hnt6.tr0 hfw
    have hctw := hct6.tr0 hfw
    refine rx ?_
    refine c_cut (fun g z => RdG (.slice ay ms.length cy) (.int .i64 a) (.int .i64 n) (.slice (some ⟨N4, 0, none⟩) 2 2) i N5 k g ∧ ∃ (b1 : Nat) (s1 : Value), g 19 = .pointer (some ⟨b1, 0, none⟩) ∧ g 20 = .int .i64 (valT tq pq).2 ∧ Blk z b1 (vc (valT tq pq).1 s1) 37 ∧ VS z [] (valT tq pq).1.kids s1 ∧ Fr [] w z) ?_ ?_
    · (refine d_begin (fun y => Fr [] w y) (by kernel_rfl) rfl ?_)
      have hA : Fr [] w w.drew := Fr.drew _ _
      ((first | refine d_tx 0 hA ?_ | refine d_ty 0 hA ?_ | refine d_tn 0 hA ?_); (first | refine d_tx 1 hA ?_ | refine d_ty 1 hA ?_ | refine d_tn 1 hA ?_))
      (apply d_take (i := 2); exact rfl; kernel_rfl; kernel_rfl; kernel_rfl; (intro u hu; exact (r_indexAddr (j := i) rfl rfl rfl hi2 rfl)); exact hA)
      (apply d_take (i := 3); exact rfl; kernel_rfl; kernel_rfl; kernel_rfl; (intro u hu; exact (r_loadC rfl (hctw.tr0 hu) (by rfl))); exact hA)
      ((first | refine d_tx 4 hA ?_ | refine d_ty 4 hA ?_ | refine d_tn 4 hA ?_); (first | refine d_tx 5 hA ?_ | refine d_ty 5 hA ?_ | refine d_tn 5 hA ?_))
      (apply d_take (i := 6); exact rfl; kernel_rfl; kernel_rfl; kernel_rfl; (intro u hu; exact (r_indexAddr (j := k) rfl rfl rfl hk5 rfl)); exact hA)
      (apply d_take (i := 7); exact rfl; kernel_rfl; kernel_rfl; kernel_rfl; (intro u hu; exact (r_load rfl (Cells.get0 (hciw.tr0 hu) rfl))); exact hA)
      refine d_two (i := 8) (j := 12) rfl rfl (by kernel_rfl) ?_ ?_
      · refine s_call (valueP tq htgi.ok htgi.len pq hql [] _ _ w.drew (hntw.tr0 hA) (hiiw.tr0 hA) (hlt0 _)) rfl ?_
        rintro _ wa ⟨s1, rfl, hfa, hvs⟩
        have hv1 := hvs [] (by simp)
        refine ⟨_, rfl, ?_⟩
        have hA1 := hA.trans0 hfa
        refine wpList_nil (q_held hA1 ?_)
        ((first | refine d_tx 9 hA1 ?_ | refine d_ty 9 hA1 ?_ | refine d_tn 9 hA1 ?_); (first | refine d_tx 10 hA1 ?_ | refine d_ty 10 hA1 ?_ | refine d_tn 10 hA1 ?_); (first | refine d_tx 11 hA1 ?_ | refine d_ty 11 hA1 ?_ | refine d_tn 11 hA1 ?_))
        refine d_one (i := 12) rfl (by kernel_rfl) ?_
        refine s_allocG rfl (fun b1 wb hbge hb1 hfb => ?_)
        have hA2 := hA1.trans0 hfb
        refine wpList_nil (q_held hA2 ?_)
        refine d_one (i := 13) rfl (by kernel_rfl) ?_
        refine s_storeAggB (cs := vc (valT tq pq).1 s1) rfl rfl hb1 (VR.mem1 (w := wa) (S := []) (valT tq pq).1 _ ⟨_, rfl, hv1⟩) rfl rfl (fun wc hb2 hfc hsc => ?_)
        have hA3 : Fr [] w wc := hA2.trans hfc (by simp; have := hA1.size; omega)
        refine wpList_nil (q_held hA3 ?_)
        (refine d_one (i := 14) rfl (by kernel_rfl) ?_; refine rx ?_; refine q_held hA3 ?_)
        (refine d_done (by kernel_rfl) ?_)
        exact q_cut ⟨⟨rfl, rfl, rfl, rfl, rfl, rfl, rfl⟩, b1, s1, rfl, rfl, hb2, ((((hv1.mono (T := [b1]) (fun q hq => .inr (by simp at hq; omega))).tr0 hfb).tr hfc).mono (by simp)), hA3⟩
      · refine s_allocG rfl (fun b1 wb hbge hb1 hfb => ?_)
        have hA1 := hA.trans0 hfb
        refine wpList_nil (q_held hA1 ?_)
        refine d_one (i := 8) rfl (by kernel_rfl) ?_
        refine s_call (valueP tq htgi.ok htgi.len pq hql [] _ _ wb ((hntw.tr0 hA).tr0 hfb) ((hiiw.tr0 hA).tr0 hfb) (hlt0 _)) rfl ?_
        rintro _ wa ⟨s1, rfl, hfa, hvs⟩
        have hv1 := hvs [b1] (by simp; exact hb1.lt)
        refine ⟨_, rfl, ?_⟩
        have hA2 := hA1.trans0 hfa
        refine wpList_nil (q_held hA2 ?_)
        ((first | refine d_tx 9 hA2 ?_ | refine d_ty 9 hA2 ?_ | refine d_tn 9 hA2 ?_); (first | refine d_tx 10 hA2 ?_ | refine d_ty 10 hA2 ?_ | refine d_tn 10 hA2 ?_); (first | refine d_tx 11 hA2 ?_ | refine d_ty 11 hA2 ?_ | refine d_tn 11 hA2 ?_))
        refine d_one (i := 13) rfl (by kernel_rfl) ?_
        refine s_storeAggB (cs := vc (valT tq pq).1 s1) rfl rfl (hb1.tr0 hfa) (VR.mem1 (w := wa) (valT tq pq).1 _ ⟨_, rfl, hv1⟩) rfl rfl (fun wc hb2 hfc hsc => ?_)
        have hbge' : w.heap.size ≤ b1 := hbge
        have hA3 : Fr [] w wc := hA2.trans hfc (by simp; omega)
        refine wpList_nil (q_held hA3 ?_)
        (refine d_one (i := 14) rfl (by kernel_rfl) ?_; refine rx ?_; refine q_held hA3 ?_)
        (refine d_done (by kernel_rfl) ?_)
        exact q_cut ⟨⟨rfl, rfl, rfl, rfl, rfl, rfl, rfl⟩, b1, s1, rfl, rfl, hb2, ((hv1.tr hfc).mono (by simp)), hA3⟩
    rintro g1 wb1 ⟨hG1, b1, s1, ga1, gb1, hbb1, hvv1, hR1⟩
    rw [hG1.env, eq_upd ga1, eq_upd gb1]
    have hnt1 := hntw.tr0 hR1
    have hct1 := hctw.tr0 hR1
    have hii1 := hiiw.tr0 hR1
    have hci1 := hciw.tr0 hR1
    refine rx ?_
    refine c_cut (fun g z => RdG (.slice ay ms.length cy) (.int .i64 a) (.int .i64 n) (.slice (some ⟨N4, 0, none⟩) 2 2) i N5 k g ∧ g 19 = .pointer (some ⟨b1, 0, none⟩) ∧ g 20 = .int .i64 (valT tq pq).2 ∧ ∃ (bx : Nat) (sx : Value), g 21 = .pointer (some ⟨bx, 0, none⟩) ∧ g 22 = .int .i64 (valT tq pq).2 ∧ Blk z bx (vc (valT tq pq).1 sx) 37 ∧ VS z [] (valT tq pq).1.kids sx ∧ Fr [] wb1 z) ?_ ?_
    · (refine d_begin (fun y => Fr [] wb1 y) (by kernel_rfl) rfl ?_)
      have hA : Fr [] wb1 wb1.drew := Fr.drew _ _
      ((first | refine d_tx 0 hA ?_ | refine d_ty 0 hA ?_ | refine d_tn 0 hA ?_); (first | refine d_tx 1 hA ?_ | refine d_ty 1 hA ?_ | refine d_tn 1 hA ?_))
      (apply d_take (i := 2); exact rfl; kernel_rfl; kernel_rfl; kernel_rfl; (intro u hu; exact (r_indexAddr (j := i) rfl rfl rfl hi2 rfl)); exact hA)
      (apply d_take (i := 3); exact rfl; kernel_rfl; kernel_rfl; kernel_rfl; (intro u hu; exact (r_loadC rfl (hct1.tr0 hu) (by rfl))); exact hA)
      ((first | refine d_tx 4 hA ?_ | refine d_ty 4 hA ?_ | refine d_tn 4 hA ?_); (first | refine d_tx 5 hA ?_ | refine d_ty 5 hA ?_ | refine d_tn 5 hA ?_))
      (apply d_take (i := 6); exact rfl; kernel_rfl; kernel_rfl; kernel_rfl; (intro u hu; exact (r_indexAddr (j := k) rfl rfl rfl hk5 rfl)); exact hA)
      (apply d_take (i := 7); exact rfl; kernel_rfl; kernel_rfl; kernel_rfl; (intro u hu; exact (r_load rfl (Cells.get0 (hci1.tr0 hu) rfl))); exact hA)
      refine d_two (i := 8) (j := 12) rfl rfl (by kernel_rfl) ?_ ?_
      · refine s_call (valueR tq htgi pq hql [] _ _ wb1.drew (hnt1.tr0 hA) (hii1.tr0 hA) (hlt0 _)) rfl ?_
        rintro _ wa ⟨sn1, rfl, hfa, hvn⟩
        refine ⟨_, rfl, ?_⟩
        have hA1 := hA.trans0 hfa
        refine wpList_nil (q_held hA1 ?_)
        ((first | refine d_tx 9 hA1 ?_ | refine d_ty 9 hA1 ?_ | refine d_tn 9 hA1 ?_); (first | refine d_tx 10 hA1 ?_ | refine d_ty 10 hA1 ?_ | refine d_tn 10 hA1 ?_); (first | refine d_tx 11 hA1 ?_ | refine d_ty 11 hA1 ?_ | refine d_tn 11 hA1 ?_))
        refine d_one (i := 12) rfl (by kernel_rfl) ?_
        refine s_allocG rfl (fun bn wb hbge hbn hfb => ?_)
        have hA2 := hA1.trans0 hfb
        refine wpList_nil (q_held hA2 ?_)
        refine d_one (i := 13) rfl (by kernel_rfl) ?_
        refine s_storeAggB (cs := vc (valT tq pq).1 sn1) rfl rfl hbn (VR.mem1 (w := wa) (S := []) (valT tq pq).1 _ ⟨_, rfl, hvn⟩) rfl rfl (fun wc hb2 hfc hsc => ?_)
        have hA3 : Fr [] wb1 wc := hA2.trans hfc (by simp; have := hA1.size; omega)
        refine wpList_nil (q_held hA3 ?_)
        (refine d_one (i := 14) rfl (by kernel_rfl) ?_; refine rx ?_; refine q_held hA3 ?_)
        (refine d_done (by kernel_rfl) ?_)
        exact q_cut ⟨⟨rfl, rfl, rfl, rfl, rfl, rfl, rfl⟩, rfl, rfl, bn, sn1, rfl, rfl, hb2, ((((hvn.mono (T := [bn]) (fun q hq => .inr (by simp at hq; omega))).tr0 hfb).tr hfc).mono (by simp)), hA3⟩
      · refine s_allocG rfl (fun bn wb hbge hbn hfb => ?_)
        have hA1 := hA.trans0 hfb
        refine wpList_nil (q_held hA1 ?_)
        refine d_one (i := 8) rfl (by kernel_rfl) ?_
        refine s_call (valueR tq htgi pq hql [bn] _ _ wb (((hnt1.tr0 hA).mono (fun b hb => .inr (by simp at hb; subst hb; exact hbge))).tr0 hfb) (((hii1.tr0 hA).mono (fun b hb => .inr (by simp at hb; subst hb; exact hbge))).tr0 hfb) (fun q hq => by simp at hq; subst hq; exact hbn.lt)) rfl ?_
        rintro _ wa ⟨sn1, rfl, hfa, hvn⟩
        refine ⟨_, rfl, ?_⟩
        have hA2 := hA1.trans0 hfa
        refine wpList_nil (q_held hA2 ?_)
        ((first | refine d_tx 9 hA2 ?_ | refine d_ty 9 hA2 ?_ | refine d_tn 9 hA2 ?_); (first | refine d_tx 10 hA2 ?_ | refine d_ty 10 hA2 ?_ | refine d_tn 10 hA2 ?_); (first | refine d_tx 11 hA2 ?_ | refine d_ty 11 hA2 ?_ | refine d_tn 11 hA2 ?_))
        refine d_one (i := 13) rfl (by kernel_rfl) ?_
        refine s_storeAggB (cs := vc (valT tq pq).1 sn1) rfl rfl (hbn.tr0 hfa) (VR.mem1 (w := wa) (valT tq pq).1 _ ⟨_, rfl, hvn⟩) rfl rfl (fun wc hb2 hfc hsc => ?_)
        have hbge' : wb1.heap.size ≤ bn := hbge
        have hA3 : Fr [] wb1 wc := hA2.trans hfc (by simp; omega)
        refine wpList_nil (q_held hA3 ?_)
        (refine d_one (i := 14) rfl (by kernel_rfl) ?_; refine rx ?_; refine q_held hA3 ?_)
        (refine d_done (by kernel_rfl) ?_)
        exact q_cut ⟨⟨rfl, rfl, rfl, rfl, rfl, rfl, rfl⟩, rfl, rfl, bn, sn1, rfl, rfl, hb2, ((hvn.tr hfc).mono (by simp)), hA3⟩
    rintro g2 wb2 ⟨hG2, ga1, gb1, b2, s2, ga2, gb2, hbb2, hvv2, hR2⟩
    rw [hG2.env, eq_upd ga1, eq_upd gb1, eq_upd ga2, eq_upd gb2]
    have hnt2 := hnt1.tr0 hR2
    have hct2 := hct1.tr0 hR2
    have hii2 := hii1.tr0 hR2
    have hci2 := hci1.tr0 hR2
    refine rx ?_
    (refine d_begin (fun y => Fr [] wb2 y) (by kernel_rfl) rfl ?_)
    have hA3 : Fr [] wb2 wb2.drew := Fr.drew _ _
    ((first | refine d_tx 0 hA3 ?_ | refine d_ty 0 hA3 ?_ | refine d_tn 0 hA3 ?_); (first | refine d_tx 1 hA3 ?_ | refine d_ty 1 hA3 ?_ | refine d_tn 1 hA3 ?_))
    (apply d_take (i := 2); exact rfl; kernel_rfl; kernel_rfl; kernel_rfl; (intro u hu; exact (r_indexAddr (j := i) rfl rfl rfl hi2 rfl)); exact hA3)
    (apply d_take (i := 3); exact rfl; kernel_rfl; kernel_rfl; kernel_rfl; (intro u hu; exact (r_loadC rfl (hct2.tr0 hu) (by rfl))); exact hA3)
    ((first | refine d_tx 4 hA3 ?_ | refine d_ty 4 hA3 ?_ | refine d_tn 4 hA3 ?_); (first | refine d_tx 5 hA3 ?_ | refine d_ty 5 hA3 ?_ | refine d_tn 5 hA3 ?_))
    (apply d_take (i := 6); exact rfl; kernel_rfl; kernel_rfl; kernel_rfl; (intro u hu; exact (r_indexAddr (j := k) rfl rfl rfl hk5 rfl)); exact hA3)
    (apply d_take (i := 7); exact rfl; kernel_rfl; kernel_rfl; kernel_rfl; (intro u hu; exact (r_load rfl (Cells.get0 (hci2.tr0 hu) rfl))); exact hA3)
    refine d_one (i := 8) rfl (by kernel_rfl) ?_
    refine s_call (atP tq htgi.ok htgi.len pq hql [] _ _ wb2.drew (hnt2.tr0 hA3) (hii2.tr0 hA3) (hlt0 _)) rfl ?_
    rintro _ wb3 ⟨rfl, hw3⟩
    refine ⟨_, rfl, ?_⟩
    have hR3 := hA3.trans0 hw3
    refine wpList_nil (q_held hR3 ?_)
    ((first | refine d_tx 9 hR3 ?_ | refine d_ty 9 hR3 ?_ | refine d_tn 9 hR3 ?_); (first | refine d_tx 10 hR3 ?_ | refine d_ty 10 hR3 ?_ | refine d_tn 10 hR3 ?_); (first | refine d_tx 11 hR3 ?_ | refine d_ty 11 hR3 ?_ | refine d_tn 11 hR3 ?_))
    (refine d_one (i := 12) rfl (by kernel_rfl) ?_; refine rx ?_; refine q_held hR3 ?_)
    (refine d_one (i := 13) rfl (by kernel_rfl) ?_; refine rx ?_; refine q_held hR3 ?_)
    (refine d_done (by kernel_rfl) ?_)
    have hnt3 := hnt2.tr0 hR3
    have hct3 := hct2.tr0 hR3
    have hii3 := hii2.tr0 hR3
    have hci3 := hci2.tr0 hR3
    refine rx ?_
    (refine d_begin (fun y => Fr [] wb3 y) (by kernel_rfl) rfl ?_)
    have hA4 : Fr [] wb3 wb3.drew := Fr.drew _ _
    ((first | refine d_tx 0 hA4 ?_ | refine d_ty 0 hA4 ?_ | refine d_tn 0 hA4 ?_); (first | refine d_tx 1 hA4 ?_ | refine d_ty 1 hA4 ?_ | refine d_tn 1 hA4 ?_))
    (apply d_take (i := 2); exact rfl; kernel_rfl; kernel_rfl; kernel_rfl; (intro u hu; exact (r_indexAddr (j := i) rfl rfl rfl hi2 rfl)); exact hA4)
    (apply d_take (i := 3); exact rfl; kernel_rfl; kernel_rfl; kernel_rfl; (intro u hu; exact (r_loadC rfl (hct3.tr0 hu) (by rfl))); exact hA4)
    ((first | refine d_tx 4 hA4 ?_ | refine d_ty 4 hA4 ?_ | refine d_tn 4 hA4 ?_); (first | refine d_tx 5 hA4 ?_ | refine d_ty 5 hA4 ?_ | refine d_tn 5 hA4 ?_))
    (apply d_take (i := 6); exact rfl; kernel_rfl; kernel_rfl; kernel_rfl; (intro u hu; exact (r_indexAddr (j := k) rfl rfl rfl hk5 rfl)); exact hA4)
    (apply d_take (i := 7); exact rfl; kernel_rfl; kernel_rfl; kernel_rfl; (intro u hu; exact (r_load rfl (Cells.get0 (hci3.tr0 hu) rfl))); exact hA4)
    refine d_one (i := 8) rfl (by kernel_rfl) ?_
    refine s_call (atR tq htgi pq hql [] _ _ wb3.drew (hnt3.tr0 hA4) (hii3.tr0 hA4) (hlt0 _)) rfl ?_
    rintro _ wb4 ⟨rfl, hw4⟩
    refine ⟨_, rfl, ?_⟩
    have hR4 := hA4.trans0 hw4
    refine wpList_nil (q_held hR4 ?_)
    ((first | refine d_tx 9 hR4 ?_ | refine d_ty 9 hR4 ?_ | refine d_tn 9 hR4 ?_); (first | refine d_tx 10 hR4 ?_ | refine d_ty 10 hR4 ?_ | refine d_tn 10 hR4 ?_); (first | refine d_tx 11 hR4 ?_ | refine d_ty 11 hR4 ?_ | refine d_tn 11 hR4 ?_))
    (refine d_one (i := 12) rfl (by kernel_rfl) ?_; refine rx ?_; refine q_held hR4 ?_)
    (refine d_one (i := 13) rfl (by kernel_rfl) ?_; refine rx ?_; refine q_held hR4 ?_)
    (refine d_done (by kernel_rfl) ?_)
    have hnt4 := hnt3.tr0 hR4
    have hct4 := hct3.tr0 hR4
    have hii4 := hii3.tr0 hR4
    have hci4 := hci3.tr0 hR4
    refine rx ?_
    (refine d_begin (fun y => Fr [] wb4 y) (by kernel_rfl) rfl ?_)
    have hA5 : Fr [] wb4 wb4.drew := Fr.drew _ _
    ((first | refine d_tx 0 hA5 ?_ | refine d_ty 0 hA5 ?_ | refine d_tn 0 hA5 ?_); (first | refine d_tx 1 hA5 ?_ | refine d_ty 1 hA5 ?_ | refine d_tn 1 hA5 ?_))
    (apply d_take (i := 2); exact rfl; kernel_rfl; kernel_rfl; kernel_rfl; (intro u hu; exact (r_indexAddr (j := i) rfl rfl rfl hi2 rfl)); exact hA5)
    (apply d_take (i := 3); exact rfl; kernel_rfl; kernel_rfl; kernel_rfl; (intro u hu; exact (r_loadC rfl (hct4.tr0 hu) (by rfl))); exact hA5)
    ((first | refine d_tx 4 hA5 ?_ | refine d_ty 4 hA5 ?_ | refine d_tn 4 hA5 ?_); (first | refine d_tx 5 hA5 ?_ | refine d_ty 5 hA5 ?_ | refine d_tn 5 hA5 ?_))
    (apply d_take (i := 6); exact rfl; kernel_rfl; kernel_rfl; kernel_rfl; (intro u hu; exact (r_indexAddr (j := k) rfl rfl rfl hk5 rfl)); exact hA5)
    (apply d_take (i := 7); exact rfl; kernel_rfl; kernel_rfl; kernel_rfl; (intro u hu; exact (r_load rfl (Cells.get0 (hci4.tr0 hu) rfl))); exact hA5)
    refine d_one (i := 8) rfl (by kernel_rfl) ?_
    refine s_call (optionsT tq htgi.ok htgi.len pq hql [] _ _ wb4.drew (hnt4.tr0 hA5) (hii4.tr0 hA5) (hlt0 _)) rfl ?_
    rintro _ wb5 ⟨rfl, hw5⟩
    refine ⟨_, rfl, ?_⟩
    have hR5 := hA5.trans0 hw5
    refine wpList_nil (q_held hR5 ?_)
    ((first | refine d_tx 9 hR5 ?_ | refine d_ty 9 hR5 ?_ | refine d_tn 9 hR5 ?_); (first | refine d_tx 10 hR5 ?_ | refine d_ty 10 hR5 ?_ | refine d_tn 10 hR5 ?_); (first | refine d_tx 11 hR5 ?_ | refine d_ty 11 hR5 ?_ | refine d_tn 11 hR5 ?_))
    (refine d_one (i := 12) rfl (by kernel_rfl) ?_; refine rx ?_; refine q_held hR5 ?_)
    (refine d_one (i := 13) rfl (by kernel_rfl) ?_; refine rx ?_; refine q_held hR5 ?_)
    (refine d_done (by kernel_rfl) ?_)
    have hnt5 := hnt4.tr0 hR5
    have hct5 := hct4.tr0 hR5
    have hii5 := hii4.tr0 hR5
    have hci5 := hci4.tr0 hR5
    have hR25 := (hR3.trans0 hR4).trans0 hR5
    have hb15 := (hbb1.tr0 hR2).tr0 hR25
    have hb25 := hbb2.tr0 hR25
    have hv15 := (hvv1.tr0 hR2).tr0 hR25
    have hv25 := hvv2.tr0 hR25
    have hRw := (hR1.trans0 hR2).trans0 hR25
    by_cases hat : (atT tq pq).1 < 0
    case' pos =>
      rw [optT_two hat]
      simp only
      generalize (atT tq pq).1 = at1 at hat ⊢
      generalize (atT tq pq).2 = at2
      obtain ⟨wz, hwz⟩ : ∃ x, x = wb5 := ⟨_, rfl⟩
      have hRz : Fr [] wb5 wz := by rw [hwz]; exact Fr.refl _ _
      refine rx ?_
      rw [← hwz]
    case' neg =>
      obtain ⟨qi, hqi, hatq, hoptq, hzq⟩ := optT_at hat
      rw [hoptq, hatq]
      simp only
      obtain ⟨adn, csn, en, hrown, hcelln⟩ := Sl.at hnt5 ndLen hqi
      subst en
      obtain ⟨sw, sl, svv, sk, skx, rfl, hsw, hsl, hsv, hsk, hsx⟩ := hrown
      have hvt := VT.of hzq
      have hrg := hvt.rng hqi
      refine rx ?_
      refine s_call (optsR tq[qi] (htgi.ok _ (by simp)) (fun _ => by omega) sw sl svv sk skx wb5 hsk) rfl ?_
      rintro _ wz ⟨rfl, hRz⟩
      refine ⟨_, rfl, ?_⟩
      generalize ((optN tq[qi] : Nat) : Int) = onq
      refine rx ?_
    all_goals
      have hb1z := hb15.tr0 hRz
      have hb2z := hb25.tr0 hRz
      refine rx ?_
      refine s_call (compareR (valT tq pq).1 (valT tq pq).1 _ _ wz (hv15.tr0 hRz) (hv25.tr0 hRz)) rfl ?_
      rintro _ wy ⟨rfl, hRy⟩
      refine ⟨_, rfl, ?_⟩
      rw [cmpV_refl]
      refine rx ?_
      exact q_round (k + 1) ⟨⟨rfl, rfl, rfl, rfl, rfl, rfl, rfl⟩, by omega, ((hfw.trans0 hRw).trans0 hRz).trans0 hRy⟩ (by omega)
end Go.Proofs.Ytpochcchekoonaa
