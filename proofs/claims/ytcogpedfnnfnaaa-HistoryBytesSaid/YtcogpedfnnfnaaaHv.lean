/-
  Valid and Ops of package history.
-/
import Derived.Test.YtcogpedfnnfnaaaHs
namespace Go.Proofs.Ytcogpedfnnfnaaa
open Go.Rf Go.RowKit
set_option linter.unusedVariables false
set_option maxHeartbeats 4000000
attribute [local irreducible] Code.wp wpList Exit.then Exit.inBlock bodyPost A Calls execOp Addr.add

theorem validHC (l : List Ev) (sl : Value) (w : World) (hl : EvS w l sl) (hok : ∀ e ∈ l, EvOk e) (hb : l.length ≤ 1000000) :
    Calls Try.prog 17 #[sl] w fun r w' => r = .returned (.int .i64 (validH l)) ∧ Fr [] w w' := by
  refine enter Try.func17 rfl Try.ntmps17 rfl ?_
  refine rx ?_
  refine s_call (scanC l sl w hl hok hb) rfl ?_
  rintro _ w1 ⟨v, rfl, ho, hk, hf⟩
  refine ⟨_, rfl, ?_⟩
  refine rx ?_
  (apply ret1; exact rfl; (conv => lhs; whnf))
  exact ⟨rfl, hf⟩

theorem opsC (l : List Ev) (sl : Value) (w : World) (hl : EvS w l sl) (hok : ∀ e ∈ l, EvOk e) (hb : l.length ≤ 1000000) :
    Calls Try.prog 14 #[sl] w fun r w' => ∃ v', r = .returned (.tuple #[v', .int .i64 (validH l)]) ∧ OwnR w' 55 10 OpR (if validH l = 0 then opsFrom 0 l else []) v' ∧ (∀ k ∈ blks v', w.heap.size ≤ k) ∧ Fr [] w w' := by
  refine enter Try.func14 rfl Try.ntmps14 rfl ?_
  refine rx ?_
  refine s_call (scanC l sl w hl hok hb) rfl ?_
  rintro _ w1 ⟨v, rfl, ho, hk, hf⟩
  refine ⟨_, rfl, ?_⟩
  generalize hops : (if validH l = 0 then opsFrom 0 l else []) = ops at ho
  have hlen : ops.length ≤ 1000000 := by
    have := opsFrom_len l 0
    rw [← hops]; split
    · omega
    · simp
  obtain ⟨av, cv, hv⟩ := ho.slice
  subst hv
  obtain ⟨ys0, hY0, hR0⟩ := ho
  refine rx ?_
  refine c_loopK 7 [6] (σ := Nat × List Value) (fun st g u => g 13 = .int .i64 ops.length ∧ g 14 = .int .i64 st.1 ∧ st.1 ≤ ops.length ∧ Own u 55 10 (.slice av ops.length cv) ops.length st.2 ∧ Rws (OpR u (blks (.slice av ops.length cv))) ops st.2 ∧ Fr (blks (.slice av ops.length cv)) w1 u)
    (fun st => ops.length - st.1) (0, ys0) ⟨rfl, rfl, Nat.zero_le _, hY0, hR0, Fr.refl _ _⟩ ?_
  rintro ⟨i, ys⟩ g u ⟨h13, h14, hi, hY, hR, hfu⟩
  simp only at h14 hi hY hR
  rw [eq_upd h13, eq_upd h14]
  by_cases hlt : i < ops.length
  case neg =>
    refine rx ?_
    (apply ret2; exact rfl; (conv => lhs; whnf); (conv => lhs; whnf))
    exact ⟨_, rfl, ⟨ys, hY, hR⟩, hk, hf.trans hfu (fun b hb => .inr (hk b hb))⟩
  obtain ⟨ad, hav⟩ : ∃ ad, av = some ad := by
    cases av with
    | some x => exact ⟨x, rfl⟩
    | none =>
      obtain ⟨_, _, e, _, hn, _⟩ := hY.src
      simp only [Value.slice.injEq] at e
      have := (hn e.1.symm).1
      omega
  subst hav
  obtain ⟨cs, hRi, hcs⟩ := Rws.get opLen hR hlt
  obtain ⟨sa, sr, rfl, ha, hr⟩ := id hRi
  have hcell : Cells u (ad.add (i * 10)) (oc ops[i] sa sr) := by
    have := (Cells.ofSrc hY.src).sub (i * 10) 10
    rwa [hcs] at this
  have hltB := hY.lt
  refine rx ?_
  refine s_call (cloneValues ops[i].args sa u ha.any) rfl ?_
  rintro _ u1 ⟨sa', rfl, hsa, hf1⟩
  refine ⟨_, rfl, ?_⟩
  have hY1 := hY.tr0 hf1
  have hR1 := hR.imp (fun x cs _ h => opStab.old h hf1 (by simp))
  have hsa0 := hsa (blks (.slice (some ad) ops.length cv)) hltB
  obtain ⟨aa, ca, hsa', _⟩ := hsa0.slice
  subst hsa'
  refine rx ?_
  refine s_storeRow1 (q := i * 10 + 5) (u := .slice aa ops[i].args.length ca) hY1 rfl rfl (add_add _ _ _) rfl rfl (by omega) (fun u2 hY2 hf2 hs2 => ?_)
  have hp1 := patchR (off := 5) (us := [.slice aa ops[i].args.length ca]) (x := ops[i]) opStab hR1 hlt hcs rfl (by simp) ⟨_, sr, rfl, hsa0, hr.old hf1 (by simp)⟩
  rw [List.set_getElem_self] at hp1
  have hR2 := hp1.imp (fun x cs _ h => opStab.tr h hf2)
  obtain ⟨cs2, hRi2, hcs2⟩ := Rws.get opLen hR2 hlt
  obtain ⟨sa2, sr2, rfl, ha2, hr2⟩ := id hRi2
  have hcell2 : Cells u2 (ad.add (i * 10)) (oc ops[i] sa2 sr2) := by
    have := (Cells.ofSrc hY2.src).sub (i * 10) 10
    rwa [show (List.take 10 (List.drop (i * 10) (List.take (i * 10 + 5) ys ++ [Value.slice aa ops[i].args.length ca] ++ List.drop (i * 10 + 5 + 1) ys))) = oc ops[i] sa2 sr2 from hcs2] at this
  have hltB2 := hY2.lt
  refine rx ?_
  refine s_call (cloneValue ops[i].res sr2 u2 hr2.any) rfl ?_
  rintro _ u3 ⟨sr', rfl, hsr, hf3⟩
  refine ⟨_, rfl, ?_⟩
  have hY3 := hY2.tr0 hf3
  have hR3 := hR2.imp (fun x cs _ h => opStab.old h hf3 (by simp))
  have hsr0 := hsr (blks (.slice (some ad) ops.length cv)) hltB2
  refine rx ?_
  refine s_storeRowA (q := i * 10 + 6) (m := 4) (cs := vc ops[i].res sr') hY3 rfl rfl (add_add _ _ _) rfl rfl (VR.mem1 ops[i].res _ ⟨sr', rfl, hsr0⟩) (by omega) (fun u4 hY4 hf4 hs4 => ?_)
  have hp2 := patchR (off := 6) (us := vc ops[i].res sr') (x := ops[i]) opStab hR3 hlt hcs2 rfl (by simp [vc]) ⟨sa2, sr', rfl, ha2.old hf3 (by simp), hsr0⟩
  rw [List.set_getElem_self] at hp2
  have hR4 := hp2.imp (fun x cs _ h => opStab.tr h hf4)
  refine rx ?_
  refine q_roundK (i + 1, _) (by (repeat (first | exact Keep.mrg _ _ _ _ | (refine Keep.hi rfl ?_) | (refine Keep.one rfl ?_) | exact Keep.all rfl | (refine Keep.inn rfl ?_) | (refine Keep.set rfl ?_)))) ⟨rfl, rfl, by simp only; omega, hY4, hR4, ?_⟩ (by simp only; omega)
  exact ((((hfu.trans0 hf1)).trans hf2 (fun b hb => .inl hb)).trans0 hf3).trans hf4 (fun b hb => .inl hb)
end Go.Proofs.Ytcogpedfnnfnaaa
