/-
  The example of the section: its tree, what the functions answer of it, lives. Equality of arrays of three numbers; lives. TreeLimits: the plain law.
-/
import Derived.Test.YtpochcchekoonaaGreatA7
import Derived.Test.YtpochcchekoonaaGreatRf1
import Derived.ChangeKeysEq
namespace Go.Proofs.YtpochcchekoonaaGreat
open Go.Rf Go.RowKit
set_option linter.unusedVariables false
set_option linter.unusedSimpArgs false
--BEGIN
def exT : List Nd := [⟨1, ⟨#[]⟩, 0, 9, [], [], [], [], numV 0⟩, ⟨3, ⟨#[]⟩, 0, 0, [], [], [], [0, 0], numV 0⟩, ⟨0, ⟨#[]⟩, 0, 0, [], [], [], [], numV 7⟩, ⟨2, ⟨#[]⟩, 0, 0, [1, 1], [], [], [1, 2], numV 0⟩]
theorem exV : validT exT = 0 := by kernel_rfl
theorem exF1 : fullT exT [0, 4, 2] = some (⟨2, 0, ⟨#[]⟩, [numV 4, numV 2]⟩, [(1, 1, 2), (1, 2, 3)]) := by kernel_rfl
theorem exF2 : fullT exT [1] = some (numV 7, []) := by kernel_rfl
theorem exF3 : fitT exT [0, 12] = ([0, 9, 0], 0) := by kernel_rfl
theorem exF4 : fitT exT [5] = ([1], 0) := by kernel_rfl
theorem exN : nsp (tA exT 3) = 2 := by kernel_rfl
--END
theorem exOk : ∀ x ∈ exT, NdOk x := by
  intro x hx
  simp only [exT, List.mem_cons, List.not_mem_nil, or_false] at hx
  have hV : ∀ n, VNm (numV n) ∧ vsz (numV n) ≤ 10000000 := fun n => ⟨.mk (Nat.zero_le _) (fun x hx => by simp [numV] at hx), by simp [numV, vsz, vszs]⟩
  rcases hx with rfl | rfl | rfl | rfl <;> constructor <;> first | exact hV _ | exact Nat.zero_le _ | simp [InI64]
attribute [local irreducible] Code.wp wpList Exit.then Exit.inBlock bodyPost A Calls execOp Addr.add
set_option maxHeartbeats 4000000 in
theorem exP (u : World) : Calls Tryz.prog 52 #[] u fun e u' => ∃ sn, e = .returned (.agg #[sn]) ∧ NS u' [] exT sn ∧ Fr [] u u' := by
  refine enter (l := []) Tryz.func52 rfl Tryz.ntmps52 rfl ?_
  refine rx ?_
  refine s_alloc rfl (fun u1 hb1 hf1 hs1 => ?_)
  refine rx ?_
  refine s_build (nc exT[0] (.slice none 0 0) (.slice none 0 0) (.slice none 0 0) (.slice none 0 0) (.slice none 0 0)) rfl ?_
  refine s_buildS [.int .i64 0, .int .i64 0] rfl rfl rfl rfl (fun u2 ho2 hf2 hs2 => ?_)
  refine s_build (nc exT[1] (.slice none 0 0) (.slice none 0 0) (.slice none 0 0) (.slice (some ⟨u1.heap.size, 0, none⟩) 2 2) (.slice none 0 0)) rfl ?_
  refine s_build (vc (numV 7) (.slice none 0 0)) rfl ?_
  refine s_build (nc exT[2] (.slice none 0 0) (.slice none 0 0) (.slice none 0 0) (.slice none 0 0) (.slice none 0 0)) rfl ?_
  refine s_buildS [.int .i64 1, .int .i64 1] rfl rfl rfl rfl (fun u3 ho3 hf3 hs3 => ?_)
  refine s_buildS [.int .i64 1, .int .i64 2] rfl rfl rfl rfl (fun u4 ho4 hf4 hs4 => ?_)
  refine s_build (nc exT[3] (.slice (some ⟨u2.heap.size, 0, none⟩) 2 2) (.slice none 0 0) (.slice none 0 0) (.slice (some ⟨u3.heap.size, 0, none⟩) 2 2) (.slice none 0 0)) rfl ?_
  refine s_buildS (nc exT[0] (.slice none 0 0) (.slice none 0 0) (.slice none 0 0) (.slice none 0 0) (.slice none 0 0) ++ (nc exT[1] (.slice none 0 0) (.slice none 0 0) (.slice none 0 0) (.slice (some ⟨u1.heap.size, 0, none⟩) 2 2) (.slice none 0 0) ++ (nc exT[2] (.slice none 0 0) (.slice none 0 0) (.slice none 0 0) (.slice none 0 0) (.slice none 0 0) ++ (nc exT[3] (.slice (some ⟨u2.heap.size, 0, none⟩) 2 2) (.slice none 0 0) (.slice none 0 0) (.slice (some ⟨u3.heap.size, 0, none⟩) 2 2) (.slice none 0 0) ++ [])))) rfl rfl rfl rfl (fun u5 ho5 hf5 hs5 => ?_)
  refine s_build [.slice (some ⟨u4.heap.size, 0, none⟩) 4 4] rfl ?_
  have hF15 : Fr [] u1 u5 := ((hf2.trans0 hf3).trans0 hf4).trans0 hf5
  refine s_storeAggB (cs := [.slice (some ⟨u4.heap.size, 0, none⟩) 4 4]) rfl rfl (hb1.tr0 hF15) (by simp [Value.oneCell']) rfl rfl (fun u6 hb6 hf6 hs6 => ?_)
  have hF06 : Fr [] u u6 := (hf1.trans0 hF15).trans hf6 (by simp)
  refine rx ?_
  have hN : ∀ i, u.heap.size + 1 ≤ i → i ∉ [u.heap.size] := fun i hi h => by simp at h; omega
  have ho26 := (((ho2.tr0 hf3).tr0 hf4).tr0 hf5).tr hf6 (by simp [blks, Value.ownBlock]; omega)
  have ho36 := ((ho3.tr0 hf4).tr0 hf5).tr hf6 (by simp [blks, Value.ownBlock]; omega)
  have ho46 := (ho4.tr0 hf5).tr hf6 (by simp [blks, Value.ownBlock]; omega)
  have ho56 := ho5.tr hf6 (by simp [blks, Value.ownBlock]; omega)
  refine retc rfl rfl (AggT.load _ [.slice (some ⟨u4.heap.size, 0, none⟩) 4 4] rfl (fun j x hx => by rw [add_lit]; exact hb6.cell (by simpa using hx))) ⟨_, rfl, ?_, hF06⟩
  refine ⟨_, ho56.src, fun _ _ _ _ _ => by simp, .cons ⟨_, _, _, _, _, rfl, Ls.nil, Ls.nil, VS.nil _ _, Ls.nil, VS.nil _ _⟩ (.cons ⟨_, _, _, _, _, rfl, Ls.nil, Ls.nil, VS.nil _ _, Own.is ho26, VS.nil _ _⟩ (.cons ⟨_, _, _, _, _, rfl, Ls.nil, Ls.nil, VS.nil _ _, Ls.nil, VS.nil _ _⟩ (.cons ⟨_, _, _, _, _, rfl, Own.is ho36, Ls.nil, VS.nil _ _, Own.is ho46, VS.nil _ _⟩ .nil)))⟩
end Go.Proofs.YtpochcchekoonaaGreat
namespace Go.Rf
open Go.RowKit
class Arr3 (P : Program) (t : Nat) : Prop where
  u : ∃ e k i, P.underlying t = some (.array 3 e) ∧ P.underlying e = some (.int k) ∧ P.info? e = some i ∧ P.cellsOf e = 1 ∧ P.eqGuardType P.depth t = false
section
variable {P : Program} {t : Nat} {w : World}
theorem equalIn_int (dd : Nat) {e : Nat} {k : IntKind} (he : P.underlying e = some (.int k)) (x y : Int) : (Op.equalIn (dd + 1) e (.int .i64 x) (.int .i64 y)).run P w = .ok (x == y) w := by
  simp [Op.equalIn, run_underlying he]
theorem equal3 [T : Arr3 P t] (a b c a' b' c' : Int) : (Op.equal t (.agg #[.int .i64 a, .int .i64 b, .int .i64 c]) (.agg #[.int .i64 a', .int .i64 b', .int .i64 c'])).run P w = .ok (decide (a = a' ∧ b = b' ∧ c = c')) w := by
  obtain ⟨e, k, i, hu, he, hi, hc, _⟩ := T.u
  show (Op.equalIn (9999 + 1) t _ _).run P w = _
  rw [run_equalIn_array w 9999 _ _ hu hi, hc]
  have r3 : List.range 3 = [0, 1, 2] := rfl
  have hp : ∀ (cs : Array Value) (j : Nat) (v : Value), cs[j]? = some v → (part e cs j).run P w = .ok v w := fun cs j v h => by simp [part, isAgg, run_underlying he, h]
  have hq : ∀ x y : Int, (Op.equalIn 9999 e (.int .i64 x) (.int .i64 y)).run P w = .ok (x == y) w := fun x y => equalIn_int 9998 he x y
  rw [r3]
  simp only [Op.eqItems, Sem.run_bind, Nat.mul_one]
  rw [hp _ 0 (.int .i64 a) rfl, Result.andThen_ok, hp _ 0 (.int .i64 a') rfl, Result.andThen_ok, hq, Result.andThen_ok]
  by_cases h1 : a = a'
  case neg => simp [h1]
  rw [if_neg (by simp [h1])]
  simp only [Sem.run_bind]
  rw [hp _ 1 (.int .i64 b) rfl, Result.andThen_ok, hp _ 1 (.int .i64 b') rfl, Result.andThen_ok, hq, Result.andThen_ok]
  by_cases h2 : b = b'
  case neg => simp [h2]
  rw [if_neg (by simp [h2])]
  simp only [Sem.run_bind]
  rw [hp _ 2 (.int .i64 c) rfl, Result.andThen_ok, hp _ 2 (.int .i64 c') rfl, Result.andThen_ok, hq, Result.andThen_ok]
  by_cases h3 : c = c'
  case neg => simp [h3]
  simp [h1, h2, h3]
variable {D : Dfs}
variable {ops : Array Oper} {Q : Exit → Act → World → Prop} {rest : List Oper} {n : Nat} {f : Env}
variable {d : Nat} {ty : TypeId} {ps : String} {af : Array Edge} {x y : Operand} {t2 : Nat}
theorem s_eql3 [T : Arr3 P t] {a b c a' b' c' : Int} {p : Bool} (hx : ev n f x = .agg #[.int .i64 a, .int .i64 b, .int .i64 c]) (hy : ev n f y = .agg #[.int .i64 a', .int .i64 b', .int .i64 c']) (hp : decide (a = a' ∧ b = b' ∧ c = c') = p) (h : wpList P ops Q rest (A n (upd f d (.bool p))) w) :
    wpList P ops Q (⟨some d, .binOp .eql t x y t2, ty, ps, af, none⟩ :: rest) (A n f) w := by
  have hg : P.eqGuardType P.depth t = false := by obtain ⟨e, k, i, _, _, _, _, hg⟩ := T.u; exact hg
  have := equal3 (P := P) (t := t) (w := w) a b c a' b' c'
  rw [hp] at this
  exact s_run (by simp [execOp, eqGuard, binOp, hx, hy, this, hg]) h
theorem s_neq3 [T : Arr3 P t] {a b c a' b' c' : Int} {p : Bool} (hx : ev n f x = .agg #[.int .i64 a, .int .i64 b, .int .i64 c]) (hy : ev n f y = .agg #[.int .i64 a', .int .i64 b', .int .i64 c']) (hp : decide (a = a' ∧ b = b' ∧ c = c') = p) (h : wpList P ops Q rest (A n (upd f d (.bool (!p)))) w) :
    wpList P ops Q (⟨some d, .binOp .neq t x y t2, ty, ps, af, none⟩ :: rest) (A n f) w := by
  have hg : P.eqGuardType P.depth t = false := by obtain ⟨e, k, i, _, _, _, _, hg⟩ := T.u; exact hg
  have := equal3 (P := P) (t := t) (w := w) a b c a' b' c'
  rw [hp] at this
  exact s_run (by simp [execOp, eqGuard, binOp, hx, hy, this, hg]) h
end
end Go.Rf
namespace Go.Proofs.YtpochcchekoonaaGreat
open Go.Rf Go.RowKit
set_option linter.unusedVariables false
set_option linter.unusedSimpArgs false
theorem info_ex {P : Program} {t : Nat} (h : (P.info? t).isSome = true) : ∃ i, P.info? t = some i := Option.isSome_iff_exists.1 h
instance : Arr3 Tryz.prog 93 := ⟨by
  obtain ⟨i, hi⟩ := info_ex (P := Tryz.prog) (t := 3) (by kernel_rfl)
  exact ⟨3, _, i, Tryz.underlying93, Tryz.underlying3, hi, by kernel_rfl, by kernel_rfl⟩⟩
attribute [local irreducible] Code.wp wpList Exit.then Exit.inBlock bodyPost A Calls execOp Addr.add
theorem srcCells {w : World} {ad : Addr} {m c n : Nat} {ys : List Value} (h : Src w (.slice (some ad) m c) n ys) : Cells w ad ys := by
  obtain ⟨ao, c', e, _, _, hc⟩ := h
  injection e with e1 _ _
  subst e1
  intro j u hj
  exact hc ad rfl j u hj
theorem isOwn {w : World} {v : Value} {l : List Int} {n : Nat} {cs : List Value} (h : Own w 3 1 v n cs) (hn : n = l.length) (hc : cs = l.map (.int .i64)) : IS w [] l v := by
  subst hn hc
  exact Own.is h
theorem exV1 : valT exT [0, 4, 2] = (⟨2, 0, ⟨#[]⟩, [numV 4, numV 2]⟩, 0) := by unfold valT; rw [exF1]
theorem exV2 : valT exT [1] = (numV 7, 0) := by unfold valT; rw [exF2]
theorem exS1 : spanT exT [0, 4, 2] = ([(1, 1, 2), (1, 2, 3)], 0) := by unfold spanT; rw [exF1]
set_option maxHeartbeats 8000000 in
theorem livesP (u : World) : Calls Tryz.prog 18 #[] u fun e u' => e = .returned (.bool true) ∧ Fr [] u u' := by
  have htl : exT.length ≤ 1000000 := by decide
  have hS : ∀ (x : World), ∀ q ∈ ([] : List Nat), q < x.heap.size := fun _ _ h => by simp at h
  refine enter (l := []) Tryz.func18 rfl Tryz.ntmps18 rfl ?_
  refine rx ?_
  -- the first value
  refine s_call (exP u) rfl ?_
  rintro _ a1 ⟨n1, rfl, hn1, fa1⟩
  refine ⟨_, rfl, ?_⟩
  refine s_buildS [.int .i64 0, .int .i64 4, .int .i64 2] rfl rfl rfl rfl (fun a2 oa2 fa2 sa2 => ?_)
  refine s_call (valueP exT exOk htl [0, 4, 2] (by decide) [] _ _ a2 (hn1.tr0 fa2) (isOwn oa2 rfl rfl) (hS _)) rfl ?_
  rintro _ a3 ⟨s1, rfl, fa3, hv1⟩
  refine ⟨_, rfl, ?_⟩
  have hv1 := hv1 [] (by simp)
  rw [exV1] at hv1 ⊢
  simp only at hv1 ⊢
  refine rx ?_
  refine s_alloc rfl (fun a4 ba4 fa4 sa4 => ?_)
  refine s_storeAggB (cs := vc ⟨2, 0, ⟨#[]⟩, [numV 4, numV 2]⟩ s1) rfl rfl ba4 (VR.mem1 (w := a3) (S := []) ⟨2, 0, ⟨#[]⟩, [numV 4, numV 2]⟩ _ ⟨_, rfl, hv1⟩) rfl rfl (fun a5 ba5 fa5 sa5 => ?_)
  have Fa : Fr [] u a5 := (((fa1.trans0 fa2).trans0 fa3).trans0 fa4).trans fa5 (by simp; have := ((fa1.trans0 fa2).trans0 fa3).size; omega)
  have hv1 := hv1.tr0 (fa4.trans fa5 (by simp))
  obtain ⟨P1, hP1⟩ : ∃ y, y = a3.heap.size := ⟨_, rfl⟩
  rw [← hP1] at ba5 ⊢
  -- the second value
  refine rx ?_
  refine s_call (exP a5) rfl ?_
  rintro _ b1 ⟨n2, rfl, hn2, fb1⟩
  refine ⟨_, rfl, ?_⟩
  refine s_buildS [.int .i64 1] rfl rfl rfl rfl (fun b2 ob2 fb2 sb2 => ?_)
  refine s_call (valueP exT exOk htl [1] (by decide) [] _ _ b2 (hn2.tr0 fb2) (isOwn ob2 rfl rfl) (hS _)) rfl ?_
  rintro _ b3 ⟨s2, rfl, fb3, hv2⟩
  refine ⟨_, rfl, ?_⟩
  have hv2 := hv2 [] (by simp)
  rw [exV2] at hv2 ⊢
  simp only at hv2 ⊢
  refine rx ?_
  refine s_alloc rfl (fun b4 bb4 fb4 sb4 => ?_)
  refine s_storeAggB (cs := vc (numV 7) s2) rfl rfl bb4 (VR.mem1 (w := b3) (S := []) (numV 7) _ ⟨_, rfl, hv2⟩) rfl rfl (fun b5 bb5 fb5 sb5 => ?_)
  have Fb : Fr [] a5 b5 := (((fb1.trans0 fb2).trans0 fb3).trans0 fb4).trans fb5 (by simp; have := ((fb1.trans0 fb2).trans0 fb3).size; omega)
  obtain ⟨P2, hP2⟩ : ∃ y, y = b3.heap.size := ⟨_, rfl⟩
  rw [← hP2] at bb5 ⊢
  -- fitting
  refine rx ?_
  refine s_call (exP b5) rfl ?_
  rintro _ c1 ⟨n3, rfl, hn3, fc1⟩
  refine ⟨_, rfl, ?_⟩
  refine s_buildS [.int .i64 0, .int .i64 12] rfl rfl rfl rfl (fun c2 oc2 fc2 sc2 => ?_)
  refine s_call (fitTP exT exOk htl [0, 12] (by decide) [] _ _ c2 (hn3.tr0 fc2) (isOwn oc2 rfl rfl) (hS _)) rfl ?_
  rintro _ c3 ⟨p3, rfl, hp3, _, fc3⟩
  refine ⟨_, rfl, ?_⟩
  rw [exF3] at hp3 ⊢
  simp only at hp3 ⊢
  have Fc : Fr [] b5 c3 := (fc1.trans0 fc2).trans0 fc3
  refine rx ?_
  refine s_call (exP c3) rfl ?_
  rintro _ d1 ⟨n4, rfl, hn4, fd1⟩
  refine ⟨_, rfl, ?_⟩
  refine s_buildS [.int .i64 5] rfl rfl rfl rfl (fun d2 od2 fd2 sd2 => ?_)
  refine s_call (fitTP exT exOk htl [5] (by decide) [] _ _ d2 (hn4.tr0 fd2) (isOwn od2 rfl rfl) (hS _)) rfl ?_
  rintro _ d3 ⟨p4, rfl, hp4, _, fd3⟩
  refine ⟨_, rfl, ?_⟩
  rw [exF4] at hp4 ⊢
  simp only at hp4 ⊢
  have Fd : Fr [] c3 d3 := (fd1.trans0 fd2).trans0 fd3
  -- spans
  refine rx ?_
  refine s_call (exP d3) rfl ?_
  rintro _ e1 ⟨n5, rfl, hn5, fe1⟩
  refine ⟨_, rfl, ?_⟩
  refine s_buildS [.int .i64 0, .int .i64 4, .int .i64 2] rfl rfl rfl rfl (fun e2 oe2 fe2 se2 => ?_)
  refine s_call (spansP exT exOk htl [0, 4, 2] (by decide) (by rw [show exT.length - 1 = 3 from rfl, exN]; decide) [] _ _ e2 (hn5.tr0 fe2) (isOwn oe2 rfl rfl) (hS _)) rfl ?_
  rintro _ e3 ⟨p5, rfl, fe3, hp5, _⟩
  refine ⟨_, rfl, ?_⟩
  rw [exS1] at hp5 ⊢
  simp only at hp5 ⊢
  have Fe : Fr [] d3 e3 := (fe1.trans0 fe2).trans0 fe3
  have Fae : Fr [] a5 e3 := ((Fb.trans0 Fc).trans0 Fd).trans0 Fe
  have ba := ba5.tr0 Fae
  have bb := bb5.tr0 ((Fc.trans0 Fd).trans0 Fe)
  have hp3 := (hp3.tr0 Fd).tr0 Fe
  have hp4 := hp4.tr0 Fe
  have hv1 := hv1.tr0 Fae
  obtain ⟨k1, c1', rfl⟩ : ∃ ao c, s1 = .slice ao 2 c := by obtain ⟨ao, c, h, _⟩ := hv1.slice; exact ⟨ao, c, h⟩
  obtain ⟨a3', c3', rfl⟩ : ∃ ao c, p3 = .slice ao 3 c := hp3.slice
  obtain ⟨a4', c4', rfl⟩ : ∃ ao c, p4 = .slice ao 1 c := hp4.slice
  obtain ⟨a5', c5', rfl⟩ : ∃ ao c, p5 = .slice ao 2 c := hp5.slice
  obtain ⟨q1, cs1, rfl, ⟨s3, rfl, _⟩, hc1⟩ := Sl.at hv1.sl (k := 4) (fun x cs h => vrStab.len h) (i := 0) (by decide)
  obtain ⟨q1', cs2, e1', ⟨s4, rfl, _⟩, hc2⟩ := Sl.at hv1.sl (k := 4) (fun x cs h => vrStab.len h) (i := 1) (by decide)
  cases e1'
  have hc1 : Cells e3 (q1.add (0 * 4)) [.int .i64 0, .int .i64 4, .string ⟨#[]⟩, s3] := hc1
  have hc2 : Cells e3 (q1.add (1 * 4)) [.int .i64 0, .int .i64 2, .string ⟨#[]⟩, s4] := hc2
  have ba : Blk e3 P1 [.int .i64 2, .int .i64 0, .string ⟨#[]⟩, .slice (some q1) 2 c1'] 33 := ba
  have bb : Blk e3 P2 [.int .i64 0, .int .i64 7, .string ⟨#[]⟩, s2] 33 := bb
  have ha5 : ∃ ad, a5' = some ad := by
    cases a5' with
    | some x => exact ⟨x, rfl⟩
    | none =>
      obtain ⟨ao, c, e, h1, h2, _⟩ := hp5.src
      injection e with e1 _ _
      have := (h2 e1.symm).1
      simp at this
  obtain ⟨q5, rfl⟩ := ha5
  have hc5 := srcCells hp5.src
  refine rx ?_
  refine s_indexAddr (j := 0) rfl rfl rfl (by decide) rfl ?_
  refine rx ?_
  refine s_indexAddr (j := 1) rfl rfl rfl (by decide) rfl ?_
  refine rx ?_
  refine s_buildS [.int .i64 0, .int .i64 9, .int .i64 0] rfl rfl rfl rfl (fun f1 of1 ff1 sf1 => ?_)
  refine rx ?_
  refine s_call (sameInts _ _ [0, 9, 0] [0, 9, 0] f1 (hp3.tr0 ff1).src of1.src (by decide)) rfl ?_
  rintro _ f2 ⟨rfl, ff2⟩
  refine ⟨_, rfl, ?_⟩
  rw [decide_eq_true rfl]
  refine rx ?_
  refine s_buildS [.int .i64 1] rfl rfl rfl rfl (fun f3 of3 ff3 sf3 => ?_)
  have Ff3 := (ff1.trans0 ff2).trans0 ff3
  refine rx ?_
  refine s_call (sameInts _ _ [1] [1] f3 (hp4.tr0 Ff3).src of3.src (by decide)) rfl ?_
  rintro _ f4 ⟨rfl, ff4⟩
  refine ⟨_, rfl, ?_⟩
  rw [decide_eq_true rfl]
  have Ff4 := Ff3.trans0 ff4
  have hc5 := hc5.tr0 Ff4
  refine rx ?_
  refine s_indexAddr (j := 0) rfl rfl rfl (by decide) rfl ?_
  refine rx ?_
  refine s_buildA [.int .i64 1, .int .i64 1, .int .i64 2] rfl ?_
  refine g_yes rfl ?_
  refine s_eql3 (a := 1) (b := 1) (c := 2) (a' := 1) (b' := 1) (c' := 2) (p := true) rfl rfl (by decide) ?_
  refine rx ?_
  refine s_indexAddr (j := 1) rfl rfl rfl (by decide) rfl ?_
  refine rx ?_
  refine s_buildA [.int .i64 1, .int .i64 2, .int .i64 3] rfl ?_
  refine g_yes rfl ?_
  refine s_eql3 (a := 1) (b := 2) (c := 3) (a' := 1) (b' := 2) (c' := 3) (p := true) rfl rfl (by decide) ?_
  refine rx ?_
  (apply ret1; exact rfl; (conv => lhs; whnf))
  exact ⟨rfl, (Fa.trans0 Fae).trans0 Ff4⟩
end Go.Proofs.YtpochcchekoonaaGreat
namespace Go.Proofs.YtpochcchekoonaaGreat
open Go.Rf Go.RowKit
set_option linter.unusedVariables false
set_option linter.unusedSimpArgs false
--BEGIN
def zN : Nd := ⟨0, ⟨#[]⟩, 0, 0, [], [], [], [], numV 0⟩
def r1N (hi : Int) : Nd := ⟨1, ⟨#[]⟩, 0, hi, [], [], [], [], numV 0⟩
def choN (n : Nat) : Nd := ⟨2, ⟨#[]⟩, 0, 0, List.replicate n 1, [], [], List.replicate n 0, numV 0⟩
def sqN (s : ByteArray) (n : Nat) : Nd := ⟨3, s, 0, 0, [], [], [], List.replicate n 0, numV 0⟩
def manyS : ByteArray := ⟨#[77, 97, 110, 121]⟩
def numsV (n : Nat) : List V := (List.range n).map fun i => numV (i : Nat)
def bndN (n : Nat) : Nd := ⟨4, ⟨#[]⟩, 0, 0, [], [], numsV n, 0 :: List.replicate n 1, numV 0⟩
def lim0 (n : Nat) : List Nd := r1N 1 :: List.replicate n zN
def lim1 (n : Nat) : List Nd := [r1N 1, choN n]
def lim2 (n : Nat) : List Nd := [r1N 1, sqN manyS n]
def lim3 (n : Nat) : List Nd := [r1N ((n : Int) - 1), zN, bndN n]
def lim4 (n : Nat) : List Nd := [r1N 1, sqN ⟨#[]⟩ 128, sqN ⟨#[]⟩ n, ⟨3, ⟨#[]⟩, 0, 0, [], [], [], [1, 2], numV 0⟩]
theorem step_z (p : List Nd) : stepE p zN = 0 := by
  have h1 : nodeE p.length zN = 0 := by
    have : formN (p.length : Int) zN = true := by unfold formN; rfl
    unfold nodeE
    rw [this]
    rfl
  unfold stepE
  rw [h1]
  have h2 : lenN (lensT p) zN = 0 := rfl
  have h3 : sizN (sizsT p) zN = 1 := rfl
  rw [h2, h3]
  rfl
theorem val_z : ∀ (n : Nat) (p : List Nd), valGo p (List.replicate n zN) = 0
  | 0, p => rfl
  | n + 1, p => by rw [List.replicate_succ, valGo, step_z, if_neg (by simp), val_z n]
theorem lim0_v (n : Nat) : validT (lim0 n) = if 4095 < n then 4 else 0 := by
  unfold validT lim0
  rw [List.length_cons, List.length_replicate]
  by_cases h : 4095 < n
  · rw [if_pos (by omega), if_pos h]
  · rw [if_neg (by omega), if_neg h, valGo]
    have : stepE [] (r1N 1) = 0 := by kernel_rfl
    rw [this, if_neg (by simp), val_z]
theorem lim1_v {n : Nat} (h : n = 254 ∨ n = 255 ∨ n = 256 ∨ n = 257 ∨ n = 258) : validT (lim1 n) = if 256 < n then 1 else 0 := by
  rcases h with rfl | rfl | rfl | rfl | rfl <;> kernel_rfl
theorem lim2_v {n : Nat} (h : n = 14 ∨ n = 15 ∨ n = 16 ∨ n = 17 ∨ n = 18) : validT (lim2 n) = if 16 < n then 1 else 0 := by
  rcases h with rfl | rfl | rfl | rfl | rfl <;> kernel_rfl
theorem lim4_v {n : Nat} (h : n = 126 ∨ n = 127 ∨ n = 128 ∨ n = 129 ∨ n = 130) : validT (lim4 n) = if 128 < n then 4 else 0 := by
  rcases h with rfl | rfl | rfl | rfl | rfl <;> kernel_rfl
theorem rng_nums : ∀ n, rngV 0 n = numsV n
  | 0 => rfl
  | n + 1 => by
    rw [rngV, rng_nums n]
    unfold numsV
    rw [List.range_succ, List.map_append]
    simp
theorem set3 {n : Nat} (h : 1 ≤ n) : lstAt (setsT [r1N ((n : Int) - 1), zN]) 0 = if n ≤ 1024 then some (numsV n) else none := by
  have e : lstAt (setsT [r1N ((n : Int) - 1), zN]) 0 = if 1024 ≤ (n : Int) - 1 - 0 then none else some (rngV 0 ((n : Int) - 1 - 0 + 1).toNat) := rfl
  have e2 : ((n : Int) - 1 - 0 + 1).toNat = n := by omega
  rw [e, e2, rng_nums]
  by_cases h1 : n ≤ 1024
  · rw [if_pos h1, if_neg (by omega)]
  · rw [if_neg h1, if_pos (by omega)]
theorem lim3_n {n : Nat} (h : n = 1022 ∨ n = 1023 ∨ n = 1024 ∨ n = 1025 ∨ n = 1026) : formN 2 (bndN n) = true ∧ frsE (ownV (bndN n)) = 0 ∧ numsN (bndN n) = true ∧ lenN [1, 0] (bndN n) = 1 ∧ sizN [1, 1] (bndN n) = 1 ∧ sameVs (numsV n) (numsV n) = true ∧ stepE [] (r1N ((n : Int) - 1)) = 0 := by
  rcases h with rfl | rfl | rfl | rfl | rfl <;> exact ⟨by kernel_rfl, by kernel_rfl, by kernel_rfl, by kernel_rfl, by kernel_rfl, by kernel_rfl, by kernel_rfl⟩
theorem lim3_v {n : Nat} (h : n = 1022 ∨ n = 1023 ∨ n = 1024 ∨ n = 1025 ∨ n = 1026) : validT (lim3 n) = if 1024 < n then 4 else 0 := by
  obtain ⟨h1, h2, h3, h4, h5, h6, h7⟩ := lim3_n h
  have hn : nodeE 2 (bndN n) = 0 := by unfold nodeE; rw [h1, h2, h3]; rfl
  have hs : stepE [r1N ((n : Int) - 1), zN] (bndN n) = if 1024 < n then 4 else 0 := by
    have e1 : lensT [r1N ((n : Int) - 1), zN] = [1, 0] := rfl
    have e2 : sizsT [r1N ((n : Int) - 1), zN] = [1, 1] := rfl
    have e3 : ((List.length [r1N ((n : Int) - 1), zN] : Nat) : Int) = 2 := rfl
    unfold stepE
    rw [e1, e2, e3, hn, h4, h5, if_neg (by simp), if_neg (by omega), if_pos (show (bndN n).kind = 4 from rfl)]
    have e4 : (bndN n).kids.headD 0 = 0 := rfl
    have e5 : (bndN n).vals = numsV n := rfl
    rw [e4, e5, set3 (by omega)]
    by_cases hl : n ≤ 1024
    · rw [if_pos hl, if_neg (by omega)]
      unfold bndE
      simp only [h6, if_true]
    · rw [if_neg hl, if_pos (by omega)]; rfl
  unfold validT lim3
  rw [if_neg (by simp), valGo, h7, if_neg (by simp), valGo, step_z, if_neg (by simp), valGo]
  show (if stepE [r1N ((n : Int) - 1), zN] (bndN n) ≠ 0 then stepE [r1N ((n : Int) - 1), zN] (bndN n) else valGo _ []) = _
  rw [hs]
  by_cases hl : 1024 < n
  · rw [if_pos hl, if_pos (by decide)]
  · rw [if_neg hl, if_neg (by simp)]; rfl
theorem numV_ok (n : Int) : VNm (numV n) ∧ vsz (numV n) ≤ 10000000 := ⟨.mk (Nat.zero_le _) (fun x hx => by simp [numV] at hx), by simp [numV, vsz, vszs]⟩
theorem rep_ok {n : Nat} {k : Int} (hk : InI64 k) : ∀ x ∈ List.replicate n k, InI64 x := fun x hx => by rw [(List.mem_replicate.1 hx).2]; exact hk
theorem zN_ok : NdOk zN := by constructor <;> first | exact numV_ok _ | exact Nat.zero_le _ | simp [zN, InI64]
theorem r1N_ok {h : Int} (hh : InI64 h) : NdOk (r1N h) := by constructor <;> first | exact numV_ok _ | exact Nat.zero_le _ | exact hh | simp [r1N, InI64]
theorem choN_ok {n : Nat} (hn : n ≤ 10000) : NdOk (choN n) := by
  constructor <;> first | exact numV_ok _ | exact Nat.zero_le _ | exact rep_ok (by simp [InI64]) | (simp [choN, InI64]; done) | (simp [choN]; omega)
theorem sqN_ok {s : ByteArray} {n : Nat} (hs : s.size ≤ 1000) (hn : n ≤ 10000) : NdOk (sqN s n) := by
  constructor <;> first | exact numV_ok _ | exact Nat.zero_le _ | exact rep_ok (by simp [InI64]) | (simp [sqN, InI64]; done) | (simp [sqN]; omega)
theorem bndN_ok {n : Nat} (hn : n ≤ 10000) : NdOk (bndN n) := by
  have hk : ∀ x ∈ (bndN n).kids, InI64 x := by
    intro x hx
    rcases List.mem_cons.1 hx with rfl | h
    · simp [InI64]
    · exact rep_ok (by simp [InI64]) x h
  have hv : ∀ v ∈ (bndN n).vals, VNm v ∧ vsz v ≤ 10000000 := by
    intro v hv
    obtain ⟨i, _, rfl⟩ := List.mem_map.1 hv
    exact numV_ok _
  constructor <;> first | exact hk | exact hv | exact numV_ok _ | exact Nat.zero_le _ | (simp [bndN, InI64]; done) | (simp [bndN, numsV]; omega)
--END
end Go.Proofs.YtpochcchekoonaaGreat
