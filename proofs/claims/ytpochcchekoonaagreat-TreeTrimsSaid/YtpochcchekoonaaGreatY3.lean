/-
  Package tree's decoder: nodes. Package tree: Encode, encodeNode, Decode.
-/
import Derived.Test.YtpochcchekoonaaGreatY2
import Derived.Test.YtpochcchekoonaaGreatY1
import Derived.Test.YtpochcchekoonaaGreatA7
namespace Go.Proofs.YtpochcchekoonaaGreat
open Go.Rf Go.RowKit
set_option linter.unusedVariables false
set_option linter.unusedSimpArgs false
def dNdF (m : Int) (F : Nat) (s : DS) : Nd × DS :=
  let a := dI s
  let b := dT a.2
  let c := dI b.2
  let d := dI c.2
  let e := dLst m dI d.2
  let f := dLst m dT e.2
  let g := dLst m (dVal m F) f.2
  let h := dLst m dI g.2
  let i := dVal m F h.2
  (⟨a.1, b.1, c.1, d.1, e.1, f.1, g.1, h.1, i.1⟩, i.2)
attribute [local irreducible] Code.wp wpList Exit.then Exit.inBlock bodyPost A Calls execOp Addr.add
end Go.Proofs.YtpochcchekoonaaGreat
namespace Go.Proofs.YtpochcchekoonaaGreat
open Go.Rf Go.RowKit
set_option linter.unusedVariables false
set_option linter.unusedSimpArgs false
attribute [local irreducible] Code.wp wpList Exit.then Exit.inBlock bodyPost A Calls execOp Addr.add
set_option maxHeartbeats 4000000 in
theorem encNdP (x : Nd) (hw : NdW x) (hl : (tnN x).length ≤ 90000000000) (cs : List Value) (u : World) (hx : NdR u [] x cs) :
    Calls Tryz.prog 34 #[.agg cs.toArray] u fun e u' => ∃ v, e = .returned v ∧ Own u' 5 1 v (tnN x).length ((tnN x).map (.int .u8)) ∧ Fr [] u u' ∧ ∀ k ∈ blks v, u.heap.size ≤ k := by
  obtain ⟨sw, sl, sv, sk, sx, rfl, h1, h2, h3, h4, h5⟩ := hx
  have hx : NdR u [] x (nc x sw sl sv sk sx) := ⟨_, _, _, _, _, rfl, h1, h2, h3, h4, h5⟩
  refine enter Tryz.func34 rfl Tryz.ntmps34 rfl ?_
  refine rx ?_
  refine s_box (l := nc x sw sl sv sk sx) rfl rfl (fun u1 hb1 hf1 hs1 => ?_)
  refine rx ?_
  refine s_alloc rfl (fun u2 hb2 hf2 hs2 => ?_)
  obtain ⟨p, hp⟩ : ∃ y, y = u1.heap.size := ⟨_, rfl⟩
  rw [← hp] at hb2 ⊢
  have hF2 := hf1.trans0 hf2
  have hb12 := hb1.tr0 hf2
  have hw2 : IsW u2 p (.slice none 0 0) [] := ⟨hb2, Own.nil _ _ _⟩
  have hx2 : NdR u2 (p :: blks (.slice none 0 0)) x (nc x sw sl sv sk sx) := ndStab.old (ndStab.mono hx (fun b hb => .inr (by simp [blks, Value.ownBlock] at hb; omega))) hF2 (by simp)
  refine rx ?_
  refine s_call (wNode x hw p _ [] _ u2 hw2 hx2 (by simpa using hl)) rfl ?_
  rintro _ u3 ⟨rfl, hst3⟩
  refine ⟨_, rfl, ?_⟩
  obtain ⟨v3, hw3, _⟩ := (WI.of hw2).step hst3
  rw [List.nil_append] at hw3
  refine rx ?_
  refine s_call (wDone p v3 (tnN x) u3 hw3.is (by omega)) rfl ?_
  rintro _ z1 ⟨v', rfl, ho, hf, hk, _⟩
  refine ⟨_, rfl, ?_⟩
  refine rx ?_
  (apply ret1; exact rfl; (conv => lhs; whnf))
  have hsz := hw3.fr.size
  refine ⟨_, rfl, ho, (hF2.trans hw3.fr (fun b hb => .inr ?_)).trans0 hf, fun k hk' => ?_⟩
  · simp [blks, Value.ownBlock] at hb; omega
  · have := hk k hk'; have := hF2.size; omega
/-- what Decode answers, with its error -/
def decE (b : List Int) : List Nd × Int := match decT b with
  | some t => (t, 0)
  | none => ([], 2)
end Go.Proofs.YtpochcchekoonaaGreat
