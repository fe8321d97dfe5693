/-
  Contracts of the reference of package wire (refuterref02): the encodings.
-/
import Derived.Test.YtpochcchekoonaaGreatRd
import Derived.Test.YtpochcchekoonaaGreatPlain2
namespace Go.Proofs.YtpochcchekoonaaGreat
set_option linter.unusedVariables false
open Go.Rf Go.RowKit
attribute [local irreducible] Code.wp wpList Exit.then Exit.inBlock bodyPost A Calls execOp Addr.add

/-- new bytes, owned; nothing that was there has changed -/
def Out (w w' : World) (v' : Value) (bs : List Int) : Prop := Own w' 5 1 v' bs.length (bs.map (.int .u8)) ∧ Fr [] w w' ∧ ∀ k ∈ blks v', w.heap.size ≤ k
theorem Out.nil (w : World) : Out w w (.slice none 0 0) [] := ⟨Own.nil _ _ _, Fr.refl _ _, by simp [blks, Value.ownBlock]⟩
/-- an append to it -/
theorem Out.app {w w1 w2 : World} {v v2 : Value} {bs cs : List Int} (h : Out w w1 v bs) {u : World} (hf : Fr [] w1 u) (ho : Own w2 5 1 v2 (bs.length + cs.length) (bs.map (.int .u8) ++ cs.map (.int .u8))) (hf2 : Fr (blks v) u w2)
    (hk : ∀ b ∈ blks v2, b ∈ blks v ∨ u.heap.size ≤ b) : Out w w2 v2 (bs ++ cs) := by
  obtain ⟨h1, h2, h3⟩ := h
  have z1 := h2.size
  have z2 := hf.size
  refine ⟨by simpa using ho, (h2.trans0 hf).trans hf2 (fun k hk' => .inr (h3 k hk')), fun k hk' => ?_⟩
  rcases hk k hk' with h | h
  · exact h3 k h
  · omega

theorem refUint (n : Nat) (w : World) (hn : n < 18446744073709551616) :
    Calls Tryz.prog 103 #[.int .u64 n] w fun e w' => ∃ v', e = .returned v' ∧ Out w w' v' (uv n) := by
  refine enter Tryz.func103 rfl Tryz.ntmps103 rfl ?_
  refine rn ?_
  have hul := uv_len n hn
  refine c_loopK 4 [0, 3] (σ := Nat × Value × List Int) (fun s g u => g 0 = .int .u64 s.1 ∧ g 3 = s.2.1 ∧ s.1 < 18446744073709551616 ∧ uv n = s.2.2 ++ uv s.1 ∧ Out w u s.2.1 s.2.2)
    (fun s => s.1) (n, .slice none 0 0, []) ⟨rfl, rfl, hn, rfl, Out.nil w⟩ ?_
  rintro ⟨m, vo, bo⟩ g u ⟨h0, h3, hm, hbs, hou⟩
  simp only at h0 h3 hm hbs hou
  rw [eq_upd h3, eq_upd h0]
  have hlen : bo.length ≤ 10 := by
    have := congrArg List.length hbs
    simp only [List.length_append] at this; omega
  refine rn ?_
  refine s_gtr rfl rfl (fun h => ?_) (fun h => ?_)
  · refine rn ?_
    ((with_reducible apply s_build1); (conv => lhs; whnf); exact rfl)
    intro w1 ho1 hf1 hs1
    refine s_append (hou.1.tr0 hf1) rfl ho1.src rfl rfl (by simp [Value.oneCell']) (by unfold maxLen; omega) (by omega) (fun v2 w2 ho2 hf2 hk2 _ => ?_)
    have ec : (128 + (m : Int) % 128) = ((m % 128 + 128 : Nat) : Int) := by omega
    rw [ec] at ho2
    refine rn ?_
    refine q_roundK (m / 128, v2, bo ++ [((m % 128 + 128 : Nat) : Int)]) (by (repeat (first | exact Keep.mrg _ _ _ _ | (refine Keep.hi rfl ?_) | (refine Keep.one rfl ?_) | exact Keep.all rfl | (refine Keep.inn rfl ?_) | (refine Keep.set rfl ?_)))) ⟨rfl, rfl, by simp only; omega, ?_, hou.app (cs := [_]) hf1 ho2 hf2 hk2⟩ (by simp only; omega)
    simp only
    rw [hbs, uv_ge (by omega)]; simp
  · refine rn ?_
    ((with_reducible apply s_build1); (conv => lhs; whnf); exact rfl)
    intro w1 ho1 hf1 hs1
    refine s_append (hou.1.tr0 hf1) rfl ho1.src rfl rfl (by simp [Value.oneCell']) (by unfold maxLen; omega) (by omega) (fun v2 w2 ho2 hf2 hk2 _ => ?_)
    refine rn ?_
    (apply ret1; exact rfl; (conv => lhs; whnf))
    refine ⟨v2, rfl, ?_⟩
    rw [hbs, uv_lt (by omega)]
    exact hou.app (cs := [_]) hf1 ho2 hf2 hk2

theorem refZigzag (n : Int) (w : World) (hn : InI64 n) :
    Calls Tryz.prog 104 #[.int .i64 n] w fun e w' => e = .returned (.int .u64 (zz n)) ∧ w = w' := by
  obtain ⟨h1, h2⟩ := hn
  refine enter Tryz.func104 rfl Tryz.ntmps104 rfl ?_
  by_cases hz : n < 0
  · refine rn ?_
    (apply ret1; exact rfl; (conv => lhs; whnf))
    exact ⟨by unfold zz; rw [if_pos hz]; congr 2; omega, rfl⟩
  · refine rn ?_
    (apply ret1; exact rfl; (conv => lhs; whnf))
    exact ⟨by unfold zz; rw [if_neg hz]; congr 2; omega, rfl⟩

theorem refInt (n : Int) (w : World) (hn : InI64 n) :
    Calls Tryz.prog 60 #[.int .i64 n] w fun e w' => ∃ v', e = .returned v' ∧ Out w w' v' (iv n) := by
  refine enter Tryz.func60 rfl Tryz.ntmps60 rfl ?_
  refine rn ?_
  refine s_call (refZigzag n w hn) rfl ?_
  rintro _ _ ⟨rfl, rfl⟩
  refine ⟨_, rfl, ?_⟩
  refine s_call (refUint (zz n) w (zz_lt hn.1 hn.2)) rfl ?_
  rintro _ w1 ⟨v1, rfl, h1⟩
  refine ⟨_, rfl, ?_⟩
  refine rn ?_
  (apply ret1; exact rfl; (conv => lhs; whnf))
  exact ⟨v1, rfl, h1⟩


theorem refRaw (x : Value) (bs : List Int) (w : World) (hx : Src w x bs.length (bs.map (.int .u8))) (hl : bs.length ≤ 1000000000) :
    Calls Tryz.prog 105 #[x] w fun e w' => ∃ v', e = .returned v' ∧ Out w w' v' (raw bs) := by
  obtain ⟨ao, c, hxe, _⟩ := id hx
  subst hxe
  refine enter Tryz.func105 rfl Tryz.ntmps105 rfl ?_
  refine rn ?_
  refine s_call (refUint bs.length w (by omega)) rfl ?_
  rintro _ w1 ⟨v1, rfl, h1⟩
  refine ⟨_, rfl, ?_⟩
  have hul := uv_len bs.length (by omega)
  refine rn ?_
  refine s_append h1.1 rfl (hx.tr0 h1.2.1) rfl (by simp) (ints_one _ _) (by unfold maxLen; omega) (by omega) (fun v2 w2 ho2 hf2 hk2 _ => ?_)
  refine rn ?_
  (apply ret1; exact rfl; (conv => lhs; whnf))
  exact ⟨v2, rfl, h1.app (Fr.refl _ _) ho2 hf2 hk2⟩

end Go.Proofs.YtpochcchekoonaaGreat
