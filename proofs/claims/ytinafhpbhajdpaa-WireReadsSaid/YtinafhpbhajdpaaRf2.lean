/-
  Contracts of the reference of package wire (refuterref02): the encodings.
-/
import Derived.Test.YtinafhpbhajdpaaRd
import Derived.Test.YtinafhpbhajdpaaPlain2
namespace Go.Proofs.Ytinafhpbhajdpaa
set_option linter.unusedVariables false
open Go.Rf Go.RowKit
attribute [local irreducible] Code.wp wpList Exit.then Exit.inBlock bodyPost A Calls

/-- new bytes, owned; nothing that was there has changed -/
def Out (w w' : World) (v' : Value) (bs : List Int) : Prop := Own w' 5 1 v' bs.length (bs.map (.int .u8)) ∧ Fr [] w w' ∧ ∀ k ∈ blks v', w.heap.size ≤ k
theorem Out.nil (w : World) : Out w w (.slice none 0 0) [] := ⟨Own.nil _ _ _, Fr.refl _ _, by simp [blks, Value.ownBlock]⟩
/-- an append to it -/
theorem Out.app {w w1 w2 : World} {v v2 : Value} {bs cs : List Int} (h : Out w w1 v bs) {u : World} (hf : Fr [] w1 u) (ho : Own w2 5 1 v2 (bs.length + cs.length) (bs.map (.int .u8) ++ cs.map (.int .u8))) (hf2 : Fr (blks v) u w2)
    (hk : ∀ b ∈ blks v2, b ∈ blks v ∨ u.heap.size ≤ b) : Out w w2 v2 (bs ++ cs) := by
  obtain ⟨h1, h2, h3⟩ := h
  have z1 := h2.size
  have z2 := hf.size
  refine ⟨by simpa using ho, (h2.trans0 hf).trans hf2 (fun k hk' => .inr (h3 k hk')), fun k hk' => ?_⟩
  rcases hk k hk' with h | h
  · exact h3 k h
  · omega

theorem refUint (n : Nat) (w : World) (hn : n < 18446744073709551616) :
    Calls Try.prog 42 #[.int .u64 n] w fun e w' => ∃ v', e = .returned v' ∧ Out w w' v' (uv n) := by
  refine enter Try.func42 rfl Try.ntmps42 rfl ?_
  refine rn ?_
  have hul := uv_len n hn
  refine c_loopK 4 [0, 3] (σ := Nat × Value × List Int) (fun s g u => g 0 = .int .u64 s.1 ∧ g 3 = s.2.1 ∧ s.1 < 18446744073709551616 ∧ uv n = s.2.2 ++ uv s.1 ∧ Out w u s.2.1 s.2.2)
    (fun s => s.1) (n, .slice none 0 0, []) ⟨rfl, rfl, hn, rfl, Out.nil w⟩ ?_
  rintro ⟨m, vo, bo⟩ g u ⟨h0, h3, hm, hbs, hou⟩
  simp only at h0 h3 hm hbs hou
  rw [eq_upd h3, eq_upd h0]
  have hlen : bo.length ≤ 10 := by
    have := congrArg List.length hbs
    simp only [List.length_append] at this; omega
  refine rn ?_
  refine s_gtr rfl rfl (fun h => ?_) (fun h => ?_)
  · refine rn ?_
    ((with_reducible apply s_build1); (conv => lhs; whnf); exact rfl)
    intro w1 ho1 hf1 hs1
    refine s_append (hou.1.tr0 hf1) rfl ho1.src rfl rfl (by simp [Value.oneCell']) (by unfold maxLen; omega) (by omega) (fun v2 w2 ho2 hf2 hk2 _ => ?_)
    have ec : (128 + (m : Int) % 128) = ((m % 128 + 128 : Nat) : Int) := by omega
    rw [ec] at ho2
    refine rn ?_
    refine q_roundK (m / 128, v2, bo ++ [((m % 128 + 128 : Nat) : Int)]) (by (repeat (first | exact Keep.mrg _ _ _ _ | (refine Keep.hi rfl ?_) | (refine Keep.one rfl ?_) | exact Keep.all rfl | (refine Keep.set rfl ?_)))) ⟨rfl, rfl, by simp only; omega, ?_, hou.app (cs := [_]) hf1 ho2 hf2 hk2⟩ (by simp only; omega)
    simp only
    rw [hbs, uv_ge (by omega)]; simp
  · refine rn ?_
    ((with_reducible apply s_build1); (conv => lhs; whnf); exact rfl)
    intro w1 ho1 hf1 hs1
    refine s_append (hou.1.tr0 hf1) rfl ho1.src rfl rfl (by simp [Value.oneCell']) (by unfold maxLen; omega) (by omega) (fun v2 w2 ho2 hf2 hk2 _ => ?_)
    refine rn ?_
    (apply ret1; exact rfl; (conv => lhs; whnf))
    refine ⟨v2, rfl, ?_⟩
    rw [hbs, uv_lt (by omega)]
    exact hou.app (cs := [_]) hf1 ho2 hf2 hk2

theorem refZigzag (n : Int) (w : World) (hn : InI64 n) :
    Calls Try.prog 59 #[.int .i64 n] w fun e w' => e = .returned (.int .u64 (zz n)) ∧ w = w' := by
  obtain ⟨h1, h2⟩ := hn
  refine enter Try.func59 rfl Try.ntmps59 rfl ?_
  by_cases hz : n < 0
  · refine rn ?_
    (apply ret1; exact rfl; (conv => lhs; whnf))
    exact ⟨by unfold zz; rw [if_pos hz]; congr 2; omega, rfl⟩
  · refine rn ?_
    (apply ret1; exact rfl; (conv => lhs; whnf))
    exact ⟨by unfold zz; rw [if_neg hz]; congr 2; omega, rfl⟩

theorem refInt (n : Int) (w : World) (hn : InI64 n) :
    Calls Try.prog 43 #[.int .i64 n] w fun e w' => ∃ v', e = .returned v' ∧ Out w w' v' (iv n) := by
  refine enter Try.func43 rfl Try.ntmps43 rfl ?_
  refine rn ?_
  refine s_call (refZigzag n w hn) rfl ?_
  rintro _ _ ⟨rfl, rfl⟩
  refine ⟨_, rfl, ?_⟩
  refine s_call (refUint (zz n) w (zz_lt hn.1 hn.2)) rfl ?_
  rintro _ w1 ⟨v1, rfl, h1⟩
  refine ⟨_, rfl, ?_⟩
  refine rn ?_
  (apply ret1; exact rfl; (conv => lhs; whnf))
  exact ⟨v1, rfl, h1⟩

theorem refBool (b : Bool) (w : World) :
    Calls Try.prog 44 #[.bool b] w fun e w' => ∃ v', e = .returned v' ∧ Out w w' v' [if b then 1 else 0] := by
  refine enter Try.func44 rfl Try.ntmps44 rfl ?_
  cases b
  all_goals
    refine rn ?_
    ((with_reducible apply s_build1); (conv => lhs; whnf); exact rfl)
    intro w1 ho1 hf1 hs1
    refine rn ?_
    (apply ret1; exact rfl; (conv => lhs; whnf))
    exact ⟨_, rfl, ho1, hf1, by simp [blks, Value.ownBlock]⟩

theorem refRaw (x : Value) (bs : List Int) (w : World) (hx : Src w x bs.length (bs.map (.int .u8))) (hl : bs.length ≤ 1000000000) :
    Calls Try.prog 45 #[x] w fun e w' => ∃ v', e = .returned v' ∧ Out w w' v' (raw bs) := by
  obtain ⟨ao, c, hxe, _⟩ := id hx
  subst hxe
  refine enter Try.func45 rfl Try.ntmps45 rfl ?_
  refine rn ?_
  refine s_call (refUint bs.length w (by omega)) rfl ?_
  rintro _ w1 ⟨v1, rfl, h1⟩
  refine ⟨_, rfl, ?_⟩
  have hul := uv_len bs.length (by omega)
  refine rn ?_
  refine s_append h1.1 rfl (hx.tr0 h1.2.1) rfl (by simp) (ints_one _ _) (by unfold maxLen; omega) (by omega) (fun v2 w2 ho2 hf2 hk2 _ => ?_)
  refine rn ?_
  (apply ret1; exact rfl; (conv => lhs; whnf))
  exact ⟨v2, rfl, h1.app (Fr.refl _ _) ho2 hf2 hk2⟩

theorem refInts (x : Value) (ns : List Int) (w : World) (hx : Src w x ns.length (ns.map (.int .i64))) (hn : ∀ n ∈ ns, InI64 n) (hl : ns.length ≤ 1000000000) :
    Calls Try.prog 46 #[x] w fun e w' => ∃ v', e = .returned v' ∧ Out w w' v' (ints ns) := by
  obtain ⟨ao, c, hxe, _⟩ := id hx
  subst hxe
  refine enter Try.func46 rfl Try.ntmps46 rfl ?_
  refine rn ?_
  refine s_call (refUint ns.length w (by omega)) rfl ?_
  rintro _ w1 ⟨v1, rfl, h1⟩
  refine ⟨_, rfl, ?_⟩
  have hul := uv_len ns.length (by omega)
  refine rn ?_
  refine c_loopK 5 [3, 4] (σ := Nat × Value) (fun s g u => g 3 = s.2 ∧ g 4 = .int .i64 s.1 ∧ s.1 ≤ ns.length ∧ Out w u s.2 (uv ns.length ++ (ns.take s.1).flatMap iv))
    (fun s => ns.length - s.1) (0, v1) ⟨rfl, rfl, Nat.zero_le _, by simpa using h1⟩ ?_
  rintro ⟨i, vo⟩ g u ⟨h3, h4, hi, hou⟩
  simp only at h3 h4 hi hou
  rw [eq_upd h4, eq_upd h3]
  refine rn ?_
  refine s_lss rfl rfl (fun h => ?_) (fun h => ?_)
  · have hlt : i < ns.length := by omega
    obtain ⟨ad, ha, hcell⟩ := src_at (j := i) (u := .int .i64 ns[i]) (hx.tr0 hou.2.1) (by simp [hlt])
    have hb := hn ns[i] (by simp)
    have hle := flatMap_iv_len (ns.take i) (fun n h => hn n (List.mem_of_mem_take h))
    have hil := iv_len hb.1 hb.2
    rw [List.length_take] at hle
    refine rn ?_
    refine s_index1 rfl rfl rfl hlt ha ?_
    refine s_load rfl hcell ?_
    refine s_call (refInt ns[i] u hb) rfl ?_
    rintro _ w2 ⟨v2, rfl, h2⟩
    refine ⟨_, rfl, ?_⟩
    refine s_append (hou.1.tr0 h2.2.1) rfl h2.1.src rfl (by simp) (ints_one _ _) (by unfold maxLen; rw [List.length_append]; omega) (by rw [List.length_append]; omega) (fun v3 w3 ho3 hf3 hk3 _ => ?_)
    refine rn ?_
    refine q_roundK (i + 1, v3) (by (repeat (first | exact Keep.mrg _ _ _ _ | (refine Keep.hi rfl ?_) | (refine Keep.one rfl ?_) | exact Keep.all rfl | (refine Keep.set rfl ?_)))) ⟨rfl, rfl, by simp only; omega, ?_⟩ (by simp only; omega)
    simp only
    rw [List.take_succ_eq_append_getElem hlt, List.flatMap_append]
    have := hou.app h2.2.1 ho3 hf3 hk3
    simpa using this
  · refine rn ?_
    (apply ret1; exact rfl; (conv => lhs; whnf))
    refine ⟨vo, rfl, ?_⟩
    have e : i = ns.length := by omega
    subst e
    simpa [ints] using hou
end Go.Proofs.Ytinafhpbhajdpaa
