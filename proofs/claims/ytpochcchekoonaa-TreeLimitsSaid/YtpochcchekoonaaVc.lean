/-
  Contracts of package values: Valid; of the reference's Valid.
-/
import Derived.Test.YtpochcchekoonaaVb
namespace Go.Proofs.Ytpochcchekoonaa
open Go.Rf Go.RowKit
set_option linter.unusedVariables false
attribute [local irreducible] Code.wp wpList Exit.then Exit.inBlock bodyPost A Calls execOp Addr.add

def inNm (c : UInt8) : Bool := decide (97 ≤ c.toNat ∧ c.toNat ≤ 122 ∨ 65 ≤ c.toNat ∧ c.toNat ≤ 90 ∨ 48 ≤ c.toNat ∧ c.toNat ≤ 57 ∨ c.toNat = 95)
def capB : List UInt8 → Bool
  | [] => false
  | c :: r => decide (r.length ≤ 15) && decide (65 ≤ c.toNat) && decide (c.toNat ≤ 90) && r.all inNm
def fmd (v : V) : Bool :=
  if v.kind = 0 then decide (v.s = ⟨#[]⟩ ∧ v.kids.length = 0) else if v.kind = 1 then decide ((v.n = 0 ∨ v.n = 1) ∧ v.s = ⟨#[]⟩ ∧ v.kids.length = 0)
  else if v.kind = 2 then decide (v.n = 0 ∧ v.s = ⟨#[]⟩) else if v.kind = 3 then decide (v.n = 0) && capB v.s.data.toList else false
def fts (v : V) : Bool := decide (v.kids.length ≤ 256 ∧ (v.kind ≠ 3 ∨ v.kids.length ≤ 16))

theorem inName (c : UInt8) (w : World) : Calls Try.prog 100 #[.int .u8 c.toNat] w fun e w' => e = .returned (.bool (inNm c)) ∧ w = w' := by
  refine enter Try.func100 rfl Try.ntmps100 rfl ?_
  (refine rx ?_; repeat' ((first | refine s_eql rfl rfl (fun h => ?_) (fun h => ?_) | refine s_neq rfl rfl (fun h => ?_) (fun h => ?_) | refine s_lss rfl rfl (fun h => ?_) (fun h => ?_) | refine s_leq rfl rfl (fun h => ?_) (fun h => ?_) | refine s_gtr rfl rfl (fun h => ?_) (fun h => ?_) | refine s_geq rfl rfl (fun h => ?_) (fun h => ?_) | refine s_eqlE rfl rfl (fun h => ?_) (fun h => ?_) | refine s_neqE rfl rfl (fun h => ?_) (fun h => ?_) | refine s_lssS rfl rfl (fun h => ?_) (fun h => ?_) | refine s_gtrS rfl rfl (fun h => ?_) (fun h => ?_)) <;> refine rx ?_))
  all_goals
    (apply ret1; exact rfl; (conv => lhs; whnf))
    refine ⟨?_, rfl⟩
    simp only [inNm, Ending.returned.injEq, Value.bool.injEq]
    first | exact (decide_eq_true (by omega)).symm | exact (decide_eq_false (by omega)).symm

theorem all_drop {l : List UInt8} {i : Nat} (h : i < l.length) : (l.drop i).all inNm = (inNm l[i] && (l.drop (i + 1)).all inNm) := by rw [List.drop_eq_getElem_cons h]; rfl

theorem capital (s : ByteArray) (w : World) (hs : s.size ≤ 1000000000000) : Calls Try.prog 86 #[.string s] w fun e w' => e = .returned (.bool (capB s.data.toList)) ∧ w = w' := by
  refine enter Try.func86 rfl Try.ntmps86 rfl ?_
  have hlen : s.data.toList.length = s.size := by simp
  rcases hl : s.data.toList with _ | ⟨c, r⟩
  · have e : s = ⟨#[]⟩ := by cases s; simp at hl; rw [hl]
    subst e
    refine rx ?_
    refine s_eqlE rfl rfl (fun _ => ?_) (fun h => absurd rfl h)
    refine rx ?_
    (apply ret1; exact rfl; (conv => lhs; whnf))
    exact ⟨rfl, rfl⟩
  have hsz : s.size = r.length + 1 := by rw [← hlen, hl]; simp
  have e : ¬ s = ⟨#[]⟩ := by intro h; rw [h] at hl; simp at hl
  have h0 : s.data.toList[0]? = some c := by rw [hl]; rfl
  refine rx ?_
  refine s_gtr rfl rfl (fun h => ?_) (fun h => ?_)
  · refine rx ?_
    (apply ret1; exact rfl; (conv => lhs; whnf))
    refine ⟨?_, rfl⟩
    have : ¬ r.length ≤ 15 := by omega
    simp [capB, this]
  have h15 : r.length ≤ 15 := by omega
  refine rx ?_
  refine s_indexStr (j := 0) rfl rfl h0 ?_
  refine rx ?_
  refine s_lss rfl rfl (fun h => ?_) (fun h => ?_)
  · refine rx ?_
    (apply ret1; exact rfl; (conv => lhs; whnf))
    refine ⟨?_, rfl⟩
    have : ¬ 65 ≤ c.toNat := by omega
    simp [capB, this]
  have h65 : 65 ≤ c.toNat := by omega
  refine rx ?_
  refine s_indexStr (j := 0) rfl rfl h0 ?_
  refine rx ?_
  refine s_gtr rfl rfl (fun h => ?_) (fun h => ?_)
  · refine rx ?_
    (apply ret1; exact rfl; (conv => lhs; whnf))
    refine ⟨?_, rfl⟩
    have : ¬ c.toNat ≤ 90 := by omega
    simp [capB, this]
  have h90 : c.toNat ≤ 90 := by omega
  refine rx ?_
  have hc0 : capB (c :: r) = (s.data.toList.drop 1).all inNm := by rw [hl]; simp [capB, h15, h65, h90]
  refine c_loopK 4 [3] (σ := Nat) (fun i g u => g 3 = .int .i64 i ∧ i ≤ s.size ∧ 1 ≤ i ∧ capB (c :: r) = (s.data.toList.drop i).all inNm ∧ w = u) (fun i => s.size - i) 1 ⟨rfl, by omega, by omega, hc0, rfl⟩ ?_
  rintro i g u ⟨h3, hi, hi1, hc, rfl⟩
  rw [eq_upd h3]
  by_cases hlt : i < s.size
  case neg =>
    refine rx ?_
    (apply ret1; exact rfl; (conv => lhs; whnf))
    refine ⟨?_, rfl⟩
    rw [hc, List.drop_eq_nil_of_le (by rw [hlen]; omega)]; rfl
  have hlt' : i < s.data.toList.length := by rw [hlen]; exact hlt
  refine rx ?_
  refine s_indexStr (j := i) (b := s.data.toList[i]) rfl rfl (by rw [List.getElem?_eq_getElem hlt']) ?_
  refine s_call (inName _ w) rfl ?_
  rintro _ _ ⟨rfl, rfl⟩
  refine ⟨_, rfl, ?_⟩
  rw [all_drop hlt'] at hc
  rcases hq : inNm s.data.toList[i] with _ | _
  · refine rx ?_
    (apply ret1; exact rfl; (conv => lhs; whnf))
    refine ⟨?_, rfl⟩
    rw [hc, hq]; rfl
  · refine rx ?_
    refine q_roundK (i + 1) (by (repeat (first | exact Keep.mrg _ _ _ _ | (refine Keep.hi rfl ?_) | (refine Keep.one rfl ?_) | exact Keep.all rfl | (refine Keep.inn rfl ?_) | (refine Keep.set rfl ?_)))) ⟨rfl, by omega, by omega, ?_, rfl⟩ (by omega)
    rw [hc, hq]; simp

theorem formedP (v : V) (sl : Value) (w : World) (h : VS w [] v.kids sl) (hs : v.s.size ≤ 1000000000000) : Calls Try.prog 59 #[.agg (vc v sl).toArray] w fun e w' => e = .returned (.bool (fmd v)) ∧ Fr [] w w' := by
  obtain ⟨ao, c, rfl, _⟩ := h.slice
  refine enter Try.func59 rfl Try.ntmps59 rfl ?_
  refine rx ?_
  refine s_box rfl rfl (fun w1 hb1 hf1 hs1 => ?_)
  by_cases k3 : v.kind = 3
  · by_cases n0 : v.n = 0
    · refine rx ?_
      refine s_call (capital v.s w1 hs) rfl ?_
      rintro _ _ ⟨rfl, rfl⟩
      refine ⟨_, rfl, ?_⟩
      refine rx ?_
      (apply ret1; exact rfl; (conv => lhs; whnf))
      exact ⟨by simp [fmd, k3, n0], hf1⟩
    · refine rx ?_
      (apply ret1; exact rfl; (conv => lhs; whnf))
      exact ⟨by simp [fmd, k3, n0], hf1⟩
  (refine rx ?_; repeat' ((first | refine s_eql rfl rfl (fun h => ?_) (fun h => ?_) | refine s_neq rfl rfl (fun h => ?_) (fun h => ?_) | refine s_lss rfl rfl (fun h => ?_) (fun h => ?_) | refine s_leq rfl rfl (fun h => ?_) (fun h => ?_) | refine s_gtr rfl rfl (fun h => ?_) (fun h => ?_) | refine s_geq rfl rfl (fun h => ?_) (fun h => ?_) | refine s_eqlE rfl rfl (fun h => ?_) (fun h => ?_) | refine s_neqE rfl rfl (fun h => ?_) (fun h => ?_) | refine s_lssS rfl rfl (fun h => ?_) (fun h => ?_) | refine s_gtrS rfl rfl (fun h => ?_) (fun h => ?_)) <;> refine rx ?_))
  all_goals
    (apply ret1; exact rfl; (conv => lhs; whnf))
    refine ⟨?_, hf1⟩
    simp_all [fmd]

theorem fitsP (v : V) (sl : Value) (w : World) (h : VS w [] v.kids sl) : Calls Try.prog 60 #[.agg (vc v sl).toArray] w fun e w' => e = .returned (.bool (fts v)) ∧ Fr [] w w' := by
  obtain ⟨ao, c, rfl, _⟩ := h.slice
  refine enter Try.func60 rfl Try.ntmps60 rfl ?_
  refine rx ?_
  refine s_box rfl rfl (fun w1 hb1 hf1 hs1 => ?_)
  (refine rx ?_; repeat' ((first | refine s_eql rfl rfl (fun h => ?_) (fun h => ?_) | refine s_neq rfl rfl (fun h => ?_) (fun h => ?_) | refine s_lss rfl rfl (fun h => ?_) (fun h => ?_) | refine s_leq rfl rfl (fun h => ?_) (fun h => ?_) | refine s_gtr rfl rfl (fun h => ?_) (fun h => ?_) | refine s_geq rfl rfl (fun h => ?_) (fun h => ?_) | refine s_eqlE rfl rfl (fun h => ?_) (fun h => ?_) | refine s_neqE rfl rfl (fun h => ?_) (fun h => ?_) | refine s_lssS rfl rfl (fun h => ?_) (fun h => ?_) | refine s_gtrS rfl rfl (fun h => ?_) (fun h => ?_)) <;> refine rx ?_))
  all_goals
    (apply ret1; exact rfl; (conv => lhs; whnf))
    refine ⟨?_, hf1⟩
    simp only [fts, Ending.returned.injEq, Value.bool.injEq]
    first | exact (decide_eq_true (by omega)).symm | exact (decide_eq_false (by omega)).symm
end Go.Proofs.Ytpochcchekoonaa
