/-
  The reference of trees: node, Made.
-/
import Derived.Test.YtpochcchekoonaaGreatTf
namespace Go.Proofs.YtpochcchekoonaaGreat
open Go.Rf Go.RowKit
set_option linter.unusedVariables false
set_option linter.unusedSimpArgs false
attribute [local irreducible] Code.wp wpList Exit.then Exit.inBlock bodyPost A Calls execOp Addr.add
def ownV (x : Nd) : List V := (if x.kind = 0 then [x.val] else []) ++ x.vals
def frsE : List V → Int
  | [] => 0
  | v :: l => if valV v ≠ 0 then valV v else frsE l
def nodeE (i : Int) (x : Nd) : Int := if formN i x = false then 1 else if frsE (ownV x) ≠ 0 then frsE (ownV x) else if numsN x = false then 5 else 0
theorem frsE_drop {l : List V} {i : Nat} (h : i < l.length) : frsE (l.drop i) = if valV l[i] ≠ 0 then valV l[i] else frsE (l.drop (i + 1)) := by rw [List.drop_eq_getElem_cons h, frsE]

theorem ownV_ok {x : Nd} (hok : NdOk x) : ∀ v ∈ ownV x, VNm v ∧ vsz v ≤ 10000000 := by
  intro v hv
  unfold ownV at hv
  by_cases k0 : x.kind = 0
  · rw [if_pos k0] at hv
    rcases List.mem_append.1 hv with h | h
    · rw [List.mem_singleton.1 h]; exact hok.val
    · exact hok.vals _ h
  · rw [if_neg k0] at hv
    exact hok.vals _ (by simpa using hv)

set_option maxHeartbeats 8000000 in
theorem nodeC (i : Int) (x : Nd) (sw sl sv sk sx : Value) (w : World) (hok : NdOk x) (hw : IS w [] x.ws sw) (hl : TS w [] x.labs sl) (hv : VS w [] x.vals sv) (hk : IS w [] x.kids sk) (hx : VS w [] x.val.kids sx) :
    Calls Tryz.prog 65 #[.int .i64 i, .agg (nc x sw sl sv sk sx).toArray] w fun e w' => e = .returned (.int .i64 (nodeE i x)) ∧ Fr [] w w' := by
  have hlv := hok.lv
  refine enter Tryz.func65 rfl Tryz.ntmps65 rfl ?_
  refine rx ?_
  refine s_box rfl rfl (fun w1 hb1 hf1 hs1 => ?_)
  refine rx ?_
  refine s_call (formedC i x _ _ _ _ _ w1 hok (hw.tr0 hf1) (hl.tr0 hf1) (hv.tr0 hf1) (hk.tr0 hf1) (hx.tr0 hf1)) rfl ?_
  rintro _ w2 ⟨rfl, hf2⟩
  refine ⟨_, rfl, ?_⟩
  have hb2 := hb1.tr0 hf2
  have hF2 := hf1.trans0 hf2
  rcases hfo : formN i x with _ | _
  · refine rx ?_
    (apply ret1; exact rfl; (conv => lhs; whnf))
    exact ⟨by unfold nodeE; rw [if_pos hfo], hF2⟩
  have hv2 := hv.tr0 hF2
  have hx2 := hx.tr0 hF2
  by_cases k0 : x.kind = 0
  case' pos =>
    have e0 : ([] : List V) ++ [x.val] = (if x.kind = 0 then [x.val] else []) := by rw [if_pos k0]; rfl
    refine rx ?_
    refine s_pushA (R := VR) (l := []) (a := x.val) (cs := vc x.val sx) (OwnR.nil _ _ _ _) vrStab rfl rfl rfl ⟨_, rfl, by rw [blks_nil]; exact hx2⟩ rfl rfl rfl (by unfold maxLen; simp) (by simp) (fun v1 u1 ho hf1' hk1 => ?_)
    have hfu : Fr [] w2 u1 := Fr.ofNil hf1'
    have hk0 : ∀ b ∈ blks v1, w2.heap.size ≤ b := fun b hb => by
      rcases hk1 b hb with h | h
      · exact fresh0 h
      · exact h
    clear hf1' hk1
    rw [e0] at ho
  case' neg =>
    have e0 : ([] : List V) = (if x.kind = 0 then [x.val] else []) := by rw [if_neg k0]
    have ho : OwnR w2 33 4 VR [] (.slice none 0 0) := OwnR.nil _ _ _ _
    have hfu : Fr [] w2 w2 := Fr.refl _ _
    have hk0 : ∀ b ∈ blks (.slice none 0 0), w2.heap.size ≤ b := fun b hb => fresh0 hb
    rw [e0] at ho
  all_goals
    have hb3 := hb2.tr0 hfu
    obtain ⟨av, cv, rfl, _⟩ := hv.slice
    have hv3o := (hv2.off hk0).tr0 hfu
    obtain ⟨ys, hsrc, hoff, hrws⟩ := hv3o.rows
    refine rx ?_
    refine s_appR (R := VR) (al := x.vals) ho vrStab rfl rfl hsrc hrws rfl (by unfold maxLen; split <;> simp <;> omega) (by split <;> simp <;> omega) (fun v1 u1 ho1 hf1' hk1 _ => ?_)
    have hF3 : Fr [] w2 u1 := hfu.trans hf1' (fun b hb => .inr (hk0 b hb))
    have hb4 := hb2.tr0 hF3
    have howl : (if x.kind = 0 then [x.val] else []) ++ x.vals = ownV x := rfl
    rw [howl] at ho1
    have hol : (ownV x).length ≤ 1000001 := by unfold ownV; split <;> simp <;> omega
    have hvs := OwnR.vs0 ho1 (by omega)
    obtain ⟨a1, c1, rfl, _⟩ := hvs.slice
    refine rx ?_
    refine c_loopK 9 [7, 8] (σ := Nat) (fun j g z => g 7 = .int .i64 j ∧ j ≤ (ownV x).length ∧ frsE (ownV x) = frsE ((ownV x).drop j) ∧ Fr [] u1 z) (fun j => (ownV x).length - j) 0 ⟨rfl, Nat.zero_le _, rfl, Fr.refl _ _⟩ ?_
    rintro j g z ⟨h7, hj, hc, hfz⟩
    rw [eq_upd h7]
    have hb5 := hb4.tr0 hfz
    have hvz := hvs.tr0 hfz
    have hFz := hF2.trans0 (hF3.trans0 hfz)
    by_cases hlt : j < (ownV x).length
    case pos =>
      obtain ⟨ad, cs1, rfl, ⟨sx1, rfl, hx1⟩, hcell1⟩ := Sl.at hvz.sl VR.len hlt
      rw [frsE_drop hlt] at hc
      have hvo := ownV_ok hok (ownV x)[j] (by simp)
      refine rx ?_
      refine s_call (validR (ownV x)[j] sx1 z hx1 hvo.1 (by omega)) rfl ?_
      rintro _ z1 ⟨rfl, hf3⟩
      refine ⟨_, rfl, ?_⟩
      by_cases he : valV (ownV x)[j] = 0
      · rw [if_neg (by simpa using he)] at hc
        refine rx ?_
        exact q_roundK (j + 1) (by (repeat (first | exact Keep.mrg _ _ _ _ | (refine Keep.hi rfl ?_) | (refine Keep.one rfl ?_) | exact Keep.all rfl | (refine Keep.inn rfl ?_) | (refine Keep.set rfl ?_)))) ⟨rfl, by omega, hc, hfz.trans0 hf3⟩ (by omega)
      · rw [if_pos he] at hc
        refine rx ?_
        (apply ret1; exact rfl; (conv => lhs; whnf))
        refine ⟨?_, hFz.trans0 hf3⟩
        unfold nodeE
        rw [if_neg (by simp [hfo]), hc, if_pos he]
    have h0 : frsE (ownV x) = 0 := by rw [hc, List.drop_eq_nil_of_le (by omega), frsE]
    refine rx ?_
    refine s_call (numbersC x _ _ _ _ _ z hok (hw.tr0 hFz)) rfl ?_
    rintro _ z1 ⟨rfl, hf3⟩
    refine ⟨_, rfl, ?_⟩
    rcases hnn : numsN x with _ | _
    all_goals
      refine rx ?_
      (apply ret1; exact rfl; (conv => lhs; whnf))
      refine ⟨?_, hFz.trans0 hf3⟩
      unfold nodeE
      rw [if_neg (by simp [hfo]), h0, if_neg (by simp)]
      simp [hnn]

def madeV (x : Nd) (kids : List V) : V := if x.name = ⟨#[]⟩ then ⟨2, 0, ⟨#[]⟩, kids⟩ else ⟨3, 0, x.name, kids⟩
set_option maxHeartbeats 4000000 in
theorem made14 (x : Nd) (kids : List V) (sw sl sv sk sx s : Value) (w : World) (hs : VS w [] kids s) :
    Calls Tryz.prog 149 #[.agg (nc x sw sl sv sk sx).toArray, s] w fun e w' => e = .returned (.agg (vc (madeV x kids) s).toArray) ∧ Fr [] w w' := by
  obtain ⟨a, c, rfl, _⟩ := hs.slice
  refine enter Tryz.func149 rfl Tryz.ntmps149 rfl ?_
  refine rx ?_
  refine s_box rfl rfl (fun w1 hb1 hf1 hs1 => ?_)
  refine s_alloc rfl (fun w2 hb2 hf2 hs2 => ?_)
  have hb1' := hb1.tr0 hf2
  have hF2 := hf1.trans0 hf2
  by_cases hn : x.name = ⟨#[]⟩
  · have e : madeV x kids = ⟨2, 0, ⟨#[]⟩, kids⟩ := by unfold madeV; rw [if_pos hn]
    rw [e]
    refine rx ?_
    refine s_build (vc ⟨2, 0, ⟨#[]⟩, kids⟩ (.slice a kids.length c)) rfl ?_
    refine s_storeAggB rfl rfl hb2 (VR.mem1 (w := w) (S := []) ⟨2, 0, ⟨#[]⟩, kids⟩ _ ⟨_, rfl, hs⟩) rfl rfl (fun w5 hb7 hf5 hs5 => ?_)
    refine rx ?_
    exact retc rfl rfl (AggT.load _ (vc ⟨2, 0, ⟨#[]⟩, kids⟩ (.slice a kids.length c)) rfl (fun j x hx => by rw [add_lit]; exact hb7.cell (by simpa using hx))) ⟨rfl, hF2.trans hf5 (by simp; omega)⟩
  · have e : madeV x kids = ⟨3, 0, x.name, kids⟩ := by unfold madeV; rw [if_neg hn]
    rw [e]
    refine rx ?_
    refine s_build (vc ⟨3, 0, x.name, kids⟩ (.slice a kids.length c)) rfl ?_
    refine s_storeAggB rfl rfl hb2 (VR.mem1 (w := w) (S := []) ⟨3, 0, x.name, kids⟩ _ ⟨_, rfl, hs⟩) rfl rfl (fun w5 hb7 hf5 hs5 => ?_)
    refine rx ?_
    exact retc rfl rfl (AggT.load _ (vc ⟨3, 0, x.name, kids⟩ (.slice a kids.length c)) rfl (fun j x hx => by rw [add_lit]; exact hb7.cell (by simpa using hx))) ⟨rfl, hF2.trans hf5 (by simp; omega)⟩
end Go.Proofs.YtpochcchekoonaaGreat
