/-
  lists and lives of the law package.
-/
import Derived.Test.YtcogpedfnnfnaaaHl
namespace Go.Proofs.Ytcogpedfnnfnaaa
open Go.Rf Go.RowKit
set_option linter.unusedVariables false
set_option maxHeartbeats 8000000
attribute [local irreducible] Code.wp wpList Exit.then Exit.inBlock bodyPost A Calls execOp Addr.add

theorem nv_eq (xs : List Nat) : nv xs = (xs.map (fun (n : Nat) => (n : Int))).map (.int .i64) := by simp [nv]
theorem cast_inj {xs ys : List Nat} : xs.map (fun (n : Nat) => (n : Int)) = ys.map (fun (n : Nat) => (n : Int)) ↔ xs = ys := by
  constructor
  · intro h
    have := congrArg (List.map Int.toNat) h
    rw [List.map_map, List.map_map] at this
    have e : (Int.toNat ∘ fun (n : Nat) => (n : Int)) = id := by funext n; simp
    rw [e] at this
    simpa using this
  · intro h; rw [h]
def LS (w : World) (a : List (List Nat)) (sl : Value) : Prop := Sl w [] (IR w []) a sl
theorem LS.tr0 {w w' : World} {l : List (List Nat)} {sl : Value} (h : LS w l sl) (hf : Fr [] w w') : LS w' l sl := (Sl.tr0 h hf).imp fun x cs _ hr => irStab.old hr hf (by simp)
theorem irLen {w : World} {S : List Nat} : ∀ x cs, IR w S x cs → cs.length = 1 := fun x cs h => irStab.len h

theorem listsC (a b : List (List Nat)) (sa sb : Value) (w : World) (ha : LS w a sa) (hb : LS w b sb) (hla : a.length ≤ 1000000) (hxs : ∀ x ∈ a, x.length ≤ 1000000) :
    Calls Try.prog 31 #[sa, sb] w fun r w' => r = .returned (.bool (decide (a = b))) ∧ Fr [] w w' := by
  obtain ⟨aa, ca, rfl, _⟩ := Sl.slice ha
  obtain ⟨ab, cb, rfl, _⟩ := Sl.slice hb
  refine enter Try.func31 rfl Try.ntmps31 rfl ?_
  by_cases hne : a.length = b.length
  case neg =>
    refine rx ?_
    (apply ret1; exact rfl; (conv => lhs; whnf))
    exact ⟨by rw [decide_eq_false (fun e => hne (by rw [e]))], Fr.refl _ _⟩
  refine rx ?_
  refine c_loopK 6 [5] (σ := Nat) (fun i g u => g 5 = .int .i64 i ∧ i ≤ a.length ∧ a.take i = b.take i ∧ Fr [] w u) (fun i => a.length - i) 0 ⟨rfl, Nat.zero_le _, rfl, Fr.refl _ _⟩ ?_
  rintro i g u ⟨h5, hi, htk, hf⟩
  rw [eq_upd h5]
  by_cases hlt : i < a.length
  case neg =>
    refine rx ?_
    (apply ret1; exact rfl; (conv => lhs; whnf))
    rw [List.take_of_length_le (by omega), List.take_of_length_le (by omega)] at htk
    exact ⟨by rw [decide_eq_true htk], hf⟩
  have hlt2 : i < b.length := by omega
  obtain ⟨ad, cs, hao, ⟨sx, rfl, hx, _⟩, hcx⟩ := Sl.at (LS.tr0 ha hf) irLen hlt
  obtain ⟨bd, cs, hbo, ⟨sy, rfl, hy, _⟩, hcy⟩ := Sl.at (LS.tr0 hb hf) irLen hlt2
  subst hao hbo
  have hcx0 : ∀ q, Fr [] u q → q.cell? (ad.add (i * 1)) = some sx := fun q hq => by
    have := (hcx.tr0 hq) 0 sx rfl
    rwa [add_add, Nat.add_zero] at this
  have hcy0 : ∀ q, Fr [] u q → q.cell? (bd.add (i * 1)) = some sy := fun q hq => by
    have := (hcy.tr0 hq) 0 sy rfl
    rwa [add_add, Nat.add_zero] at this
  refine rx ?_
  (refine d_begin (fun z => Fr [] u z) (by kernel_rfl) rfl ?_)
  have hS : Fr [] u u.drew := Fr.drew _ _
  ((first | refine d_tx 0 hS ?_ | refine d_ty 0 hS ?_ | refine d_tn 0 hS ?_); (first | refine d_tx 1 hS ?_ | refine d_ty 1 hS ?_ | refine d_tn 1 hS ?_); (first | refine d_tx 2 hS ?_ | refine d_ty 2 hS ?_ | refine d_tn 2 hS ?_))
  (apply d_take (i := 3); exact rfl; kernel_rfl; kernel_rfl; kernel_rfl; (intro u hu; exact r_load rfl (hcx0 _ hu)); exact hS)
  ((first | refine d_tx 4 hS ?_ | refine d_ty 4 hS ?_ | refine d_tn 4 hS ?_); (first | refine d_tx 5 hS ?_ | refine d_ty 5 hS ?_ | refine d_tn 5 hS ?_); (first | refine d_tx 6 hS ?_ | refine d_ty 6 hS ?_ | refine d_tn 6 hS ?_))
  (apply d_take (i := 7); exact rfl; kernel_rfl; kernel_rfl; kernel_rfl; (intro u hu; exact r_load rfl (hcy0 _ hu)); exact hS)
  refine d_one (i := 8) rfl (by kernel_rfl) ?_
  have hx' := hx.tr0 hS
  have hy' := hy.tr0 hS
  rw [nv_eq] at hx' hy'
  have hxl := hxs a[i] (by simp)
  refine s_call (sameInts sx sy (a[i].map (fun (n : Nat) => (n : Int))) (b[i].map (fun (n : Nat) => (n : Int))) u.drew (by simpa using hx') (by simpa using hy') (by simp; omega)) rfl ?_
  rintro _ u1 ⟨rfl, hf1⟩
  refine ⟨_, rfl, ?_⟩
  have hS1 := hS.trans0 hf1
  refine wpList_nil (q_held hS1 ?_)
  have hd : decide (a[i].map (fun (n : Nat) => (n : Int)) = b[i].map (fun (n : Nat) => (n : Int))) = decide (a[i] = b[i]) := by simp only [cast_inj]
  rw [hd]
  by_cases he : a[i] = b[i]
  · rw [decide_eq_true he]
    ((first | refine d_tx 9 hS1 ?_ | refine d_ty 9 hS1 ?_ | refine d_tn 9 hS1 ?_))
    (refine d_done (by kernel_rfl) ?_)
    refine rx ?_
    refine q_roundK (i + 1) (by (repeat (first | exact Keep.mrg _ _ _ _ | (refine Keep.hi rfl ?_) | (refine Keep.one rfl ?_) | exact Keep.all rfl | (refine Keep.inn rfl ?_) | (refine Keep.set rfl ?_)))) ⟨rfl, by omega, ?_, hf.trans0 hS1⟩ (by omega)
    rw [List.take_succ_eq_append_getElem hlt, List.take_succ_eq_append_getElem hlt2, htk, he]
  · rw [decide_eq_false he]
    ((first | refine d_tx 9 hS1 ?_ | refine d_ty 9 hS1 ?_ | refine d_tn 9 hS1 ?_))
    (refine d_done (by kernel_rfl) ?_)
    refine rx ?_
    (apply ret1; exact rfl; (conv => lhs; whnf))
    refine ⟨?_, hf.trans0 hS1⟩
    rw [decide_eq_false]
    intro e
    subst e
    exact he rfl

def lv1 : Ev := ⟨0, 0, ⟨#[112, 117, 116]⟩, [vN 1], V0⟩
def lv2 : Ev := ⟨0, 1, ⟨#[103, 101, 116]⟩, [], V0⟩
def lv3 : Ev := ⟨1, 0, ⟨#[]⟩, [], V0⟩
def lv4 : Ev := ⟨1, 1, ⟨#[]⟩, [], V0⟩
theorem leafOk (k n : Int) : VOk ⟨k, n, ⟨#[]⟩, []⟩ := ⟨.mk (by show 0 ≤ 1000000000000; omega) (by simp), by simp [vsz, vszs]⟩
theorem lvA : validH [lv1, lv2, lv3, lv4] = 0 := by decide +kernel
theorem lvB : validH [lv1, lv2, lv3, evCrash] = 0 := by decide +kernel
theorem lvOA : ordersP (opsFrom 0 [lv1, lv2, lv3, lv4]) 9 = [[0, 1], [1, 0]] := by decide +kernel
theorem lvOB : ordersP (opsFrom 0 [lv1, lv2, lv3, evCrash]) 9 = [[0], [0, 1], [1, 0]] := by decide +kernel
theorem lvN (e : Ev) (h : e ∈ [lv1, lv2, lv3, lv4, evCrash]) : EvOk e := by
  simp only [List.mem_cons, List.not_mem_nil, or_false] at h
  rcases h with rfl | rfl | rfl | rfl | rfl
  · exact ⟨fun v hv => by simp [lv1] at hv; subst hv; exact leafOk 0 1, leafOk 0 0⟩
  all_goals exact ⟨fun v hv => (by cases hv), leafOk 0 0⟩
end Go.Proofs.Ytcogpedfnnfnaaa
