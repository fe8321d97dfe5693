/-
  Calls that may panic; package tree: plains, read's choose. Package tree: the closures of read.
-/
import Derived.Test.YtpochcchekoonaaGreatUd
import Derived.Recover
namespace Go.Rf
open Go.RowKit
set_option linter.unusedVariables false
set_option linter.unusedSimpArgs false
section
variable {D : Dfs}
variable {P : Program} {ops : Array Oper} {Q : Exit → Act → World → Prop} {rest : List Oper} {n : Nat} {f : Env} {w : World}
variable {d : Nat} {ty : TypeId} {ps : String} {af : Array Edge} {x y : Operand} {t : Nat}
/-- how a call that may panic goes on -/
def Goes (P : Program) (ops : Array Oper) (Q : Exit → Act → World → Prop) (rest : List Oper) (n : Nat) (f : Env) (d : Nat) [D : Dfs] : Ending → World → Prop
  | .returned v, w' => wpList P ops Q rest (A n (upd f d v)) w'
  | .panicked ch, w' => Q (.panic ch) (A n f) w'
  | .outgrown, _ => False
theorem s_callVP {k : Nat} {g : Nat} {l : List Operand} {first cap vs all : List Value} {at_ : Array TypeId} {R : Ending → World → Prop} [F : FnT P k] (hc : Calls P k all.toArray w R) (hg : ev n f (.tmp g) = .func (.func k) first.toArray cap.toArray) (ha : evs n f l = vs)
    (hall : first ++ vs ++ cap = all) (h : ∀ e w', R e w' → Goes P ops Q rest n f d e w') :
    wpList P ops Q (⟨some d, .call { callee := .value (.tmp g), args := l.toArray, argTypes := at_ }, ty, ps, af, none⟩ :: rest) (A n f) w := by
  obtain ⟨fn, hf, hn, hb⟩ := F.f
  subst hall
  refine wpList_plain rfl fun K hK => ?_
  unfold Oper.wp
  rw [A_eval]
  have hr : (execOp (ev n f) ⟨some d, .call { callee := .value (.tmp g), args := l.toArray, argTypes := at_ }, ty, ps, af, none⟩).run P w = .ok (.enter k (first ++ vs ++ cap).toArray) w := by
    simp only [execOp, resolve, invoke, callFunc, hg, Deferred.ofValue, List.map_toArray, evs_map, ha]
    have hn' : ¬ fn.name = "runtime.NumGoroutine" := by simpa using hn
    have hb' : ¬ fn.body = none := by intro e; rw [e] at hb; cases hb
    simp [hf, hn', hb']
  rw [hr]
  show Calls P k (first ++ vs ++ cap).toArray w _
  refine hc.mono fun e w' hR => ?_
  have hG := h e w' hR
  cases e with
  | returned v =>
    show K _ _
    rw [A_put]
    exact hK _ _ hG
  | panicked ch => exact hG
  | outgrown => exact hG.elim
theorem s_iface {m : Nat} {v : Value} [G : AggT P t m] (hx : ev n f x = v) (h : wpList P ops Q rest (A n (upd f d (.iface t v))) w) : wpList P ops Q (⟨some d, .makeInterface t x, ty, ps, af, none⟩ :: rest) (A n f) w := by
  obtain ⟨dd, hd, ha⟩ := G.agg
  refine s_run ?_ h
  cases dd <;> simp_all [execOp, Instr.makeInterface, run_underlying hd, aggD]
theorem s_panic {tt : Nat} {v : Value} (hx : ev n f x = .iface tt v) (h : Q (.panic [{ v := .iface tt v, recovered := false }]) (A n f) w) : wpList P ops Q (⟨none, .panic x, ty, ps, af, none⟩ :: rest) (A n f) w := by
  refine wpList_plain rfl fun K hK => ?_
  unfold Oper.wp
  rw [A_eval]
  have hr : (execOp (ev n f) ⟨none, .panic x, ty, ps, af, none⟩).run P w = .halt (.panic (.iface tt v)) w := by
    simp [execOp, Instr.panic, hx, goPanic, Sem.run]
  rw [hr]
  exact h
theorem q_then_panic {K : Act → World → Prop} {a : Act} {ch : List PanicEntry} (h : Q (.panic ch) a w) : Exit.then K Q (.panic ch) a w := h
theorem q_blk_panic {i : Nat} {a : Act} {ch : List PanicEntry} (h : Q (.panic ch) a w) : Exit.inBlock i Q (.panic ch) a w := h
end
theorem panic0 {P : Program} {fn : Func} {R : Ending → World → Prop} {n : Nat} {f : Env} {w : World} {ch : List PanicEntry} (h : R (.panicked ch) w) : bodyPost P fn R (.panic ch) (A n f) w := ⟨rfl, h⟩
end Go.Rf
namespace Go.Proofs.YtpochcchekoonaaGreat
open Go.Rf Go.RowKit
set_option linter.unusedVariables false
set_option linter.unusedSimpArgs false
attribute [local irreducible] Code.wp wpList Exit.then Exit.inBlock bodyPost A Calls execOp Addr.add

/-! ### plains -/
theorem pl_map {l : List Bool} {i : Nat} {v : Bool} : (l.map Value.bool).set i (.bool v) = (l.set i v).map .bool := by rw [List.map_set]
theorem set_nextB {l : List Bool} {i n : Nat} {v : Bool} (hl : l.length = i) (hi : i < n) : (l ++ List.replicate (n - i) false).set i v = (l ++ [v]) ++ List.replicate (n - (i + 1)) false := by
  obtain ⟨m, hm⟩ : ∃ m, n - i = m + 1 := ⟨n - i - 1, by omega⟩
  rw [hm, show n - (i + 1) = m by omega, List.set_append_right _ _ (by omega), hl, Nat.sub_self, List.replicate_succ, List.set_cons_zero, List.append_assoc]
  rfl
theorem keep_nextB {l : List Bool} {i n : Nat} (hi : i < n) : l ++ List.replicate (n - i) false = (l ++ [false]) ++ List.replicate (n - (i + 1)) false := by
  obtain ⟨m, hm⟩ : ∃ m, n - i = m + 1 := ⟨n - i - 1, by omega⟩
  rw [hm, show n - (i + 1) = m by omega, List.replicate_succ, List.append_assoc]
  rfl
theorem all_takeB {l : List Int} {f : Int → Bool} {j : Nat} (hj : j < l.length) : (l.take (j + 1)).all f = ((l.take j).all f && f l[j]) := by
  rw [List.take_succ_eq_append_getElem hj, List.all_append]; simp
set_option maxHeartbeats 16000000 in
theorem plainsP (t : List Nd) (hv : VT t) (hok : ∀ x ∈ t, NdOk x) (S : List Nat) (sn : Value) (wb b A F : Nat) (u : World) (hw : WalkM t S sn wb b A F u) (hn : NS u S t sn) :
    Calls Tryz.prog 117 #[.agg #[sn], .pointer (some ⟨wb, 0, none⟩)] u fun e u' => ∃ PL, e = .returned (.slice (some ⟨PL, 0, none⟩) t.length t.length) ∧ Blk u' PL ((plsT t).map .bool) 4 ∧ u.heap.size ≤ PL ∧ Fr [] u u' := by
  have hl : t.length ≤ 1000000 := by have := hv.len; omega
  obtain ⟨an, cn, rfl, _⟩ := hn.slice
  refine enter Tryz.func117 rfl Tryz.ntmps117 rfl ?_
  refine rx ?_
  refine s_box (l := [.slice an t.length cn]) rfl rfl (fun u1 hb1 hf1 hs1 => ?_)
  refine rx ?_
  refine s_makeS (k := t.length) rfl rfl (by omega) (by unfold maxLen; omega) (fun u2 ho2 hf2 hs2 => ?_)
  obtain ⟨PL, hPL⟩ : ∃ PL, PL = u1.heap.size := ⟨_, rfl⟩
  rw [← hPL] at ho2 ⊢
  have hbP := ho2.blk
  rw [zeros_bool] at hbP
  have hF2 := hf1.trans0 hf2
  have hb12 := hb1.tr0 hf2
  have hw2 := hw.tr0 hF2
  have hn2 := hn.tr0 hF2
  refine rx ?_
  refine c_loop (σ := Nat) (fun i g z => g 1 = .pointer (some ⟨wb, 0, none⟩) ∧ g 2 = .pointer (some ⟨u.heap.size, 0, none⟩) ∧ g 5 = .slice (some ⟨PL, 0, none⟩) t.length t.length ∧ g 16 = .int .i64 t.length ∧ g 17 = .int .i64 (i : Nat) ∧ i ≤ t.length ∧ Blk z PL ((plsT (t.take i) ++ List.replicate (t.length - i) false).map .bool) 4 ∧ Fr [PL] u2 z) (fun i => t.length - i) 0 ⟨rfl, rfl, rfl, rfl, rfl, Nat.zero_le _, by simpa [plsT, plGo] using hbP, Fr.refl _ _⟩ ?_
  rintro i g z ⟨h1, h2, h5, h16, h17, hi, hbz, hfz⟩
  rw [eq_upd h1, eq_upd h2, eq_upd h5, eq_upd h16, eq_upd h17]
  have hfuz : Fr [] u z := hF2.trans hfz (by simp; omega)
  by_cases hlt : i < t.length
  case neg =>
    have hil : i = t.length := by omega
    subst hil
    rw [List.take_length, Nat.sub_self, List.replicate_zero, List.append_nil] at hbz
    refine rx ?_
    (apply ret1; exact rfl; (conv => lhs; whnf))
    exact ⟨PL, rfl, hbz, by omega, hfuz⟩
  have hb1z := hb12.tr hfz (by simp; omega)
  have hwz := hw.tr0 hfuz
  obtain ⟨ad, rfl, hpn0⟩ := NS.ptr hn hlt
  generalize hpn : ad.add (i * 12) = pn at hpn0
  have hokx := hok t[i] (by simp)
  have hlk := hokx.lk
  have hl0 := hv.l0 hlt
  have hnP : plsT (t.take (i + 1)) = plsT (t.take i) ++ [pT t i] := by rw [List.take_succ_eq_append_getElem hlt, plsT_snoc, pT_eq hlt, lT_eq hlt]
  have hlp : (plsT (t.take i)).length = i := by rw [plsT_len, List.length_take]; omega
  have hpe := pT_eq hlt
  have hPl : (plsT (t.take i) ++ List.replicate (t.length - i) false).length = t.length := by rw [List.length_append, hlp, List.length_replicate]; omega
  refine rx ?_
  rw [hpn]
  refine s_call (choicesP hwz hlt) rfl ?_
  rintro _ _ ⟨rfl, rfl⟩
  refine ⟨_, rfl, ?_⟩
  by_cases hpos : 0 < lT t i
  · have hz : pT t i = false := by rw [hpe]; unfold plN; rw [decide_eq_false (by simpa using hpos)]; rfl
    rw [hz] at hnP
    rw [keep_nextB hlt, ← hnP] at hbz
    refine rx ?_
    exact q_round (i + 1) ⟨rfl, rfl, rfl, rfl, rfl, by omega, hbz, hfz⟩ (by omega)
  have hpe' : pT t i = (decide (t[i].kind ≠ 3 ∨ t[i].kids.length = 0) && t[i].kids.all (pAt (plsT (t.take i)))) := by rw [hpe]; unfold plN; rw [decide_eq_true hpos]; rfl
  obtain ⟨hpS, _, hc, ⟨sw, sl, sv, sk, sx, rfl, _, _, _, hk, hx⟩⟩ := hpn0
  obtain ⟨ak, ck, rfl, _⟩ := hk.slice
  have hcz := hc.tr0 hfuz
  have hkz := hk.tr0 hfuz
  obtain ⟨b0, hb0⟩ : ∃ b0, decide (t[i].kind ≠ 3 ∨ t[i].kids.length = 0) = b0 := ⟨_, rfl⟩
  rw [hb0] at hpe'
  refine rx ?_
  -- the first mark
  refine w_cut (fun g y => g 1 = .pointer (some ⟨wb, 0, none⟩) ∧ g 2 = .pointer (some ⟨u.heap.size, 0, none⟩) ∧ g 5 = .slice (some ⟨PL, 0, none⟩) t.length t.length ∧ g 6 = .int .i64 (i : Nat) ∧ g 7 = .pointer (some pn) ∧ g 16 = .int .i64 t.length ∧ g 17 = .int .i64 (i : Nat) ∧ Blk y PL ((plsT (t.take i) ++ [b0] ++ List.replicate (t.length - (i + 1)) false).map .bool) 4 ∧ Fr [PL] u2 y) ?_ ?_
  · by_cases k3 : t[i].kind = 3
    case' pos => by_cases hk0 : t[i].kids.length = 0
    all_goals
      have hb0' := hb0
      first
      | (rw [decide_eq_true (by omega)] at hb0')
      | (rw [decide_eq_false (by omega)] at hb0')
      subst hb0'
      refine rx ?_
      rw [add_lit, Nat.zero_add, Nat.mul_one]
      refine s_storeBj (v := .bool _) rfl rfl rfl hbz (by rw [List.length_map, hPl]; omega) (fun z1 hb1 hf1' hs1' => ?_)
      rw [pl_map, set_nextB hlp hlt] at hb1
      refine wpList_nil (q_cut ⟨rfl, rfl, rfl, rfl, rfl, rfl, rfl, hb1, hfz.trans hf1' (by simp)⟩)
  rintro g3 y ⟨q1, q2, q5, q6, q7, q16, q17, hby, hfy⟩
  rw [eq_upd q1, eq_upd q2, eq_upd q5, eq_upd q6, eq_upd q7, eq_upd q16, eq_upd q17]
  have hfuy : Fr [] u y := hF2.trans hfy (by simp; omega)
  have hcy := hc.tr0 hfuy
  refine rx ?_
  refine c_loopK 18 [9] (σ := Nat) (fun j g q => g 47 = .slice ak t[i].kids.length ck ∧ g 48 = .int .i64 t[i].kids.length ∧ g 49 = .int .i64 (j : Nat) ∧ j ≤ t[i].kids.length ∧ Blk q PL ((plsT (t.take i) ++ [b0 && (t[i].kids.take j).all (pAt (plsT (t.take i)))] ++ List.replicate (t.length - (i + 1)) false).map .bool) 4 ∧ Fr [PL] u2 q) (fun j => t[i].kids.length - j) 0 ⟨rfl, rfl, rfl, Nat.zero_le _, by simpa using hby, hfy⟩ ?_
  rintro j g4 q ⟨h47, h48, h49, hj, hbq, hfq⟩
  rw [eq_upd h47, eq_upd h48, eq_upd h49]
  by_cases hjl : j < t[i].kids.length
  case neg =>
    have he : t[i].kids.take j = t[i].kids := List.take_of_length_le (by omega)
    rw [he, ← hpe', ← hnP] at hbq
    refine rx ?_
    exact q_round (i + 1) ⟨rfl, rfl, rfl, rfl, rfl, by omega, hbq, hfq⟩ (by omega)
  have hfuq : Fr [] u q := hF2.trans hfq (by simp; omega)
  obtain ⟨ad1, rfl, hcell⟩ := Ls.at (hk.tr0 hfuq) hjl
  obtain ⟨p, hp, hpi⟩ := hv.kid hlt (List.getElem_mem hjl)
  rw [hp] at hcell
  have hcq := Cells.ofBlk hbq
  obtain ⟨b1, hb1e⟩ : ∃ b1, (b0 && (t[i].kids.take j).all (pAt (plsT (t.take i)))) = b1 := ⟨_, rfl⟩
  rw [hb1e] at hbq hcq
  have hgi : ((plsT (t.take i) ++ [b1] ++ List.replicate (t.length - (i + 1)) false).map Value.bool)[i]? = some (.bool b1) := by
    rw [List.getElem?_map, List.append_assoc, List.getElem?_append_right (by omega), hlp, Nat.sub_self]; rfl
  have hgp : ((plsT (t.take i) ++ [b1] ++ List.replicate (t.length - (i + 1)) false).map Value.bool)[p]? = some (.bool (pAt (plsT (t.take i)) t[i].kids[j])) := by
    rw [List.getElem?_map, List.append_assoc, List.getElem?_append_left (by omega), hp]
    unfold pAt
    rw [Int.toNat_natCast, List.getD_eq_getElem?_getD, List.getElem?_eq_getElem (by omega)]; rfl
  have hPl2 : (plsT (t.take i) ++ [b1] ++ List.replicate (t.length - (i + 1)) false).length = t.length := by simp [hlp]; omega
  have hst : ∀ b2 : Bool, (plsT (t.take i) ++ [b1] ++ List.replicate (t.length - (i + 1)) false).set i b2 = plsT (t.take i) ++ [b2] ++ List.replicate (t.length - (i + 1)) false := fun b2 => by
    rw [List.append_assoc, List.set_append_right _ _ (by omega), hlp, Nat.sub_self, List.append_assoc]; rfl
  have hnx : (b0 && (t[i].kids.take (j + 1)).all (pAt (plsT (t.take i)))) = (b1 && pAt (plsT (t.take i)) t[i].kids[j]) := by rw [all_takeB hjl, ← Bool.and_assoc, hb1e]
  generalize pAt (plsT (t.take i)) t[i].kids[j] = b2 at hgp hnx
  refine rx ?_
  rw [Nat.mul_one]
  refine s_load rfl hcell ?_
  refine rx ?_
  rw [Nat.mul_one]
  refine s_loadC rfl hcq hgi ?_
  cases b1 with
  | false =>
    refine rx ?_
    rw [Nat.mul_one, add_lit PL 0 i, Nat.zero_add]
    refine s_storeBj (v := .bool false) rfl rfl rfl hbq (by rw [List.length_map, hPl2]; omega) (fun z1 hb1 hf1' hs1' => ?_)
    rw [pl_map, hst] at hb1
    refine rx ?_
    exact q_roundK (j + 1) (by (repeat (first | exact Keep.mrg _ _ _ _ | (refine Keep.hi rfl ?_) | (refine Keep.one rfl ?_) | exact Keep.all rfl | (refine Keep.inn rfl ?_) | (refine Keep.set rfl ?_)))) ⟨rfl, rfl, rfl, by omega, (by rw [hnx]; exact hb1), hfq.trans hf1' (by simp)⟩ (by omega)
  | true =>
    refine rx ?_
    rw [Nat.mul_one]
    refine s_loadC rfl hcq hgp ?_
    refine rx ?_
    rw [Nat.mul_one, add_lit PL 0 i, Nat.zero_add]
    refine s_storeBj (v := .bool b2) rfl rfl rfl hbq (by rw [List.length_map, hPl2]; omega) (fun z1 hb1 hf1' hs1' => ?_)
    rw [pl_map, hst] at hb1
    refine rx ?_
    exact q_roundK (j + 1) (by (repeat (first | exact Keep.mrg _ _ _ _ | (refine Keep.hi rfl ?_) | (refine Keep.one rfl ?_) | exact Keep.all rfl | (refine Keep.inn rfl ?_) | (refine Keep.set rfl ?_)))) ⟨rfl, rfl, rfl, by omega, (by rw [hnx]; exact hb1), hfq.trans hf1' (by simp)⟩ (by omega)
end Go.Proofs.YtpochcchekoonaaGreat
namespace Go.Proofs.YtpochcchekoonaaGreat
open Go.Rf Go.RowKit
set_option linter.unusedVariables false
set_option linter.unusedSimpArgs false
attribute [local irreducible] Code.wp wpList Exit.then Exit.inBlock bodyPost A Calls execOp Addr.add
def spC (l : List Sp) : List Value := l.flatMap fun x => [.int .i64 x.1, .int .i64 x.2.1, .int .i64 x.2.2]
theorem spC_app (l m : List Sp) : spC (l ++ m) = spC l ++ spC m := by simp [spC]
theorem spC_len (l : List Sp) : (spC l).length = l.length * 3 := by
  induction l with
  | nil => rfl
  | cons x l ih => simp only [spC, List.flatMap_cons, List.length_append, List.length_cons, List.length_nil] at ih ⊢; omega
theorem spC_one (l : List Sp) : ∀ u ∈ spC l, u.oneCell' = true := by
  intro u hu
  obtain ⟨x, _, hx⟩ := List.mem_flatMap.1 hu
  simp only [List.mem_cons, List.not_mem_nil, or_false] at hx
  rcases hx with rfl | rfl | rfl <;> rfl
theorem spC_set (l m : List Sp) (a b c e : Nat) : (spC (l ++ (a, b, c) :: m)).take (l.length * 3 + 2) ++ [.int .i64 e] ++ (spC (l ++ (a, b, c) :: m)).drop (l.length * 3 + 2 + 1) = spC (l ++ (a, b, e) :: m) := by
  have h1 : spC (l ++ (a, b, c) :: m) = (spC l ++ [.int .i64 a, .int .i64 b]) ++ (.int .i64 c :: spC m) := by rw [spC_app, List.append_assoc]; rfl
  have h2 : (spC l ++ [Value.int .i64 a, .int .i64 b]).length = l.length * 3 + 2 := by rw [List.length_append, spC_len]; rfl
  have h3 : spC (l ++ (a, b, e) :: m) = (spC l ++ [.int .i64 a, .int .i64 b]) ++ (.int .i64 e :: spC m) := by rw [spC_app, List.append_assoc]; rfl
  rw [h1, h3, ← h2, List.take_left, List.drop_append]
  have : (spC l ++ [Value.int .i64 a, .int .i64 b]).length + 1 - (spC l ++ [Value.int .i64 a, .int .i64 b]).length = 1 := by omega
  rw [this, List.drop_eq_nil_of_le (by omega)]
  simp
/-- the variables that the closures share -/
structure Cp where
  (tb vb fb plb PL pathb chb fob ab rb wb b A F : Nat)
  (sn sp : Value)
  flag : Bool
def Cp.ch (c : Cp) : Value := .func (.func 118) #[] #[.pointer (some ⟨c.ab, 0, none⟩), .pointer (some ⟨c.pathb, 0, none⟩), .pointer (some ⟨c.tb, 0, none⟩)]
def Cp.caps (c : Cp) : List Value := [.pointer (some ⟨c.tb, 0, none⟩), .pointer (some ⟨c.vb, 0, none⟩), .pointer (some ⟨c.fb, 0, none⟩), .pointer (some ⟨c.plb, 0, none⟩), .pointer (some ⟨c.chb, 0, none⟩), .pointer (some ⟨c.fob, 0, none⟩), .pointer (some ⟨c.ab, 0, none⟩), .pointer (some ⟨c.rb, 0, none⟩)]
structure RdCap (c : Cp) (t : List Nd) (path : List Int) (S : List Nat) (u : World) : Prop where
  tb : Blk u c.tb [c.sn] 25
  nodes : NS u S t c.sn
  walk : WalkM t S c.sn c.wb c.b c.A c.F u
  vb : Blk u c.vb [.pointer (some ⟨c.wb, 0, none⟩)] 72
  fb : Blk u c.fb [.bool c.flag] 4
  plb : Blk u c.plb [.slice (some ⟨c.PL, 0, none⟩) t.length t.length] 63
  PL : Blk u c.PL ((plsT t).map .bool) 4
  pathb : Blk u c.pathb [c.sp] 22
  pathS : IS u S path c.sp
  chb : Blk u c.chb [c.ch] 141
  fob : Blk u c.fob [.func (.func 119) #[] c.caps.toArray] 61
  out : ∀ x ∈ [c.tb, c.vb, c.fb, c.plb, c.PL, c.pathb, c.chb, c.fob], x ∉ S
  plen : path.length ≤ 1000000000
section
variable {c : Cp} {t : List Nd} {path : List Int} {S T : List Nat} {u u' : World}
theorem RdCap.tr (h : RdCap c t path S u) (hf : Fr S u u') : RdCap c t path S u' := by
  have ho := h.out
  simp only [List.mem_cons, List.not_mem_nil, or_false, forall_eq_or_imp, forall_eq] at ho
  obtain ⟨o1, o2, o3, o4, o5, o6, o7, o8⟩ := ho
  exact ⟨h.tb.tr hf o1, h.nodes.tr hf, h.walk.tr hf, h.vb.tr hf o2, h.fb.tr hf o3, h.plb.tr hf o4, h.PL.tr hf o5, h.pathb.tr hf o6, h.pathS.tr hf, h.chb.tr hf o7, h.fob.tr hf o8, h.out, h.plen⟩
theorem RdCap.mono (h : RdCap c t path S u) (hT : ∀ k ∈ T, k ∈ S ∨ u.heap.size ≤ k) : RdCap c t path T u := by
  refine ⟨h.tb, h.nodes.mono hT, h.walk.mono hT, h.vb, h.fb, h.plb, h.PL, h.pathb, h.pathS.mono hT, h.chb, h.fob, fun x hx hm => ?_, h.plen⟩
  rcases hT x hm with h' | h'
  · exact h.out x hx h'
  · have l1 := h.tb.lt
    have l2 := h.vb.lt
    have l3 := h.fb.lt
    have l4 := h.plb.lt
    have l5 := h.PL.lt
    have l6 := h.pathb.lt
    have l7 := h.chb.lt
    have l8 := h.fob.lt
    simp only [List.mem_cons, List.not_mem_nil, or_false] at hx
    omega
theorem RdCap.turn (h : RdCap c t path S u) (hf : Fr S u u') (hT : ∀ k ∈ T, k ∈ S ∨ u.heap.size ≤ k) : RdCap c t path T u' := by
  have h1 := h.mono (T := S ++ T) (fun k hk => by rcases List.mem_append.1 hk with h | h; exact .inl h; exact hT k h)
  exact (h1.tr (hf.mono (fun k hk => .inl (by simp [hk])))).mono (fun k hk => .inl (by simp [hk]))
theorem RdCap.tr0 (h : RdCap c t path S u) (hf : Fr [] u u') : RdCap c t path S u' := by
  have h1 : Fr S u u' := hf.mono (by simp)
  exact h.tr h1
end
/-- how far reading is: the variables at, r -/
structure RdK (c : Cp) (u : World) (at_ : Nat) (sp : List Sp) (sv : Value) : Prop where
  ab : Blk u c.ab [.int .i64 at_] 3
  rb : Blk u c.rb [.int .i64 0, .int .i64 0, .string .empty, .slice none 0 0, .int .i64 0, sv, .int .i64 0] 77
  own : Own u 93 3 sv sp.length (spC sp)
  d : c.ab ≠ c.rb ∧ c.ab ∉ blks sv ∧ c.rb ∉ blks sv
section
variable {c : Cp} {u u' : World} {at_ : Nat} {sp : List Sp} {sv : Value}
theorem RdK.old {T : List Nat} (h : RdK c u at_ sp sv) (hf : Fr T u u') (hT : ∀ k ∈ T, k ≠ c.ab ∧ k ≠ c.rb ∧ k ∉ blks sv) : RdK c u' at_ sp sv :=
  ⟨h.ab.tr hf (fun hm => (hT _ hm).1 rfl), h.rb.tr hf (fun hm => (hT _ hm).2.1 rfl), h.own.tr hf (fun k hk hm => (hT k hm).2.2 hk), h.d⟩
theorem RdK.tr0 (h : RdK c u at_ sp sv) (hf : Fr [] u u') : RdK c u' at_ sp sv := h.old hf (by simp)
end
def stp (i code : Int) : PanicEntry := { v := .iface 168 (.agg #[.int .i64 i, .int .i64 code]), recovered := false }
/-- the world after a panic -/
def Pan (c : Cp) (u : World) (sv : Value) (u' : World) : Prop := (∃ cs, cs.length = 7 ∧ Blk u' c.rb cs 77) ∧ Fr (c.ab :: c.rb :: blks sv) u u'
theorem Pan.of {c : Cp} {u u' : World} {sv sv' : Value} {at_ : Nat} {sp : List Sp} (h : RdK c u' at_ sp sv') (hf : Fr (c.ab :: c.rb :: blks sv) u u') : Pan c u sv u' := ⟨⟨_, rfl, h.rb⟩, hf⟩

set_option maxHeartbeats 8000000 in
theorem chooseP {c : Cp} {t : List Nd} {path : List Int} {S : List Nat} {u : World} (hv : VT t) (hok : ∀ x ∈ t, NdOk x) (hc : RdCap c t path S u) {at_ : Nat} {sp : List Sp} {sv : Value} (hr : RdK c u at_ sp sv) (hat : at_ ≤ path.length) (hS : c.ab ∈ S) {k : Nat} (hk : k < t.length) (hk12 : t[k].kind = 1 ∨ t[k].kind = 2) :
    Calls Tryz.prog 118 #[.int .i64 k, .pointer (some ⟨c.ab, 0, none⟩), .pointer (some ⟨c.pathb, 0, none⟩), .pointer (some ⟨c.tb, 0, none⟩)] u fun e u' =>
      (path[at_]? = none ∧ e = .panicked [stp k 0] ∧ Fr [] u u') ∨ (∃ x : Int, path[at_]? = some x ∧ ¬ (0 ≤ x ∧ x < optN t[k]) ∧ e = .panicked [stp (-1) 11] ∧ Fr [] u u') ∨
      (∃ x : Nat, path[at_]? = some (x : Int) ∧ x < optN t[k] ∧ e = .returned (.int .i64 x) ∧ RdK c u' (at_ + 1) sp sv ∧ Fr [c.ab] u u') := by
  have hab := hr.ab
  have hpb := hc.pathb
  have htb := hc.tb
  have hpl := hc.plen
  have hip := hc.pathS
  have hnd := hc.nodes
  obtain ⟨ap, cp, hsp, _⟩ := hip.slice
  rw [hsp] at hpb hip
  obtain ⟨an, cn, hsn, _⟩ := hnd.slice
  rw [hsn] at htb hnd
  obtain ⟨ad, rfl, hn⟩ := NS.ptr hnd hk
  generalize hpn : ad.add (k * 12) = pn at hn
  have hok' := hok t[k] (by simp)
  have hrng := hv.rng hk
  have hopt : 0 < optN t[k] ∧ optN t[k] ≤ 1099511627776 := by
    unfold optN
    rcases hk12 with h | h
    · rw [if_pos h]; omega
    · rw [if_neg (by omega)]; have := hv.cho hk h; omega
  refine enter Tryz.func118 rfl Tryz.ntmps118 rfl ?_
  by_cases hend : at_ = path.length
  · have hnone : path[at_]? = none := by rw [List.getElem?_eq_none_iff]; omega
    refine rx ?_
    refine s_build [.int .i64 k, .int .i64 0] rfl ?_
    refine s_iface (v := .agg #[.int .i64 k, .int .i64 0]) rfl ?_
    refine s_panic rfl ?_
    (repeat (first | refine q_then_panic ?_ | refine q_blk_panic ?_))
    exact panic0 (.inl ⟨hnone, rfl, Fr.refl _ _⟩)
  have hlt : at_ < path.length := by omega
  obtain ⟨ad1, rfl, hcell⟩ := Ls.at hip hlt
  have hsome : path[at_]? = some path[at_] := List.getElem?_eq_getElem hlt
  generalize path[at_] = x at hcell hsome
  refine rx ?_
  rw [Nat.mul_one]
  refine s_load rfl hcell ?_
  by_cases hneg : x < 0
  · refine rx ?_
    refine s_build [.int .i64 (-1), .int .i64 11] rfl ?_
    refine s_iface (v := .agg #[.int .i64 (-1), .int .i64 11]) rfl ?_
    refine s_panic rfl ?_
    (repeat (first | refine q_then_panic ?_ | refine q_blk_panic ?_))
    exact panic0 (.inr (.inl ⟨x, hsome, by omega, rfl, Fr.refl _ _⟩))
  refine rx ?_
  rw [hpn]
  refine s_call (optionsP t[k] pn u hok'.lk hrng (hn.mono (by simp))) rfl ?_
  rintro _ u1 ⟨rfl, hf1⟩
  refine ⟨_, rfl, ?_⟩
  have hab1 := hab.tr0 hf1
  by_cases hge : x ≥ optN t[k]
  · refine rx ?_
    refine s_build [.int .i64 (-1), .int .i64 11] rfl ?_
    refine s_iface (v := .agg #[.int .i64 (-1), .int .i64 11]) rfl ?_
    refine s_panic rfl ?_
    (repeat (first | refine q_then_panic ?_ | refine q_blk_panic ?_))
    exact panic0 (.inr (.inl ⟨x, hsome, by omega, rfl, hf1⟩))
  obtain ⟨y, rfl⟩ : ∃ y : Nat, x = (y : Int) := ⟨x.toNat, by omega⟩
  refine rx ?_
  ((with_reducible apply s_storeB); exact rfl; (conv => lhs; whnf); exact rfl; exact hab1; exact rfl)
  intro u2 hb2 hf2 hs2
  have hr1 := hr.tr0 hf1
  refine rx ?_
  (apply ret1; exact rfl; (conv => lhs; whnf))
  refine .inr (.inr ⟨y, hsome, by omega, rfl, ⟨hb2, hr1.rb.tr hf2 (by simp; exact fun h => hr.d.1 h.symm), hr1.own.tr hf2 (fun q hq hm => ?_), hr.d⟩, (hf1.mono (by simp)).trans hf2 (by simp)⟩)
  simp at hm; subst hm; exact hr.d.2.1 hq
end Go.Proofs.YtpochcchekoonaaGreat
