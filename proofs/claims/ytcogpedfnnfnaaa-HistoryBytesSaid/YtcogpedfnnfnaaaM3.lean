/-
  The law HistoryValid.
-/
import Derived.Test.YtcogpedfnnfnaaaHx
namespace Go.Proofs.Ytcogpedfnnfnaaa
open Go.Rf Go.RowKit
set_option linter.unusedVariables false
set_option maxHeartbeats 4000000
attribute [local irreducible] Code.wp wpList Exit.then Exit.inBlock bodyPost A Calls execOp Addr.add

theorem gen_args (l : List Int) (m : Nat) : ∀ e ∈ (genN l m).1, e.args.length ≤ 1 := by
  induction m with
  | zero => intro e he; simp [genN] at he
  | succ i ih =>
    intro e he
    simp only [genN, genStep] at he
    split at he
    · rcases List.mem_append.1 he with h | h
      · exact ih e h
      · simp at h; subst h; simp [evCrash]
    · split at he
      · rcases List.mem_append.1 he with h | h
        · exact ih e h
        · simp at h; subst h; simp [evEnd]
      · split at he
        · rcases List.mem_append.1 he with h | h
          · exact ih e h
          · simp at h; subst h; unfold evBeg; simp only; split <;> simp
        · exact ih e he
theorem spoilt_args {l : List Ev} {a b c : Int} {k : Nat} (h : ∀ e ∈ l, e.args.length ≤ k) : ∀ e ∈ spoilt l a b c, e.args.length ≤ k + 1 := by
  have h' : ∀ e ∈ l, e.args.length ≤ k + 1 := fun e he => Nat.le_succ_of_le (h e he)
  intro e he
  unfold spoilt at he
  split at he
  · cases he
  · rename_i x hx
    have hxm : x ∈ l := List.mem_of_getElem? hx
    split at he
    · rcases List.mem_or_eq_of_mem_set he with h1 | h1
      · exact h' e h1
      · subst h1
        have := h x hxm
        unfold spEv
        (repeat' split) <;> (try simp) <;> omega
    · split at he
      · rcases List.mem_append.1 he with h1 | h1
        · exact h' e h1
        · simp at h1; subst h1; exact h' _ hxm
      · rcases List.mem_append.1 he with h1 | h1
        · exact h' e (List.mem_of_mem_take h1)
        · exact h' e (List.mem_of_mem_drop h1)
theorem quo7 {a : Int} (h : InI64 a) : InI64 (a.tdiv 7) := by
  obtain ⟨h1, h2⟩ := h
  by_cases h0 : 0 ≤ a
  · rw [InI64, Int.tdiv_eq_ediv_of_nonneg h0]; omega
  · have e : a.tdiv 7 = -((-a).tdiv 7) := by rw [Int.neg_tdiv, Int.neg_neg]
    rw [InI64, e, Int.tdiv_eq_ediv_of_nonneg (by omega)]; omega

set_option maxRecDepth 4000 in
theorem historyValid_walk (x : Value) (l : List Int) (q a b c d : Int) (w : World) (hx : Src w x l.length (l.map (.int .i64))) (hl : ∀ n ∈ l, InI64 n) (hq : InI64 q) (ha : InI64 a) (hb : InI64 b) (hc : InI64 c) (hd : InI64 d) :
    Calls Try.prog 3 #[x, .int .i64 q, .int .i64 a, .int .i64 b, .int .i64 c, .int .i64 d] w fun e w' => e = .returned (.bool true) ∧ Fr [] w w' := by
  refine enter Try.func3 rfl Try.ntmps3 rfl ?_
  refine rx ?_
  refine s_call (around q 30 w hq.1 hq.2 (by omega)) rfl ?_
  rintro _ _ ⟨rfl, rfl⟩
  refine ⟨_, rfl, ?_⟩
  have hr := arnd_range (a := q) (m := 30) (by omega)
  obtain ⟨m, hm⟩ : ∃ m : Nat, arnd q 30 = (m : Int) := ⟨(arnd q 30).toNat, by omega⟩
  rw [hm] at hr ⊢
  refine s_call (historyC x l m w hx hl (by omega)) rfl ?_
  rintro _ u1 ⟨v1, rfl, ho1, hk1, hf1⟩
  refine ⟨_, rfl, ?_⟩
  have hlen := (genN_len l m).1
  have hval := gen_valid l (m := m) (by omega)
  have hok := gen_evOk l m
  have har := gen_args l m
  generalize (genN l m).1 = L at ho1 hlen hval hok har
  refine rx ?_
  refine s_call (spoiltC L v1 a b c u1 (ho1.sl evStab) (by omega) (fun e he => by have := har e he; omega) ha hb hc) rfl ?_
  rintro _ u2 ⟨v2, rfl, ho2, hk2, hf2⟩
  refine ⟨_, rfl, ?_⟩
  have hlen2 := spoilt_len L a b c
  have hok2 := spoilt_ok (a := a) (b := b) (c := c) hok
  have har2 := spoilt_args (a := a) (b := b) (c := c) har
  generalize spoilt L a b c = L2 at ho2 hlen2 hok2 har2
  refine rx ?_
  refine s_quo rfl rfl (by omega) (IntWalk.i64_quo' _ _ (by have h1 := ha.1; have h2 := ha.2; omega)) ?_
  refine rx ?_
  refine s_quo rfl rfl (by omega) (IntWalk.i64_quo' _ _ (by have h1 := hb.1; have h2 := hb.2; omega)) ?_
  refine rx ?_
  refine s_call (spoiltC L2 v2 (a.tdiv 7) (b.tdiv 7) d u2 (ho2.sl evStab) (by omega) (fun e he => by have := har2 e he; omega) (quo7 ha) (quo7 hb) hd) rfl ?_
  rintro _ u3 ⟨v3, rfl, ho3, hk3, hf3⟩
  refine ⟨_, rfl, ?_⟩
  have hlen3 := spoilt_len L2 (a.tdiv 7) (b.tdiv 7) d
  have hok3 := spoilt_ok (a := a.tdiv 7) (b := b.tdiv 7) (c := d) hok2
  generalize spoilt L2 (a.tdiv 7) (b.tdiv 7) d = L3 at ho3 hlen3 hok3
  refine rx ?_
  refine s_call (around c 7 u3 hc.1 hc.2 (by omega)) rfl ?_
  rintro _ _ ⟨rfl, rfl⟩
  refine ⟨_, rfl, ?_⟩
  have h7 := arnd_range (a := c) (m := 7) (by omega)
  refine rx ?_
  refine s_call (spoiltC L v1 a b (arnd c 7 - 2) u3 (EvS.tr0 (ho1.sl evStab) (hf2.trans0 hf3)) (by omega) (fun e he => by have := har e he; omega) ha hb (by unfold InI64; omega)) rfl ?_
  rintro _ u4 ⟨v4, rfl, ho4, hk4, hf4⟩
  refine ⟨_, rfl, ?_⟩
  have hlen4 := spoilt_len L a b (arnd c 7 - 2)
  have hok4 := spoilt_ok (a := a) (b := b) (c := arnd c 7 - 2) hok
  generalize spoilt L a b (arnd c 7 - 2) = L4 at ho4 hlen4 hok4
  have hF4 : Fr [] w u4 := ((hf1.trans0 hf2).trans0 hf3).trans0 hf4
  have e1 : EvS u4 L v1 := EvS.tr0 (ho1.sl evStab) ((hf2.trans0 hf3).trans0 hf4)
  have e2 : EvS u4 L2 v2 := EvS.tr0 (ho2.sl evStab) (hf3.trans0 hf4)
  have e3 : EvS u4 L3 v3 := EvS.tr0 (ho3.sl evStab) hf4
  have e4 : EvS u4 L4 v4 := ho4.sl evStab
  clear ho1 ho2 ho3 ho4 hk1 hk2 hk3 hk4
  obtain ⟨a1, c1, e, _⟩ := Sl.slice e1
  subst e
  obtain ⟨a2, c2, e, _⟩ := Sl.slice e2
  subst e
  obtain ⟨a3, c3, e, _⟩ := Sl.slice e3
  subst e
  obtain ⟨a4, c4, e, _⟩ := Sl.slice e4
  subst e
  refine rx ?_
  refine s_buildS [.slice a1 L.length c1, .slice a2 L2.length c2, .slice a3 L3.length c3, .slice a4 L4.length c4] rfl rfl rfl rfl (fun u5 ho5 hf5 hs5 => ?_)
  have hF5 := hF4.trans0 hf5
  have hall : ∀ i, i < 4 → ∃ M v, ([.slice a1 L.length c1, .slice a2 L2.length c2, .slice a3 L3.length c3, .slice a4 L4.length c4] : List Value)[i]? = some v ∧ EvS u5 M v ∧ M.length ≤ 1000000 ∧ (∀ e ∈ M, EvOk e) := by
    intro i hi
    have : i = 0 ∨ i = 1 ∨ i = 2 ∨ i = 3 := by omega
    rcases this with rfl | rfl | rfl | rfl
    · exact ⟨L, _, rfl, e1.tr0 hf5, by omega, hok⟩
    · exact ⟨L2, _, rfl, e2.tr0 hf5, by omega, hok2⟩
    · exact ⟨L3, _, rfl, e3.tr0 hf5, by omega, hok3⟩
    · exact ⟨L4, _, rfl, e4.tr0 hf5, by omega, hok4⟩
  refine rx ?_
  refine c_loopK 47 [16, 17, 18, 19, 20] (σ := Nat) (fun i g u => g 16 = .int .i64 i ∧ i ≤ 4 ∧ Fr [] u5 u) (fun i => 4 - i) 0 ⟨rfl, by omega, Fr.refl _ _⟩ ?_
  rintro i g u ⟨h16, hi, hf⟩
  rw [eq_upd h16]
  by_cases hi4 : i < 4
  case neg =>
    refine rx ?_
    refine s_call (ownC L _ u (EvS.tr0 e1 (hf5.trans0 hf)) (by omega)) rfl ?_
    rintro _ z1 ⟨r1, rfl, hp1, _, hg1⟩
    refine ⟨_, rfl, ?_⟩
    refine s_call (validHC L r1 z1 (hp1.sl evStab) hok (by omega)) rfl ?_
    rintro _ z2 ⟨rfl, hg2⟩
    refine ⟨_, rfl, ?_⟩
    refine rx ?_
    refine s_call (livesC z2) rfl ?_
    rintro _ z3 ⟨rfl, hg3⟩
    refine ⟨_, rfl, ?_⟩
    refine rx ?_
    (apply ret1; exact rfl; (conv => lhs; whnf))
    exact ⟨rfl, (((hF5.trans0 hf).trans0 hg1).trans0 hg2).trans0 hg3⟩
  obtain ⟨M, v, hv, heM, hMl, hMok⟩ := hall i hi4
  have hcl := src_cell (j := i) (u := v) (ho5.src.tr0 hf) hv
  refine rx ?_
  rw [Nat.mul_one]
  refine s_load rfl hcl ?_
  refine s_call (ownC M v u (EvS.tr0 heM hf) hMl) rfl ?_
  rintro _ z1 ⟨r1, rfl, hp1, _, hg1⟩
  refine ⟨_, rfl, ?_⟩
  refine s_call (opsC M r1 z1 (hp1.sl evStab) hMok hMl) rfl ?_
  rintro _ z2 ⟨r2, rfl, hp2, _, hg2⟩
  refine ⟨_, rfl, ?_⟩
  have hG2 : Fr [] u z2 := hg1.trans0 hg2
  have hcl2 := src_cell (j := i) (u := v) (ho5.src.tr0 (hf.trans0 hG2)) hv
  refine rx ?_
  rw [Nat.mul_one]
  refine s_load rfl hcl2 ?_
  refine s_call (opsR M v z2 (EvS.tr0 heM (hf.trans0 hG2)) hMok hMl) rfl ?_
  rintro _ z3 ⟨r3, rfl, hp3, _, hg3⟩
  refine ⟨_, rfl, ?_⟩
  have hG3 : Fr [] u z3 := hG2.trans0 hg3
  have hcl3 := src_cell (j := i) (u := v) (ho5.src.tr0 (hf.trans0 hG3)) hv
  refine rx ?_
  rw [Nat.mul_one]
  refine s_load rfl hcl3 ?_
  refine rx ?_
  refine s_call (ownC M v z3 (EvS.tr0 heM (hf.trans0 hG3)) hMl) rfl ?_
  rintro _ z4 ⟨r4, rfl, hp4, _, hg4⟩
  refine ⟨_, rfl, ?_⟩
  refine rx ?_
  refine s_call (validHC M r4 z4 (hp4.sl evStab) hMok hMl) rfl ?_
  rintro _ z5 ⟨rfl, hg5⟩
  refine ⟨_, rfl, ?_⟩
  have hlo : (if validH M = 0 then opsFrom 0 M else []).length ≤ 1000000 := by
    split
    · have := opsFrom_len M 0; omega
    · simp
  generalize (if validH M = 0 then opsFrom 0 M else []) = O at hp2 hp3 hlo
  have hG5 := (hg3.trans0 hg4).trans0 hg5
  refine rx ?_
  refine s_call (callsC O r2 z5 (OpS.tr0 (hp2.sl opStab) hG5) hlo) rfl ?_
  rintro _ z6 ⟨r6, rfl, hp6, _, hg6⟩
  refine ⟨_, rfl, ?_⟩
  refine rx ?_
  refine s_call (sameOpsC O r6 r3 z6 (hp6.sl opStab) (OpS.tr0 (hp3.sl opStab) ((hg4.trans0 hg5).trans0 hg6)) hlo) rfl ?_
  rintro _ z7 ⟨rfl, hg7⟩
  refine ⟨_, rfl, ?_⟩
  refine rx ?_
  exact q_roundK (i + 1) (by (repeat (first | exact Keep.mrg _ _ _ _ | (refine Keep.hi rfl ?_) | (refine Keep.one rfl ?_) | exact Keep.all rfl | (refine Keep.inn rfl ?_) | (refine Keep.set rfl ?_)))) ⟨rfl, by omega, (((hf.trans0 hG2).trans0 hG5).trans0 hg6).trans0 hg7⟩ (by omega)
end Go.Proofs.Ytcogpedfnnfnaaa
