/-
  The walk of the law HistoryLimits.
-/
import Derived.Test.YtcogpedfnnfnaaaHw
namespace Go.Proofs.Ytcogpedfnnfnaaa
open Go.Rf Go.RowKit
set_option linter.unusedVariables false
set_option maxHeartbeats 8000000
attribute [local irreducible] Code.wp wpList Exit.then Exit.inBlock bodyPost A Calls execOp Addr.add

theorem equalIn_bool {P : Program} {w : World} {t : Nat} (dd : Nat) {a b : Bool} (hu : P.underlying t = some .bool) : (Op.equalIn (dd + 1) t (.bool a) (.bool b)).run P w = .ok (a == b) w := by
  simp [Op.equalIn, run_underlying hu]
theorem equal_bool {P : Program} {w : World} {t : Nat} {a b : Bool} (hu : P.underlying t = some .bool) : (Op.equal t (.bool a) (.bool b)).run P w = .ok (a == b) w := equalIn_bool 9999 hu
theorem s_eqlB {P : Program} {ops : Array Oper} {Q : Exit → Act → World → Prop} {rest : List Oper} {n : Nat} {f : Env} {w : World} {d : Nat} {ty : TypeId} {ps : String} {af : Array Edge} {x y : Operand} {t t2 : Nat} {a b p : Bool} (hu : P.underlying t = some .bool) (hx : ev n f x = .bool a) (hy : ev n f y = .bool b) (hp : (a == b) = p) (h : wpList P ops Q rest (A n (upd f d (.bool p))) w) :
    wpList P ops Q (⟨some d, .binOp .eql t x y t2, ty, ps, af, none⟩ :: rest) (A n f) w := by
  subst hp
  have := equal_bool (P := P) (w := w) (a := a) (b := b) hu
  exact s_run (by simp [execOp, eqGuard, binOp, hx, hy, this]) h

def evF (args : List V) : Ev := ⟨0, 0, ⟨#[102]⟩, args, V0⟩
def two (k : Nat) : List Ev := (List.replicate k [evF [], lv3]).flatten
def nums (k : Nat) : List V := (List.range k).map fun (i : Nat) => vN i
theorem two_succ (k : Nat) : two (k + 1) = two k ++ [evF [], lv3] := by
  unfold two
  rw [List.replicate_succ', List.flatten_append]; rfl
theorem two_len (k : Nat) : (two k).length = 2 * k := by
  induction k with
  | zero => rfl
  | succ k ih => rw [two_succ]; simp [ih]; omega
theorem nums_succ (k : Nat) : nums (k + 1) = nums k ++ [vN k] := by simp [nums, List.range_succ]
theorem limT : ∀ k ∈ [14, 15, 16, 17, 18], validH (two k) = if k ≤ 16 then 0 else 4 := by decide +kernel
theorem limC : ∀ k ∈ [62, 63, 64, 65, 66], validH (List.replicate k evCrash) = if k ≤ 64 then 0 else 4 := by decide +kernel
theorem limA : ∀ k ∈ [14, 15, 16, 17, 18], validH [evF (nums k)] = if k ≤ 16 then 0 else 1 := by decide +kernel
theorem numsOk (k : Nat) : ∀ v ∈ nums k, VOk v := by
  intro v hv
  obtain ⟨i, _, rfl⟩ := List.mem_map.1 hv
  exact leafOk 0 i
/-- the history of the law -/
def limL (q d : Int) : List Ev := if q = 0 then two (16 + d).toNat else if q = 1 then List.replicate (64 + d).toNat evCrash else [evF (nums (16 + d).toNat)]
theorem limOk (q d : Int) : ∀ e ∈ limL q d, EvOk e := by
  intro e he
  unfold limL at he
  split at he
  · unfold two at he
    obtain ⟨l, hl, hm⟩ := List.mem_flatten.1 he
    rw [List.eq_of_mem_replicate hl] at hm
    simp only [List.mem_cons, List.not_mem_nil, or_false] at hm
    rcases hm with rfl | rfl
    · exact ⟨fun v hv => (by cases hv), leafOk 0 0⟩
    · exact ⟨fun v hv => (by cases hv), leafOk 0 0⟩
  · split at he
    · rw [List.eq_of_mem_replicate he]
      exact ⟨fun v hv => (by cases hv), leafOk 0 0⟩
    · simp only [List.mem_cons, List.not_mem_nil, or_false] at he
      subst he
      exact ⟨numsOk _, leafOk 0 0⟩
theorem limV {q d : Int} (h0 : 0 ≤ q) (h3 : q < 3) (hd : -2 ≤ d) (hd2 : d ≤ 2) : (validH (limL q d) = 0 ↔ d ≤ 0) := by
  unfold limL
  have hq : q = 0 ∨ q = 1 ∨ q = 2 := by omega
  have hdd : d = -2 ∨ d = -1 ∨ d = 0 ∨ d = 1 ∨ d = 2 := by omega
  rcases hq with rfl | rfl | rfl
  · rw [if_pos rfl]
    rcases hdd with rfl | rfl | rfl | rfl | rfl
    all_goals (first | (rw [show (16 + (-2 : Int)).toNat = 14 from rfl, limT 14 (by simp)]; decide) | (rw [show (16 + (-1 : Int)).toNat = 15 from rfl, limT 15 (by simp)]; decide) | (rw [show (16 + (0 : Int)).toNat = 16 from rfl, limT 16 (by simp)]; decide) | (rw [show (16 + (1 : Int)).toNat = 17 from rfl, limT 17 (by simp)]; decide) | (rw [show (16 + (2 : Int)).toNat = 18 from rfl, limT 18 (by simp)]; decide))
  · rw [if_neg (by decide), if_pos rfl]
    rcases hdd with rfl | rfl | rfl | rfl | rfl
    all_goals (first | (rw [show (64 + (-2 : Int)).toNat = 62 from rfl, limC 62 (by simp)]; decide) | (rw [show (64 + (-1 : Int)).toNat = 63 from rfl, limC 63 (by simp)]; decide) | (rw [show (64 + (0 : Int)).toNat = 64 from rfl, limC 64 (by simp)]; decide) | (rw [show (64 + (1 : Int)).toNat = 65 from rfl, limC 65 (by simp)]; decide) | (rw [show (64 + (2 : Int)).toNat = 66 from rfl, limC 66 (by simp)]; decide))
  · rw [if_neg (by decide), if_neg (by decide)]
    rcases hdd with rfl | rfl | rfl | rfl | rfl
    all_goals (first | (rw [show (16 + (-2 : Int)).toNat = 14 from rfl, limA 14 (by simp)]; decide) | (rw [show (16 + (-1 : Int)).toNat = 15 from rfl, limA 15 (by simp)]; decide) | (rw [show (16 + (0 : Int)).toNat = 16 from rfl, limA 16 (by simp)]; decide) | (rw [show (16 + (1 : Int)).toNat = 17 from rfl, limA 17 (by simp)]; decide) | (rw [show (16 + (2 : Int)).toNat = 18 from rfl, limA 18 (by simp)]; decide))

theorem VS.nilAny {w w' : World} {S T : List Nat} {sl : Value} (h : VS w S [] sl) : VS w' T [] sl := by
  obtain ⟨a', c', rfl, hc'⟩ := h.slice
  exact VS.empty (fun e => by
    cases h with
    | mk sls ys h0 h1 h2 h3 h4 h5 =>
      obtain ⟨ao', c'', e', _, hn, _⟩ := h3
      simp only [Value.slice.injEq] at e'
      rw [e'.2.2]; exact (hn (by rw [← e'.1]; exact e)).2.1)
theorem VR.leaf {w w' : World} {S T : List Nat} {v : V} {cs : List Value} (hv : v.kids = []) (h : VR w S v cs) : VR w' T v cs := by
  obtain ⟨sl, rfl, h1⟩ := h
  rw [hv] at h1
  exact ⟨sl, rfl, by rw [hv]; exact VS.nilAny h1⟩
theorem historyLimits_walk (n q : Int) (w : World) (hn : InI64 n) (hq : InI64 q) :
    Calls Try.prog 4 #[.int .i64 n, .int .i64 q] w fun e w' => e = .returned (.bool true) ∧ Fr [] w w' := by
  refine enter Try.func4 rfl Try.ntmps4 rfl ?_
  refine rx ?_
  refine s_call (bound n 2 w hn (by omega) (by omega)) rfl ?_
  rintro _ _ ⟨rfl, rfl⟩
  refine ⟨_, rfl, ?_⟩
  have hd := arnd_range (a := n) (m := 2 * 2 + 1) (by omega)
  have hd1 : -2 ≤ arnd n (2 * 2 + 1) - 2 := by omega
  have hd2 : arnd n (2 * 2 + 1) - 2 ≤ 2 := by omega
  generalize arnd n (2 * 2 + 1) - 2 = d at hd1 hd2
  clear hd
  refine rx ?_
  refine s_call (around q 3 w hq.1 hq.2 (by omega)) rfl ?_
  rintro _ _ ⟨rfl, rfl⟩
  refine ⟨_, rfl, ?_⟩
  have hk := arnd_range (a := q) (m := 3) (by omega)
  obtain ⟨hk0, hk3⟩ := hk
  generalize arnd q 3 = k at hk0 hk3
  refine wpList_nil ?_
  refine q_then ?_
  refine c_cut (fun g u => g 5 = .int .i64 d ∧ ∃ v, g 6 = v ∧ OwnR u 46 8 EvR (limL k d) v ∧ (∀ b ∈ blks v, w.heap.size ≤ b) ∧ Fr [] w u) ?_ ?_
  · by_cases k0 : k = 0
    · have hL : limL k d = two (16 + d).toNat := if_pos k0
      rw [hL]
      refine rx ?_
      refine c_loopK 8 [6, 7] (σ := Nat × Value) (fun st g u => g 6 = st.2 ∧ g 7 = .int .i64 st.1 ∧ (st.1 : Int) ≤ 16 + d ∧ OwnR u 46 8 EvR (two st.1) st.2 ∧ (∀ b ∈ blks st.2, w.heap.size ≤ b) ∧ Fr [] w u)
        (fun st => (16 + d).toNat - st.1) (0, .slice none 0 0) ⟨rfl, rfl, by simp only; omega, OwnR.nil _ _ _ _, by simp [blks, Value.ownBlock], Fr.refl _ _⟩ ?_
      rintro ⟨i, v⟩ g u ⟨h6, h7, hi, ho, hkb, hf⟩
      simp only at h6 h7 hi ho hkb
      rw [eq_upd h6, eq_upd h7]
      by_cases hlt : (i : Int) < 16 + d
      case neg =>
        refine rx ?_
        have e : i = (16 + d).toNat := by omega
        rw [← e]
        exact q_cut ⟨rfl, v, rfl, ho, hkb, hf⟩
      have hl2 := two_len i
      refine rx ?_
      refine s_build (ec (evF []) (.slice none 0 0) (.slice none 0 0)) rfl ?_
      refine s_build (ec lv3 (.slice none 0 0) (.slice none 0 0)) rfl ?_
      refine s_buildS (ec (evF []) (.slice none 0 0) (.slice none 0 0) ++ ec lv3 (.slice none 0 0) (.slice none 0 0)) rfl rfl rfl rfl (fun u1 ho1 hf1 hs1 => ?_)
      refine s_appR (al := [evF [], lv3]) (ho.tr0 evStab hf1) evStab rfl rfl ho1.src (Rws.cons (ec_row (evF []) (VS.nil _ _) (VS.nil _ _)) (Rws.one (ec_row lv3 (VS.nil _ _) (VS.nil _ _)))) rfl (by unfold maxLen; omega) (by omega) (fun v' u' ho' hf' hk' _ => ?_)
      refine rx ?_
      have hs := hf.size
      refine q_roundK (i + 1, v') (by (repeat (first | exact Keep.mrg _ _ _ _ | (refine Keep.hi rfl ?_) | (refine Keep.one rfl ?_) | exact Keep.all rfl | (refine Keep.inn rfl ?_) | (refine Keep.set rfl ?_)))) ⟨rfl, rfl, by simp only; omega, by simp only [two_succ]; exact ho', fun b hb => ?_, (hf.trans0 hf1).trans hf' (fun b hb => .inr (hkb b hb))⟩ (by simp only; omega)
      rcases hk' b hb with h | h
      · exact hkb b h
      · omega
    by_cases k1 : k = 1
    · have hL : limL k d = List.replicate (64 + d).toNat evCrash := by unfold limL; rw [if_neg k0, if_pos k1]
      rw [hL]
      refine rx ?_
      refine c_loopK 9 [6, 8] (σ := Nat × Value) (fun st g u => g 6 = st.2 ∧ g 8 = .int .i64 st.1 ∧ (st.1 : Int) ≤ 64 + d ∧ OwnR u 46 8 EvR (List.replicate st.1 evCrash) st.2 ∧ (∀ b ∈ blks st.2, w.heap.size ≤ b) ∧ Fr [] w u)
        (fun st => (64 + d).toNat - st.1) (0, .slice none 0 0) ⟨rfl, rfl, by simp only; omega, OwnR.nil _ _ _ _, by simp [blks, Value.ownBlock], Fr.refl _ _⟩ ?_
      rintro ⟨i, v⟩ g u ⟨h6, h8, hi, ho, hkb, hf⟩
      simp only at h6 h8 hi ho hkb
      rw [eq_upd h6, eq_upd h8]
      by_cases hlt : (i : Int) < 64 + d
      case neg =>
        refine rx ?_
        have e : i = (64 + d).toNat := by omega
        rw [← e]
        exact q_cut ⟨rfl, v, rfl, ho, hkb, hf⟩
      refine rx ?_
      refine s_build (ec evCrash (.slice none 0 0) (.slice none 0 0)) rfl ?_
      refine s_pushA (a := evCrash) (cs := ec evCrash (.slice none 0 0) (.slice none 0 0)) ho evStab rfl rfl rfl (ec_row evCrash (VS.nil _ _) (VS.nil _ _)) rfl rfl rfl (by unfold maxLen; simp; omega) (by simp; omega) (fun v' u' ho' hf' hk' => ?_)
      refine rx ?_
      have hs := hf.size
      refine q_roundK (i + 1, v') (by (repeat (first | exact Keep.mrg _ _ _ _ | (refine Keep.hi rfl ?_) | (refine Keep.one rfl ?_) | exact Keep.all rfl | (refine Keep.inn rfl ?_) | (refine Keep.set rfl ?_)))) ⟨rfl, rfl, by simp only; omega, by simp only [List.replicate_succ']; exact ho', fun b hb => ?_, hf.trans hf' (fun b hb => .inr (hkb b hb))⟩ (by simp only; omega)
      rcases hk' b hb with h | h
      · exact hkb b h
      · omega
    have hL : limL k d = [evF (nums (16 + d).toNat)] := by unfold limL; rw [if_neg k0, if_neg k1]
    rw [hL]
    refine rx ?_
    refine s_build (ec (evF []) (.slice none 0 0) (.slice none 0 0)) rfl ?_
    refine s_alloc rfl (fun u1 hb1 hf1 hs1 => ?_)
    refine s_storeAggB rfl rfl hb1 (evStab.one (w := w) (S := []) (ec_row (evF []) (VS.nil _ _) (VS.nil _ _))) rfl rfl (fun u2 hb2 hf2 hs2 => ?_)
    have hF2 : Fr [] w u2 := hf1.trans hf2 (by simp)
    obtain ⟨N, hN⟩ : ∃ N, w.heap.size = N := ⟨_, rfl⟩
    rw [hN] at hb2 hs1 ⊢
    refine rx ?_
    refine c_loopK 11 [10] (σ := Nat × Value) (fun st g u => g 10 = .int .i64 st.1 ∧ (st.1 : Int) ≤ 16 + d ∧ OwnR u 44 4 VR (nums st.1) st.2 ∧ (∀ b ∈ blks st.2, N + 1 ≤ b) ∧ Blk u N (ec (evF (nums st.1)) st.2 (.slice none 0 0)) 46 ∧ Fr [] w u)
      (fun st => (16 + d).toNat - st.1) (0, .slice none 0 0) ⟨rfl, by simp only; omega, OwnR.nil _ _ _ _, by simp [blks, Value.ownBlock], hb2, hF2⟩ ?_
    rintro ⟨i, v⟩ g u ⟨h10, hi, ho, hkb, hbu, hf⟩
    simp only at h10 hi ho hkb hbu
    rw [eq_upd h10]
    have hnl : (nums i).length = i := by simp [nums]
    obtain ⟨av, cv, hv⟩ := ho.slice
    subst hv
    have hs := hf.size
    by_cases hlt : (i : Int) < 16 + d
    case neg =>
      have e : i = (16 + d).toNat := by omega
      rw [← e]
      refine rx ?_
      have hvs : VS u [] (nums i) (.slice av (nums i).length cv) := OwnR.vs ho (by omega) (by simp) (fun x cs hx hr => VR.leaf (by obtain ⟨j, _, rfl⟩ := List.mem_map.1 hx; rfl) hr)
      refine s_pushA (l := []) (a := evF (nums i)) (cs := ec (evF (nums i)) (.slice av (nums i).length cv) (.slice none 0 0)) (OwnR.nil _ _ _ _) evStab rfl rfl rfl (ec_row (evF (nums i)) hvs (VS.nil _ _)) rfl rfl rfl (by unfold maxLen; simp) (by simp) (fun v' u' ho' hf' hk' => ?_)
      refine rx ?_
      refine q_cut ⟨rfl, v', rfl, by simpa using ho', fun b hb => ?_, hf.trans hf' (by simp [blks, Value.ownBlock])⟩
      rcases hk' b hb with h | h
      · simp [blks, Value.ownBlock] at h
      · omega
    refine rx ?_
    refine s_build (vc (vN i) (.slice none 0 0)) rfl ?_
    refine s_pushA (a := vN i) (cs := vc (vN i) (.slice none 0 0)) ho vrStab rfl rfl rfl ⟨_, rfl, VS.nil _ _⟩ rfl rfl rfl (by unfold maxLen; omega) (by omega) (fun v' u' ho' hf' hk' => ?_)
    have hNb : N ∉ blks (.slice av (nums i).length cv) := fun h => by have := hkb _ h; omega
    refine rx ?_
    ((with_reducible apply s_storeB); exact rfl; (conv => lhs; whnf); exact ho'.one; exact (hbu.tr hf' hNb); exact rfl)
    intro u3 hb3 hf3 hs3
    have hs' := hf'.size
    have hlt' := hbu.lt
    have hk3 : ∀ b ∈ blks v', N + 1 ≤ b := fun b hb => by
      rcases hk' b hb with h | h
      · exact hkb b h
      · omega
    rw [← nums_succ] at ho'
    refine rx ?_
    refine q_roundK (i + 1, v') (by (repeat (first | exact Keep.mrg _ _ _ _ | (refine Keep.hi rfl ?_) | (refine Keep.one rfl ?_) | exact Keep.all rfl | (refine Keep.inn rfl ?_) | (refine Keep.set rfl ?_)))) ⟨rfl, by simp only; omega, ?_, hk3, hb3, (hf.trans hf' (fun b hb => .inr (by have := hkb b hb; omega))).trans hf3 (by simp; omega)⟩ (by simp only; omega)
    obtain ⟨ys, hY, hR⟩ := ho'
    exact ⟨ys, hY.tr hf3 (fun k hk => by have := hk3 k hk; simp; omega), hR.imp (fun x cs hx hr => VR.leaf (by obtain ⟨j, _, rfl⟩ := List.mem_map.1 hx; rfl) hr)⟩
  rintro g u ⟨h5, v, h6, ho, hkb, hf⟩
  rw [eq_upd h5, eq_upd h6]
  have hok := limOk k d
  have hV := limV hk0 hk3 hd1 hd2
  have hlen : (limL k d).length ≤ 1000000 := by
    unfold limL
    split
    · rw [two_len]; omega
    · split
      · simp; omega
      · simp
  generalize limL k d = L at ho hok hV hlen
  refine rx ?_
  refine s_call (ownC L v u (ho.sl evStab) hlen) rfl ?_
  rintro _ u1 ⟨v1, rfl, ho1, hk1, hf1⟩
  refine ⟨_, rfl, ?_⟩
  refine s_call (validHC L v1 u1 (ho1.sl evStab) hok hlen) rfl ?_
  rintro _ u2 ⟨rfl, hf2⟩
  refine ⟨_, rfl, ?_⟩
  refine rx ?_
  refine s_call (validER L v u2 (EvS.tr0 (ho.sl evStab) (hf1.trans0 hf2)) hok hlen) rfl ?_
  rintro _ u3 ⟨rfl, hf3⟩
  refine ⟨_, rfl, ?_⟩
  have hF3 : Fr [] w u3 := ((hf.trans0 hf1).trans0 hf2).trans0 hf3
  by_cases h0 : d ≤ 0
  · have hv0 := hV.2 h0
    refine rx ?_
    refine s_eqlB Try.underlying4 rfl rfl rfl ?_
    refine rx ?_
    refine s_call (livesC u3) rfl ?_
    rintro _ u4 ⟨rfl, hf4⟩
    refine ⟨_, rfl, ?_⟩
    refine rx ?_
    (apply ret1; exact rfl; (conv => lhs; whnf))
    exact ⟨rfl, hF3.trans0 hf4⟩
  · have hv0 : ¬ validH L = 0 := fun h => h0 (hV.1 h)
    refine rx ?_
    refine s_eqlB Try.underlying4 rfl rfl rfl ?_
    refine rx ?_
    refine s_call (livesC u3) rfl ?_
    rintro _ u4 ⟨rfl, hf4⟩
    refine ⟨_, rfl, ?_⟩
    refine rx ?_
    (apply ret1; exact rfl; (conv => lhs; whnf))
    exact ⟨rfl, hF3.trans0 hf4⟩
end Go.Proofs.Ytcogpedfnnfnaaa
