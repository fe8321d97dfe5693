/-
  The reference's grow and Orders: they list the same orders.
-/
import Derived.Test.YtcogpedfnnfnaaaGb
namespace Go.Proofs.Ytcogpedfnnfnaaa
open Go.Rf Go.RowKit
set_option linter.unusedVariables false
set_option maxHeartbeats 8000000
attribute [local irreducible] Code.wp wpList Exit.then Exit.inBlock bodyPost A Calls execOp Addr.add

def gstep (l : List Cl) (most f : Nat) (order : List Nat) (o : List (List Nat)) (i : Nat) : List (List Nat) :=
  match f with
  | 0 => o
  | f + 1 => if o.length = most then o else if fitB l order i then growP l most f (order ++ [i]) (remE l (order ++ [i])) o else o
theorem foldl_congr {α β : Type} {f g : β → α → β} : ∀ (l : List α) (b : β), (∀ b a, a ∈ l → f b a = g b a) → l.foldl f b = l.foldl g b := by
  intro l
  induction l with
  | nil => intro b _; rfl
  | cons a l ih => intro b h; simp only [List.foldl_cons]; rw [h b a (by simp)]; exact ih _ (fun b a ha => h b a (by simp [ha]))
theorem growP_fold {l : List Cl} {most f : Nat} {order : List Nat} {out : List (List Nat)} (hb : BegP l (iv order)) : growP l most f order (remE l order) out = (List.range l.length).foldl (gstep l most f order) (if remE l order = 0 then out ++ [order] else out) := by
  have e0 : (if (remE l order : Int) = 0 then out ++ [order] else out) = if remE l order = 0 then out ++ [order] else out := by
    by_cases h : remE l order = 0
    · rw [if_pos h, if_pos (by omega)]
    · rw [if_neg h, if_neg (by omega)]
  cases f with
  | zero =>
    rw [growP, e0]
    generalize (if remE l order = 0 then out ++ [order] else out) = x
    have : ∀ (m : List Nat) (x : List (List Nat)), m.foldl (gstep l most 0 order) x = x := by
      intro m
      induction m with
      | nil => intro x; rfl
      | cons a m ih => intro x; exact ih x
    exact (this _ x).symm
  | succ f =>
    rw [growP, e0]
    apply foldl_congr
    intro o i hi
    rw [List.mem_range] at hi
    unfold gstep
    simp only
    split
    · rfl
    · by_cases hf : fitB l order i = true
      · rw [if_pos hf, if_pos hf, left_snoc hi (nd_of_beg ((fit_iff hi hb).1 hf))]
      · rw [if_neg hf, if_neg hf]
def growI (l : List Cl) (most : Int) (f : Nat) (order : List Nat) (out : List (List Nat)) : List (List Nat) := if most ≤ out.length then out else growP l most.toNat f order (remE l order) out
theorem gstep_len {l : List Cl} {most f : Nat} {order : List Nat} {o : List (List Nat)} {i : Nat} (h : o.length ≤ most) : (gstep l most f order o i).length ≤ most := by
  unfold gstep
  split
  · exact h
  · split
    · exact h
    · split
      · exact growP_len l most _ _ _ _ (by omega)
      · exact h
theorem gfold_len {l : List Cl} {most f : Nat} {order : List Nat} {o : List (List Nat)} (h : o.length ≤ most) (m : List Nat) : (m.foldl (gstep l most f order) o).length ≤ most :=
  foldl_inv (P := fun o => o.length ≤ most) m o h (fun b a _ hb => gstep_len hb)

set_option maxRecDepth 4000 in
theorem growRStep (w0 : World) (l : List Cl) (sl : Value) (most : Int) (hl : OcS w0 l sl) (hb : l.length ≤ 1000) (hmost : most ≤ 1000000) (f : Nat)
    (IH : ∀ f', f = f' + 1 → ∀ (order : List Nat) (out : List (List Nat)) (so vo : Value) (w : World), order.length + f' = l.length → BegP l (iv order) → Fr [] w0 w → OwnR w 22 1 IR out vo → (∀ k ∈ blks vo, w0.heap.size ≤ k) → IR w (blks vo) order [so] →
      Calls Try.prog 56 #[sl, so, vo, .int .i64 most] w fun r w' => ∃ v', r = .returned v' ∧ OwnR w' 22 1 IR (growI l most f' order out) v' ∧ Fr (blks vo) w w' ∧ (∀ k ∈ blks v', k ∈ blks vo ∨ w.heap.size ≤ k))
    (order : List Nat) (out : List (List Nat)) (so vo : Value) (w : World) (hof : order.length + f = l.length) (hbeg : BegP l (iv order)) (hw0 : Fr [] w0 w) (ho : OwnR w 22 1 IR out vo) (hk : ∀ k ∈ blks vo, w0.heap.size ≤ k) (hir : IR w (blks vo) order [so]) :
    Calls Try.prog 56 #[sl, so, vo, .int .i64 most] w fun r w' => ∃ v', r = .returned v' ∧ OwnR w' 22 1 IR (growI l most f order out) v' ∧ Fr (blks vo) w w' ∧ (∀ k ∈ blks v', k ∈ blks vo ∨ w.heap.size ≤ k) := by
  obtain ⟨ao, c, rfl, hc⟩ := Sl.slice hl
  obtain ⟨av, cv, rfl⟩ := ho.slice
  obtain ⟨sv, e, hsrc, hoff⟩ := id hir
  simp only [List.cons.injEq, and_true] at e
  subst e
  obtain ⟨aq, csl, rfl, hcs, _⟩ := id hsrc
  obtain ⟨BV, hBV⟩ : ∃ BV, blks (.slice av out.length cv) = BV := ⟨_, rfl⟩
  rw [hBV] at hk hir hoff ⊢
  refine enter Try.func56 rfl Try.ntmps56 rfl ?_
  unfold growI
  by_cases hm : most ≤ (out.length : Int)
  · rw [if_pos hm]
    refine rx ?_
    (apply ret1; exact rfl; (conv => lhs; whnf))
    exact ⟨_, rfl, ho, Fr.refl _ _, fun k hk => .inl (hBV ▸ hk)⟩
  rw [if_neg hm]
  refine rx ?_
  have hsz0 := hw0.size
  refine s_call (linR l _ (iv order) _ w (OcS.tr0 hl hw0) (by rw [iv_len, iv, ← nv_eq]; exact hsrc) (by omega) (by rw [iv_len]; omega)) rfl ?_
  rintro _ w1 ⟨b, rfl, hlin, hf1⟩
  refine ⟨_, rfl, ?_⟩
  rw [lin_iff hbeg] at hlin
  have hir1 : IR w1 (blks (.slice av out.length cv)) order [.slice aq order.length csl] := by rw [hBV]; exact irStab.old hir hf1 (by simp)
  refine rx ?_
  refine c_cut (fun g u => g 0 = .slice ao l.length c ∧ g 1 = .slice aq order.length csl ∧ g 3 = .int .i64 most ∧ ∃ v, g 2 = v ∧ OwnR u 22 1 IR (if remE l order = 0 then out ++ [order] else out) v ∧ Fr BV w u ∧ (∀ k ∈ blks v, k ∈ BV ∨ w.heap.size ≤ k) ∧ IR u (blks v) order [.slice aq order.length csl]) ?_ ?_
  · cases b
    case false =>
      rw [if_neg (fun h => by have := hlin.2 h; cases this)]
      refine rx ?_
      exact q_cut ⟨rfl, rfl, rfl, _, rfl, ho.tr0 irStab hf1, hf1.mono (by simp), fun k hk => .inl (hBV ▸ hk), hir1⟩
    case true =>
      rw [if_pos (hlin.1 rfl)]
      refine rx ?_
      refine s_pushA (a := order) (cs := [.slice aq order.length csl]) (ho.tr0 irStab hf1) irStab rfl rfl rfl hir1 rfl rfl rfl (by unfold maxLen; omega) (by omega) (fun v' u' ho' hf' hk' => ?_)
      rw [hBV] at hf' hk'
      refine rx ?_
      have hs1 := hf1.size
      refine q_cut ⟨rfl, rfl, rfl, _, rfl, ho', (hf1.mono (by simp)).trans hf' (fun k hk => .inl hk), fun k hk => ?_, irStab.turn (irStab.old hir hf1 (by simp)) hf' hk'⟩
      rcases hk' k hk with h | h
      · exact .inl h
      · right; omega
  rintro g u ⟨h0, h1, h3, v, h2, hov, hfu, hkv, hiv⟩
  rw [eq_upd h0, eq_upd h1, eq_upd h2, eq_upd h3]
  obtain ⟨mo, hmo⟩ : ∃ mo : Nat, most = mo := ⟨most.toNat, by omega⟩
  subst hmo
  rw [Int.toNat_natCast, growP_fold hbeg]
  have hlen0 : (if remE l order = 0 then out ++ [order] else out).length ≤ mo := by
    split
    · simp; omega
    · omega
  generalize (if remE l order = 0 then out ++ [order] else out) = out0 at hov hlen0
  have hw0u : ∀ {z : World}, Fr BV w z → Fr [] w0 z := fun h => hw0.trans h (fun k hk' => .inr (hk k hk'))
  refine rx ?_
  refine c_loopK 26 [2, 10, 11, 12] (σ := Nat × Value) (fun st g z => g 10 = .int .i64 st.1 ∧ g 2 = st.2 ∧ st.1 ≤ l.length ∧ OwnR z 22 1 IR ((List.range st.1).foldl (gstep l mo f order) out0) st.2 ∧ Fr BV w z ∧ (∀ k ∈ blks st.2, k ∈ BV ∨ w.heap.size ≤ k) ∧ IR z (blks st.2) order [.slice aq order.length csl]) (fun st => l.length - st.1) (0, v) ⟨rfl, rfl, Nat.zero_le _, hov, hfu, hkv, hiv⟩ ?_
  rintro ⟨i, v⟩ g z ⟨h10, h2, hi, hoz, hfz, hkz, hiz⟩
  simp only at h10 h2 hi hoz hkz hiz
  rw [eq_upd h10, eq_upd h2]
  by_cases hil : i < l.length
  case neg =>
    have : i = l.length := by omega
    subst this
    refine rx ?_
    (apply ret1; exact rfl; (conv => lhs; whnf))
    exact ⟨_, rfl, hoz, hfz, hkz⟩
  have hlen1 := gfold_len (l := l) (f := f) (order := order) hlen0 (List.range i)
  have hfold : (List.range (i + 1)).foldl (gstep l mo f order) out0 = gstep l mo f order ((List.range i).foldl (gstep l mo f order) out0) i := by rw [List.range_succ, List.foldl_append]; rfl
  generalize (List.range i).foldl (gstep l mo f order) out0 = oi at hoz hlen1 hfold
  obtain ⟨a2, c2, e⟩ := hoz.slice
  subst e
  obtain ⟨sv, e, hsz, hofz⟩ := id hiz
  simp only [List.cons.injEq, and_true] at e
  subst e
  refine rx ?_
  refine s_append (Own.nil _ _ _) rfl hsz rfl (by simp [nv]) (fun u hu => by simp [nv] at hu; obtain ⟨n, _, rfl⟩ := hu; rfl) (by unfold maxLen; omega) (by omega) (fun v3 z3 ho3 hf3 hk3 _ => ?_)
  have hf3' : Fr [] z z3 := hf3.mono (by simp [blks, Value.ownBlock])
  have hk3' : ∀ k ∈ blks v3, z.heap.size ≤ k := fun k hk => by
    rcases hk3 k hk with h | h
    · simp [blks, Value.ownBlock] at h
    · exact h
  obtain ⟨a3, c3, e⟩ := ho3.slice
  subst e
  refine rx ?_
  refine s_buildS [.int .i64 i] rfl rfl rfl rfl (fun z4 ho4 hf4 hs4 => ?_)
  refine s_append (ho3.tr0 hf4) rfl ho4.src rfl rfl (by simp [Value.oneCell']) (by unfold maxLen; omega) (by omega) (fun v5 z5 ho5 hf5 hk5 _ => ?_)
  have hs3 := hf3'.size
  have hf5' : Fr [] z z5 := (hf3'.trans0 hf4).trans hf5 (fun k hk => .inr (hk3' k hk))
  have hk5' : ∀ k ∈ blks v5, z.heap.size ≤ k := fun k hk => by
    rcases hk5 k hk with h | h
    · exact hk3' k h
    · omega
  have hnx : Own z5 3 1 v5 (order ++ [i]).length (nv (order ++ [i])) := by
    have e1 : nv (order ++ [i]) = [] ++ nv order ++ [.int .i64 (i : Int)] := by simp [nv]
    rw [e1, List.length_append, List.length_singleton]
    simpa using ho5
  obtain ⟨a5, c5, e⟩ := hnx.slice
  subst e
  have hfw5 : Fr BV w z5 := hfz.trans hf5' (by simp)
  refine rx ?_
  refine s_call (begunR l _ (iv (order ++ [i])) _ z5 (OcS.tr0 hl (hw0u hfw5)) (by rw [iv_len, iv, ← nv_eq]; exact hnx.src) (by omega) (by rw [iv_len, List.length_append]; simp; omega)) rfl ?_
  rintro _ z6 ⟨b, rfl, hbb, hf6⟩
  refine ⟨_, rfl, ?_⟩
  have hf6' : Fr [] z z6 := hf5'.trans0 hf6
  have hfw6 : Fr BV w z6 := hfw5.trans hf6 (by simp)
  have hoz6 := hoz.tr0 irStab hf6'
  have hiz6 := irStab.old hiz hf6' (by simp)
  have hsz6 := hf6'.size
  cases b
  case false =>
    have hg : gstep l mo f order oi i = oi := by
      unfold gstep
      split
      · rfl
      · split
        · rfl
        · rw [if_neg (fun h => by have := hbb.2 ((fit_iff hil hbeg).1 h); cases this)]
    rw [hg] at hfold
    refine rx ?_
    exact q_roundK (i + 1, _) (by (repeat (first | exact Keep.mrg _ _ _ _ | (refine Keep.hi rfl ?_) | (refine Keep.one rfl ?_) | exact Keep.all rfl | (refine Keep.inn rfl ?_) | (refine Keep.set rfl ?_)))) ⟨rfl, rfl, by simp only; omega, by simp only [hfold]; exact hoz6, hfw6, hkz, hiz6⟩ (by simp only; omega)
  case true =>
    have hbeg' := hbb.1 rfl
    have hfull := beg_full hbeg'
    obtain ⟨f', hf'⟩ : ∃ f', f = f' + 1 := ⟨f - 1, by omega⟩
    subst hf'
    have hg : gstep l mo (f' + 1) order oi i = growI l mo f' (order ++ [i]) oi := by
      unfold gstep growI
      simp only [Int.toNat_natCast]
      by_cases h : oi.length = mo
      · rw [if_pos h, if_pos (by omega)]
      · rw [if_neg h, if_pos ((fit_iff hil hbeg).2 hbeg'), if_neg (by omega)]
    rw [hg] at hfold
    have hlt6 := hoz.lt
    have hirn : IR z6 (blks (.slice a2 oi.length c2)) (order ++ [i]) [.slice a5 (order ++ [i]).length c5] := ⟨_, rfl, hnx.src.tr0 hf6, fun ad n' c' e hp hm => by
      have := hlt6 _ hm
      have := hk5' ad.block (by rw [e]; simp [blks, Value.ownBlock])
      omega⟩
    refine rx ?_
    refine s_call (IH f' rfl (order ++ [i]) oi _ _ z6 (by rw [List.length_append]; simp; omega) hbeg' (hw0u hfw6) hoz6 (fun k hk' => by
      rcases hkz k hk' with h | h
      · exact hk k h
      · omega) hirn) rfl ?_
    rintro _ z7 ⟨v7, rfl, ho7, hf7, hk7⟩
    refine ⟨_, rfl, ?_⟩
    have hsw := hfz.size
    refine rx ?_
    refine q_roundK (i + 1, v7) (by (repeat (first | exact Keep.mrg _ _ _ _ | (refine Keep.hi rfl ?_) | (refine Keep.one rfl ?_) | exact Keep.all rfl | (refine Keep.inn rfl ?_) | (refine Keep.set rfl ?_)))) ⟨rfl, rfl, by simp only; omega, by simp only [hfold]; exact ho7, hfw6.trans hf7 (fun k hk' => hkz k hk'), fun k hk' => ?_, irStab.turn hiz6 hf7 hk7⟩ (by simp only; omega)
    rcases hk7 k hk' with h | h
    · exact hkz k h
    · right; omega

theorem growR (w0 : World) (l : List Cl) (sl : Value) (most : Int) (hl : OcS w0 l sl) (hb : l.length ≤ 1000) (hmost : most ≤ 1000000) : ∀ (f : Nat) (order : List Nat) (out : List (List Nat)) (so vo : Value) (w : World), order.length + f = l.length → BegP l (iv order) → Fr [] w0 w → OwnR w 22 1 IR out vo → (∀ k ∈ blks vo, w0.heap.size ≤ k) → IR w (blks vo) order [so] →
      Calls Try.prog 56 #[sl, so, vo, .int .i64 most] w fun r w' => ∃ v', r = .returned v' ∧ OwnR w' 22 1 IR (growI l most f order out) v' ∧ Fr (blks vo) w w' ∧ (∀ k ∈ blks v', k ∈ blks vo ∨ w.heap.size ≤ k) := by
  intro f
  induction f with
  | zero => exact growRStep w0 l sl most hl hb hmost 0 (fun f' e => by omega)
  | succ f ih => exact growRStep w0 l sl most hl hb hmost (f + 1) (fun f' e => by
      have : f' = f := by omega
      subst this
      exact ih)
theorem growI_orders (l : List Cl) (most : Int) : growI l most l.length [] [] = ordersP l most := by
  unfold growI ordersP
  rw [rem_nil]
  rfl
theorem ordersR (l : List Cl) (sl : Value) (most : Int) (w : World) (hl : OcS w l sl) (hb : l.length ≤ 1000) (hm : most ≤ 1000000) :
    Calls Try.prog 30 #[sl, .int .i64 most] w fun r w' => ∃ v', r = .returned v' ∧ OwnR w' 22 1 IR (ordersP l most) v' ∧ (∀ k ∈ blks v', w.heap.size ≤ k) ∧ Fr [] w w' := by
  refine enter Try.func30 rfl Try.ntmps30 rfl ?_
  refine rx ?_
  refine s_call (growR w l sl most hl hb hm l.length [] [] (.slice none 0 0) (.slice none 0 0) w (by simp) (beg_nil l) (Fr.refl _ _) (OwnR.nil _ _ _ _) (by simp [blks, Value.ownBlock]) ⟨_, rfl, Src.nil _, fun _ _ _ e => by cases e⟩) rfl ?_
  rintro _ w1 ⟨v, rfl, ho, hf, hk⟩
  refine ⟨_, rfl, ?_⟩
  refine rx ?_
  (apply ret1; exact rfl; (conv => lhs; whnf))
  rw [growI_orders] at ho
  refine ⟨_, rfl, ho, fun k hm => ?_, hf.mono (by simp [blks, Value.ownBlock])⟩
  rcases hk k hm with h | h
  · simp [blks, Value.ownBlock] at h
  · exact h
end Go.Proofs.Ytcogpedfnnfnaaa
