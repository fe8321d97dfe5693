/-
  The reference of trees: Lengths, Sizes.
-/
import Derived.Test.YtpochcchekoonaaGreatA2
namespace Go.Proofs.YtpochcchekoonaaGreat
open Go.Rf Go.RowKit
set_option linter.unusedVariables false
set_option linter.unusedSimpArgs false
attribute [local irreducible] Code.wp wpList Exit.then Exit.inBlock bodyPost A Calls execOp Addr.add
def sumI : List Int → Int
  | [] => 0
  | a :: l => a + sumI l
def maxI : List Int → Int
  | [] => 0
  | a :: l => max a (maxI l)
theorem sumI_snoc (l : List Int) (a : Int) : sumI (l ++ [a]) = sumI l + a := by
  induction l with
  | nil => simp [sumI]
  | cons b l ih => simp only [List.cons_append, sumI, ih]; omega
theorem maxI_nonneg (l : List Int) : 0 ≤ maxI l := by
  induction l with
  | nil => simp [maxI]
  | cons b l ih => simp only [maxI]; omega
theorem maxI_snoc (l : List Int) (a : Int) : maxI (l ++ [a]) = max (maxI l) a := by
  induction l with
  | nil => simp only [List.nil_append, maxI]; omega
  | cons b l ih => simp only [List.cons_append, maxI, ih]; omega
theorem sumI_bd {l : List Int} {m : Int} (h : ∀ a ∈ l, 0 ≤ a ∧ a ≤ m) : 0 ≤ sumI l ∧ sumI l ≤ m * l.length := by
  induction l with
  | nil => simp [sumI]
  | cons b l ih =>
    have h1 := h b (by simp)
    have h2 := ih (fun a ha => h a (by simp [ha]))
    simp only [sumI, List.length_cons]
    have : m * ((l.length + 1 : Nat) : Int) = m * (l.length : Int) + m := by rw [Int.natCast_add, Int.mul_add]; simp
    omega
theorem maxI_bd {l : List Int} {m : Int} (hm : 0 ≤ m) (h : ∀ a ∈ l, 0 ≤ a ∧ a ≤ m) : maxI l ≤ m := by
  induction l with
  | nil => simpa [maxI] using hm
  | cons b l ih =>
    have h1 := h b (by simp)
    have h2 := ih (fun a ha => h a (by simp [ha]))
    simp only [maxI]; omega
def kd (ls : List Int) (k : Int) : Int := ls.getD k.toNat 0
def mst (ls : List Int) (kind : Int) (l : List Int) : Int := maxI (if kind = 2 then l.map (kd ls) else (l.map (kd ls)).tail)
def lenN (ls : List Int) (x : Nd) : Int :=
  if x.kind = 0 then 0 else if x.kind = 1 then 1 else if x.kind = 3 then sumI (x.kids.map (kd ls)) else if x.kind = 2 then 1 + mst ls x.kind x.kids else (x.kids.map (kd ls)).headD 0 + mst ls x.kind x.kids
def sizN (ss : List Int) (x : Nd) : Int :=
  if x.kind = 0 then vsz x.val else if x.kind = 1 then 1 else if x.kind = 3 then 1 + sumI (x.kids.map (kd ss)) else mst ss x.kind x.kids
theorem mst_snoc {ls : List Int} {kind : Int} {l : List Int} {i : Nat} (h : i < l.length) : mst ls kind (l.take (i + 1)) = if kind = 2 ∨ 0 < i then max (mst ls kind (l.take i)) (kd ls l[i]) else mst ls kind (l.take i) := by
  unfold mst
  rw [List.take_succ_eq_append_getElem h]
  by_cases h2 : kind = 2
  · simp only [h2, if_true, true_or, List.map_append, List.map_cons, List.map_nil, maxI_snoc]
  · rw [if_neg h2, if_neg h2]
    by_cases h0 : 0 < i
    · rw [if_pos (.inr h0), List.map_append]
      have hne : (l.take i).map (kd ls) ≠ [] := by
        intro e
        have h3 := congrArg List.length e
        rw [List.length_map, List.length_take] at h3
        simp only [List.length_nil] at h3
        omega
      rw [List.tail_append_of_ne_nil hne]
      simp only [List.map_cons, List.map_nil, maxI_snoc]
    · have : i = 0 := by omega
      subst this
      rw [if_neg (by omega)]
      simp

/-- the kids lie before, their numbers are small -/
structure LsOk (ls : List Int) (x : Nd) (m : Int) : Prop where
  rng : ∀ k ∈ x.kids, 0 ≤ k ∧ k < ls.length
  val : ∀ a ∈ ls, 0 ≤ a ∧ a ≤ m
theorem LsOk.kd {ls : List Int} {x : Nd} {m : Int} (h : LsOk ls x m) {i : Nat} (hi : i < x.kids.length) : ∃ j : Nat, ∃ hj : j < ls.length, x.kids[i] = (j : Int) ∧ kd ls x.kids[i] = ls[j] ∧ 0 ≤ ls[j] ∧ ls[j] ≤ m := by
  have h1 := h.rng x.kids[i] (by simp)
  refine ⟨x.kids[i].toNat, by omega, by omega, ?_, ?_⟩
  · unfold Go.Proofs.YtpochcchekoonaaGreat.kd; rw [List.getD, List.getElem?_eq_getElem (by omega)]; rfl
  · exact h.val _ (by simp)
theorem LsOk.all {ls : List Int} {x : Nd} {m : Int} (h : LsOk ls x m) {l : List Int} (hl : ∀ k ∈ l, k ∈ x.kids) : ∀ a ∈ l.map (Go.Proofs.YtpochcchekoonaaGreat.kd ls), 0 ≤ a ∧ a ≤ m := by
  intro a ha
  obtain ⟨k, hk, rfl⟩ := List.mem_map.1 ha
  obtain ⟨i, hi, rfl⟩ := List.mem_iff_getElem.1 (hl k hk)
  obtain ⟨j, hj, e1, e2, e3⟩ := h.kd hi
  rw [e2]; exact e3
theorem LsOk.mst {ls : List Int} {x : Nd} {m : Int} (h : LsOk ls x m) (hm : 0 ≤ m) {l : List Int} (hl : ∀ k ∈ l, k ∈ x.kids) : 0 ≤ mst ls x.kind l ∧ mst ls x.kind l ≤ m := by
  refine ⟨maxI_nonneg _, ?_⟩
  unfold Go.Proofs.YtpochcchekoonaaGreat.mst
  have := h.all hl
  split
  · exact maxI_bd hm this
  · exact maxI_bd hm (fun a ha => this a (List.mem_of_mem_tail ha))
theorem headD_map {f : Int → Int} {l : List Int} (h : 0 < l.length) : (l.map f).headD 0 = f l[0] := by
  cases l with
  | nil => simp at h
  | cons a l => rfl
theorem one1 {k : IntKind} {r : Int} : ∀ u ∈ [Value.int k r], u.oneCell' = true := by intro u hu; simp at hu; subst hu; rfl
theorem Own.is {w : World} {e : Nat} {v : Value} {ls : List Int} (h : Own w e 1 v ls.length (ls.map (.int .i64))) : IS w [] ls v := Ls.ofSrc h.src

set_option maxHeartbeats 8000000 in
theorem lengthsC (ls : List Int) (x : Nd) (v sw sl sv sk sx : Value) (w : World) (hok : NdOk x) (hls : LsOk ls x 100000) (hn : ls.length ≤ 1000000) (hkd : 0 ≤ x.kind ∧ x.kind ≤ 4) (hk4 : x.kind = 4 → 0 < x.kids.length) (ho : Own w 3 1 v ls.length (ls.map (.int .i64))) (hk : IS w [] x.kids sk) :
    Calls Tryz.prog 66 #[v, .agg (nc x sw sl sv sk sx).toArray] w fun e w' => ∃ v', e = .returned v' ∧ Own w' 3 1 v' (ls.length + 1) ((ls ++ [lenN ls x]).map (.int .i64)) ∧ (∀ b ∈ blks v', b ∈ blks v ∨ w.heap.size ≤ b) ∧ Fr (blks v) w w' := by
  obtain ⟨ak, ck, rfl, _⟩ := hk.slice
  obtain ⟨av, cv, rfl⟩ := ho.slice
  have hlk := hok.lk
  refine enter Tryz.func66 rfl Tryz.ntmps66 rfl ?_
  refine rx ?_
  refine s_box rfl rfl (fun w1 hb1 hf1 hs1 => ?_)
  have hk1 := hk.tr0 hf1
  have ho1 := ho.tr0 hf1
  have hi1 := Own.is ho1
  refine rx ?_
  refine c_loopK 8 [5, 6, 7] (σ := Nat) (fun i g u => g 7 = .int .i64 i ∧ i ≤ x.kids.length ∧ g 5 = .int .i64 (sumI ((x.kids.take i).map (kd ls))) ∧ g 6 = .int .i64 (mst ls x.kind (x.kids.take i)) ∧ w1 = u) (fun i => x.kids.length - i) 0 ⟨rfl, Nat.zero_le _, rfl, (by rw [List.take_zero]; unfold mst; split <;> rfl), rfl⟩ ?_
  rintro i g u ⟨h7, hi, h5, h6, rfl⟩
  rw [eq_upd h5, eq_upd h6, eq_upd h7]
  have hS := sumI_bd (hls.all (l := x.kids.take i) (fun k hk => List.mem_of_mem_take hk))
  have hM := hls.mst (by omega) (l := x.kids.take i) (fun k hk => List.mem_of_mem_take hk)
  have hlt0 : (((x.kids.take i).map (kd ls)).length : Int) ≤ 1000000 := by simp; omega
  have hS2 : 0 ≤ sumI ((x.kids.take i).map (kd ls)) ∧ sumI ((x.kids.take i).map (kd ls)) ≤ 100000000000 := by omega
  clear hS hlt0
  by_cases hlt : i < x.kids.length
  case pos =>
    obtain ⟨ad, rfl, hcell⟩ := Ls.at hk1 hlt
    obtain ⟨j, hj, ej, ek, e0, e1⟩ := hls.kd hlt
    obtain ⟨ad2, rfl, hcell2⟩ := Ls.at hi1 hj
    have hsn : sumI ((x.kids.take (i + 1)).map (kd ls)) = sumI ((x.kids.take i).map (kd ls)) + ls[j] := by rw [List.take_succ_eq_append_getElem hlt, List.map_append, List.map_cons, List.map_nil, sumI_snoc, ek]
    have hmn := mst_snoc (ls := ls) (kind := x.kind) hlt
    rw [ek] at hmn
    rw [ej] at hcell
    generalize hMM : mst ls x.kind (x.kids.take i) = M at hM hmn
    generalize hSS : sumI ((x.kids.take i).map (kd ls)) = SS at hS2 hsn
    refine rx ?_
    rw [Nat.mul_one]
    refine s_load rfl hcell ?_
    refine rx ?_
    rw [Nat.mul_one]
    refine s_load rfl hcell2 ?_
    by_cases hc : x.kind = 2 ∨ 0 < i
    · rw [if_pos hc] at hmn
      have hgo : ∀ r, (if M < ls[j] then ls[j] else M) = r → r = max M ls[j] := fun r h => by split at h <;> omega
      rcases hc with hc | hc
      all_goals
        (refine rx ?_; repeat' ((first | refine s_eql rfl rfl (fun h => ?_) (fun h => ?_) | refine s_neq rfl rfl (fun h => ?_) (fun h => ?_) | refine s_lss rfl rfl (fun h => ?_) (fun h => ?_) | refine s_leq rfl rfl (fun h => ?_) (fun h => ?_) | refine s_gtr rfl rfl (fun h => ?_) (fun h => ?_) | refine s_geq rfl rfl (fun h => ?_) (fun h => ?_) | refine s_eqlE rfl rfl (fun h => ?_) (fun h => ?_) | refine s_neqE rfl rfl (fun h => ?_) (fun h => ?_) | refine s_lssS rfl rfl (fun h => ?_) (fun h => ?_) | refine s_gtrS rfl rfl (fun h => ?_) (fun h => ?_)) <;> refine rx ?_))
        all_goals
          refine s_max rfl rfl rfl ?_
          rw [hgo _ rfl, ← hmn]
          refine rx ?_
          exact q_roundK (i + 1) (by (repeat (first | exact Keep.mrg _ _ _ _ | (refine Keep.hi rfl ?_) | (refine Keep.one rfl ?_) | exact Keep.all rfl | (refine Keep.inn rfl ?_) | (refine Keep.set rfl ?_)))) ⟨rfl, by omega, (by rw [hsn]; rfl), rfl, rfl⟩ (by omega)
    · rw [if_neg hc] at hmn
      have hc1 : ¬ x.kind = 2 := fun h => hc (.inl h)
      have hc2 : ¬ 0 < i := fun h => hc (.inr h)
      refine rx ?_
      exact q_roundK (i + 1) (by (repeat (first | exact Keep.mrg _ _ _ _ | (refine Keep.hi rfl ?_) | (refine Keep.one rfl ?_) | exact Keep.all rfl | (refine Keep.inn rfl ?_) | (refine Keep.set rfl ?_)))) ⟨rfl, by omega, (by rw [hsn]; rfl), (by rw [hmn]; rfl), rfl⟩ (by omega)
  have he : x.kids.take i = x.kids := List.take_of_length_le (by omega)
  rw [he] at hS2 hM ⊢
  have fin : ∀ r : Int, lenN ls x = r → ∀ (z z' : World) (v' : Value), Fr [] w1 z → Own z' 3 1 v' (ls.length + 1) (ls.map (.int .i64) ++ [.int .i64 r]) → Fr (blks (.slice av ls.length cv)) z z' → (∀ b ∈ blks v', b ∈ blks (.slice av ls.length cv) ∨ z.heap.size ≤ b) →
      ∃ v'', Ending.returned v' = .returned v'' ∧ Own z' 3 1 v'' (ls.length + 1) ((ls ++ [lenN ls x]).map (.int .i64)) ∧ (∀ b ∈ blks v'', b ∈ blks (.slice av ls.length cv) ∨ w.heap.size ≤ b) ∧ Fr (blks (.slice av ls.length cv)) w z' := by
    intro r hr z z' v' hz ho' hf' hk'
    refine ⟨v', rfl, by rw [hr, List.map_append]; exact ho', fun b hb => ?_, ((hf1.trans0 hz).mono (by simp)).trans hf' (fun b hb => .inl hb)⟩
    rcases hk' b hb with h | h
    · exact .inl h
    · right; have := hz.size; omega
  generalize hSS : sumI (x.kids.map (kd ls)) = SS at hS2
  generalize hMM : mst ls x.kind x.kids = M at hM
  by_cases k0 : x.kind = 0
  · have hv : lenN ls x = 0 := by unfold lenN; rw [if_pos k0]
    refine rx ?_
    ((with_reducible apply s_build1); (conv => lhs; whnf); exact rfl)
    intro z hoz hfz hsz
    refine s_append (ho1.tr0 hfz) rfl hoz.src rfl rfl one1 (by unfold maxLen; omega) (by omega) (fun v' z' ho' hf' hk' _ => ?_)
    refine rx ?_
    (apply ret1; exact rfl; (conv => lhs; whnf))
    exact fin _ hv _ _ _ hfz ho' hf' hk'
  by_cases k1 : x.kind = 1
  · have hv : lenN ls x = 1 := by unfold lenN; rw [if_neg k0, if_pos k1]
    refine rx ?_
    ((with_reducible apply s_build1); (conv => lhs; whnf); exact rfl)
    intro z hoz hfz hsz
    refine s_append (ho1.tr0 hfz) rfl hoz.src rfl rfl one1 (by unfold maxLen; omega) (by omega) (fun v' z' ho' hf' hk' _ => ?_)
    refine rx ?_
    (apply ret1; exact rfl; (conv => lhs; whnf))
    exact fin _ hv _ _ _ hfz ho' hf' hk'
  by_cases k3 : x.kind = 3
  · have hv : lenN ls x = SS := by unfold lenN; rw [if_neg k0, if_neg k1, if_pos k3, hSS]
    refine rx ?_
    ((with_reducible apply s_build1); (conv => lhs; whnf); exact rfl)
    intro z hoz hfz hsz
    refine s_append (ho1.tr0 hfz) rfl hoz.src rfl rfl one1 (by unfold maxLen; omega) (by omega) (fun v' z' ho' hf' hk' _ => ?_)
    refine rx ?_
    (apply ret1; exact rfl; (conv => lhs; whnf))
    exact fin _ hv _ _ _ hfz ho' hf' hk'
  by_cases k2 : x.kind = 2
  · have hv : lenN ls x = 1 + M := by unfold lenN; rw [if_neg k0, if_neg k1, if_neg k3, if_pos k2, hMM]
    refine rx ?_
    ((with_reducible apply s_build1); (conv => lhs; whnf); exact rfl)
    intro z hoz hfz hsz
    refine s_append (ho1.tr0 hfz) rfl hoz.src rfl rfl one1 (by unfold maxLen; omega) (by omega) (fun v' z' ho' hf' hk' _ => ?_)
    refine rx ?_
    (apply ret1; exact rfl; (conv => lhs; whnf))
    exact fin _ hv _ _ _ hfz ho' hf' hk'
  have hlt : 0 < x.kids.length := hk4 (by omega)
  obtain ⟨ad, rfl, hcell⟩ := Ls.at hk1 hlt
  obtain ⟨j, hj, ej, ek, e0, e1⟩ := hls.kd hlt
  obtain ⟨ad2, rfl, hcell2⟩ := Ls.at hi1 hj
  rw [ej] at hcell
  have hv : lenN ls x = ls[j] + M := by
    unfold lenN; rw [if_neg k0, if_neg k1, if_neg k3, if_neg k2, hMM, ← ek]
    rw [headD_map hlt]
  refine rx ?_
  rw [Nat.mul_one]
  refine s_load rfl hcell ?_
  refine rx ?_
  rw [Nat.mul_one]
  refine s_load rfl hcell2 ?_
  refine rx ?_
  ((with_reducible apply s_build1); (conv => lhs; whnf); exact rfl)
  intro z hoz hfz hsz
  refine s_append (ho1.tr0 hfz) rfl hoz.src rfl rfl one1 (by unfold maxLen; omega) (by omega) (fun v' z' ho' hf' hk' _ => ?_)
  refine rx ?_
  (apply ret1; exact rfl; (conv => lhs; whnf))
  exact fin _ hv _ _ _ hfz ho' hf' hk'
set_option maxHeartbeats 8000000 in
theorem sizesC (ls : List Int) (x : Nd) (v sw sl sv sk sx : Value) (w : World) (hok : NdOk x) (hls : LsOk ls x 100000) (hn : ls.length ≤ 1000000) (hkd : 0 ≤ x.kind ∧ x.kind ≤ 4) (ho : Own w 3 1 v ls.length (ls.map (.int .i64))) (hk : IS w [] x.kids sk) (hx : VS w [] x.val.kids sx) :
    Calls Tryz.prog 67 #[v, .agg (nc x sw sl sv sk sx).toArray] w fun e w' => ∃ v', e = .returned v' ∧ Own w' 3 1 v' (ls.length + 1) ((ls ++ [sizN ls x]).map (.int .i64)) ∧ (∀ b ∈ blks v', b ∈ blks v ∨ w.heap.size ≤ b) ∧ Fr (blks v) w w' := by
  obtain ⟨ak, ck, rfl, _⟩ := hk.slice
  obtain ⟨av, cv, rfl⟩ := ho.slice
  have hlk := hok.lk
  refine enter Tryz.func67 rfl Tryz.ntmps67 rfl ?_
  refine rx ?_
  refine s_box rfl rfl (fun w1 hb1 hf1 hs1 => ?_)
  have hk1 := hk.tr0 hf1
  have ho1 := ho.tr0 hf1
  have hi1 := Own.is ho1
  refine rx ?_
  refine c_loopK 8 [5, 6, 7] (σ := Nat) (fun i g u => g 7 = .int .i64 i ∧ i ≤ x.kids.length ∧ g 5 = .int .i64 (1 + sumI ((x.kids.take i).map (kd ls))) ∧ g 6 = .int .i64 (mst ls x.kind (x.kids.take i)) ∧ w1 = u) (fun i => x.kids.length - i) 0 ⟨rfl, Nat.zero_le _, rfl, (by rw [List.take_zero]; unfold mst; split <;> rfl), rfl⟩ ?_
  rintro i g u ⟨h7, hi, h5, h6, rfl⟩
  rw [eq_upd h5, eq_upd h6, eq_upd h7]
  have hS := sumI_bd (hls.all (l := x.kids.take i) (fun k hk => List.mem_of_mem_take hk))
  have hM := hls.mst (by omega) (l := x.kids.take i) (fun k hk => List.mem_of_mem_take hk)
  have hlt0 : (((x.kids.take i).map (kd ls)).length : Int) ≤ 1000000 := by simp; omega
  have hS2 : 0 ≤ sumI ((x.kids.take i).map (kd ls)) ∧ sumI ((x.kids.take i).map (kd ls)) ≤ 100000000000 := by omega
  clear hS hlt0
  by_cases hlt : i < x.kids.length
  case pos =>
    obtain ⟨ad, rfl, hcell⟩ := Ls.at hk1 hlt
    obtain ⟨j, hj, ej, ek, e0, e1⟩ := hls.kd hlt
    obtain ⟨ad2, rfl, hcell2⟩ := Ls.at hi1 hj
    have hsn : sumI ((x.kids.take (i + 1)).map (kd ls)) = sumI ((x.kids.take i).map (kd ls)) + ls[j] := by rw [List.take_succ_eq_append_getElem hlt, List.map_append, List.map_cons, List.map_nil, sumI_snoc, ek]
    have hmn := mst_snoc (ls := ls) (kind := x.kind) hlt
    rw [ek] at hmn
    rw [ej] at hcell
    generalize hMM : mst ls x.kind (x.kids.take i) = M at hM hmn
    generalize hSS : sumI ((x.kids.take i).map (kd ls)) = SS at hS2 hsn
    refine rx ?_
    rw [Nat.mul_one]
    refine s_load rfl hcell ?_
    refine rx ?_
    rw [Nat.mul_one]
    refine s_load rfl hcell2 ?_
    by_cases hc : x.kind = 2 ∨ 0 < i
    · rw [if_pos hc] at hmn
      have hgo : ∀ r, (if M < ls[j] then ls[j] else M) = r → r = max M ls[j] := fun r h => by split at h <;> omega
      rcases hc with hc | hc
      all_goals
        (refine rx ?_; repeat' ((first | refine s_eql rfl rfl (fun h => ?_) (fun h => ?_) | refine s_neq rfl rfl (fun h => ?_) (fun h => ?_) | refine s_lss rfl rfl (fun h => ?_) (fun h => ?_) | refine s_leq rfl rfl (fun h => ?_) (fun h => ?_) | refine s_gtr rfl rfl (fun h => ?_) (fun h => ?_) | refine s_geq rfl rfl (fun h => ?_) (fun h => ?_) | refine s_eqlE rfl rfl (fun h => ?_) (fun h => ?_) | refine s_neqE rfl rfl (fun h => ?_) (fun h => ?_) | refine s_lssS rfl rfl (fun h => ?_) (fun h => ?_) | refine s_gtrS rfl rfl (fun h => ?_) (fun h => ?_)) <;> refine rx ?_))
        all_goals
          refine s_max rfl rfl rfl ?_
          rw [hgo _ rfl, ← hmn]
          refine rx ?_
          exact q_roundK (i + 1) (by (repeat (first | exact Keep.mrg _ _ _ _ | (refine Keep.hi rfl ?_) | (refine Keep.one rfl ?_) | exact Keep.all rfl | (refine Keep.inn rfl ?_) | (refine Keep.set rfl ?_)))) ⟨rfl, by omega, (by rw [hsn, ← Int.add_assoc]; rfl), rfl, rfl⟩ (by omega)
    · rw [if_neg hc] at hmn
      have hc1 : ¬ x.kind = 2 := fun h => hc (.inl h)
      have hc2 : ¬ 0 < i := fun h => hc (.inr h)
      refine rx ?_
      exact q_roundK (i + 1) (by (repeat (first | exact Keep.mrg _ _ _ _ | (refine Keep.hi rfl ?_) | (refine Keep.one rfl ?_) | exact Keep.all rfl | (refine Keep.inn rfl ?_) | (refine Keep.set rfl ?_)))) ⟨rfl, by omega, (by rw [hsn, ← Int.add_assoc]; rfl), (by rw [hmn]; rfl), rfl⟩ (by omega)
  have he : x.kids.take i = x.kids := List.take_of_length_le (by omega)
  rw [he] at hS2 hM ⊢
  have fin : ∀ r : Int, sizN ls x = r → ∀ (z z' : World) (v' : Value), Fr [] w1 z → Own z' 3 1 v' (ls.length + 1) (ls.map (.int .i64) ++ [.int .i64 r]) → Fr (blks (.slice av ls.length cv)) z z' → (∀ b ∈ blks v', b ∈ blks (.slice av ls.length cv) ∨ z.heap.size ≤ b) →
      ∃ v'', Ending.returned v' = .returned v'' ∧ Own z' 3 1 v'' (ls.length + 1) ((ls ++ [sizN ls x]).map (.int .i64)) ∧ (∀ b ∈ blks v'', b ∈ blks (.slice av ls.length cv) ∨ w.heap.size ≤ b) ∧ Fr (blks (.slice av ls.length cv)) w z' := by
    intro r hr z z' v' hz ho' hf' hk'
    refine ⟨v', rfl, by rw [hr, List.map_append]; exact ho', fun b hb => ?_, ((hf1.trans0 hz).mono (by simp)).trans hf' (fun b hb => .inl hb)⟩
    rcases hk' b hb with h | h
    · exact .inl h
    · right; have := hz.size; omega
  generalize hSS : sumI (x.kids.map (kd ls)) = SS at hS2
  generalize hMM : mst ls x.kind x.kids = M at hM
  by_cases k0 : x.kind = 0
  · have hv : sizN ls x = vsz x.val := by unfold sizN; rw [if_pos k0]
    refine rx ?_
    refine s_call (sizeR x.val sx w1 (hx.tr0 hf1) (by have := hok.val.2; omega)) rfl ?_
    rintro _ u1 ⟨rfl, hf2⟩
    refine ⟨_, rfl, ?_⟩
    refine rx ?_
    ((with_reducible apply s_build1); (conv => lhs; whnf); exact rfl)
    intro z hoz hfz hsz
    refine s_append (ho1.tr0 (hf2.trans0 hfz)) rfl hoz.src rfl rfl one1 (by unfold maxLen; omega) (by omega) (fun v' z' ho' hf' hk' _ => ?_)
    refine rx ?_
    (apply ret1; exact rfl; (conv => lhs; whnf))
    exact fin _ hv _ _ _ (hf2.trans0 hfz) ho' hf' hk'
  by_cases k1 : x.kind = 1
  · have hv : sizN ls x = 1 := by unfold sizN; rw [if_neg k0, if_pos k1]
    refine rx ?_
    ((with_reducible apply s_build1); (conv => lhs; whnf); exact rfl)
    intro z hoz hfz hsz
    refine s_append (ho1.tr0 hfz) rfl hoz.src rfl rfl one1 (by unfold maxLen; omega) (by omega) (fun v' z' ho' hf' hk' _ => ?_)
    refine rx ?_
    (apply ret1; exact rfl; (conv => lhs; whnf))
    exact fin _ hv _ _ _ hfz ho' hf' hk'
  by_cases k3 : x.kind = 3
  · have hv : sizN ls x = 1 + SS := by unfold sizN; rw [if_neg k0, if_neg k1, if_pos k3, hSS]
    refine rx ?_
    ((with_reducible apply s_build1); (conv => lhs; whnf); exact rfl)
    intro z hoz hfz hsz
    refine s_append (ho1.tr0 hfz) rfl hoz.src rfl rfl one1 (by unfold maxLen; omega) (by omega) (fun v' z' ho' hf' hk' _ => ?_)
    refine rx ?_
    (apply ret1; exact rfl; (conv => lhs; whnf))
    exact fin _ hv _ _ _ hfz ho' hf' hk'
  have hv : sizN ls x = M := by unfold sizN; rw [if_neg k0, if_neg k1, if_neg k3, hMM]
  refine rx ?_
  ((with_reducible apply s_build1); (conv => lhs; whnf); exact rfl)
  intro z hoz hfz hsz
  refine s_append (ho1.tr0 hfz) rfl hoz.src rfl rfl one1 (by unfold maxLen; omega) (by omega) (fun v' z' ho' hf' hk' _ => ?_)
  refine rx ?_
  (apply ret1; exact rfl; (conv => lhs; whnf))
  exact fin _ hv _ _ _ hfz ho' hf' hk'
end Go.Proofs.YtpochcchekoonaaGreat
