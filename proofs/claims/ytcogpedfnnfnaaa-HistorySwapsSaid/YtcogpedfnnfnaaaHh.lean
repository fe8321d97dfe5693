/-
  Linear of package history.
-/
import Derived.Test.YtcogpedfnnfnaaaHt
import Derived.Scope
namespace Go.Rf
open Go.RowKit
instance {Q : Exit → Act → World → Prop} [h : PanicOk Q] : PanicOk (Exit.noGoto Q) := ⟨fun c a w d v k => h.ok c a w d v k⟩
theorem q_ng {Q : Exit → Act → World → Prop} {a : Act} {w : World} (h : Q .normal a w) : Exit.noGoto Q .normal a w := h
theorem q_ng_ret {Q : Exit → Act → World → Prop} {a : Act} {w : World} (h : Q .ret a w) : Exit.noGoto Q .ret a w := h
theorem q_ng_exit {Q : Exit → Act → World → Prop} {a : Act} {w : World} {i : Nat} (h : Q (.exit i) a w) : Exit.noGoto Q (.exit i) a w := h
end Go.Rf
namespace Go.Proofs.Ytcogpedfnnfnaaa
open Go.Rf Go.RowKit
set_option linter.unusedVariables false
set_option maxHeartbeats 8000000
attribute [local irreducible] Code.wp wpList Exit.then Exit.inBlock bodyPost A Calls execOp Addr.add
attribute [local irreducible] Exit.noGoto

def thI (n : Nat) (o : List Int) : List Bool := (List.range n).map fun (j : Nat) => decide ((j : Int) ∈ o)
theorem thI_len (n : Nat) (o : List Int) : (thI n o).length = n := by simp [thI]
theorem thI_get {n : Nat} (o : List Int) {k : Nat} (hk : k < n) : (thI n o)[k]? = some (decide ((k : Int) ∈ o)) := by simp [thI, hk]
theorem thI_zero (n : Nat) : (zeros [.bool false] n) = (thI n []).map .bool := by
  have : ∀ n, zeros [Value.bool false] n = List.replicate n (.bool false) := by
    intro n
    induction n with
    | zero => rfl
    | succ n ih => simp [zeros, ih, List.replicate_succ]
  rw [this]
  apply List.ext_getElem (by simp [thI])
  intro i h1 h2
  simp [thI]
theorem thI_set {n : Nat} {o : List Int} {j : Nat} (hj : j < n) : thI n (o ++ [(j : Int)]) = (thI n o).set j true := by
  apply List.ext_getElem (by simp [thI])
  intro k h1 h2
  have hk : k < n := by simpa [thI] using h1
  rw [List.getElem_set]
  simp only [thI, List.getElem_map, List.getElem_range]
  by_cases e : j = k
  · subst e; simp
  · rw [if_neg e]
    have : ((k : Int) ∈ o ++ [(j : Int)]) ↔ (k : Int) ∈ o := by
      rw [List.mem_append]
      simp only [List.mem_cons, List.not_mem_nil, or_false]
      constructor
      · rintro (h | h)
        · exact h
        · omega
      · exact .inl
    simp only [this]

set_option maxRecDepth 4000 in
theorem linC (l : List Cl) (sl : Value) (o : List Int) (so : Value) (w : World) (hl : OcS w l sl) (ho : Src w so o.length (o.map (.int .i64))) (hb : l.length ≤ 1000000) (hob : o.length ≤ 1000000) :
    Calls Try.prog 32 #[sl, so] w fun r w' => ∃ b : Bool, r = .returned (.bool b) ∧ (b = true ↔ LinP l o) ∧ Fr [] w w' := by
  obtain ⟨ao, c, rfl, hc⟩ := Sl.slice hl
  obtain ⟨aw, cw, rfl, hcw, _⟩ := id ho
  refine enter Try.func32 rfl Try.ntmps32 rfl ?_
  refine rx ?_
  refine wp_scope_straight ?_
  refine rx ?_
  refine s_makeS (k := l.length) rfl rfl (by omega) (by unfold maxLen; omega) (fun w1 ho1 hf1 hs1 => ?_)
  obtain ⟨N, hN⟩ : ∃ N, w.heap.size = N := ⟨_, rfl⟩
  rw [hN] at ho1 hs1 ⊢
  rw [thI_zero] at ho1
  have hblk : blks (.slice (some ⟨N, 0, none⟩) l.length l.length) = [N] := rfl
  have no : ∀ {u : World}, Fr [] w u → ¬ LinP l o → ∃ b : Bool, Ending.returned (.bool false) = .returned (.bool b) ∧ (b = true ↔ LinP l o) ∧ Fr [] w u := fun hf h => ⟨false, rfl, ⟨fun h => (by cases h), fun h' => absurd h' h⟩, hf⟩
  have getA : ∀ {u : World} {o' : List Int} {k : Nat}, Own u 4 1 (.slice (some ⟨N, 0, none⟩) l.length l.length) l.length ((thI l.length o').map .bool) → (hk : k < l.length) → u.cell? ((⟨N, 0, none⟩ : Addr).add k) = some (.bool (decide ((k : Int) ∈ o'))) := fun ho hk =>
    src_cell ho.src (by rw [List.getElem?_map, thI_get _ hk]; rfl)
  refine rx ?_
  refine c_loopK 20 [7] (σ := Nat) (fun i g u => g 20 = .int .i64 i ∧ i ≤ o.length ∧ Own u 4 1 (.slice (some ⟨N, 0, none⟩) l.length l.length) l.length ((thI l.length (o.take i)).map .bool) ∧ (∀ x ∈ o.take i, 0 ≤ x ∧ x < l.length) ∧ (o.take i).Nodup ∧ Fr [N] w1 u)
    (fun i => o.length - i) 0 ⟨rfl, Nat.zero_le _, by simpa using ho1, by simp, by simp, Fr.refl _ _⟩ ?_
  rintro i g u ⟨h20, hi, hT, hin, hnd, hf⟩
  rw [eq_upd h20]
  have hF : Fr [] w u := hf1.trans hf (by simp; omega)
  by_cases hlt : i < o.length
  case pos =>
    obtain ⟨x, hx⟩ : ∃ x, o[i]? = some x := ⟨_, List.getElem?_eq_getElem hlt⟩
    have hxm : x ∈ o := List.mem_of_getElem? hx
    have htk : o.take (i + 1) = o.take i ++ [x] := by
      rw [List.take_succ_eq_append_getElem hlt]
      rw [List.getElem?_eq_getElem hlt] at hx
      simp only [Option.some.injEq] at hx
      rw [hx]
    obtain ⟨ad, rfl, hcell⟩ := src_at (j := i) (u := .int .i64 x) (ho.tr0 hF) (by rw [List.getElem?_map, hx]; rfl)
    refine rx ?_
    rw [Nat.mul_one]
    refine s_load rfl hcell ?_
    by_cases hx0 : x < 0
    · refine rx ?_
      refine q_ng_ret ?_
      (apply ret1; exact rfl; (conv => lhs; whnf))
      exact no hF (fun h => by have := (h.inn x hxm).1; omega)
    by_cases hxn : (l.length : Int) ≤ x
    · refine rx ?_
      refine q_ng_ret ?_
      (apply ret1; exact rfl; (conv => lhs; whnf))
      exact no hF (fun h => by have := (h.inn x hxm).2; omega)
    obtain ⟨j, rfl⟩ : ∃ j : Nat, x = j := ⟨x.toNat, by omega⟩
    have hjl : j < l.length := by omega
    have hgj := getA hT hjl
    refine rx ?_
    rw [Nat.mul_one]
    refine s_load rfl hgj ?_
    by_cases hm : (j : Int) ∈ o.take i
    · rw [decide_eq_true hm]
      refine rx ?_
      refine q_ng_ret ?_
      (apply ret1; exact rfl; (conv => lhs; whnf))
      refine no hF (fun h => ?_)
      have h1 : (o.take (i + 1)).Nodup := h.nd.sublist (List.take_sublist _ _)
      rw [htk, List.nodup_append] at h1
      exact h1.2.2 _ hm _ (by simp) rfl
    · rw [decide_eq_false hm]
      refine rx ?_
      rw [Nat.mul_one]
      refine s_storeOwn (j := j) (u := .bool true) hT rfl hjl rfl rfl rfl (fun u3 ho3 hf3 hs3 => ?_)
      rw [← List.map_set, ← thI_set hjl, ← htk] at ho3
      rw [hblk] at hf3
      refine rx ?_
      refine q_roundK (i + 1) (by (repeat (first | exact Keep.mrg _ _ _ _ | (refine Keep.hi rfl ?_) | (refine Keep.one rfl ?_) | exact Keep.all rfl | (refine Keep.inn rfl ?_) | (refine Keep.set rfl ?_)))) ⟨rfl, by omega, ho3, ?_, ?_, hf.trans hf3 (by simp)⟩ (by omega)
      · rw [htk]
        intro y hy
        rcases List.mem_append.1 hy with h | h
        · exact hin y h
        · simp at h; omega
      · rw [htk, List.nodup_append]
        refine ⟨hnd, by simp, ?_⟩
        intro a ha b hb' hab
        simp at hb'
        rw [hab, hb'] at ha
        exact hm ha
  have hio : o.take i = o := List.take_of_length_le (by omega)
  rw [hio] at hT hin hnd
  refine rx ?_
  refine c_loopK 44 [8, 9] (σ := Nat) (fun k g u' => g 44 = .int .i64 k ∧ k ≤ l.length ∧ (∀ m (hm : m < l.length), m < k → l[m].fin ≠ -1 → (m : Int) ∈ o) ∧ Fr [] u u') (fun k => l.length - k) 0 ⟨rfl, Nat.zero_le _, fun m _ h => by omega, Fr.refl _ _⟩ ?_
  rintro k g u2 ⟨h44, hk, hen, hf2⟩
  rw [eq_upd h44]
  have hF2 : Fr [] w u2 := hF.trans0 hf2
  by_cases hkl : k < l.length
  case pos =>
    obtain ⟨ad, cs, rfl, ⟨sa, sr, rfl, ha, hr⟩, hcell⟩ := Sl.at (OcS.tr0 hl hF2) ocLen hkl
    refine rx ?_
    refine s_alloc rfl (fun u3 hb3 hf3 hs3 => ?_)
    refine rx ?_
    refine s_storeAggB rfl rfl hb3 (by intro q hq; simp only [oc, List.mem_cons, List.not_mem_nil, or_false] at hq; rcases hq with rfl | rfl | rfl | rfl | rfl | rfl | rfl | rfl | rfl | rfl <;> first | rfl | exact ha | exact hr) rfl rfl (fun u4 hb4 hf4 hs4 => ?_)
    have hF4 : Fr [] u2 u4 := hf3.trans hf4 (by simp)
    have hgk := getA (hT.tr0 (hf2.trans0 hF4)) hkl
    by_cases hfin : l[k].fin = -1
    · refine rx ?_
      refine q_roundK (k + 1) (by (repeat (first | exact Keep.mrg _ _ _ _ | (refine Keep.hi rfl ?_) | (refine Keep.one rfl ?_) | exact Keep.all rfl | (refine Keep.inn rfl ?_) | (refine Keep.set rfl ?_)))) ⟨rfl, by omega, fun m hm hmk hmf => ?_, hf2.trans0 hF4⟩ (by omega)
      by_cases hmk' : m < k
      · exact hen m hm hmk' hmf
      · have : m = k := by omega
        subst this
        exact absurd hfin hmf
    refine rx ?_
    rw [Nat.mul_one]
    refine s_load rfl hgk ?_
    by_cases hm : (k : Int) ∈ o
    · rw [decide_eq_true hm]
      refine rx ?_
      refine q_roundK (k + 1) (by (repeat (first | exact Keep.mrg _ _ _ _ | (refine Keep.hi rfl ?_) | (refine Keep.one rfl ?_) | exact Keep.all rfl | (refine Keep.inn rfl ?_) | (refine Keep.set rfl ?_)))) ⟨rfl, by omega, fun m hm' hmk hmf => ?_, hf2.trans0 hF4⟩ (by omega)
      by_cases hmk' : m < k
      · exact hen m hm' hmk' hmf
      · have : m = k := by omega
        subst this
        exact hm
    · rw [decide_eq_false hm]
      refine rx ?_
      refine q_ng_ret ?_
      (apply ret1; exact rfl; (conv => lhs; whnf))
      exact no (hF2.trans0 hF4) (fun h => hm (h.all k hkl hfin))
  have hen' : ∀ m (hm : m < l.length), l[m].fin ≠ -1 → (m : Int) ∈ o := fun m hm => hen m hm (by omega)
  refine rx ?_
  refine wp_label ?_
  refine rx ?_
  refine c_loopK 62 [11, 12, 14] (σ := Nat) (fun k g u' => g 62 = .int .i64 k ∧ k ≤ o.length ∧ (o.take k).Pairwise (fun a b => bf l b.toNat a.toNat = false) ∧ Fr [] u2 u') (fun k => o.length - k) 0 ⟨rfl, Nat.zero_le _, by simp, Fr.refl _ _⟩ ?_
  rintro k g u3 ⟨h62, hk, hpw, hf3⟩
  rw [eq_upd h62]
  have hF3 : Fr [] w u3 := hF2.trans0 hf3
  by_cases hkl : k < o.length
  case neg =>
    refine rx ?_
    refine q_ng_ret ?_
    (apply ret1; exact rfl; (conv => lhs; whnf))
    rw [List.take_of_length_le (by omega)] at hpw
    exact ⟨true, rfl, ⟨fun _ => ⟨hin, hnd, hen', hpw⟩, fun _ => rfl⟩, hF3⟩
  obtain ⟨x, hx⟩ : ∃ x, o[k]? = some x := ⟨_, List.getElem?_eq_getElem hkl⟩
  have hxm : x ∈ o := List.mem_of_getElem? hx
  have hxr := hin x hxm
  obtain ⟨j, rfl⟩ : ∃ j : Nat, x = j := ⟨x.toNat, by omega⟩
  have hjl : j < l.length := by omega
  have htk : o.take (k + 1) = o.take k ++ [(j : Int)] := by
    rw [List.take_succ_eq_append_getElem hkl]
    rw [List.getElem?_eq_getElem hkl] at hx
    simp only [Option.some.injEq] at hx
    rw [hx]
  obtain ⟨ad, rfl, hcell⟩ := src_at (j := k) (u := .int .i64 (j : Int)) (ho.tr0 hF3) (by rw [List.getElem?_map, hx]; rfl)
  refine rx ?_
  rw [Nat.mul_one]
  refine s_load rfl hcell ?_
  refine rx ?_
  refine s_cut 0 k (ho.tr0 hF3) rfl (by simp) rfl ⟨_, rfl⟩ (by omega) (by omega) (fun ao2 c2 hs2 _ _ => ?_)
  rw [Nat.sub_zero] at hs2 ⊢
  rw [Nat.zero_mul, List.drop_zero, Nat.mul_one, ← List.map_take] at hs2
  refine rx ?_
  refine c_loopK 71 [14] (σ := Nat) (fun m g u' => g 71 = .int .i64 m ∧ m ≤ k ∧ (∀ y ∈ o.take m, bf l j y.toNat = false) ∧ Fr [] u3 u') (fun m => k - m) 0 ⟨rfl, Nat.zero_le _, by simp, Fr.refl _ _⟩ ?_
  rintro m g u4 ⟨h71, hm, hall, hf4⟩
  rw [eq_upd h71]
  by_cases hmk : m < k
  case neg =>
    have : m = k := by omega
    subst this
    refine rx ?_
    refine q_roundK (m + 1) (by (repeat (first | exact Keep.mrg _ _ _ _ | (refine Keep.hi rfl ?_) | (refine Keep.one rfl ?_) | exact Keep.all rfl | (refine Keep.inn rfl ?_) | (refine Keep.set rfl ?_)))) ⟨rfl, by omega, ?_, hf3.trans0 hf4⟩ (by omega)
    rw [htk, List.pairwise_append]
    refine ⟨hpw, by simp, fun a ha b hb' => ?_⟩
    simp at hb'
    subst hb'
    exact hall a ha
  have hmo : m < o.length := by omega
  obtain ⟨y, hy⟩ : ∃ y, o[m]? = some y := ⟨_, List.getElem?_eq_getElem hmo⟩
  have hym : y ∈ o := List.mem_of_getElem? hy
  have hyr := hin y hym
  obtain ⟨jy, rfl⟩ : ∃ jy : Nat, y = jy := ⟨y.toNat, by omega⟩
  have hjyl : jy < l.length := by omega
  have htm : o.take (m + 1) = o.take m ++ [(jy : Int)] := by
    rw [List.take_succ_eq_append_getElem hmo]
    rw [List.getElem?_eq_getElem hmo] at hy
    simp only [Option.some.injEq] at hy
    rw [hy]
  have hs2l : (o.take k).length = k := by rw [List.length_take]; omega
  obtain ⟨ad2, rfl, hcell2⟩ := src_at (j := m) (u := .int .i64 (jy : Int)) (hs2.tr0 hf4) (by rw [List.getElem?_map, List.getElem?_take, if_pos hmk, hy]; rfl)
  refine rx ?_
  rw [Nat.mul_one]
  refine s_load rfl hcell2 ?_
  have hF4 : Fr [] w u4 := hF3.trans0 hf4
  obtain ⟨al, cs, rfl, ⟨sa, sr, rfl, _, _⟩, hcj⟩ := Sl.at (OcS.tr0 hl hF4) ocLen hjl
  obtain ⟨al', cs, e, ⟨sa', sr', rfl, _, _⟩, hcjy⟩ := Sl.at (OcS.tr0 hl hF4) ocLen hjyl
  simp only [Option.some.injEq] at e
  subst e
  refine rx ?_
  (refine d_begin (fun z => Fr [] u4 z) (by kernel_rfl) rfl ?_)
  have hS : Fr [] u4 u4.drew := Fr.drew _ _
  ((first | refine d_tx 0 hS ?_ | refine d_ty 0 hS ?_ | refine d_tn 0 hS ?_); (first | refine d_tx 1 hS ?_ | refine d_ty 1 hS ?_ | refine d_tn 1 hS ?_); (first | refine d_tx 2 hS ?_ | refine d_ty 2 hS ?_ | refine d_tn 2 hS ?_); (first | refine d_tx 3 hS ?_ | refine d_ty 3 hS ?_ | refine d_tn 3 hS ?_); (first | refine d_tx 4 hS ?_ | refine d_ty 4 hS ?_ | refine d_tn 4 hS ?_); (first | refine d_tx 5 hS ?_ | refine d_ty 5 hS ?_ | refine d_tn 5 hS ?_); (first | refine d_tx 6 hS ?_ | refine d_ty 6 hS ?_ | refine d_tn 6 hS ?_); (first | refine d_tx 7 hS ?_ | refine d_ty 7 hS ?_ | refine d_tn 7 hS ?_))
  refine d_one (i := 8) rfl (by kernel_rfl) ?_
  refine s_call (beforeC l[j] l[jy] sa sr sa' sr' _) rfl ?_
  rintro _ u5 ⟨rfl, hf5⟩
  refine ⟨_, rfl, ?_⟩
  have hS5 := hS.trans0 hf5
  refine wpList_nil (q_held hS5 ?_)
  (refine d_done (by kernel_rfl) ?_)
  cases hbf : bef l[j] l[jy]
  case false =>
    refine rx ?_
    refine q_roundK (m + 1) (by (repeat (first | exact Keep.mrg _ _ _ _ | (refine Keep.hi rfl ?_) | (refine Keep.one rfl ?_) | exact Keep.all rfl | (refine Keep.inn rfl ?_) | (refine Keep.set rfl ?_)))) ⟨rfl, by omega, ?_, hf4.trans0 hS5⟩ (by omega)
    rw [htm]
    intro y hy
    rcases List.mem_append.1 hy with h | h
    · exact hall y h
    · simp at h
      subst h
      rw [Int.toNat_natCast, bf_eq hjl hjyl]; exact hbf
  case true =>
    refine rx ?_
    refine q_ng_ret ?_
    (apply ret1; exact rfl; (conv => lhs; whnf))
    refine no (hF4.trans0 hS5) (fun h => ?_)
    have h1 : (o.take (k + 1)).Pairwise (fun a b => bf l b.toNat a.toNat = false) := h.pw.sublist (List.take_sublist _ _)
    rw [htk, List.pairwise_append] at h1
    have h2 := h1.2.2 (jy : Int) (List.mem_of_getElem? (i := m) (by rw [List.getElem?_take, if_pos hmk]; exact hy)) (j : Int) (by simp)
    rw [Int.toNat_natCast, Int.toNat_natCast, bf_eq hjl hjyl, hbf] at h2
    cases h2
end Go.Proofs.Ytcogpedfnnfnaaa
