/-
  Package walk: Made, Length, merged; pointers to nodes; cut slices of values.
-/
import Derived.Test.YtpochcchekoonaaGreatRb
namespace Go.Rf
open Go.RowKit
set_option linter.unusedVariables false
section
variable {D : Dfs}
variable {P : Program} {ops : Array Oper} {Q : Exit → Act → World → Prop} {rest : List Oper} {n : Nat} {f : Env} {w : World}
variable {d : Nat} {ty : TypeId} {ps : String} {af : Array Edge} {x y : Operand} {t : Nat}
/-- 'make([]T, 0, k)' -/
theorem s_make0 {e size by_ k : Nat} {z : List Value} {kl kc : IntKind} [R : RowZ P t e size by_ z] (hx : ev n f x = .int kl 0) (hy : ev n f y = .int kc (k : Int)) (hb : by_ * k ≤ 281474976710656) (h63 : k ≤ maxLen)
    (h : ∀ w', Own w' e size (.slice (some ⟨w.heap.size, 0, none⟩) 0 k) 0 [] → Fr [] w w' → w'.heap.size = w.heap.size + 1 → wpList P ops Q rest (A n (upd f d (.slice (some ⟨w.heap.size, 0, none⟩) 0 k))) w') :
    wpList P ops Q (⟨some d, .makeSlice t x y, ty, ps, af, none⟩ :: rest) (A n f) w := by
  have Rr := R.row
  obtain ⟨i0, z0, hi0, hz0, hs, hbb, hzs⟩ := Rr.inf
  obtain ⟨i, v, hi, hz, hc, hzl⟩ := R.z
  rw [hi0] at hi
  simp only [Option.some.injEq] at hi
  subst hi
  have h63' : (k : Int) ≤ 9223372036854775807 := by
    have h := h63
    simp [maxLen] at h
    omega
  have hb' : (i0.bytes : Int) * (k : Int) ≤ 281474976710656 := by
    have h : ((i0.bytes * k : Nat) : Int) ≤ 281474976710656 := by rw [hbb]; omega
    rwa [Int.natCast_mul] at h
  have hr := run_make (P := P) w t e i0 v Rr.und hi0 hz kl kc 0 k (by omega) (by omega) hb' h63'
  simp only [Int.toNat_natCast, Int.toNat_zero] at hr
  rw [hc, hs] at hr
  refine s_run (by simp only [execOp, hx, hy]; rw [Sem.run_bind, hr]; rfl) (h _ ?_ (Fr.alloc _ _ _) (by simp))
  exact ⟨by simp, .inr ⟨w.heap.size, k, _, rfl, Nat.zero_le _, heap_alloc_new w _, Nat.zero_le _, h63, by simp [madeCells], by simp⟩⟩
end
theorem Own.blk {w : World} {e size k g : Nat} {xs : List Value} (h : Own w e size (.slice (some ⟨g, 0, none⟩) k k) k xs) : Blk w g xs e := by
  rcases h.2 with ⟨h0, _⟩ | ⟨g', cap, cur, hv, _, hgg, _, _, hcs, htk⟩
  · cases h0
  · simp only [Value.slice.injEq, Option.some.injEq, Addr.mk.injEq, and_true, true_and] at hv
    obtain ⟨rfl, rfl⟩ := hv
    unfold Blk
    rw [hgg, ← htk, List.take_of_length_le (by simp [hcs])]
end Go.Rf
namespace Go.Proofs.YtpochcchekoonaaGreat
open Go.Rf Go.RowKit
set_option linter.unusedVariables false
set_option linter.unusedSimpArgs false
attribute [local irreducible] Code.wp wpList Exit.then Exit.inBlock bodyPost A Calls execOp Addr.add

/-! ### cut slices of values -/
theorem VS.fromC {w : World} {S : List Nat} {l : List V} {ao : Option Addr} {m c j : Nat} (h : VS w S l (.slice ao m c)) (hj : j ≤ l.length) : VS w S (l.drop j) (.slice (if c = j then ao else ao.map (·.add (j * 4))) (m - j) (c - j)) := by
  have hm : m = l.length := by obtain ⟨_, _, e, _⟩ := h.slice; simp only [Value.slice.injEq] at e; exact e.2.1
  subst hm
  have hb := h.bound
  obtain ⟨ys, h1, h2, h3⟩ := h.rows
  have hlen := h3.len (k := 4) VR.len
  have h4 := Src.cut (size := 4) h1 hlen hj (Nat.le_refl _)
  rw [List.take_of_length_le (by omega)] at h4
  refine VS.of (by rw [List.length_drop]; omega) (by rw [List.length_drop]; exact h4) (fun ad n' c' e hl hm => ?_) (h3.drop VR.len j)
  simp only [Value.slice.injEq] at e
  have hpos : 0 < ys.length := by rw [List.length_drop] at hl; omega
  have e1 := e.1
  split at e1
  · exact h2 ad l.length c (by rw [e1]) hpos hm
  · obtain ⟨a0, ha0, hadd⟩ := Option.map_eq_some_iff.1 e1
    subst hadd
    rw [add_block] at hm
    exact h2 a0 l.length c (by rw [ha0]) hpos hm
theorem VS.cap {w : World} {S : List Nat} {l : List V} {ao : Option Addr} {m c : Nat} (h : VS w S l (.slice ao m c)) : m = l.length ∧ l.length ≤ c := by
  obtain ⟨_, _, e, h1⟩ := h.slice; simp only [Value.slice.injEq] at e; omega

/-! ### a pointer to a node -/
def PN (w : World) (S : List Nat) (x : Nd) (a : Addr) : Prop := a.block ∉ S ∧ ∃ cs, Cells w a cs ∧ NdR w S x cs
theorem PN.lt {w : World} {S : List Nat} {x : Nd} {a : Addr} (h : PN w S x a) : a.block < w.heap.size := by
  obtain ⟨_, cs, hc, ⟨sw, sl, sv, sk, sx, rfl, _⟩⟩ := h
  have := hc.get (j := 0) rfl
  have := World.block_lt_of_cell? w _ this
  rwa [add_block] at this
theorem PN.tr {w w' : World} {S : List Nat} {x : Nd} {a : Addr} (h : PN w S x a) (hf : Fr S w w') : PN w' S x a := by
  obtain ⟨h1, cs, hc, hr⟩ := h
  exact ⟨h1, cs, hc.tr hf h1, ndStab.tr hr hf⟩
theorem PN.mono {w : World} {S T : List Nat} {x : Nd} {a : Addr} (h : PN w S x a) (hT : ∀ b ∈ T, b ∈ S ∨ w.heap.size ≤ b) : PN w T x a := by
  have hl := h.lt
  obtain ⟨h1, cs, hc, hr⟩ := h
  exact ⟨fun hm => by rcases hT _ hm with h | h; exact h1 h; omega, cs, hc, ndStab.mono hr hT⟩
theorem PN.old {w w' : World} {S T : List Nat} {x : Nd} {a : Addr} (h : PN w S x a) (hf : Fr T w w') (hT : ∀ b ∈ T, b ∈ S ∨ w.heap.size ≤ b) : PN w' S x a := by
  have h2 : PN w (S ++ T) x a := h.mono (fun b hb => by rcases List.mem_append.1 hb with h | h; exact .inl h; exact hT b h)
  exact (h2.tr (hf.mono (fun b hb => .inl (by simp [hb])))).mono (fun b hb => .inl (by simp [hb]))
theorem PN.tr0 {w w' : World} {S : List Nat} {x : Nd} {a : Addr} (h : PN w S x a) (hf : Fr [] w w') : PN w' S x a := h.old hf (by simp)
theorem NS.ptr {w : World} {S : List Nat} {t : List Nd} {ao : Option Addr} {m c : Nat} (h : NS w S t (.slice ao m c)) {i : Nat} (hi : i < t.length) : ∃ ad, ao = some ad ∧ PN w S t[i] (ad.add (i * 12)) := by
  obtain ⟨ad, cs, rfl, hr, hc⟩ := Sl.at h ndLen hi
  refine ⟨ad, rfl, ?_, cs, hc, hr⟩
  obtain ⟨ys, h1, h2, h3⟩ := h
  rw [add_block]
  refine h2 ad m c rfl ?_
  have := h3.len ndLen
  omega

/-! ### Made -/
set_option maxHeartbeats 4000000 in
theorem madeP (x : Nd) (pn : Addr) (kids : List V) (s : Value) (w : World) (hn : PN w [] x pn) (hs : VS w [] kids s) :
    Calls Tryz.prog 84 #[.pointer (some pn), s] w fun e w' => e = .returned (.agg (vc (madeV x kids) s).toArray) ∧ Fr [] w w' := by
  obtain ⟨a, c, rfl, _⟩ := hs.slice
  obtain ⟨_, _, hc, ⟨sw, sl, sv, sk, sx, rfl, _⟩⟩ := hn
  refine enter Tryz.func84 rfl Tryz.ntmps84 rfl ?_
  refine rx ?_
  refine s_alloc rfl (fun w2 hb2 hf2 hs2 => ?_)
  have hc2 := hc.tr0 hf2
  by_cases hn : x.name = ⟨#[]⟩
  · have e : madeV x kids = ⟨2, 0, ⟨#[]⟩, kids⟩ := by unfold madeV; rw [if_pos hn]
    rw [e]
    refine rx ?_
    refine s_build (vc ⟨2, 0, ⟨#[]⟩, kids⟩ (.slice a kids.length c)) rfl ?_
    refine s_storeAggB rfl rfl hb2 (VR.mem1 (w := w) (S := []) ⟨2, 0, ⟨#[]⟩, kids⟩ _ ⟨_, rfl, hs⟩) rfl rfl (fun w5 hb7 hf5 hs5 => ?_)
    refine rx ?_
    exact retc rfl rfl (AggT.load _ (vc ⟨2, 0, ⟨#[]⟩, kids⟩ (.slice a kids.length c)) rfl (fun j x hx => by rw [add_lit]; exact hb7.cell (by simpa using hx))) ⟨rfl, hf2.trans hf5 (by simp)⟩
  · have e : madeV x kids = ⟨3, 0, x.name, kids⟩ := by unfold madeV; rw [if_neg hn]
    rw [e]
    refine rx ?_
    refine s_build (vc ⟨3, 0, x.name, kids⟩ (.slice a kids.length c)) rfl ?_
    refine s_storeAggB rfl rfl hb2 (VR.mem1 (w := w) (S := []) ⟨3, 0, x.name, kids⟩ _ ⟨_, rfl, hs⟩) rfl rfl (fun w5 hb7 hf5 hs5 => ?_)
    refine rx ?_
    exact retc rfl rfl (AggT.load _ (vc ⟨3, 0, x.name, kids⟩ (.slice a kids.length c)) rfl (fun j x hx => by rw [add_lit]; exact hb7.cell (by simpa using hx))) ⟨rfl, hf2.trans hf5 (by simp)⟩

/-! ### Length -/
set_option maxHeartbeats 8000000 in
theorem lengthP (x : Nd) (pn : Addr) (ls : List Int) (v : Value) (w : World) (hok : NdOk x) (hls : LsOk ls x 100000) (hkd : 0 ≤ x.kind ∧ x.kind ≤ 4) (hk4 : x.kind = 4 → 0 < x.kids.length) (hn : PN w [] x pn) (hv : IS w [] ls v) :
    Calls Tryz.prog 83 #[.pointer (some pn), v] w fun e w' => e = .returned (.int .i64 (lenN ls x)) ∧ w = w' := by
  obtain ⟨_, _, hc, ⟨sw, sl, sv, sk, sx, rfl, _, _, _, hk, _⟩⟩ := hn
  obtain ⟨ak, ck, rfl, _⟩ := hk.slice
  obtain ⟨av, cv, rfl, _⟩ := hv.slice
  have hlk := hok.lk
  refine enter Tryz.func83 rfl Tryz.ntmps83 rfl ?_
  refine rx ?_
  refine c_loopK 9 [5, 6, 7, 8] (σ := Nat) (fun i g u => g 12 = .slice ak x.kids.length ck ∧ g 13 = .int .i64 x.kids.length ∧ g 14 = .int .i64 i ∧ i ≤ x.kids.length ∧ g 5 = .int .i64 (sumI ((x.kids.take i).map (kd ls))) ∧ g 6 = .int .i64 (mst ls x.kind (x.kids.take i)) ∧ w = u) (fun i => x.kids.length - i) 0 ⟨rfl, rfl, rfl, Nat.zero_le _, rfl, (by rw [List.take_zero]; unfold mst; split <;> rfl), rfl⟩ ?_
  rintro i g u ⟨h12, h13, h14, hi, h5, h6, rfl⟩
  rw [eq_upd h5, eq_upd h6, eq_upd h12, eq_upd h13, eq_upd h14]
  have hS := sumI_bd (hls.all (l := x.kids.take i) (fun k hk => List.mem_of_mem_take hk))
  have hM := hls.mst (by omega) (l := x.kids.take i) (fun k hk => List.mem_of_mem_take hk)
  have hlt0 : (((x.kids.take i).map (kd ls)).length : Int) ≤ 1000000 := by simp; omega
  have hS2 : 0 ≤ sumI ((x.kids.take i).map (kd ls)) ∧ sumI ((x.kids.take i).map (kd ls)) ≤ 100000000000 := by omega
  clear hS hlt0
  by_cases hlt : i < x.kids.length
  case pos =>
    obtain ⟨ad, rfl, hcell⟩ := Ls.at hk hlt
    obtain ⟨j, hj, ej, ek, e0, e1⟩ := hls.kd hlt
    obtain ⟨ad2, rfl, hcell2⟩ := Ls.at hv hj
    have hsn : sumI ((x.kids.take (i + 1)).map (kd ls)) = sumI ((x.kids.take i).map (kd ls)) + ls[j] := by rw [List.take_succ_eq_append_getElem hlt, List.map_append, List.map_cons, List.map_nil, sumI_snoc, ek]
    have hmn := mst_snoc (ls := ls) (kind := x.kind) hlt
    rw [ek] at hmn
    rw [ej] at hcell
    generalize hMM : mst ls x.kind (x.kids.take i) = M at hM hmn
    generalize hSS : sumI ((x.kids.take i).map (kd ls)) = SS at hS2 hsn
    refine rx ?_
    rw [Nat.mul_one]
    refine s_load rfl hcell ?_
    refine rx ?_
    rw [Nat.mul_one]
    refine s_load rfl hcell2 ?_
    by_cases hc2 : 0 < i ∨ x.kind = 2
    · have hc2' : x.kind = 2 ∨ 0 < i := hc2.symm
      rw [if_pos hc2'] at hmn
      have hgo : ∀ r, (if M < ls[j] then ls[j] else M) = r → r = max M ls[j] := fun r h => by split at h <;> omega
      by_cases hi0 : 0 < i
      case' neg => have hk2 : x.kind = 2 := by omega
      all_goals
        refine rx ?_
        rw [Nat.mul_one]
        refine s_load rfl hcell2 ?_
        refine s_max rfl rfl rfl ?_
        rw [hgo _ rfl, ← hmn]
        refine rx ?_
        exact q_roundK (i + 1) (by (repeat (first | exact Keep.mrg _ _ _ _ | (refine Keep.hi rfl ?_) | (refine Keep.one rfl ?_) | exact Keep.all rfl | (refine Keep.inn rfl ?_) | (refine Keep.set rfl ?_)))) ⟨rfl, rfl, rfl, by omega, (by rw [hsn]; rfl), rfl, rfl⟩ (by omega)
    · rw [if_neg (fun h => hc2 h.symm)] at hmn
      have hc1 : ¬ x.kind = 2 := fun h => hc2 (.inr h)
      have hc3 : ¬ 0 < i := fun h => hc2 (.inl h)
      refine rx ?_
      exact q_roundK (i + 1) (by (repeat (first | exact Keep.mrg _ _ _ _ | (refine Keep.hi rfl ?_) | (refine Keep.one rfl ?_) | exact Keep.all rfl | (refine Keep.inn rfl ?_) | (refine Keep.set rfl ?_)))) ⟨rfl, rfl, rfl, by omega, (by rw [hsn]; rfl), (by rw [hmn]; rfl), rfl⟩ (by omega)
  have he : x.kids.take i = x.kids := List.take_of_length_le (by omega)
  rw [he] at hS2 hM ⊢
  generalize hSS : sumI (x.kids.map (kd ls)) = SS at hS2
  generalize hMM : mst ls x.kind x.kids = M at hM
  by_cases k0 : x.kind = 0
  · have hv : lenN ls x = 0 := by unfold lenN; rw [if_pos k0]
    rw [hv]
    refine rx ?_
    (apply ret1; exact rfl; (conv => lhs; whnf))
    exact ⟨rfl, rfl⟩
  by_cases k1 : x.kind = 1
  · have hv : lenN ls x = 1 := by unfold lenN; rw [if_neg k0, if_pos k1]
    rw [hv]
    refine rx ?_
    (apply ret1; exact rfl; (conv => lhs; whnf))
    exact ⟨rfl, rfl⟩
  by_cases k3 : x.kind = 3
  · have hv : lenN ls x = SS := by unfold lenN; rw [if_neg k0, if_neg k1, if_pos k3, hSS]
    rw [hv]
    refine rx ?_
    (apply ret1; exact rfl; (conv => lhs; whnf))
    exact ⟨rfl, rfl⟩
  by_cases k2 : x.kind = 2
  · have hv : lenN ls x = 1 + M := by unfold lenN; rw [if_neg k0, if_neg k1, if_neg k3, if_pos k2, hMM]
    rw [hv]
    refine rx ?_
    (apply ret1; exact rfl; (conv => lhs; whnf))
    exact ⟨rfl, rfl⟩
  have hlt : 0 < x.kids.length := hk4 (by omega)
  obtain ⟨ad, rfl, hcell⟩ := Ls.at hk hlt
  obtain ⟨j, hj, ej, ek, e0, e1⟩ := hls.kd hlt
  obtain ⟨ad2, rfl, hcell2⟩ := Ls.at hv hj
  rw [ej] at hcell
  have hv : lenN ls x = ls[j] + M := by
    unfold lenN; rw [if_neg k0, if_neg k1, if_neg k3, if_neg k2, hMM, ← ek]
    rw [headD_map hlt]
  rw [hv]
  refine rx ?_
  rw [Nat.zero_mul]
  refine s_load rfl hcell ?_
  refine rx ?_
  rw [Nat.mul_one]
  refine s_load rfl hcell2 ?_
  refine rx ?_
  (apply ret1; exact rfl; (conv => lhs; whnf))
  exact ⟨rfl, rfl⟩

/-! ### merged -/
set_option maxHeartbeats 8000000 in
theorem mergedP (a b : List V) (sa sb : Value) (w : World) (S : List Nat) (hSb : ∀ k ∈ S, k < w.heap.size) (ha : VS w S a sa) (hb : VS w S b sb) (la : a.length ≤ 1000000) (lb : b.length ≤ 1000000) :
    Calls Tryz.prog 148 #[sa, sb] w fun e w' => ∃ s, e = .returned s ∧ VS w' S (mrgV a b) s ∧ Fr [] w w' := by
  obtain ⟨aa, ca, rfl, hca⟩ := ha.slice
  obtain ⟨ab, cb, rfl, hcb⟩ := hb.slice
  refine enter Tryz.func148 rfl Tryz.ntmps148 rfl ?_
  by_cases h0 : a.length = 0
  · have : a = [] := List.eq_nil_of_length_eq_zero h0
    subst this
    refine rx ?_
    (apply ret1; exact rfl; (conv => lhs; whnf))
    exact ⟨_, rfl, by simpa [mrgV] using hb, Fr.refl _ _⟩
  refine rx ?_
  refine s_make0 (k := a.length + b.length) rfl (congrArg (Value.int .i64) (by omega)) (by omega) (by unfold maxLen; omega) (fun w1 ho1 hf1 hs1 => ?_)
  have stP : Stab (plusR VR S) 4 := plusStab vrStab
  have hoR : OwnR w1 33 4 (plusR VR S) [] (.slice (some ⟨w.heap.size, 0, none⟩) 0 (a.length + b.length)) := ⟨[], ho1, .nil⟩
  refine rx ?_
  refine c_loopK 7 [0, 1, 5, 6] (σ := List V × List V × List V × Value × Value × Value) (fun s g u => g 0 = s.2.2.2.1 ∧ g 1 = s.2.2.2.2.1 ∧ g 5 = s.2.2.2.2.2 ∧ VS w S s.1 s.2.2.2.1 ∧ VS w S s.2.1 s.2.2.2.2.1 ∧ OwnR u 33 4 (plusR VR S) s.2.2.1 s.2.2.2.2.2 ∧ (∀ k ∈ blks s.2.2.2.2.2, w.heap.size ≤ k) ∧ mrgV a b = s.2.2.1 ++ mrgV s.1 s.2.1 ∧ s.1.length + s.2.1.length + s.2.2.1.length ≤ a.length + b.length ∧ Fr [] w u)
    (fun s => s.1.length + s.2.1.length) (a, b, [], _, _, _) ⟨rfl, rfl, rfl, ha, hb, hoR, by simp [blks, Value.ownBlock], rfl, by simp, hf1⟩ ?_
  rintro ⟨a', b', out, s0, s1, s5⟩ g u ⟨g0, g1, g5, ha', hb', ho, hk, hm, hlen, hfu⟩
  simp only at g0 g1 g5 ha' hb' ho hk hm hlen
  obtain ⟨a0, c0, rfl, hc0⟩ := ha'.slice
  obtain ⟨a1, c1, rfl, hc1⟩ := hb'.slice
  obtain ⟨a5, c5, rfl⟩ := ho.slice
  rw [eq_upd g0, eq_upd g1, eq_upd g5]
  by_cases hgo : 0 < a'.length ∧ 0 < b'.length
  case neg =>
    have hmm : mrgV a' b' = a' ++ b' := by
      by_cases h : 0 < a'.length
      · have : b' = [] := List.eq_nil_of_length_eq_zero (by omega)
        subst this
        simp [mrgV_nil]
      · have : a' = [] := List.eq_nil_of_length_eq_zero (by omega)
        subst this
        simp [mrgV]
    have fin : ∀ (P : Prop), (P → P) := fun _ h => h
    have hsa : VS u (blks (.slice a5 out.length c5) ++ S) a' (.slice a0 a'.length c0) := (ha'.mono (fun k hkk => by
      rcases List.mem_append.1 hkk with h | h
      · exact .inr (hk k h)
      · exact .inl h)).tr0 hfu
    obtain ⟨ys, hsrc, hoff, hrws⟩ := hsa.rows
    by_cases h1 : 0 < a'.length
    case' pos => have h2 : ¬ 0 < b'.length := fun h => hgo ⟨h1, h⟩
    all_goals
      refine rx ?_
      refine s_appR (R := plusR VR S) (al := a') ho stP rfl rfl hsrc (hrws.imp fun x cs _ h => h) rfl (by unfold maxLen; omega) (by omega) (fun v2 u2 ho2 hf2 hk2 _ => ?_)
      have hk2' : ∀ k ∈ blks v2, w.heap.size ≤ k := fun k hkk => by
        rcases hk2 k hkk with h | h
        · exact hk k h
        · have := hfu.size; omega
      have hfu2 : Fr [] w u2 := hfu.trans hf2 (fun k hkk => .inr (hk k hkk))
      have hsb : VS u2 (blks v2 ++ S) b' (.slice a1 b'.length c1) := (hb'.mono (fun k hkk => by
        rcases List.mem_append.1 hkk with h | h
        · exact .inr (hk2' k h)
        · exact .inl h)).tr0 hfu2
      obtain ⟨ys2, hsrc2, hoff2, hrws2⟩ := hsb.rows
      refine rx ?_
      refine s_appR (R := plusR VR S) (al := b') ho2 stP rfl rfl hsrc2 (hrws2.imp fun x cs _ h => h) rfl (by unfold maxLen; rw [List.length_append]; omega) (by rw [List.length_append]; omega) (fun v3 u3 ho3 hf3 hk3 _ => ?_)
      have hk3' : ∀ k ∈ blks v3, w.heap.size ≤ k := fun k hkk => by
        rcases hk3 k hkk with h | h
        · exact hk2' k h
        · have := hfu2.size; omega
      refine rx ?_
      (apply ret1; exact rfl; (conv => lhs; whnf))
      refine ⟨_, rfl, ?_, hfu2.trans hf3 (fun k hkk => .inr (hk2' k hkk))⟩
      rw [hm, hmm, ← List.append_assoc]
      exact vsP ho3 (by rw [List.length_append, List.length_append]; omega) (fun k hkk hm => by have := hk3' k hkk; have := hSb k hm; omega)
  obtain ⟨hgo1, hgo2⟩ := hgo
  obtain ⟨ad, cs1, rfl, ⟨sx1, rfl, hx1⟩, hcell1⟩ := Sl.at ha'.sl VR.len hgo1
  obtain ⟨ad2, cs2, rfl, ⟨sx2, rfl, hx2⟩, hcell2⟩ := Sl.at hb'.sl VR.len hgo2
  replace hcell1 := hcell1.tr0 hfu
  replace hcell2 := hcell2.tr0 hfu
  refine rx ?_
  (refine d_begin (fun y => Fr [] u y) (by kernel_rfl) rfl ?_)
  have hS : Fr [] u u.drew := Fr.drew _ _
  ((first | refine d_tx 0 hS ?_ | refine d_ty 0 hS ?_ | refine d_tn 0 hS ?_); (first | refine d_tx 1 hS ?_ | refine d_ty 1 hS ?_ | refine d_tn 1 hS ?_); (first | refine d_tx 2 hS ?_ | refine d_ty 2 hS ?_ | refine d_tn 2 hS ?_); (first | refine d_tx 3 hS ?_ | refine d_ty 3 hS ?_ | refine d_tn 3 hS ?_); (first | refine d_tx 4 hS ?_ | refine d_ty 4 hS ?_ | refine d_tn 4 hS ?_); (first | refine d_tx 5 hS ?_ | refine d_ty 5 hS ?_ | refine d_tn 5 hS ?_))
  refine d_one (i := 6) rfl (by kernel_rfl) ?_
  refine s_call (compareV a'[0] b'[0] sx1 sx2 _ ((hx1.tr0 hfu).tr0 hS).any ((hx2.tr0 hfu).tr0 hS).any) rfl ?_
  rintro _ u1 ⟨rfl, hf2⟩
  refine ⟨_, rfl, ?_⟩
  have hT := hS.trans0 hf2
  refine wpList_nil (q_held hT ?_)
  (refine d_one (i := 7) rfl (by kernel_rfl) ?_; refine rx ?_; refine q_held hT ?_)
  (refine d_done (by kernel_rfl) ?_)
  have hfu1 := hfu.trans0 hT
  have hc1' := hcell1.tr0 hT
  have hc2' := hcell2.tr0 hT
  have ho' := ho.tr0 stP hT
  have row1 : plusR VR S u1 (blks (.slice a5 out.length c5)) a'[0] (vc a'[0] sx1) := ⟨sx1, rfl, (hx1.mono (fun k hkk => by
    rcases List.mem_append.1 hkk with h | h
    · exact .inr (hk k h)
    · exact .inl h)).tr0 hfu1⟩
  have row2 : plusR VR S u1 (blks (.slice a5 out.length c5)) b'[0] (vc b'[0] sx2) := ⟨sx2, rfl, (hx2.mono (fun k hkk => by
    rcases List.mem_append.1 hkk with h | h
    · exact .inr (hk k h)
    · exact .inl h)).tr0 hfu1⟩
  have ea : a' = a'[0] :: a'.drop 1 := by rw [← List.drop_eq_getElem_cons hgo1, List.drop_zero]
  have eb : b' = b'[0] :: b'.drop 1 := by rw [← List.drop_eq_getElem_cons hgo2, List.drop_zero]
  have hmc : mrgV a' b' = if cmpV a'[0] b'[0] < 0 then a'[0] :: mrgV (a'.drop 1) b' else if cmpV a'[0] b'[0] = 0 then a'[0] :: mrgV (a'.drop 1) (b'.drop 1) else b'[0] :: mrgV a' (b'.drop 1) := by
    conv => lhs; rw [ea, eb, mrgV]
    rw [← ea, ← eb]
  have hda : VS w S (a'.drop 1) (.slice (if c0 = 1 then some ad else Option.map (fun x => x.add (1 * 4)) (some ad)) (a'.length - 1) (c0 - 1)) := VS.fromC ha' (by omega)
  have hdb : VS w S (b'.drop 1) (.slice (if c1 = 1 then some ad2 else Option.map (fun x => x.add (1 * 4)) (some ad2)) (b'.length - 1) (c1 - 1)) := VS.fromC hb' (by omega)
  have hl1 : (a'.drop 1).length = a'.length - 1 := by simp
  have hl2 : (b'.drop 1).length = b'.length - 1 := by simp
  by_cases hlt : cmpV a'[0] b'[0] ≤ 0
  · refine rx ?_
    refine s_pushA (R := plusR VR S) (a := a'[0]) (cs := vc a'[0] sx1) ho' stP rfl rfl rfl row1 rfl rfl rfl (by unfold maxLen; omega) (by omega) (fun v2 u2 ho2 hf3 hk2 => ?_)
    have hk2' : ∀ k ∈ blks v2, w.heap.size ≤ k := fun k hkk => by
      rcases hk2 k hkk with h | h
      · exact hk k h
      · have := hfu1.size; omega
    have hfu2 : Fr [] w u2 := hfu1.trans hf3 (fun k hkk => .inr (hk k hkk))
    refine rx ?_
    refine s_slice (j := 1) (k := a'.length) rfl ⟨_, rfl⟩ rfl (by omega) (by omega) (by omega) ?_
    by_cases hz : cmpV a'[0] b'[0] = 0
    · rw [if_neg (by omega), if_pos hz] at hmc
      refine rx ?_
      refine s_slice (j := 1) (k := b'.length) rfl ⟨_, rfl⟩ rfl (by omega) (by omega) (by omega) ?_
      refine rx ?_
      refine q_roundK (a'.drop 1, b'.drop 1, out ++ [a'[0]], _, _, v2) (by (repeat (first | exact Keep.mrg _ _ _ _ | (refine Keep.hi rfl ?_) | (refine Keep.one rfl ?_) | exact Keep.all rfl | (refine Keep.inn rfl ?_) | (refine Keep.set rfl ?_)))) ⟨rfl, rfl, rfl, hda, hdb, ho2, hk2', ?_, ?_, hfu2⟩ ?_
      · simp only; rw [hm, hmc, List.append_assoc]; rfl
      · simp only [List.length_append, hl1, hl2, List.length_cons, List.length_nil]; omega
      · simp only [hl1, hl2]; omega
    · rw [if_pos (by omega)] at hmc
      refine rx ?_
      refine q_roundK (a'.drop 1, b', out ++ [a'[0]], _, _, v2) (by (repeat (first | exact Keep.mrg _ _ _ _ | (refine Keep.hi rfl ?_) | (refine Keep.one rfl ?_) | exact Keep.all rfl | (refine Keep.inn rfl ?_) | (refine Keep.set rfl ?_)))) ⟨rfl, rfl, rfl, hda, hb', ho2, hk2', ?_, ?_, hfu2⟩ ?_
      · simp only; rw [hm, hmc, List.append_assoc]; rfl
      · simp only [List.length_append, hl1, List.length_cons, List.length_nil]; omega
      · simp only [hl1]; omega
  · rw [if_neg (by omega), if_neg (by omega)] at hmc
    refine rx ?_
    refine s_pushA (R := plusR VR S) (a := b'[0]) (cs := vc b'[0] sx2) ho' stP rfl rfl rfl row2 rfl rfl rfl (by unfold maxLen; omega) (by omega) (fun v2 u2 ho2 hf3 hk2 => ?_)
    have hk2' : ∀ k ∈ blks v2, w.heap.size ≤ k := fun k hkk => by
      rcases hk2 k hkk with h | h
      · exact hk k h
      · have := hfu1.size; omega
    have hfu2 : Fr [] w u2 := hfu1.trans hf3 (fun k hkk => .inr (hk k hkk))
    refine rx ?_
    refine s_slice (j := 1) (k := b'.length) rfl ⟨_, rfl⟩ rfl (by omega) (by omega) (by omega) ?_
    refine rx ?_
    refine q_roundK (a', b'.drop 1, out ++ [b'[0]], _, _, v2) (by (repeat (first | exact Keep.mrg _ _ _ _ | (refine Keep.hi rfl ?_) | (refine Keep.one rfl ?_) | exact Keep.all rfl | (refine Keep.inn rfl ?_) | (refine Keep.set rfl ?_)))) ⟨rfl, rfl, rfl, ha', hdb, ho2, hk2', ?_, ?_, hfu2⟩ ?_
    · simp only; rw [hm, hmc, List.append_assoc]; rfl
    · simp only [List.length_append, hl2, List.length_cons, List.length_nil]; omega
    · simp only [hl2]; omega
end Go.Proofs.YtpochcchekoonaaGreat
