/-
  Package tree: whole, Value, At, Options, Fit, First, Spans. Package tree: Value, Spans, At, Options, Fit, First.
-/
import Derived.Test.YtpochcchekoonaaGreatUh
import Derived.Test.YtpochcchekoonaaGreatK3
namespace Go.Rf
open Go.RowKit
theorem retct {P : Program} {fn : Func} {R : Ending → World → Prop} {n : Nat} {f : Env} {w : World} {t ty u : Nat} {v x : Value} {a : Addr} (hr : fn.results = #[.cell t ty, .tmp u]) (hv : ev n f (.tmp t) = .pointer (some a)) (hl : (loadVar ty a).run P w = .ok v w) (hx : ev n f (.tmp u) = x)
    (h : R (.returned (.tuple #[v, x])) w) : bodyPost P fn R .ret (A n f) w :=
  ⟨rfl, .tuple #[v, x], by
    have e : (A n f).tmps.getD t undef = .pointer (some a) := by rw [A_getD]; exact hv
    have e2 : (A n f).tmps.getD u undef = x := by rw [A_getD]; exact hx
    rw [Array.getD_eq_getD_getElem?] at e e2
    simp [results, hr, e, e2, asAddr, hl], h⟩
theorem retcD {P : Program} {fn : Func} {R : Ending → World → Prop} {n : Nat} {f : Env} {w : World} {t ty : Nat} {v : Value} {a : Addr} (hr : fn.results = #[.cell t ty]) (hv : ev n f (.tmp t) = .pointer (some a)) (hl : (loadVar ty a).run P w = .ok v w)
    (h : R (.returned v) w) : bodyPostD P fn R .ret (A n f) w :=
  ⟨v, by
    have e : (A n f).tmps.getD t undef = .pointer (some a) := by rw [A_getD]; exact hv
    rw [Array.getD_eq_getD_getElem?] at e
    simp [results, hr, e, asAddr, hl], h⟩
end Go.Rf
namespace Go.Proofs.YtpochcchekoonaaGreat
open Go.Rf Go.RowKit
set_option linter.unusedVariables false
set_option linter.unusedSimpArgs false
--BEGIN
/-! ### bounds on the spans -/
def bsF (t : List Nd) (k : Nat) : Nat := 256 * (k + 1) * (lT t k).toNat
theorem sum_bsF {t : List Nd} {n : Nat} : ∀ {l : List Int}, (∀ q ∈ l, q.toNat < n ∧ 0 ≤ lT t q.toNat) → (l.map fun q => 1 + bsF t q.toNat).sum ≤ l.length + 256 * n * (sumI (l.map fun q => lT t q.toNat)).toNat ∧ 0 ≤ sumI (l.map fun q => lT t q.toNat)
  | [], _ => by simp [sumI]
  | q :: l, h => by
    obtain ⟨h1, h1'⟩ := sum_bsF (l := l) (fun x hx => h x (by simp [hx]))
    obtain ⟨h2, h3⟩ := h q (by simp)
    simp only [List.map_cons, List.sum_cons, sumI, List.length_cons]
    have e : (lT t q.toNat + sumI (l.map fun q => lT t q.toNat)).toNat = (lT t q.toNat).toNat + (sumI (l.map fun q => lT t q.toNat)).toNat := by omega
    have h4 : bsF t q.toNat ≤ 256 * n * (lT t q.toNat).toNat := Nat.mul_le_mul_right _ (by omega)
    rw [e, Nat.mul_add]
    omega
theorem bsF_le {t : List Nd} {i k : Nat} {m : Int} (hi : i < k) (hm : lT t i ≤ m) : bsF t i ≤ 256 * k * m.toNat := Nat.mul_le_mul (by omega) (by omega)
theorem spF {t : List Nd} (hv : VT t) : SpB t false (bsF t) := by
  refine ⟨fun k hk h2 q hq => ?_, fun k hk h3 hs => ?_, fun k hk h4 hs q hq => ?_⟩
  · obtain ⟨r, rfl, hr⟩ := hv.kid hk hq
    have := lT_cho hv hk h2 _ hq
    rw [Int.toNat_natCast] at this ⊢
    exact Nat.mul_le_mul (by omega) (by omega)
  · have hl := hv.l0 hk
    have hp : 1 ≤ (lT t k).toNat := by
      have : lT t k ≠ 0 := fun e => hs ⟨e, .inl rfl⟩
      omega
    have hsum := sum_bsF (t := t) (n := k) (l := t[k].kids) (fun q hq => by
      obtain ⟨r, rfl, hr⟩ := hv.kid hk hq
      rw [Int.toNat_natCast]
      exact ⟨hr, (hv.l0 (by omega)).1⟩)
    rw [← lT_seq hv hk h3] at hsum
    have hn := (hv.seq hk h3).1
    have e : bsF t k = 256 * k * (lT t k).toNat + 256 * (lT t k).toNat := by unfold bsF; rw [Nat.mul_add, Nat.add_mul, Nat.mul_one]
    omega
  · have hl := lT_bnd hv hk h4 q hq
    have h0 : 0 < t[k].kids.length := by have := (hv.bind hk h4).1; omega
    obtain ⟨r, rfl, hr⟩ := hv.kid hk (List.mem_of_mem_tail hq)
    obtain ⟨p, hp, hpk⟩ := hv.kid hk (List.getElem_mem h0)
    rw [headD_get h0, hp] at hl ⊢
    rw [Int.toNat_natCast, Int.toNat_natCast] at hl ⊢
    have l1 := (hv.l0 (t := t) (i := r) (by omega)).1
    have l2 := (hv.l0 (t := t) (i := p) (by omega)).1
    have b1 := bsF_le (t := t) (m := lT t r) hr (Int.le_refl _)
    have b2 := bsF_le (t := t) (m := lT t p) hpk (Int.le_refl _)
    have e : 256 * k * (lT t k).toNat ≤ bsF t k := Nat.mul_le_mul_right _ (by omega)
    have e2 : 256 * k * ((lT t p).toNat + (lT t r).toNat) ≤ 256 * k * (lT t k).toNat := Nat.mul_le_mul_left _ (by omega)
    rw [Nat.mul_add] at e2
    omega
theorem spF_le {t : List Nd} (hv : VT t) (h0 : 0 < t.length) : bsF t (t.length - 1) ≤ 100000000000 := by
  have h1 := hv.l0 (t := t) (i := t.length - 1) (by omega)
  have h2 := hv.len
  have : bsF t (t.length - 1) ≤ 256 * 4096 * 256 := Nat.mul_le_mul (Nat.mul_le_mul_left _ (by omega)) (by omega)
  omega
theorem nspS_sum {t : List Nd} : ∀ {l : List Int}, (l.map fun q => 1 + nsp (tA t q.toNat)).sum = nspS (kidsT t l)
  | [] => rfl
  | q :: l => by simp only [List.map_cons, List.sum_cons, kidsT, nspS]; rw [nspS_sum (l := l)]; rfl
theorem spT {t : List Nd} (hv : VT t) : SpB t true (fun k => nsp (tA t k)) := by
  refine ⟨fun k hk h2 q hq => ?_, fun k hk h3 hs => ?_, fun k hk h4 hs q hq => ?_⟩
  · simp only [tA_cho hv hk h2, nsp]
    exact nspM_mem (List.mem_map.2 ⟨q, hq, rfl⟩)
  · simp only [tA_seq hv hk h3, nsp]
    rw [nspS_sum]; exact Nat.le_refl _
  · simp only [tA_bnd hv hk h4, nsp]
    have : nsp (tA t q.toNat) ≤ nspM (kidsT t t[k].kids.tail) := nspM_mem (List.mem_map.2 ⟨q, hq, rfl⟩)
    omega
/-! ### what the functions answer -/
def fullT (t : List Nd) (path : List Int) : Option (V × List Sp) :=
  if validT t = 0 ∧ 0 < t.length then
    match rd path (tA t (t.length - 1)) 0 with
    | .ok v e sp => if e = path.length then some (v, sp) else none
    | _ => none
  else none
def errT (t : List Nd) : Int := if validT t = 0 then 11 else validT t
def atT (t : List Nd) (path : List Int) : Int × Int :=
  if validT t = 0 then
    if 0 < t.length then
      match rd path (tA t (t.length - 1)) 0 with
      | .ok _ e _ => (-1, if e = path.length then 0 else 11)
      | .stop i _ => (i, 0)
      | .bad => (-1, 11)
    else (-1, 11)
  else (-1, validT t)
def optT (t : List Nd) (path : List Int) : Int × Int := if (atT t path).1 < 0 then (0, (atT t path).2) else ((((t.map optN).getD (atT t path).1.toNat 0 : Nat) : Int), 0)
def fitT (t : List Nd) (raw : List Int) : List Int × Int := if validT t = 0 then if 0 < t.length then ((fit raw (tA t (t.length - 1)) []).2, 0) else ([], 10) else ([], validT t)
--END
attribute [local irreducible] Code.wp wpList Exit.then Exit.inBlock bodyPost A Calls execOp Addr.add

theorem readP0 (path : List Int) (hpl : path.length ≤ 1000000000) (flag : Bool) (S : List Nat) (sn spv : Value) (u : World) (hn : NS u S [] sn) (hp : IS u S path spv) :
    Calls Tryz.prog 88 #[.agg #[sn], spv, .bool flag] u fun e u' => Fr [] u u' ∧ e = .returned (.agg (bad7 (-1) 11).toArray) := by
  obtain ⟨an, cn, rfl, _⟩ := hn.slice
  obtain ⟨ap, cp, rfl, _⟩ := hp.slice
  refine enterD Tryz.func88 rfl Tryz.ntmps88 rfl ?_
  refine rx ?_
  refine s_box (l := [.slice an 0 cn]) rfl rfl (fun u1 hb1 hf1 hs1 => ?_)
  refine s_box (l := [.slice ap path.length cp]) rfl rfl (fun u2 hb2 hf2 hs2 => ?_)
  refine s_box (l := [.bool flag]) rfl rfl (fun u3 hb3 hf3 hs3 => ?_)
  refine s_alloc rfl (fun u4 hb4 hf4 hs4 => ?_)
  have hb14 := ((hb1.tr0 hf2).tr0 hf3).tr0 hf4
  refine rx ?_
  refine s_build (bad7 (-1) 11) rfl ?_
  refine s_storeAggB (cs := bad7 (-1) 11) rfl rfl hb4 (by simp [bad7, Value.oneCell']) rfl rfl (fun u5 hb5 hf5 hs5 => ?_)
  refine rx ?_
  exact retcD rfl rfl (AggT.load _ (bad7 (-1) 11) rfl (fun j x hx => by rw [add_lit]; exact hb5.cell (by simpa using hx))) ⟨(((hf1.trans0 hf2).trans0 hf3).trans0 hf4).trans hf5 (by simp; omega), rfl⟩
def FullR (t : List Nd) (path : List Int) (flag : Bool) (S : List Nat) (u u' : World) (cs : List Value) : Prop :=
  ∃ v sp s sv sp', fullT t path = some (v, sp) ∧ atT t path = (-1, 0) ∧ cs = vc v s ++ [.int .i64 (-1), sv, .int .i64 0] ∧ VS u' S v.kids s ∧ Own u' 93 3 sv sp'.length (spC sp') ∧ (flag = true → sp' = sp) ∧ (∀ q ∈ blks sv, u.heap.size ≤ q)
theorem readW (t : List Nd) (hz : validT t = 0) (hok : ∀ x ∈ t, NdOk x) (path : List Int) (hpl : path.length ≤ 1000000000) (flag : Bool) (hbs : flag = true → nsp (tA t (t.length - 1)) ≤ 100000000000) (S : List Nat) (sn spv : Value) (u : World) (hn : NS u S t sn) (hp : IS u S path spv) (hSb : ∀ q ∈ S, q < u.heap.size) :
    Calls Tryz.prog 88 #[.agg #[sn], spv, .bool flag] u fun e u' => ∃ cs, e = .returned (.agg cs.toArray) ∧ Fr [] u u' ∧ (FullR t path flag S u u' cs ∨ (fullT t path = none ∧ cs = bad7 (atT t path).1 (atT t path).2 ∧ ((atT t path).2 ≠ 0 ∨ 0 ≤ (atT t path).1))) := by
  have hv := VT.of hz
  by_cases h0 : 0 < t.length
  case neg =>
    have : t = [] := List.eq_nil_of_length_eq_zero (by omega)
    subst this
    refine (readP0 path hpl flag S sn spv u hn hp).mono ?_
    rintro e u' ⟨h1, h2⟩
    refine ⟨_, h2, h1, .inr ⟨?_, ?_, ?_⟩⟩
    · unfold fullT; rw [if_neg (by simp)]
    · unfold atT; rw [if_pos hz, if_neg h0]
    · unfold atT; rw [if_pos hz, if_neg h0]; simp
  have hR : Calls Tryz.prog 88 #[.agg #[sn], spv, .bool flag] u (ReadR t flag S u path.length (rd path (tA t (t.length - 1)) 0)) := by
    cases flag with
    | false => exact readP t hv h0 hok path hpl _ false (spF hv) (spF_le hv h0) S sn spv u hn hp hSb
    | true => exact readP t hv h0 hok path hpl _ true (spT hv) (hbs rfl) S sn spv u hn hp hSb
  refine hR.mono ?_
  intro e u' hr
  unfold FullR fullT atT
  rw [if_pos ⟨hz, h0⟩, if_pos hz, if_pos h0]
  rcases hres : rd path (tA t (t.length - 1)) 0 with ⟨v, e', sp⟩ | ⟨i, n⟩ | _
  · rw [hres] at hr
    obtain ⟨h1, h2⟩ := hr
    by_cases he : e' = path.length
    · rw [if_pos he] at h2
      obtain ⟨s, sv, sp', rfl, h3, h4, h5, h6⟩ := h2
      refine ⟨_, rfl, h1, .inl ⟨v, sp, s, sv, sp', by simp [he], by simp [he], rfl, h3, h4, h5, h6⟩⟩
    · rw [if_neg he] at h2
      refine ⟨_, h2, h1, .inr ⟨by simp [he], by simp [he], by simp [he]⟩⟩
  · rw [hres] at hr
    obtain ⟨h1, h2⟩ := hr
    exact ⟨_, h2, h1, .inr ⟨rfl, rfl, .inr (by simp)⟩⟩
  · rw [hres] at hr
    obtain ⟨h1, h2⟩ := hr
    exact ⟨_, h2, h1, .inr ⟨rfl, rfl, .inl (by simp)⟩⟩
/-! ### whole -/
theorem FullR.one {t : List Nd} {path : List Int} {flag : Bool} {S : List Nat} {u u' : World} {cs : List Value} (h : FullR t path flag S u u' cs) : cs.length = 7 ∧ ∀ q ∈ cs, q.oneCell' = true := by
  obtain ⟨v, sp, s, sv, sp', _, _, rfl, h1, h2, _⟩ := h
  refine ⟨rfl, fun q hq => ?_⟩
  rcases List.mem_append.1 hq with h | h
  · exact VR.mem1 (w := u') v _ ⟨_, rfl, h1⟩ q h
  · simp only [List.mem_cons, List.not_mem_nil, or_false] at h
    rcases h with rfl | rfl | rfl
    · rfl
    · exact h2.one
    · rfl
theorem FullR.tr {t : List Nd} {path : List Int} {flag : Bool} {S : List Nat} {u0 u u' u2 : World} {cs : List Value} (h : FullR t path flag S u u' cs) (hs : u0.heap.size ≤ u.heap.size) (hf : Fr [] u' u2) : FullR t path flag S u0 u2 cs := by
  obtain ⟨v, sp, s, sv, sp', e1, e2, rfl, h1, h2, h3, h4⟩ := h
  exact ⟨v, sp, s, sv, sp', e1, e2, rfl, h1.tr0 hf, h2.tr0 hf, h3, fun q hq => by have := h4 q hq; omega⟩
theorem FullR.put {t : List Nd} {path : List Int} {flag : Bool} {S : List Nat} {b : Nat} {u u' u2 : World} {cs : List Value} (h : FullR t path flag (b :: S) u u' cs) (hb : b < u.heap.size) (hf : Fr [b] u' u2) : FullR t path flag S u u2 cs := by
  obtain ⟨v, sp, s, sv, sp', e1, e2, rfl, h1, h2, h3, h4⟩ := h
  refine ⟨v, sp, s, sv, sp', e1, e2, rfl, (h1.tr (hf.mono (by simp))).mono (fun q hq => .inl (by simp [hq])), h2.tr hf (fun q hq hm => ?_), h3, h4⟩
  simp at hm; subst hm; have := h4 q hq; omega
set_option maxHeartbeats 4000000 in
theorem wholeP (t : List Nd) (hok : ∀ x ∈ t, NdOk x) (htl : t.length ≤ 1000000) (path : List Int) (hpl : path.length ≤ 1000000000) (flag : Bool) (hbs : flag = true → nsp (tA t (t.length - 1)) ≤ 100000000000) (S : List Nat) (sn spv : Value) (u : World) (hn : NS u S t sn) (hp : IS u S path spv) (hSb : ∀ q ∈ S, q < u.heap.size) :
    Calls Tryz.prog 43 #[.agg #[sn], spv, .bool flag] u fun e u' => ∃ cs c, e = .returned (.tuple #[.agg cs.toArray, .int .i64 c]) ∧ Fr [] u u' ∧ ((c = 0 ∧ FullR t path flag S u u' cs) ∨ (fullT t path = none ∧ cs = bad7 0 0 ∧ c = errT t)) := by
  obtain ⟨an, cn, rfl, _⟩ := hn.slice
  refine enter Tryz.func43 rfl Tryz.ntmps43 rfl ?_
  refine rx ?_
  refine s_box (l := [.slice an t.length cn]) rfl rfl (fun u1 hb1 hf1 hs1 => ?_)
  refine s_alloc rfl (fun u2 hb2 hf2 hs2 => ?_)
  have hF2 := hf1.trans0 hf2
  have hb12 := hb1.tr0 hf2
  refine rx ?_
  refine s_call (validPT t _ u2 ((hn.mono (by simp)).tr0 hF2) hok htl) rfl ?_
  rintro _ u3 ⟨rfl, hf3⟩
  refine ⟨_, rfl, ?_⟩
  have hb23 := hb2.tr0 hf3
  have hb13 := hb12.tr0 hf3
  have hF3 := hF2.trans0 hf3
  by_cases hz : validT t = 0
  case neg =>
    refine rx ?_
    refine s_build (bad7 0 0) rfl ?_
    refine rx ?_
    refine s_storeAggB (cs := bad7 0 0) rfl rfl hb23 (by simp [bad7, Value.oneCell']) rfl rfl (fun u4 hb4 hf4 hs4 => ?_)
    refine rx ?_
    refine retct rfl rfl (AggT.load _ (bad7 0 0) rfl (fun j x hx => by rw [add_lit]; exact hb4.cell (by simpa using hx))) rfl ⟨_, _, rfl, hF3.trans hf4 (by simp; omega), .inr ⟨?_, rfl, ?_⟩⟩
    · unfold fullT; rw [if_neg (fun h => hz h.1)]
    · unfold errT; rw [if_neg hz]
  obtain ⟨rb, hrb⟩ : ∃ y, y = u1.heap.size := ⟨_, rfl⟩
  rw [← hrb] at hb23 ⊢
  have hmono : ∀ q ∈ rb :: S, q ∈ S ∨ u.heap.size ≤ q := fun q hq => by
    rcases List.mem_cons.1 hq with h | h
    · right; omega
    · exact .inl h
  have hn3 := (hn.mono hmono).tr0 hF3
  have hp3 := (hp.mono hmono).tr0 hF3
  have hs3 := hF3.size
  have hs23 := hf3.size
  obtain ⟨ap, cp, rfl, _⟩ := hp.slice
  refine rx ?_
  refine s_call (readW t hz hok path hpl flag hbs (rb :: S) _ _ u3 hn3 hp3 (fun q hq => by
    rcases List.mem_cons.1 hq with h | h
    · omega
    · have := hSb q h; omega)) rfl ?_
  rintro _ u4 ⟨cs, rfl, hf4, hcs⟩
  refine ⟨_, rfl, ?_⟩
  have hs4 := hf4.size
  have hb24 := hb23.tr0 hf4
  have hl24 := hb24.lt
  have hF4 := hF3.trans0 hf4
  have hone : cs.length = 7 ∧ ∀ q ∈ cs, q.oneCell' = true := by
    rcases hcs with h | ⟨_, rfl, _⟩
    · exact h.one
    · exact ⟨rfl, by simp [bad7, Value.oneCell']⟩
  refine s_alloc rfl (fun u5 hb5 hf5 hs5 => ?_)
  refine s_storeAggB (cs := cs) rfl rfl hb5 hone.2 rfl hone.1 (fun u6 hb6 hf6 hs6 => ?_)
  have hF46 : Fr [] u4 u6 := hf5.trans hf6 (by simp)
  have hb26 := hb24.tr0 hF46
  rcases hcs with h | ⟨hnone, rfl, hbad⟩
  · have h6 := h.tr (u0 := u3) (Nat.le_refl _) hF46
    obtain ⟨v, sp, s, sv, sp', e1, e2, rfl, h1, h2, h3, h4⟩ := h
    refine rx ?_
    refine s_storeAggB (cs := vc v s ++ [.int .i64 (-1), sv, .int .i64 0]) rfl rfl hb26 hone.2 rfl rfl (fun u7 hb7 hf7 hs7 => ?_)
    refine rx ?_
    refine retct rfl rfl (AggT.load _ (vc v s ++ [.int .i64 (-1), sv, .int .i64 0]) rfl (fun j x hx => by rw [add_lit]; exact hb7.cell (by simpa using hx))) rfl ⟨_, _, rfl, (hF4.trans0 hF46).trans hf7 (by simp; omega), .inl ⟨rfl, ?_⟩⟩
    exact (h6.put (by omega) hf7).tr (by omega) (Fr.refl _ _)
  · unfold bad7 at hb6
    by_cases hc0 : (atT t path).2 = 0
    case' pos => have hge : 0 ≤ (atT t path).1 := by omega
    all_goals
      refine rx ?_
      refine s_build (bad7 0 0) rfl ?_
      refine s_storeAggB (cs := bad7 0 0) rfl rfl hb26 (by simp [bad7, Value.oneCell']) rfl rfl (fun u7 hb7 hf7 hs7 => ?_)
      refine rx ?_
      refine retct rfl rfl (AggT.load _ (bad7 0 0) rfl (fun j x hx => by rw [add_lit]; exact hb7.cell (by simpa using hx))) rfl ⟨_, _, rfl, (hF4.trans0 hF46).trans hf7 (by simp; omega), .inr ⟨hnone, rfl, ?_⟩⟩
      unfold errT; rw [if_pos hz]
end Go.Proofs.YtpochcchekoonaaGreat
namespace Go.Proofs.YtpochcchekoonaaGreat
open Go.Rf Go.RowKit
set_option linter.unusedVariables false
set_option linter.unusedSimpArgs false
--BEGIN
def valT (t : List Nd) (path : List Int) : V × Int := match fullT t path with
  | some (v, _) => (v, 0)
  | none => (numV 0, errT t)
def spanT (t : List Nd) (path : List Int) : List Sp × Int := match fullT t path with
  | some (_, sp) => (sp, 0)
  | none => ([], errT t)
--END
attribute [local irreducible] Code.wp wpList Exit.then Exit.inBlock bodyPost A Calls execOp Addr.add
set_option maxHeartbeats 4000000 in
theorem valueP (t : List Nd) (hok : ∀ x ∈ t, NdOk x) (htl : t.length ≤ 1000000) (path : List Int) (hpl : path.length ≤ 1000000000) (S : List Nat) (sn spv : Value) (u : World) (hn : NS u S t sn) (hp : IS u S path spv) (hSb : ∀ q ∈ S, q < u.heap.size) :
    Calls Tryz.prog 14 #[.agg #[sn], spv] u fun e u' => ∃ s, e = .returned (.tuple #[.agg (vc (valT t path).1 s).toArray, .int .i64 (valT t path).2]) ∧ Fr [] u u' ∧ ∀ T, (∀ q ∈ T, q < u.heap.size) → VS u' T (valT t path).1.kids s := by
  obtain ⟨an, cn, rfl, _⟩ := hn.slice
  obtain ⟨ap, cp, rfl, _⟩ := hp.slice
  refine enter Tryz.func14 rfl Tryz.ntmps14 rfl ?_
  refine rx ?_
  refine s_box (l := [.slice an t.length cn]) rfl rfl (fun u1 hb1 hf1 hs1 => ?_)
  refine s_alloc rfl (fun u2 hb2 hf2 hs2 => ?_)
  have hF2 := hf1.trans0 hf2
  have hb12 := hb1.tr0 hf2
  obtain ⟨rb, hrb⟩ : ∃ y, y = u1.heap.size := ⟨_, rfl⟩
  rw [← hrb] at hb2 ⊢
  refine rx ?_
  refine s_call (wholeP t hok htl path hpl false (fun h => by cases h) S _ _ u2 (hn.tr0 hF2) (hp.tr0 hF2) (fun q hq => by have := hSb q hq; omega)) rfl ?_
  rintro _ u3 ⟨cs, c, rfl, hf3, hcs⟩
  refine ⟨_, rfl, ?_⟩
  have hone : cs.length = 7 ∧ ∀ q ∈ cs, q.oneCell' = true := by
    rcases hcs with ⟨_, h⟩ | ⟨_, rfl, _⟩
    · exact h.one
    · exact ⟨rfl, by simp [bad7, Value.oneCell']⟩
  have hv : ∃ s r, cs = vc (valT t path).1 s ++ r ∧ r.length = 3 ∧ VS u3 [] (valT t path).1.kids s ∧ c = (valT t path).2 := by
    unfold valT
    rcases hcs with ⟨h0, v, sp, s, sv, sp', e1, e2, rfl, h1, h2, h3, h4⟩ | ⟨h1, rfl, h2⟩
    · rw [e1]
      exact ⟨s, _, rfl, rfl, h1.any, h0⟩
    · rw [h1]
      exact ⟨.slice none 0 0, [.int .i64 0, .slice none 0 0, .int .i64 0], rfl, rfl, VS.nil _ _, h2⟩
  obtain ⟨s, r, hcse, hr3, hvs, hc⟩ := hv
  obtain ⟨r1, r2, r3, rfl⟩ : ∃ r1 r2 r3, r = [r1, r2, r3] := by
    match r, hr3 with
    | [r1, r2, r3], _ => exact ⟨r1, r2, r3, rfl⟩
  subst hcse
  generalize (valT t path).1 = v at hvs hone ⊢
  refine rx ?_
  refine s_alloc rfl (fun u4 hb4 hf4 hs4 => ?_)
  refine s_storeAggB (cs := vc v s ++ [r1, r2, r3]) rfl rfl hb4 hone.2 rfl hone.1 (fun u5 hb5 hf5 hs5 => ?_)
  have hF35 : Fr [] u3 u5 := hf4.trans hf5 (by simp)
  have hb5' : Blk u5 u3.heap.size [.int .i64 v.kind, .int .i64 v.n, .string v.s, s, r1, r2, r3] 77 := hb5
  clear hb5
  refine rx ?_
  refine s_call (cloneValue v s u5 (hvs.tr0 hF35)) rfl ?_
  rintro _ u6 ⟨s', rfl, hvs6, hf6⟩
  refine ⟨_, rfl, ?_⟩
  have hF26 := (hf3.trans0 hF35).trans0 hf6
  have hs26 := hF26.size
  have hs25 := (hf3.trans0 hF35).size
  have hb26 := hb2.tr0 hF26
  refine rx ?_
  refine s_storeAggB (cs := vc v s') rfl rfl hb26 (VR.mem1 (w := u6) (S := []) v _ ⟨_, rfl, hvs6 [] (by simp)⟩) rfl rfl (fun u7 hb7 hf7 hs7 => ?_)
  refine rx ?_
  refine retct rfl rfl (AggT.load _ (vc v s') rfl (fun j x hx => by rw [add_lit]; exact hb7.cell (by simpa using hx))) rfl ⟨s', by rw [hc]; rfl, (hF2.trans0 hF26).trans hf7 (by simp; omega), fun T hT => ?_⟩
  exact ((hvs6 (rb :: T) (fun q hq => by
    rcases List.mem_cons.1 hq with h | h
    · omega
    · have := hT q h; omega)).tr (hf7.mono (by simp))).mono (fun q hq => .inl (by simp [hq]))

set_option maxHeartbeats 4000000 in
theorem spansP (t : List Nd) (hok : ∀ x ∈ t, NdOk x) (htl : t.length ≤ 1000000) (path : List Int) (hpl : path.length ≤ 1000000000) (hbs : nsp (tA t (t.length - 1)) ≤ 100000000000) (S : List Nat) (sn spv : Value) (u : World) (hn : NS u S t sn) (hp : IS u S path spv) (hSb : ∀ q ∈ S, q < u.heap.size) :
    Calls Tryz.prog 53 #[.agg #[sn], spv] u fun e u' => ∃ sv, e = .returned (.tuple #[sv, .int .i64 (spanT t path).2]) ∧ Fr [] u u' ∧ Own u' 93 3 sv (spanT t path).1.length (spC (spanT t path).1) ∧ (∀ q ∈ blks sv, u.heap.size ≤ q) := by
  obtain ⟨an, cn, rfl, _⟩ := hn.slice
  obtain ⟨ap, cp, rfl, _⟩ := hp.slice
  refine enter Tryz.func53 rfl Tryz.ntmps53 rfl ?_
  refine rx ?_
  refine s_box (l := [.slice an t.length cn]) rfl rfl (fun u1 hb1 hf1 hs1 => ?_)
  refine rx ?_
  refine s_call (wholeP t hok htl path hpl true (fun _ => hbs) S _ _ u1 (hn.tr0 hf1) (hp.tr0 hf1) (fun q hq => by have := hSb q hq; omega)) rfl ?_
  rintro _ u3 ⟨cs, c, rfl, hf3, hcs⟩
  refine ⟨_, rfl, ?_⟩
  have hv : ∃ r1 r2 r3 r4 r5 sv r6, cs = [r1, r2, r3, r4, r5, sv, r6] ∧ (∀ q ∈ cs, q.oneCell' = true) ∧ Own u3 93 3 sv (spanT t path).1.length (spC (spanT t path).1) ∧ (∀ q ∈ blks sv, u1.heap.size ≤ q) ∧ c = (spanT t path).2 := by
    unfold spanT
    rcases hcs with ⟨h0, h⟩ | ⟨h1, rfl, h2⟩
    · have hone := h.one
      obtain ⟨v, sp, s, sv, sp', e1, e2, rfl, h1, h2, h3, h4⟩ := h
      have := h3 rfl
      subst this
      rw [e1]
      exact ⟨_, _, _, _, _, _, _, rfl, hone.2, h2, h4, h0⟩
    · rw [h1]
      exact ⟨_, _, _, _, _, _, _, rfl, by simp [bad7, Value.oneCell'], Own.nil _ _ _, by simp [blks, Value.ownBlock], h2⟩
  obtain ⟨r1, r2, r3, r4, r5, sv, r6, rfl, hone, ho, hnew, rfl⟩ := hv
  obtain ⟨a5, c5, rfl⟩ := ho.slice
  refine rx ?_
  refine s_alloc rfl (fun u4 hb4 hf4 hs4 => ?_)
  refine s_storeAggB (cs := [r1, r2, r3, r4, r5, .slice a5 (spanT t path).1.length c5, r6]) rfl rfl hb4 hone rfl rfl (fun u5 hb5 hf5 hs5 => ?_)
  have hF35 : Fr [] u3 u5 := hf4.trans hf5 (by simp)
  refine rx ?_
  (apply ret2; exact rfl; (conv => lhs; whnf); (conv => lhs; whnf))
  exact ⟨_, rfl, (hf1.trans0 hf3).trans0 hF35, ho.tr0 hF35, fun q hq => by have := hnew q hq; omega⟩


theorem atT_lt {t : List Nd} {path : List Int} (h : 0 ≤ (atT t path).1) : validT t = 0 ∧ ∃ hi : (atT t path).1.toNat < t.length, (t[(atT t path).1.toNat].kind = 1 ∨ t[(atT t path).1.toNat].kind = 2) ∧ (atT t path).2 = 0 := by
  unfold atT at h ⊢
  by_cases hz : validT t = 0
  case neg => rw [if_neg hz] at h; simp at h
  rw [if_pos hz] at h ⊢
  by_cases h0 : 0 < t.length
  case neg => rw [if_neg h0] at h; simp at h
  rw [if_pos h0] at h ⊢
  rcases hres : rd path (tA t (t.length - 1)) 0 with ⟨v, e', sp⟩ | ⟨i, n⟩ | _
  · rw [hres] at h; simp at h
  · obtain ⟨hi, hk, _⟩ := stops (VT.of hz) (t.length - 1) (by omega) _ _ _ _ hres
    exact ⟨hz, by simpa using hi, by simpa using hk, rfl⟩
  · rw [hres] at h; simp at h

set_option maxHeartbeats 4000000 in
theorem fitTP (t : List Nd) (hok : ∀ x ∈ t, NdOk x) (htl : t.length ≤ 1000000) (raw : List Int) (hraw : 0 ≤ raw.length) (S : List Nat) (sn sr : Value) (u : World) (hn : NS u S t sn) (hr : IS u S raw sr) (hSb : ∀ q ∈ S, q < u.heap.size) :
    Calls Tryz.prog 13 #[.agg #[sn], sr] u fun e u' => ∃ pv, e = .returned (.tuple #[pv, .int .i64 (fitT t raw).2]) ∧ Own u' 3 1 pv (fitT t raw).1.length ((fitT t raw).1.map (.int .i64)) ∧ (∀ q ∈ blks pv, u.heap.size ≤ q) ∧ Fr [] u u' := by
  obtain ⟨an, cn, rfl, _⟩ := hn.slice
  obtain ⟨ar, cr, rfl, _⟩ := hr.slice
  refine enter Tryz.func13 rfl Tryz.ntmps13 rfl ?_
  refine rx ?_
  refine s_box (l := [.slice an t.length cn]) rfl rfl (fun u1 hb1 hf1 hs1 => ?_)
  refine rx ?_
  refine s_call (validPT t _ u1 ((hn.mono (by simp)).tr0 hf1) hok htl) rfl ?_
  rintro _ u3 ⟨rfl, hf3⟩
  refine ⟨_, rfl, ?_⟩
  have hb13 := hb1.tr0 hf3
  have hF3 := hf1.trans0 hf3
  have hs3 := hF3.size
  by_cases hz : validT t = 0
  case neg =>
    refine rx ?_
    (apply ret2; exact rfl; (conv => lhs; whnf); (conv => lhs; whnf))
    unfold fitT
    rw [if_neg hz]
    exact ⟨_, rfl, Own.nil _ _ _, by simp [blks, Value.ownBlock], hF3⟩
  by_cases h0 : 0 < t.length
  case neg =>
    refine rx ?_
    (apply ret2; exact rfl; (conv => lhs; whnf); (conv => lhs; whnf))
    unfold fitT
    rw [if_pos hz, if_neg h0]
    exact ⟨_, rfl, Own.nil _ _ _, by simp [blks, Value.ownBlock], hF3⟩
  have hv := VT.of hz
  have hSb3 : ∀ q ∈ S, q < u3.heap.size := fun q hq => by have := hSb q hq; omega
  refine rx ?_
  refine s_call (newP t _ u3 S hSb3 (hn.tr0 hF3) hok hv) rfl ?_
  rintro _ u4 ⟨wb, b, A, F, rfl, hw4, _, _, _, _, hf4⟩
  refine ⟨_, rfl, ?_⟩
  have hF4 := hF3.trans0 hf4
  have hs4 := hF4.size
  refine rx ?_
  refine s_call (rootP hw4 (hn.tr0 hF4) htl) rfl ?_
  rintro _ _ ⟨rfl, rfl⟩
  refine ⟨_, rfl, ?_⟩
  have hm1 : (t.length : Int) - 1 = ((t.length - 1 : Nat) : Int) := by omega
  rw [hm1]
  refine rx ?_
  refine s_call (fitP t hv hok raw hraw S _ _ wb b A F u4 (t.length - 1) (by omega) hw4 (hn.tr0 hF4) (hr.tr0 hF4) (fun q hq => by have := hSb q hq; omega)) rfl ?_
  rintro _ u5 ⟨pv, rfl, ho, hnew, hf5⟩
  refine ⟨_, rfl, ?_⟩
  refine rx ?_
  (apply ret2; exact rfl; (conv => lhs; whnf); (conv => lhs; whnf))
  unfold fitT
  rw [if_pos hz, if_pos h0]
  exact ⟨_, rfl, ho, fun q hq => by have := hnew q hq; omega, hF4.trans0 hf5⟩
end Go.Proofs.YtpochcchekoonaaGreat
