/-
  The law HistorySwaps.
-/
import Derived.Test.YtcogpedfnnfnaaaGd
import Derived.Test.YtcogpedfnnfnaaaM6
namespace Go.Proofs.Ytcogpedfnnfnaaa
open Go.Rf Go.RowKit
set_option linter.unusedVariables false
set_option maxHeartbeats 8000000
attribute [local irreducible] Code.wp wpList Exit.then Exit.inBlock bodyPost A Calls execOp Addr.add

def ncB (e : Ev) : Bool := decide (e.kind ≠ 2)
theorem endsC_len (b : List Cl) (c : Nat) : (endsC b c).length ≤ b.length := by
  unfold endsC
  rw [List.length_map]
  exact List.length_filter_le _ _
theorem endsTo_len (b : List Cl) (c : Nat) : (endsTo b c).length ≤ c * b.length := by
  induction c with
  | zero => simp [endsTo]
  | succ c ih =>
    rw [endsTo, List.length_append, Nat.succ_mul]
    have := endsC_len b c
    omega
theorem endsC_take {b : List Cl} {i : Nat} (h : i < b.length) (c : Nat) : endsC (b.take (i + 1)) c = endsC (b.take i) c ++ if isE c b[i] then [evE c] else [] := by
  unfold endsC
  rw [List.take_succ_eq_append_getElem h, List.filter_append, List.map_append, List.filter_cons, List.filter_nil]
  congr 1
  split <;> rfl
theorem ends_ok (b : List Cl) (c : Nat) : ∀ e ∈ endsTo b c, EvOk e := by
  induction c with
  | zero => intro e he; cases he
  | succ c ih =>
    intro e he
    rcases List.mem_append.1 he with h | h
    · exact ih e h
    · unfold endsC at h
      obtain ⟨_, _, rfl⟩ := List.mem_map.1 h
      exact ⟨fun v hv => (by cases hv), leafOk 0 0⟩

set_option maxRecDepth 4000 in
theorem historySwaps_walk (x : Value) (l : List Int) (w : World) (hx : Src w x l.length (l.map (.int .i64))) (hl : ∀ n ∈ l, InI64 n) :
    Calls Try.prog 9 #[x] w fun e w' => e = .returned (.bool true) ∧ Fr [] w w' := by
  refine enter Try.func9 rfl Try.ntmps9 rfl ?_
  refine rx ?_
  refine s_call (historyC x l 12 w hx hl (by omega)) rfl ?_
  rintro _ u1 ⟨v1, rfl, ho1, hk1, hf1⟩
  refine ⟨_, rfl, ?_⟩
  have hlen := (genN_len l 12).1
  have hok := gen_evOk l 12
  generalize (genN l 12).1 = L at ho1 hlen hok
  refine s_call (ownC L v1 u1 (ho1.sl evStab) (by omega)) rfl ?_
  rintro _ u2 ⟨v2, rfl, ho2, hk2, hf2⟩
  refine ⟨_, rfl, ?_⟩
  have hL2 : EvS u2 L v2 := ho2.sl evStab
  obtain ⟨a2, c2, e2⟩ := ho2.slice
  subst e2
  have hF2 : Fr [] w u2 := hf1.trans0 hf2
  clear ho1 ho2 hk1 hk2
  refine rx ?_
  refine c_loopK 18 [3, 5] (σ := Nat × Value) (fun st g u => g 5 = .int .i64 st.1 ∧ g 3 = st.2 ∧ st.1 ≤ L.length ∧ OwnR u 61 8 EvR ((L.take st.1).filter ncB) st.2 ∧ (∀ k ∈ blks st.2, u2.heap.size ≤ k) ∧ Fr [] u2 u)
    (fun st => L.length - st.1) (0, .slice none 0 0) ⟨rfl, rfl, Nat.zero_le _, OwnR.nil _ _ _ _, by simp [blks, Value.ownBlock], Fr.refl _ _⟩ ?_
  rintro ⟨i, v⟩ g u ⟨h5, h3, hi, ho, hk, hf⟩
  simp only at h5 h3 hi ho hk
  rw [eq_upd h5, eq_upd h3]
  by_cases hil : i < L.length
  case pos =>
    obtain ⟨ad, cs, rfl, ⟨sa, sr, rfl, ha, hr⟩, hcell2⟩ := Sl.at hL2 evLen hil
    have hcell := hcell2.tr0 hf
    have hstep : (L.take (i + 1)).filter ncB = (L.take i).filter ncB ++ if L[i].kind = 2 then [] else [L[i]] := by
      rw [List.take_succ_eq_append_getElem hil, List.filter_append, List.filter_cons, List.filter_nil]
      congr 1
      by_cases h : L[i].kind = 2
      · simp [ncB, h]
      · simp [ncB, h]
    have hfl : ((L.take i).filter ncB).length ≤ L.length := by
      have := List.length_filter_le ncB (L.take i)
      rw [List.length_take] at this; omega
    by_cases hk2 : L[i].kind = 2
    · rw [if_pos hk2, List.append_nil] at hstep
      refine rx ?_
      exact q_roundK (i + 1, v) (by (repeat (first | exact Keep.mrg _ _ _ _ | (refine Keep.hi rfl ?_) | (refine Keep.one rfl ?_) | exact Keep.all rfl | (refine Keep.inn rfl ?_) | (refine Keep.set rfl ?_)))) ⟨rfl, rfl, by simp only; omega, by simp only [hstep]; exact ho, hk, hf⟩ (by simp only; omega)
    · rw [if_neg hk2] at hstep
      refine rx ?_
      have hrow : EvR u (blks v) L[i] (ec L[i] sa sr) := evStab.old (evStab.mono (S := []) ⟨sa, sr, rfl, ha, hr⟩ (fun b hb => .inr (hk b hb))) hf (by simp)
      refine s_pushA (a := L[i]) (cs := ec L[i] sa sr) ho evStab rfl rfl rfl hrow rfl rfl rfl (by unfold maxLen; omega) (by omega) (fun v' z' ho' hf' hk' => ?_)
      have hsz := hf.size
      refine rx ?_
      refine q_roundK (i + 1, v') (by (repeat (first | exact Keep.mrg _ _ _ _ | (refine Keep.hi rfl ?_) | (refine Keep.one rfl ?_) | exact Keep.all rfl | (refine Keep.inn rfl ?_) | (refine Keep.set rfl ?_)))) ⟨rfl, rfl, by simp only; omega, by simp only [hstep]; exact ho', fun k hm => ?_, hf.trans hf' (fun k hm => .inr (hk k hm))⟩ (by simp only; omega)
      rcases hk' k hm with h | h
      · exact hk k h
      · omega
  rw [List.take_of_length_le (by omega)] at ho
  have hAl : (L.filter ncB).length ≤ L.length := List.length_filter_le _ _
  have hAok : ∀ e ∈ L.filter ncB, EvOk e := fun e he => hok e (List.mem_filter.1 he).1
  have hAn : noCr (L.filter ncB) := fun e he => by
    have := (List.mem_filter.1 he).2
    simpa [ncB] using this
  generalize L.filter ncB = A at ho hAl hAok hAn
  have hFu : Fr [] w u := hF2.trans0 hf
  clear hL2
  refine rx ?_
  refine s_call (opsC A v u (ho.sl evStab) hAok (by omega)) rfl ?_
  rintro _ u3 ⟨v3, rfl, ho3, hk3, hf3⟩
  refine ⟨_, rfl, ?_⟩
  by_cases hval : validH A = 0
  case neg =>
    refine rx ?_
    refine s_call (livesC u3) rfl ?_
    rintro _ z ⟨rfl, hg⟩
    refine ⟨_, rfl, ?_⟩
    refine rx ?_
    (apply ret1; exact rfl; (conv => lhs; whnf))
    exact ⟨rfl, (hFu.trans0 hf3).trans0 hg⟩
  rw [if_pos hval] at ho3
  rw [hval]
  have hBl := opsFrom_len A 0
  have hA4v := fin_valid hval hAn (by omega)
  have hA4e := fin_ended hval hAn
  have hA4ok : ∀ e ∈ A ++ endsTo (opsFrom 0 A) 4, EvOk e := fun e he => by
    rcases List.mem_append.1 he with h | h
    · exact hAok e h
    · exact ends_ok _ _ e h
  generalize opsFrom 0 A = B at ho3 hBl hA4v hA4e hA4ok
  obtain ⟨a3, c3, e3⟩ := ho3.slice
  subst e3
  obtain ⟨ys3, hown3, hrow3⟩ := ho3
  have hrow3 : Rws OcR B ys3 := hrow3.imp (fun x cs _ h => OpR.oc h)
  obtain ⟨S0, hS0⟩ : ∃ S0, blks v = S0 := ⟨_, rfl⟩
  have hS0lt : ∀ k ∈ S0, k < u.heap.size := hS0 ▸ ho.lt
  have hS0w : ∀ k ∈ S0, w.heap.size ≤ k := fun k hk' => by have := hk k (hS0 ▸ hk'); have := hF2.size; omega
  have ho' := ho.tr0 evStab hf3
  have hsz3 := hf3.size
  have hB : ∀ {z : World}, Fr S0 u3 z → OcS z B (.slice a3 B.length c3) := fun h => ⟨ys3, (hown3.tr h (fun k hk' hm => by have := hk3 k hk'; have := hS0lt k hm; omega)).src, fun _ _ _ _ _ => by simp, hrow3⟩
  refine rx ?_
  refine c_loopK 45 [3, 8, 9] (σ := Nat × Value) (fun st g z => g 8 = .int .i64 st.1 ∧ g 3 = st.2 ∧ st.1 ≤ 4 ∧ OwnR z 61 8 EvR (A ++ endsTo B st.1) st.2 ∧ (∀ k ∈ blks st.2, k ∈ S0 ∨ u3.heap.size ≤ k) ∧ Fr S0 u3 z)
    (fun st => 4 - st.1) (0, v) ⟨rfl, rfl, by omega, by simpa [endsTo] using ho', fun k hk' => .inl (hS0 ▸ hk'), Fr.refl _ _⟩ ?_
  rintro ⟨c, v⟩ g z ⟨h8, h3, hc, hoz, hkz, hfz⟩
  simp only at h8 h3 hc hoz hkz
  rw [eq_upd h8, eq_upd h3]
  by_cases hc4 : c < 4
  case pos =>
    refine rx ?_
    refine c_loopK 49 [3, 9] (σ := Nat × Value) (fun st g z' => g 9 = .int .i64 st.1 ∧ g 3 = st.2 ∧ st.1 ≤ B.length ∧ OwnR z' 61 8 EvR (A ++ endsTo B c ++ endsC (B.take st.1) c) st.2 ∧ (∀ k ∈ blks st.2, k ∈ S0 ∨ u3.heap.size ≤ k) ∧ Fr S0 u3 z')
      (fun st => B.length - st.1) (0, v) ⟨rfl, rfl, Nat.zero_le _, by simpa [endsC] using hoz, hkz, hfz⟩ ?_
    rintro ⟨i, v⟩ g z ⟨h9, h3, hi, hoz, hkz, hfz⟩
    simp only at h9 h3 hi hoz hkz
    rw [eq_upd h9, eq_upd h3]
    by_cases hil : i < B.length
    case neg =>
      refine rx ?_
      refine q_roundK (c + 1, v) (by (repeat (first | exact Keep.mrg _ _ _ _ | (refine Keep.hi rfl ?_) | (refine Keep.one rfl ?_) | exact Keep.all rfl | (refine Keep.inn rfl ?_) | (refine Keep.set rfl ?_)))) ⟨rfl, rfl, by simp only; omega, ?_, hkz, hfz⟩ (by simp only; omega)
      rw [List.take_of_length_le (by omega)] at hoz
      simp only [endsTo]
      rw [← List.append_assoc]
      exact hoz
    have hstep := endsC_take hil c
    have hsz : (A ++ endsTo B c ++ endsC (B.take i) c).length ≤ 1000 := by
      have h1 := endsTo_len B c
      have h2 := endsC_len (B.take i) c
      have h3 : c * B.length ≤ 4 * 12 := Nat.mul_le_mul (by omega) (by omega)
      rw [List.length_take] at h2
      rw [List.length_append, List.length_append]; omega
    obtain ⟨ad, cs, rfl, ⟨sa, sr, rfl, ha, hr⟩, hcell⟩ := Sl.at (hB hfz) ocLen hil
    have skip : isE c B[i] = false → OwnR z 61 8 EvR (A ++ endsTo B c ++ endsC (B.take (i + 1)) c) v := fun h => by
      rw [hstep, h]
      simpa using hoz
    by_cases hcl : B[i].client = (c : Int)
    case neg =>
      have := skip (by simp [isE, hcl])
      refine rx ?_
      exact q_roundK (i + 1, v) (by (repeat (first | exact Keep.mrg _ _ _ _ | (refine Keep.hi rfl ?_) | (refine Keep.one rfl ?_) | exact Keep.all rfl | (refine Keep.inn rfl ?_) | (refine Keep.set rfl ?_)))) ⟨rfl, rfl, by simp only; omega, this, hkz, hfz⟩ (by simp only; omega)
    by_cases hfin : B[i].fin < 0
    case neg =>
      have := skip (by simp [isE, hfin])
      refine rx ?_
      exact q_roundK (i + 1, v) (by (repeat (first | exact Keep.mrg _ _ _ _ | (refine Keep.hi rfl ?_) | (refine Keep.one rfl ?_) | exact Keep.all rfl | (refine Keep.inn rfl ?_) | (refine Keep.set rfl ?_)))) ⟨rfl, rfl, by simp only; omega, this, hkz, hfz⟩ (by simp only; omega)
    rw [if_pos (by simp [isE, hcl, hfin])] at hstep
    refine rx ?_
    refine s_build (ec (evE c) (.slice none 0 0) (.slice none 0 0)) rfl ?_
    refine s_pushA (a := evE c) (cs := ec (evE c) (.slice none 0 0) (.slice none 0 0)) hoz evStab rfl rfl rfl (ec_row (evE c) (VS.nil _ _) (VS.nil _ _)) rfl rfl rfl (by unfold maxLen; omega) (by omega) (fun v' z' ho' hf' hk' => ?_)
    have hzs := hfz.size
    refine rx ?_
    refine q_roundK (i + 1, v') (by (repeat (first | exact Keep.mrg _ _ _ _ | (refine Keep.hi rfl ?_) | (refine Keep.one rfl ?_) | exact Keep.all rfl | (refine Keep.inn rfl ?_) | (refine Keep.set rfl ?_)))) ⟨rfl, rfl, by simp only; omega, by simp only [hstep]; rw [← List.append_assoc]; exact ho', fun k hm => ?_, hfz.trans hf' (fun k hm => hkz k hm)⟩ (by simp only; omega)
    rcases hk' k hm with h | h
    · exact hkz k h
    · right; omega
  have hc4' : c = 4 := by omega
  subst hc4'
  have hA4l : (A ++ endsTo B 4).length ≤ 1000 := by
    have h1 := endsTo_len B 4
    rw [List.length_append]; omega
  have hFz : Fr [] w z := (hFu.trans0 hf3).trans hfz (fun k hm => .inr (hS0w k hm))
  generalize A ++ endsTo B 4 = A4 at hoz hA4v hA4e hA4ok hA4l
  refine rx ?_
  refine s_call (opsC A4 v z (hoz.sl evStab) hA4ok (by omega)) rfl ?_
  rintro _ z2 ⟨v4, rfl, ho4, hk4, hg2⟩
  refine ⟨_, rfl, ?_⟩
  rw [if_pos hA4v] at ho4
  rw [hA4v]
  have hBl4 := opsFrom_len A4 0
  have hti := timed_ops A4
  generalize opsFrom 0 A4 = O at ho4 hA4e hBl4 hti
  have hO2 : OcS z2 O v4 := OwnR.oc ho4
  obtain ⟨a4, c4, e4⟩ := ho4.slice
  subst e4
  clear ho4 hk4 hoz
  refine rx ?_
  refine s_call (ordersC O _ 20 z2 hO2 hti.ord (by omega) (by omega)) rfl ?_
  rintro _ z3 ⟨r3, rfl, hp3, _, hg3⟩
  refine ⟨_, rfl, ?_⟩
  have hXl := orders_len O (most := 20) (by omega)
  have hXlin := orders_lin O 20
  have hXne := orders_ne hti (most := 20) (by omega)
  generalize ordersP O 20 = X at hp3 hXl hXlin hXne
  have hXpos : 0 < X.length := List.length_pos_iff.2 hXne
  have hX3 : LS z3 X r3 := hp3.sl irStab
  obtain ⟨ax, cx, e, _⟩ := Sl.slice hX3
  subst e
  have hO3 := OcS.tr0 hO2 hg3
  have hFz3 : Fr [] w z3 := (hFz.trans0 hg2).trans0 hg3
  clear hp3 hO2
  refine rx ?_
  refine c_loopK 84 [11, 12, 13, 14] (σ := Nat) (fun i g u => g 11 = .int .i64 i ∧ i ≤ X.length ∧ Fr [] z3 u) (fun i => X.length - i) 0 ⟨rfl, Nat.zero_le _, Fr.refl _ _⟩ ?_
  rintro i g y ⟨h11, hi, hfy⟩
  rw [eq_upd h11]
  by_cases hil : i < X.length
  case neg =>
    refine rx ?_
    refine s_call (livesC y) rfl ?_
    rintro _ y2 ⟨rfl, hg⟩
    refine ⟨_, rfl, ?_⟩
    refine rx ?_
    (apply ret1; exact rfl; (conv => lhs; whnf))
    exact ⟨rfl, (hFz3.trans0 hfy).trans0 hg⟩
  obtain ⟨ad, cs, rfl, ⟨sv, rfl, hsv, _⟩, hcy⟩ := Sl.at hX3 irLen hil
  have hlinx := hXlin X[i] (by simp)
  have hxl := all_len hlinx hA4e
  generalize X[i] = xs at hsv hlinx hxl
  have hcy0 : ∀ q, Fr [] z3 q → q.cell? (ad.add (i * 1)) = some sv := fun q hq => by
    have := (hcy.tr0 hq) 0 sv rfl
    rwa [add_add, Nat.add_zero] at this
  obtain ⟨as', csl, e, hcs, _⟩ := id hsv
  subst e
  refine rx ?_
  refine s_load rfl (hcy0 _ hfy) ?_
  refine rx ?_
  refine c_loopK 98 [12, 13, 14] (σ := Nat) (fun k g u => g 12 = .int .i64 ((k + 1 : Nat) : Int) ∧ k ≤ xs.length ∧ Fr [] z3 u) (fun k => xs.length - k) 0 ⟨rfl, Nat.zero_le _, hfy⟩ ?_
  rintro k g y ⟨h12, hk', hfy⟩
  rw [eq_upd h12]
  refine rx ?_
  refine s_load rfl (hcy0 _ hfy) ?_
  by_cases hkl : k + 1 < xs.length
  case neg =>
    refine rx ?_
    exact q_roundK (i + 1) (by (repeat (first | exact Keep.mrg _ _ _ _ | (refine Keep.hi rfl ?_) | (refine Keep.one rfl ?_) | exact Keep.all rfl | (refine Keep.inn rfl ?_) | (refine Keep.set rfl ?_)))) ⟨rfl, by omega, hfy⟩ (by omega)
  have ek : (((k + 1 : Nat) : Int) - 1) = (k : Int) := by omega
  have hsub : IntKind.i64.wrap (((k + 1 : Nat) : Int) - 1) = (k : Int) := by rw [IntWalk.i64_in _ (by omega)]; omega
  obtain ⟨a, ha⟩ : ∃ a, xs[k]? = some a := ⟨_, List.getElem?_eq_getElem (by omega)⟩
  obtain ⟨b, hb⟩ : ∃ b, xs[k + 1]? = some b := ⟨_, List.getElem?_eq_getElem hkl⟩
  have har : a < O.length := by have := (hlinx.inn a (iv_mem.2 (List.mem_of_getElem? ha))).2; omega
  have hbr : b < O.length := by have := (hlinx.inn b (iv_mem.2 (List.mem_of_getElem? hb))).2; omega
  obtain ⟨ad2, e, _⟩ := src_at (j := k) (u := .int .i64 (a : Int)) hsv (by simp [nv, ha])
  subst e
  have hxa : ∀ q, Fr [] z3 q → q.cell? (ad2.add (k * 1)) = some (.int .i64 (a : Int)) := fun q hq => by
    obtain ⟨ad', e, h⟩ := src_at (j := k) (u := .int .i64 (a : Int)) (hsv.tr0 hq) (by simp [nv, ha])
    simp only [Option.some.injEq] at e
    rw [Nat.mul_one, e]; exact h
  have hxb : ∀ q, Fr [] z3 q → q.cell? (ad2.add ((k + 1) * 1)) = some (.int .i64 (b : Int)) := fun q hq => by
    obtain ⟨ad', e, h⟩ := src_at (j := k + 1) (u := .int .i64 (b : Int)) (hsv.tr0 hq) (by simp [nv, hb])
    simp only [Option.some.injEq] at e
    rw [Nat.mul_one, e]; exact h
  refine rx ?_
  refine s_build0 (fun y1 hoy1 hfy1 hsy1 => ?_)
  refine rx ?_
  refine s_load rfl (hcy0 _ (hfy.trans0 hfy1)) ?_
  refine s_append hoy1 rfl (hsv.tr0 (hfy.trans0 hfy1)) rfl (by simp [nv]) (fun u hu => by simp [nv] at hu; obtain ⟨n, _, rfl⟩ := hu; rfl) (by unfold maxLen; omega) (by omega) (fun v2 y2 hoy2 hfy2 hky2 _ => ?_)
  have hk2 : ∀ b ∈ blks v2, z3.heap.size ≤ b := fun b hb' => by
    have := hfy.size
    rcases hky2 b hb' with h | h
    · simp [blks, Value.ownBlock] at h; omega
    · omega
  have hF2 : Fr [] z3 y2 := hfy.trans0 (hfy1.trans hfy2 (by simp [blks, Value.ownBlock]))
  have hown2 : Own y2 3 1 v2 (iv xs).length ((iv xs).map (.int .i64)) := by
    rw [iv_len, iv, ← nv_eq]; simpa using hoy2
  have hlx := iv_len xs
  obtain ⟨av2, cv2, e⟩ := hown2.slice
  subst e
  obtain ⟨bd, e⟩ := own_at1 hown2 (j := k) (by omega)
  subst e
  clear hoy2 hoy1
  refine rx ?_
  refine s_load rfl (hcy0 _ hF2) ?_
  refine rx ?_
  refine s_load rfl (hxb _ hF2) ?_
  rw [ek]
  refine rx ?_
  rw [Nat.mul_one k]
  refine s_storeOwn (j := k) (u := .int .i64 (b : Int)) hown2 rfl (by omega) rfl rfl rfl (fun y3 hoy3 hfy3 hsy3 => ?_)
  rw [← List.map_set] at hoy3
  have hF3 : Fr [] z3 y3 := hF2.trans hfy3 (fun q hq => .inr (hk2 q hq))
  refine rx ?_
  refine s_load rfl (hcy0 _ hF3) ?_
  refine rx ?_
  rw [ek]
  refine rx ?_
  refine s_load rfl (hxa _ hF3) ?_
  refine rx ?_
  rw [Nat.mul_one (k + 1)]
  refine s_storeOwn (j := k + 1) (u := .int .i64 (a : Int)) hoy3 rfl (by omega) rfl rfl rfl (fun y4 hoy4 hfy4 hsy4 => ?_)
  rw [← List.map_set] at hoy4
  have hF4 : Fr [] z3 y4 := hF3.trans hfy4 (fun q hq => .inr (hk2 q hq))
  -- the exchanged list
  have hgk : (iv xs)[k]'(by omega) = (a : Int) := by
    have : (iv xs)[k]? = some (a : Int) := by simp [iv, ha]
    rw [List.getElem?_eq_getElem (by omega)] at this
    simpa using this
  have hgk1 : (iv xs)[k + 1]'(by omega) = (b : Int) := by
    have : (iv xs)[k + 1]? = some (b : Int) := by simp [iv, hb]
    rw [List.getElem?_eq_getElem (by omega)] at this
    simpa using this
  obtain ⟨hsp1, hsp2⟩ := split_two (x := iv xs) (k := k) (by omega)
  rw [hgk, hgk1] at hsp1 hsp2
  have hlin2 := hlinx
  rw [hsp1] at hlin2
  obtain ⟨hsw, hba⟩ := swap_iff hlin2
  rw [← hsp2, Int.toNat_natCast, Int.toNat_natCast, bf_eq har hbr] at hsw
  rw [Int.toNat_natCast, Int.toNat_natCast, bf_eq hbr har] at hba
  have hyk : (((iv xs).set k (b : Int)).set (k + 1) (a : Int))[k]? = some (b : Int) := by
    rw [List.getElem?_set_ne (by omega), List.getElem?_set_self (by omega)]
  have hyk1 : (((iv xs).set k (b : Int)).set (k + 1) (a : Int))[k + 1]? = some (a : Int) := by
    rw [List.getElem?_set_self (by simp; omega)]
  have hyl : (((iv xs).set k (b : Int)).set (k + 1) (a : Int)).length = (iv xs).length := by simp
  generalize ((iv xs).set k (b : Int)).set (k + 1) (a : Int) = ys at hoy4 hsw hyk hyk1 hyl
  have hYa : ∀ q, Fr [] y4 q → q.cell? (bd.add ((k + 1) * 1)) = some (.int .i64 (a : Int)) := fun q hq => by
    rw [Nat.mul_one]; exact src_cell (hoy4.src.tr0 hq) (by rw [List.getElem?_map, hyk1]; rfl)
  have hYb : ∀ q, Fr [] y4 q → q.cell? (bd.add (k * 1)) = some (.int .i64 (b : Int)) := fun q hq => by
    rw [Nat.mul_one]; exact src_cell (hoy4.src.tr0 hq) (by rw [List.getElem?_map, hyk]; rfl)
  clear hown2 hoy3
  refine rx ?_
  refine s_load rfl (hYa _ (Fr.refl _ _)) ?_
  refine rx ?_
  refine s_load rfl (hYa _ (Fr.refl _ _)) ?_
  refine rx ?_
  rw [ek]
  refine rx ?_
  refine s_load rfl (hYb _ (Fr.refl _ _)) ?_
  refine rx ?_
  rw [ek]
  refine rx ?_
  refine s_load rfl (hYb _ (Fr.refl _ _)) ?_
  obtain ⟨al, cs, rfl, ⟨sa, sr, rfl, _, _⟩, hca⟩ := Sl.at (OcS.tr0 hO3 hF4) ocLen har
  obtain ⟨al', cs, e, ⟨sb, ss, rfl, _, _⟩, hcb⟩ := Sl.at (OcS.tr0 hO3 hF4) ocLen hbr
  simp only [Option.some.injEq] at e
  subst e
  refine rx ?_
  (refine d_begin (fun z => Fr [] y4 z) (by kernel_rfl) rfl ?_)
  have hS : Fr [] y4 y4.drew := Fr.drew _ _
  ((first | refine d_tx 0 hS ?_ | refine d_ty 0 hS ?_ | refine d_tn 0 hS ?_); (first | refine d_tx 1 hS ?_ | refine d_ty 1 hS ?_ | refine d_tn 1 hS ?_); (first | refine d_tx 2 hS ?_ | refine d_ty 2 hS ?_ | refine d_tn 2 hS ?_); (first | refine d_tx 3 hS ?_ | refine d_ty 3 hS ?_ | refine d_tn 3 hS ?_))
  (apply d_take (i := 4); exact rfl; kernel_rfl; kernel_rfl; kernel_rfl; (intro u hu; exact (r_load rfl (hYa _ hu))); exact hS)
  ((first | refine d_tx 5 hS ?_ | refine d_ty 5 hS ?_ | refine d_tn 5 hS ?_); (first | refine d_tx 6 hS ?_ | refine d_ty 6 hS ?_ | refine d_tn 6 hS ?_); (first | refine d_tx 7 hS ?_ | refine d_ty 7 hS ?_ | refine d_tn 7 hS ?_); (first | refine d_tx 8 hS ?_ | refine d_ty 8 hS ?_ | refine d_tn 8 hS ?_); (first | refine d_tx 9 hS ?_ | refine d_ty 9 hS ?_ | refine d_tn 9 hS ?_))
  (apply d_take (i := 10); exact rfl; kernel_rfl; kernel_rfl; kernel_rfl; (intro u hu; exact (r_sub rfl rfl hsub)); exact hS)
  ((first | refine d_tx 11 hS ?_ | refine d_ty 11 hS ?_ | refine d_tn 11 hS ?_))
  (apply d_take (i := 12); exact rfl; kernel_rfl; kernel_rfl; kernel_rfl; (intro u hu; exact (r_load rfl (hYb _ hu))); exact hS)
  ((first | refine d_tx 13 hS ?_ | refine d_ty 13 hS ?_ | refine d_tn 13 hS ?_); (first | refine d_tx 14 hS ?_ | refine d_ty 14 hS ?_ | refine d_tn 14 hS ?_))
  refine d_one (i := 15) rfl (by kernel_rfl) ?_
  refine s_call (beforeC O[a] O[b] sa sr sb ss _) rfl ?_
  rintro _ y5 ⟨rfl, hf5⟩
  refine ⟨_, rfl, ?_⟩
  have hS5 := hS.trans0 hf5
  refine wpList_nil (q_held hS5 ?_)
  obtain ⟨bb, hbb⟩ : ∃ bb, bef O[a] O[b] = bb := ⟨_, rfl⟩
  rw [hbb] at hsw ⊢
  cases bb
  case true =>
    ((first | refine d_tx 16 hS5 ?_ | refine d_ty 16 hS5 ?_ | refine d_tn 16 hS5 ?_); (first | refine d_tx 17 hS5 ?_ | refine d_ty 17 hS5 ?_ | refine d_tn 17 hS5 ?_); (first | refine d_tx 18 hS5 ?_ | refine d_ty 18 hS5 ?_ | refine d_tn 18 hS5 ?_); (first | refine d_tx 19 hS5 ?_ | refine d_ty 19 hS5 ?_ | refine d_tn 19 hS5 ?_); (first | refine d_tx 20 hS5 ?_ | refine d_ty 20 hS5 ?_ | refine d_tn 20 hS5 ?_); (first | refine d_tx 21 hS5 ?_ | refine d_ty 21 hS5 ?_ | refine d_tn 21 hS5 ?_); (first | refine d_tx 22 hS5 ?_ | refine d_ty 22 hS5 ?_ | refine d_tn 22 hS5 ?_); (first | refine d_tx 23 hS5 ?_ | refine d_ty 23 hS5 ?_ | refine d_tn 23 hS5 ?_); (first | refine d_tx 24 hS5 ?_ | refine d_ty 24 hS5 ?_ | refine d_tn 24 hS5 ?_); (first | refine d_tx 25 hS5 ?_ | refine d_ty 25 hS5 ?_ | refine d_tn 25 hS5 ?_); (first | refine d_tx 26 hS5 ?_ | refine d_ty 26 hS5 ?_ | refine d_tn 26 hS5 ?_); (first | refine d_tx 27 hS5 ?_ | refine d_ty 27 hS5 ?_ | refine d_tn 27 hS5 ?_); (first | refine d_tx 28 hS5 ?_ | refine d_ty 28 hS5 ?_ | refine d_tn 28 hS5 ?_); (first | refine d_tx 29 hS5 ?_ | refine d_ty 29 hS5 ?_ | refine d_tn 29 hS5 ?_); (first | refine d_tx 30 hS5 ?_ | refine d_ty 30 hS5 ?_ | refine d_tn 30 hS5 ?_); (first | refine d_tx 31 hS5 ?_ | refine d_ty 31 hS5 ?_ | refine d_tn 31 hS5 ?_); (first | refine d_tx 32 hS5 ?_ | refine d_ty 32 hS5 ?_ | refine d_tn 32 hS5 ?_); (first | refine d_tx 33 hS5 ?_ | refine d_ty 33 hS5 ?_ | refine d_tn 33 hS5 ?_); (first | refine d_tx 34 hS5 ?_ | refine d_ty 34 hS5 ?_ | refine d_tn 34 hS5 ?_); (first | refine d_tx 35 hS5 ?_ | refine d_ty 35 hS5 ?_ | refine d_tn 35 hS5 ?_))
    (refine d_one (i := 36) rfl (by kernel_rfl) ?_; refine rx ?_; refine q_held hS5 ?_)
    (refine d_done (by kernel_rfl) ?_)
    have hF5 : Fr [] z3 y5 := hF4.trans0 hS5
    clear hca hcb
    refine rx ?_
    refine s_call (linC O _ ys _ y5 (OcS.tr0 hO3 hF5) (by rw [hyl]; exact hoy4.src.tr0 hS5) (by omega) (by omega)) rfl ?_
    rintro _ y6 ⟨b6, rfl, hb6, hf6⟩
    refine ⟨_, rfl, ?_⟩
    have hbf : b6 = false := by
      cases b6
      · rfl
      · have := hsw.1 (hb6.1 rfl); cases this
    refine rx ?_
    refine s_neqB (p := false) Try.underlying4 rfl rfl (by simp [hbf]) ?_
    refine rx ?_
    exact q_roundK (k + 1) (by (repeat (first | exact Keep.mrg _ _ _ _ | (refine Keep.hi rfl ?_) | (refine Keep.one rfl ?_) | exact Keep.all rfl | (refine Keep.inn rfl ?_) | (refine Keep.set rfl ?_)))) ⟨rfl, by omega, hF5.trans0 hf6⟩ (by omega)
  case false =>
    ((first | refine d_tx 16 hS5 ?_ | refine d_ty 16 hS5 ?_ | refine d_tn 16 hS5 ?_); (first | refine d_tx 17 hS5 ?_ | refine d_ty 17 hS5 ?_ | refine d_tn 17 hS5 ?_); (first | refine d_tx 18 hS5 ?_ | refine d_ty 18 hS5 ?_ | refine d_tn 18 hS5 ?_); (first | refine d_tx 19 hS5 ?_ | refine d_ty 19 hS5 ?_ | refine d_tn 19 hS5 ?_); (first | refine d_tx 20 hS5 ?_ | refine d_ty 20 hS5 ?_ | refine d_tn 20 hS5 ?_))
    (apply d_yes (i := 21); exact rfl; exact rfl; kernel_rfl; kernel_rfl; kernel_rfl; (intro u hu; exact (r_sub rfl rfl hsub)); exact hS5)
    ((first | refine d_tx 22 hS5 ?_ | refine d_ty 22 hS5 ?_ | refine d_tn 22 hS5 ?_))
    (apply d_yes (i := 23); exact rfl; exact rfl; kernel_rfl; kernel_rfl; kernel_rfl; (intro u hu; exact (r_load rfl (hYb _ hu))); exact hS5)
    ((first | refine d_tx 24 hS5 ?_ | refine d_ty 24 hS5 ?_ | refine d_tn 24 hS5 ?_); (first | refine d_tx 25 hS5 ?_ | refine d_ty 25 hS5 ?_ | refine d_tn 25 hS5 ?_); (first | refine d_tx 26 hS5 ?_ | refine d_ty 26 hS5 ?_ | refine d_tn 26 hS5 ?_); (first | refine d_tx 27 hS5 ?_ | refine d_ty 27 hS5 ?_ | refine d_tn 27 hS5 ?_); (first | refine d_tx 28 hS5 ?_ | refine d_ty 28 hS5 ?_ | refine d_tn 28 hS5 ?_); (first | refine d_tx 29 hS5 ?_ | refine d_ty 29 hS5 ?_ | refine d_tn 29 hS5 ?_))
    (apply d_yes (i := 30); exact rfl; exact rfl; kernel_rfl; kernel_rfl; kernel_rfl; (intro u hu; exact (r_load rfl (hYa _ hu))); exact hS5)
    ((first | refine d_tx 31 hS5 ?_ | refine d_ty 31 hS5 ?_ | refine d_tn 31 hS5 ?_); (first | refine d_tx 32 hS5 ?_ | refine d_ty 32 hS5 ?_ | refine d_tn 32 hS5 ?_))
    refine d_one (i := 33) rfl (by kernel_rfl) ?_
    refine g_yes rfl ?_
    refine s_call (beforeC O[b] O[a] sb ss sa sr _) rfl ?_
    rintro _ y7 ⟨rfl, hf7⟩
    refine ⟨_, rfl, ?_⟩
    rw [hba]
    have hS7 := hS5.trans0 hf7
    refine wpList_nil (q_held hS7 ?_)
    ((first | refine d_tx 34 hS7 ?_ | refine d_ty 34 hS7 ?_ | refine d_tn 34 hS7 ?_); (first | refine d_tx 35 hS7 ?_ | refine d_ty 35 hS7 ?_ | refine d_tn 35 hS7 ?_))
    (refine d_one (i := 36) rfl (by kernel_rfl) ?_; refine rx ?_; refine q_held hS7 ?_)
    (refine d_done (by kernel_rfl) ?_)
    have hF5 : Fr [] z3 y7 := hF4.trans0 hS7
    clear hca hcb
    refine rx ?_
    refine s_call (linC O _ ys _ y7 (OcS.tr0 hO3 hF5) (by rw [hyl]; exact hoy4.src.tr0 hS7) (by omega) (by omega)) rfl ?_
    rintro _ y6 ⟨b6, rfl, hb6, hf6⟩
    refine ⟨_, rfl, ?_⟩
    have hbf : b6 = true := hb6.2 (hsw.2 rfl)
    refine rx ?_
    refine s_neqB (p := false) Try.underlying4 rfl rfl (by simp [hbf]) ?_
    refine rx ?_
    exact q_roundK (k + 1) (by (repeat (first | exact Keep.mrg _ _ _ _ | (refine Keep.hi rfl ?_) | (refine Keep.one rfl ?_) | exact Keep.all rfl | (refine Keep.inn rfl ?_) | (refine Keep.set rfl ?_)))) ⟨rfl, by omega, hF5.trans0 hf6⟩ (by omega)
end Go.Proofs.Ytcogpedfnnfnaaa
