/-
  The law HistoryOrders.
-/
import Derived.Test.YtcogpedfnnfnaaaGc
namespace Go.Rf
open Go.RowKit
theorem s_neqB {P : Program} {ops : Array Oper} {Q : Exit → Act → World → Prop} {rest : List Oper} {n : Nat} {f : Env} {w : World} {d : Nat} {ty : TypeId} {ps : String} {af : Array Edge} {x y : Operand} {t t2 : Nat} {a b p : Bool} (hu : P.underlying t = some .bool) (hx : ev n f x = .bool a) (hy : ev n f y = .bool b) (hp : (!(a == b)) = p) (h : wpList P ops Q rest (A n (upd f d (.bool p))) w) :
    wpList P ops Q (⟨some d, .binOp .neq t x y t2, ty, ps, af, none⟩ :: rest) (A n f) w := s_run (r_neqB hu hx hy hp) h
end Go.Rf
namespace Go.Proofs.Ytcogpedfnnfnaaa
open Go.Rf Go.RowKit
set_option linter.unusedVariables false
set_option maxHeartbeats 8000000
attribute [local irreducible] Code.wp wpList Exit.then Exit.inBlock bodyPost A Calls execOp Addr.add

theorem lin_len {l : List Cl} {x : List Nat} (h : LinP l (iv x)) : x.length ≤ l.length :=
  nodup_len l.length x (iv_nodup.1 h.nd) (fun y hy => by have := (h.inn y (iv_mem.2 hy)).2; omega)
theorem orders_len (l : List Cl) {most : Int} (h : most ≤ 1000000) : (ordersP l most).length ≤ 1000000 := by
  unfold ordersP
  split
  · simp
  · have := growP_len l most.toNat l.length [] (ended l) [] (by simp; omega)
    omega
theorem OcS.cut {u : World} {l : List Cl} {ao : Option Addr} {c k : Nat} {ys : List Value} (hk : k ≤ l.length) (hr : Rws OcR l ys) (hs : Src u (.slice ao k c) k (ys.take (k * 10))) : OcS u (l.take k) (.slice ao k c) :=
  ⟨_, by rw [List.length_take, Nat.min_eq_left hk]; exact hs, fun _ _ _ _ _ => by simp, Rws.take ocLen hr k⟩

set_option maxRecDepth 4000 in
theorem historyOrders_walk (x : Value) (l : List Int) (q a n : Int) (w : World) (hx : Src w x l.length (l.map (.int .i64))) (hl : ∀ n ∈ l, InI64 n) (hq : InI64 q) (ha : InI64 a) (hn : InI64 n) :
    Calls Try.prog 7 #[x, .int .i64 q, .int .i64 a, .int .i64 n] w fun e w' => e = .returned (.bool true) ∧ Fr [] w w' := by
  refine enter Try.func7 rfl Try.ntmps7 rfl ?_
  refine rx ?_
  refine s_call (historyC x l 10 w hx hl (by omega)) rfl ?_
  rintro _ u1 ⟨v1, rfl, ho1, hk1, hf1⟩
  refine ⟨_, rfl, ?_⟩
  have hlen := (genN_len l 10).1
  have hval := gen_valid l (m := 10) (by omega)
  have hok := gen_evOk l 10
  generalize (genN l 10).1 = L at ho1 hlen hval hok
  refine rx ?_
  refine s_call (ownC L v1 u1 (ho1.sl evStab) (by omega)) rfl ?_
  rintro _ u2 ⟨v2, rfl, ho2, hk2, hf2⟩
  refine ⟨_, rfl, ?_⟩
  refine s_call (opsC L v2 u2 (ho2.sl evStab) hok (by omega)) rfl ?_
  rintro _ u3 ⟨v3, rfl, ho3, hk3, hf3⟩
  refine ⟨_, rfl, ?_⟩
  rw [hval, if_pos rfl] at ho3
  rw [hval]
  refine rx ?_
  refine s_call (opsR L v1 u3 (EvS.tr0 (ho1.sl evStab) (hf2.trans0 hf3)) hok (by omega)) rfl ?_
  rintro _ u4 ⟨v4, rfl, ho4, hk4, hf4⟩
  refine ⟨_, rfl, ?_⟩
  rw [hval, if_pos rfl] at ho4
  rw [hval]
  have hol := opsFrom_len L 0
  have hti := timed_ops L
  generalize opsFrom 0 L = O at ho3 ho4 hol hti
  have hc3 : OcS u4 O v3 := OcS.tr0 (OwnR.oc ho3) hf4
  have hc4 : OcS u4 O v4 := OwnR.oc ho4
  obtain ⟨a3, c3, e3⟩ := ho3.slice
  obtain ⟨a4, c4, e4⟩ := ho4.slice
  subst e3 e4
  have hF4 : Fr [] w u4 := ((hf1.trans0 hf2).trans0 hf3).trans0 hf4
  clear ho3 ho4 hk1 hk2 hk3 hk4
  by_cases h6 : 6 < O.length
  case' pos =>
    obtain ⟨ys3, hs3, _, hr3⟩ := id hc3
    obtain ⟨ys4, hs4, _, hr4⟩ := id hc4
    refine rx ?_
    refine s_cut 0 6 hs3 rfl (Rws.len ocLen hr3) rfl ⟨_, rfl⟩ (by omega) (by omega) (fun ao5 c5 hs5 _ _ => ?_)
    rw [Nat.sub_zero] at hs5 ⊢
    rw [Nat.zero_mul, List.drop_zero] at hs5
    refine rx ?_
    refine s_cut 0 6 hs4 rfl (Rws.len ocLen hr4) rfl ⟨_, rfl⟩ (by omega) (by omega) (fun ao6 c6 hs6 _ _ => ?_)
    rw [Nat.sub_zero] at hs6 ⊢
    rw [Nat.zero_mul, List.drop_zero] at hs6
    have hb : OcS u4 (O.take 6) (.slice ao5 6 c5) := OcS.cut (by omega) hr3 hs5
    have hcc : OcS u4 (O.take 6) (.slice ao6 6 c6) := OcS.cut (by omega) hr4 hs6
    have hti' := hti.take 6
    have hl6 : (O.take 6).length ≤ 6 := by rw [List.length_take]; omega
    clear hc3 hc4 hti hs3 hs4 hr3 hr4 hs5 hs6
    generalize O.take 6 = O at hb hcc hti' hl6
  case' neg =>
    have hb := hc3
    have hcc := hc4
    have hti' := hti
    have hl6 : O.length ≤ 6 := by omega
    clear hc3 hc4 hti
  all_goals
    refine rx ?_
    refine s_call (around q 12 u4 hq.1 hq.2 (by omega)) rfl ?_
    rintro _ _ ⟨rfl, rfl⟩
    refine ⟨_, rfl, ?_⟩
    have h12 := arnd_range (a := q) (m := 12) (by omega)
    refine rx ?_
    refine s_buildS [.int .i64 (arnd q 12 - 1), .int .i64 50] rfl rfl rfl rfl (fun u5 ho5 hf5 hs5 => ?_)
    have hF5 := hF4.trans0 hf5
    have hb5 := OcS.tr0 hb hf5
    have hc5 := OcS.tr0 hcc hf5
    have hlim : ∀ i, i < 2 → ∃ M : Int, ([.int .i64 (arnd q 12 - 1), .int .i64 50] : List Value)[i]? = some (.int .i64 M) ∧ M ≤ 1000000 := by
      intro i hi
      have : i = 0 ∨ i = 1 := by omega
      rcases this with rfl | rfl
      · exact ⟨_, rfl, by omega⟩
      · exact ⟨_, rfl, by omega⟩
    refine rx ?_
    refine c_loopK 58 [15, 16, 17, 18, 19, 20] (σ := Nat) (fun i g u => g 15 = .int .i64 i ∧ i ≤ 2 ∧ Fr [] u5 u) (fun i => 2 - i) 0 ⟨rfl, by omega, Fr.refl _ _⟩ ?_
    rintro i g u ⟨h15, hi, hf⟩
    rw [eq_upd h15]
    by_cases hi2 : i < 2
    case neg =>
      refine rx ?_
      refine s_call (livesC u) rfl ?_
      rintro _ z ⟨rfl, hg⟩
      refine ⟨_, rfl, ?_⟩
      refine rx ?_
      (apply ret1; exact rfl; (conv => lhs; whnf))
      exact ⟨rfl, (hF5.trans0 hf).trans0 hg⟩
    obtain ⟨M, hM, hM6⟩ := hlim i hi2
    have hcl := src_cell (j := i) (ho5.src.tr0 hf) hM
    refine rx ?_
    rw [Nat.mul_one]
    refine s_load rfl hcl ?_
    refine s_call (ordersC O _ M u (OcS.tr0 hb5 hf) hti'.ord (by omega) hM6) rfl ?_
    rintro _ z1 ⟨r1, rfl, hp1, _, hg1⟩
    refine ⟨_, rfl, ?_⟩
    have hcl1 := src_cell (j := i) (ho5.src.tr0 (hf.trans0 hg1)) hM
    refine rx ?_
    rw [Nat.mul_one]
    refine s_load rfl hcl1 ?_
    refine s_call (ordersR O _ M z1 (OcS.tr0 hc5 (hf.trans0 hg1)) (by omega) hM6) rfl ?_
    rintro _ z2 ⟨r2, rfl, hp2, _, hg2⟩
    refine ⟨_, rfl, ?_⟩
    have hXl := orders_len O hM6
    have hXlin := orders_lin O M
    generalize ordersP O M = X at hp1 hp2 hXl hXlin
    have hX1 : LS z2 X r1 := LS.tr0 (hp1.sl irStab) hg2
    have hX2 : LS z2 X r2 := hp2.sl irStab
    refine rx ?_
    refine s_call (listsC X X r1 r2 z2 hX1 hX2 hXl (fun x hx => by have := lin_len (hXlin x hx); omega)) rfl ?_
    rintro _ z3 ⟨rfl, hg3⟩
    refine ⟨_, rfl, ?_⟩
    rw [decide_eq_true rfl]
    have hX3 : LS z3 X r1 := LS.tr0 hX1 hg3
    obtain ⟨ax, cx, e, _⟩ := Sl.slice hX3
    subst e
    have hG3 : Fr [] u z3 := (hg1.trans0 hg2).trans0 hg3
    have hbz := OcS.tr0 hb5 (hf.trans0 hG3)
    have hcz := OcS.tr0 hc5 (hf.trans0 hG3)
    clear hX1 hX2 hp1 hp2
    refine rx ?_
    refine c_loopK 78 [18, 19, 20] (σ := Nat) (fun k g u => g 18 = .int .i64 k ∧ k ≤ X.length ∧ Fr [] z3 u) (fun k => X.length - k) 0 ⟨rfl, Nat.zero_le _, Fr.refl _ _⟩ ?_
    rintro k g y ⟨h18, hk, hfy⟩
    rw [eq_upd h18]
    by_cases hkl : k < X.length
    case neg =>
      refine rx ?_
      exact q_roundK (i + 1) (by (repeat (first | exact Keep.mrg _ _ _ _ | (refine Keep.hi rfl ?_) | (refine Keep.one rfl ?_) | exact Keep.all rfl | (refine Keep.inn rfl ?_) | (refine Keep.set rfl ?_)))) ⟨rfl, by omega, (hf.trans0 hG3).trans0 hfy⟩ (by omega)
    obtain ⟨ad, cs, rfl, ⟨sv, rfl, hsv, _⟩, hcy⟩ := Sl.at hX3 irLen hkl
    have hlinx := hXlin X[k] (by simp)
    have hxl := lin_len hlinx
    generalize X[k] = xs at hsv hlinx hxl
    have hcy0 : ∀ q, Fr [] z3 q → q.cell? (ad.add (k * 1)) = some sv := fun q hq => by
      have := (hcy.tr0 hq) 0 sv rfl
      rwa [add_add, Nat.add_zero] at this
    obtain ⟨as', csl, e, hcs, _⟩ := id hsv
    subst e
    refine rx ?_
    refine s_build0 (fun y1 hoy1 hfy1 hsy1 => ?_)
    refine rx ?_
    refine s_load rfl (hcy0 _ (hfy.trans0 hfy1)) ?_
    refine s_append hoy1 rfl (hsv.tr0 (hfy.trans0 hfy1)) rfl (by simp [nv]) (fun u hu => by simp [nv] at hu; obtain ⟨n, _, rfl⟩ := hu; rfl) (by unfold maxLen; omega) (by omega) (fun v2 y2 hoy2 hfy2 hky2 _ => ?_)
    have hk2 : ∀ b ∈ blks v2, y.heap.size ≤ b := fun b hb' => by
      rcases hky2 b hb' with h | h
      · simp [blks, Value.ownBlock] at h; omega
      · omega
    have hF2 : Fr [] y y2 := hfy1.trans hfy2 (by simp [blks, Value.ownBlock])
    have hown2 : Own y2 3 1 v2 (iv xs).length ((iv xs).map (.int .i64)) := by
      rw [iv_len, iv, ← nv_eq]; simpa using hoy2
    obtain ⟨av2, cv2, e⟩ := hown2.slice
    subst e
    by_cases h0 : xs.length = 0
    case' pos =>
      have e0 : (iv xs).length = 0 := by rw [iv_len]; exact h0
      obtain ⟨o, ho⟩ : ∃ o, iv xs = o := ⟨_, rfl⟩
      have hlx := iv_len xs
      rw [ho] at hown2 e0 hlx ⊢
      have hol6 : o.length ≤ 6 := by omega
      have hys : Fr [] z3 y2 := hfy.trans0 hF2
      have hoo : Src y2 (.slice av2 o.length cv2) o.length (o.map (.int .i64)) := hown2.src
      refine rx ?_
      clear hown2 hoy2 hk2
      generalize y2 = yy at hys hoo ⊢
      generalize Value.slice av2 o.length cv2 = vo at hoo ⊢
    case' neg =>
      have hlx := iv_len xs
      have e0 : 0 < (iv xs).length := by omega
      refine rx ?_
      refine s_call (around a (iv xs).length y2 ha.1 ha.2 (by omega)) rfl ?_
      rintro _ _ ⟨rfl, rfl⟩
      refine ⟨_, rfl, ?_⟩
      have hj := arnd_range (a := a) (m := ((iv xs).length : Int)) (by omega)
      obtain ⟨j, hja⟩ : ∃ j : Nat, arnd a (iv xs).length = (j : Int) := ⟨(arnd a (iv xs).length).toNat, by omega⟩
      rw [hja] at hj ⊢
      have hjl : j < (iv xs).length := by omega
      obtain ⟨bd, e⟩ := own_at1 hown2 hjl
      subst e
      refine rx ?_
      rw [Nat.mul_one j]
      refine s_storeOwn (j := j) (u := .int .i64 n) hown2 rfl hjl rfl rfl rfl (fun y3 hoy3 hfy3 hsy3 => ?_)
      rw [← List.map_set] at hoy3
      obtain ⟨o, ho⟩ : ∃ o, (iv xs).set j n = o := ⟨_, rfl⟩
      have hlo : o.length = (iv xs).length := by rw [← ho]; simp
      rw [ho] at hoy3
      rw [← hlo] at hoy3 ⊢
      have hol6 : o.length ≤ 6 := by omega
      have hys : Fr [] z3 y3 := (hfy.trans0 hF2).trans hfy3 (fun b hb' => .inr (by have := hk2 b (by rw [← hlo]; exact hb'); have := hfy.size; omega))
      have hoo : Src y3 (.slice (some bd) o.length cv2) o.length (o.map (.int .i64)) := hoy3.src
      clear hown2 hoy2 hk2 hja hj
      refine rx ?_
      generalize y3 = yy at hys hoo ⊢
      generalize Value.slice (some bd) o.length cv2 = vo at hoo ⊢
    all_goals
      have e2 : ((xs.length : Int) / 2) = ((xs.length / 2 : Nat) : Int) := by omega
      (refine d_begin (fun z => Fr [] yy z) (by kernel_rfl) rfl ?_)
      have hS : Fr [] yy yy.drew := Fr.drew _ _
      ((first | refine d_tx 0 hS ?_ | refine d_ty 0 hS ?_ | refine d_tn 0 hS ?_); (first | refine d_tx 1 hS ?_ | refine d_ty 1 hS ?_ | refine d_tn 1 hS ?_); (first | refine d_tx 2 hS ?_ | refine d_ty 2 hS ?_ | refine d_tn 2 hS ?_))
      (apply d_take (i := 3); exact rfl; kernel_rfl; kernel_rfl; kernel_rfl; (intro u hu; exact r_load rfl (hcy0 _ (hys.trans0 hu))); exact hS)
      ((first | refine d_tx 4 hS ?_ | refine d_ty 4 hS ?_ | refine d_tn 4 hS ?_); (first | refine d_tx 5 hS ?_ | refine d_ty 5 hS ?_ | refine d_tn 5 hS ?_); (first | refine d_tx 6 hS ?_ | refine d_ty 6 hS ?_ | refine d_tn 6 hS ?_))
      (apply d_take (i := 7); exact rfl; kernel_rfl; kernel_rfl; kernel_rfl; (intro u hu; exact r_load rfl (hcy0 _ (hys.trans0 hu))); exact hS)
      ((first | refine d_tx 8 hS ?_ | refine d_ty 8 hS ?_ | refine d_tn 8 hS ?_))
      (refine d_one (i := 9) rfl (by kernel_rfl) ?_; refine rx ?_; refine q_held hS ?_)
      rw [e2]
      have hyd : Fr [] z3 yy.drew := hys.trans0 hS
      refine d_one (i := 10) rfl (by kernel_rfl) ?_
      refine s_cut 0 (xs.length / 2) (hsv.tr0 hyd) rfl (by simp [nv]) rfl ⟨_, rfl⟩ (by omega) (by omega) (fun ao7 c7 hs7 _ _ => ?_)
      rw [Nat.sub_zero] at hs7 ⊢
      rw [Nat.zero_mul, List.drop_zero, Nat.mul_one] at hs7
      refine wpList_nil (q_held hS ?_)
      (refine d_one (i := 11) rfl (by kernel_rfl) ?_; refine rx ?_; refine q_held hS ?_)
      (refine d_done (by kernel_rfl) ?_)
      have hless : Src yy.drew (.slice ao7 (xs.length / 2) c7) ((iv xs).take (xs.length / 2)).length (((iv xs).take (xs.length / 2)).map (.int .i64)) := by
        have e1 : ((iv xs).take (xs.length / 2)).length = xs.length / 2 := by rw [List.length_take, iv_len]; omega
        rw [e1, List.map_take, iv, ← nv_eq]; exact hs7
      have hll : ((iv xs).take (xs.length / 2)).length ≤ 6 := by rw [List.length_take, iv_len]; omega
      generalize (iv xs).take (xs.length / 2) = less at hless hll
      generalize Value.slice ao7 (xs.length / 2) c7 = vless at hless ⊢
      clear hs7
      have hoo1 := hoo.tr0 hS
      generalize yy.drew = y4 at hyd hless hoo1 ⊢
      refine rx ?_
      refine s_load rfl (hcy0 _ hyd) ?_
      refine s_call (linC O _ (iv xs) _ y4 (OcS.tr0 hbz hyd) (by rw [iv_len, iv, ← nv_eq]; exact hsv.tr0 hyd) (by omega) (by rw [iv_len]; omega)) rfl ?_
      rintro _ y5 ⟨b5, rfl, hb5', hf5'⟩
      refine ⟨_, rfl, ?_⟩
      have hbt : b5 = true := hb5'.2 hlinx
      subst hbt
      refine rx ?_
      refine s_call (linC O _ o vo y5 (OcS.tr0 hbz (hyd.trans0 hf5')) (hoo1.tr0 hf5') (by omega) (by omega)) rfl ?_
      rintro _ y6 ⟨b6, rfl, hb6, hf6⟩
      refine ⟨_, rfl, ?_⟩
      have hG6 : Fr [] y4 y6 := hf5'.trans0 hf6
      refine rx ?_
      refine s_call (linR O _ o vo y6 (OcS.tr0 hcz (hyd.trans0 hG6)) (hoo1.tr0 hG6) (by omega) (by omega)) rfl ?_
      rintro _ y7 ⟨b7, rfl, hb7, hf7⟩
      refine ⟨_, rfl, ?_⟩
      have hG7 : Fr [] y4 y7 := hG6.trans0 hf7
      have hbb : b6 = b7 := Bool.eq_iff_iff.2 (hb6.trans hb7.symm)
      refine rx ?_
      refine s_neqB (p := false) Try.underlying4 rfl rfl (by simp [hbb]) ?_
      refine rx ?_
      refine s_call (linC O _ less vless y7 (OcS.tr0 hbz (hyd.trans0 hG7)) (hless.tr0 hG7) (by omega) (by omega)) rfl ?_
      rintro _ y8 ⟨b8, rfl, hb8, hf8⟩
      refine ⟨_, rfl, ?_⟩
      have hG8 : Fr [] y4 y8 := hG7.trans0 hf8
      refine rx ?_
      refine s_call (linR O _ less vless y8 (OcS.tr0 hcz (hyd.trans0 hG8)) (hless.tr0 hG8) (by omega) (by omega)) rfl ?_
      rintro _ y9 ⟨b9, rfl, hb9, hf9⟩
      refine ⟨_, rfl, ?_⟩
      have hG9 : Fr [] y4 y9 := hG8.trans0 hf9
      have hbb2 : b8 = b9 := Bool.eq_iff_iff.2 (hb8.trans hb9.symm)
      refine rx ?_
      refine s_neqB (p := false) Try.underlying4 rfl rfl (by simp [hbb2]) ?_
      refine rx ?_
      exact q_roundK (k + 1) (by (repeat (first | exact Keep.mrg _ _ _ _ | (refine Keep.hi rfl ?_) | (refine Keep.one rfl ?_) | exact Keep.all rfl | (refine Keep.inn rfl ?_) | (refine Keep.set rfl ?_)))) ⟨rfl, by omega, hyd.trans0 hG9⟩ (by omega)
end Go.Proofs.Ytcogpedfnnfnaaa
