/-
  The walk of the law WireReads.
-/
import Derived.Test.YtinafhpbhajdpaaL5
import Derived.Test.YtinafhpbhajdpaaRq2
namespace Go.Proofs.Ytinafhpbhajdpaa
set_option linter.unusedVariables false
open Go.Rf Go.RowKit
attribute [local irreducible] Code.wp wpList Exit.then Exit.inBlock bodyPost A Calls

theorem own_at7 {w : World} {e k c j : Nat} {ao : Option Addr} {xs : List Value} (h : Own w e 1 (.slice ao k c) k xs) (hj : j < k) : ∃ a, ao = some a := by
  rcases h.2 with ⟨h0, h1⟩ | ⟨g, cap, cur, hv, _⟩
  · omega
  · simp only [Value.slice.injEq] at hv
    exact ⟨_, hv.1⟩

theorem Keep.within {nl : Nat} {S S2 : List Nat} {f h g : Env} (hs : ∀ s, elemB S s = false → elemB S2 s = false) (hk : Keep nl S f h) : Keep nl S f (mrg nl S2 h g) := fun s h1 h2 => by
  have h3 := hs s h2
  have : Nat.blt s nl = true := by simp only [Nat.blt, Nat.ble_eq]; omega
  simp only [Go.Rf.mrg, this, h3, cond_true, cond_false]
  exact hk s h1 h2
theorem in67 : ∀ s, elemB [13, 14, 15, 16, 17] s = false → elemB [16, 17] s = false := by
  intro s h
  simp only [elemB] at h ⊢
  revert h
  cases Nat.beq 13 s <;> cases Nat.beq 14 s <;> cases Nat.beq 15 s <;> simp

set_option maxHeartbeats 8000000 in
theorem wireReads_walk (xr : Value) (rs : List Int) (x : Value) (zs : List Int) (at_ c : Int) (xk : Value) (ks : List Int) (w : World)
    (hxr : Src w xr rs.length (rs.map (.int .u8))) (hrs : Bys rs) (hx : Src w x zs.length (zs.map (.int .i64))) (hz : ∀ n ∈ zs, InI64 n) (hat : InI64 at_) (hc : 0 ≤ c ∧ c < 256) (hxk : Src w xk ks.length (ks.map (.int .i64))) (hks : ∀ n ∈ ks, InI64 n) :
    Calls Try.prog 6 #[xr, x, .int .i64 at_, .int .u8 c, xk] w fun e w' => e = .returned (.bool true) ∧ Fr [] w w' := by
  obtain ⟨aok, ck, hxke, _⟩ := id hxk
  subst hxke
  refine enter Try.func6 rfl Try.ntmps6 rfl ?_
  refine rn ?_
  refine s_call (vals x zs w hx hz) rfl ?_
  rintro _ w1 ⟨vo, T, rfl, hT, hTl, hf1, hk1⟩
  refine ⟨_, rfl, ?_⟩
  have hA : ∀ t ∈ T, IsVal w1 [] t.1 t.2.1 t.2.2 := hT.plain
  have hAs := hT.shape
  have hoA := hT.own
  refine rn ?_
  refine s_call (refEncode _ T w1 hoA.src hA (by omega)) rfl ?_
  rintro _ w2 ⟨ve, rfl, ho2, hf2, hk2⟩
  refine ⟨_, rfl, ?_⟩
  have hsm := encs_small T (fun t ht => (hA t ht).ok) hAs
  have hbys := encs_bys (fun t ht => (hA t ht).ok)
  obtain ⟨aoE, cE, hvE⟩ := ho2.slice
  subst hvE
  generalize encs T = E0 at ho2 hbys hsm hk2
  refine rn ?_
  refine s_run (r_gtr rfl rfl rfl) ?_
  refine rn ?_
  refine c_cut (fun g' u' => ∃ E : List Int, g' 0 = xr ∧ g' 4 = .slice aok ks.length ck ∧ g' 11 = .slice aoE E0.length cE ∧ E.length = E0.length ∧ Bys E ∧ Own u' 5 1 (.slice aoE E0.length cE) E.length (E.map (.int .u8)) ∧ Fr [] w1 u') ?_ ?_
  · by_cases hE0 : (0 : Int) < E0.length
    · rw [decide_eq_true hE0]
      refine rn ?_
      refine s_call (around at_ E0.length w2 hat.1 hat.2 (by omega)) rfl ?_
      rintro _ _ ⟨rfl, rfl⟩
      refine ⟨_, rfl, ?_⟩
      obtain ⟨m, hm⟩ : ∃ m : Nat, arnd at_ E0.length = (m : Int) := ⟨(arnd at_ E0.length).toNat, by have := arnd_range (a := at_) (m := E0.length) (by omega); omega⟩
      have hmE : m < E0.length := by have := arnd_range (a := at_) (m := E0.length) (by omega); omega
      rw [hm]
      obtain ⟨a, ha⟩ := own_at7 (j := m) ho2 (by omega)
      refine rn ?_
      refine s_index1 rfl rfl rfl hmE ha ?_
      refine s_storeOwn (j := m) ho2 ha hmE rfl rfl rfl (fun u2 hou2 hfu2 _ => ?_)
      refine rn ?_
      refine q_cut ⟨E0.set m c, rfl, rfl, rfl, by simp, ?_, ?_, hf2.trans hfu2 (fun k hk => .inr (hk2 k hk))⟩
      · intro b hb
        rcases List.mem_or_eq_of_mem_set hb with h | h
        · exact hbys b h
        · rw [h]; exact hc
      · rw [List.length_set, List.map_set]; exact hou2
    · rw [decide_eq_false hE0]
      refine rn ?_
      exact q_cut ⟨E0, rfl, rfl, rfl, rfl, hbys, ho2, hf2⟩
  rintro g0 w3 ⟨E, q0, q4, q11, hEl, hEb, hoE, hf3⟩
  have hEs : E.length ≤ 800 := by omega
  rw [← hEl] at q11 hoE
  clear ho2 hf2 hbys hsm hk2 hA hAs hoA hT
  rw [eq_upd q0, eq_upd q4, eq_upd q11]
  have hF3 : Fr [] w w3 := hf1.trans0 hf3
  refine rn ?_
  refine s_call (few xr rs 60 w3 (hxr.tr0 hF3) (by omega)) rfl ?_
  rintro _ w4 ⟨vf, rfl, hof, hf4, hk4⟩
  refine ⟨_, rfl, ?_⟩
  have hBt := hrs.take 60
  have lB : (rs.take 60).length ≤ 60 := by simp; omega
  generalize rs.take 60 = F at hof hBt lB
  obtain ⟨aof, cf, hvf⟩ := hof.slice
  subst hvf
  refine rn ?_
  refine s_buildS [.slice aof F.length cf, .slice aoE E.length cE] rfl rfl rfl rfl (fun w5 ho5 hf5 hs5 => ?_)
  have hF5 : Fr [] w w5 := (hF3.trans0 hf4).trans0 hf5
  have hsF : Src w5 (.slice aof F.length cf) F.length (F.map (.int .u8)) := hof.src.tr0 hf5
  have hsE : Src w5 (.slice aoE E.length cE) E.length (E.map (.int .u8)) := (hoE.src.tr0 hf4).tr0 hf5
  refine rn ?_
  refine c_loopK 18 [13, 14, 15, 16, 17] (σ := Nat) (fun s g u => g 13 = .int .i64 s ∧ s ≤ 2 ∧ Fr [] w5 u) (fun s => 2 - s) 0 ⟨rfl, by omega, Fr.refl _ _⟩ ?_
  rintro i g u ⟨h13, hi, hfu⟩
  rw [eq_upd h13]
  by_cases hi2 : i < 2
  case neg =>
    refine rn ?_
    refine s_call (lives u) rfl ?_
    rintro _ u2 ⟨rfl, hf2'⟩
    refine ⟨_, rfl, ?_⟩
    refine rn ?_
    (apply ret1; exact rfl; (conv => lhs; whnf))
    exact ⟨rfl, (hF5.trans0 hfu).trans0 hf2'⟩
  obtain ⟨X, aoX, cX, hgX, hsX, hXb, hXl⟩ : ∃ (X : List Int) (aoX : Option Addr) (cX : Nat), [Value.slice aof F.length cf, Value.slice aoE E.length cE][i]? = some (.slice aoX X.length cX) ∧ Src w5 (.slice aoX X.length cX) X.length (X.map (.int .u8)) ∧ Bys X ∧ X.length ≤ 1000 := by
    have : i = 0 ∨ i = 1 := by omega
    rcases this with rfl | rfl
    · exact ⟨F, aof, cf, rfl, hsF, hBt, by omega⟩
    · exact ⟨E, aoE, cE, rfl, hsE, hEb, by omega⟩
  have hcell := src_cell (j := i) (u := .slice aoX X.length cX) (ho5.src.tr0 hfu) hgX
  refine rn ?_
  refine s_index1 rfl rfl rfl hi2 rfl ?_
  refine s_load rfl hcell ?_
  refine s_call (wRead _ X u (hsX.tr0 hfu) hXb (by omega)) rfl ?_
  rintro _ u1 ⟨p, vr, rfl, hr1, hg1, hp1, hk1', _⟩
  refine ⟨_, rfl, ?_⟩
  have hfu1 := hfu.trans0 hg1
  have hcell1 := src_cell (j := i) (u := .slice aoX X.length cX) (ho5.src.tr0 hfu1) hgX
  refine rn ?_
  refine s_index1 rfl rfl rfl hi2 rfl ?_
  refine s_load rfl hcell1 ?_
  refine s_build [.slice aoX X.length cX, .int .i64 0] rfl ?_
  refine s_box rfl rfl (fun u2 hb2 hg2 hs2 => ?_)
  obtain ⟨q, hq⟩ : ∃ q, u1.heap.size = q := ⟨_, rfl⟩
  rw [hq] at hb2 hs2 ⊢
  have hfu2 := hfu1.trans0 hg2
  have hpq : p < q := by rw [← hq]; exact hr1.1.lt
  have hX1 := hsX.tr0 hfu1
  have hq2 : IsQ u2 q (.slice aoX X.length cX) X 0 := ⟨hb2, hX1.tr0 hg2, hX1.off (by simp; omega), hXb⟩
  have hr2 : IsR u2 p vr X 0 := hr1.fresh hg2 (by simp)
  have ho1 : Off vr (X.map (.int .u8)) [q] := hr1.2.1.off (by simp; omega)
  have ho2' : Off (.slice aoX X.length cX) (X.map (.int .u8)) [p] := (hsX.tr0 hfu).off (by simp; omega)
  have z1 := hfu.size
  have z2 := hg1.size
  refine rn ?_
  refine c_loopK 18 [16, 17] (σ := Nat × Value × Value × List Int × Int) (fun s g u' => g 16 = .int .i64 s.1 ∧ s.1 ≤ 10 ∧ IsR u' p s.2.1 s.2.2.2.1 s.2.2.2.2 ∧ IsQ u' q s.2.2.1 s.2.2.2.1 s.2.2.2.2 ∧ Off s.2.1 (s.2.2.2.1.map (.int .u8)) [q] ∧ Off s.2.2.1 (s.2.2.2.1.map (.int .u8)) [p] ∧ s.2.2.2.1.length ≤ 1000 ∧ Fr [] w5 u')
    (fun s => 10 - s.1) (0, vr, .slice aoX X.length cX, X, 0) ⟨rfl, by omega, hr2, hq2, ho1, ho2', hXl, hfu2⟩ ?_
  rintro ⟨j, v, v', bs, e⟩ g3 u3 ⟨h16, hj, hr3, hq3, ho3, ho3', hbl, hfu3⟩
  simp only at h16 hj hr3 hq3 ho3 ho3' hbl
  rw [eq_upd h16]
  by_cases hl1 : j < ks.length
  case neg =>
    refine rn ?_
    exact q_roundK (i + 1) (by (repeat (first | (refine Keep.hi rfl ?_) | (refine Keep.one rfl ?_))); refine Keep.within in67 ?_; (repeat (first | exact Keep.mrg _ _ _ _ | (refine Keep.hi rfl ?_) | (refine Keep.one rfl ?_) | exact Keep.all rfl | (refine Keep.set rfl ?_)))) ⟨rfl, by omega, hfu3⟩ (by omega)
  by_cases hl2 : j < 10
  case neg =>
    refine rn ?_
    exact q_roundK (i + 1) (by (repeat (first | (refine Keep.hi rfl ?_) | (refine Keep.one rfl ?_))); refine Keep.within in67 ?_; (repeat (first | exact Keep.mrg _ _ _ _ | (refine Keep.hi rfl ?_) | (refine Keep.one rfl ?_) | exact Keep.all rfl | (refine Keep.set rfl ?_)))) ⟨rfl, by omega, hfu3⟩ (by omega)
  have hkj := hks ks[j] (by simp)
  obtain ⟨ad, ha, hcellk⟩ := src_at (j := j) (u := .int .i64 ks[j]) (hxk.tr0 (hF5.trans0 hfu3)) (by simp [hl1])
  generalize ks[j] = kj at hkj hcellk
  refine rn ?_
  refine s_index1 rfl rfl rfl hl1 ha ?_
  refine s_load rfl hcellk ?_
  obtain ⟨hk0, hk6'⟩ := arnd_range (a := kj) (m := 6) (by omega)
  refine s_call (around kj 6 u3 hkj.1 hkj.2 (by omega)) rfl ?_
  rintro _ _ ⟨rfl, rfl⟩
  refine ⟨_, rfl, ?_⟩
  generalize arnd kj 6 = kk at hk0 hk6'
  have hrok := rdV_ok (k := kk) (bs := bs) (e := e) hr3.2.2.2 hk0 hk6' (by omega)
  have hl1' := hrok.2.2.1
  refine rn ?_
  refine s_call (lawRead p kk v bs e u3 hr3 hk0 hk6' (by omega)) rfl ?_
  rintro _ u4 ⟨xb, xl, rfl, hnv, v1, hr4, hg4, hsub4⟩
  refine ⟨_, rfl, ?_⟩
  have hq4 : IsQ u4 q v' bs e := hq3.tr hg4 (by simp; omega) ho3'
  have ho4 : Off v1 ((rdV kk bs e).2.1.map (.int .u8)) [q] := hsub4.off (ys := bs.map (.int .u8)) (by simp only [List.length_map]; omega) ho3
  have lq := hq3.1.lt
  have z3 := hfu3.size
  have z4 := hg4.size
  refine rn ?_
  refine s_call (qRead q kk v' bs e u4 hq4 hk0 hk6' (by omega)) rfl ?_
  rintro _ u5 ⟨yb, yl, rfl, hyv, v2, hq5, hg5, hsub5⟩
  refine ⟨_, rfl, ?_⟩
  have hr5 := hr4.tr hg5 (by simp; omega) ho4
  have hnv5 := hnv.tr hg5 (by simp; omega)
  have ho5' : Off v2 ((rdV kk bs e).2.1.map (.int .u8)) [p] := hsub5.off (ys := bs.map (.int .u8)) (by simp only [List.length_map]; omega) ho3'
  refine s_call (refSame _ _ _ _ _ _ u5 (hnv5.is hrok.1 (by simp)) hyv) rfl ?_
  rintro _ u6 ⟨rfl, hg6⟩
  refine ⟨_, rfl, ?_⟩
  rw [same_refl]
  have hr6 := hr5.fresh hg6 (by simp)
  have hq6 := hq5.fresh hg6 (by simp)
  refine rn ?_
  refine s_call (rEnd p v1 _ _ u6 hr6) rfl ?_
  rintro _ _ ⟨rfl, rfl⟩
  refine ⟨_, rfl, ?_⟩
  refine rn ?_
  refine s_call (qEnd q v2 _ _ u6 hq6) rfl ?_
  rintro _ _ ⟨rfl, rfl⟩
  refine ⟨_, rfl, ?_⟩
  have hfu6 : Fr [] w5 u6 := ((hfu3.trans hg4 (by simp; omega)).trans hg5 (by simp; omega)).trans0 hg6
  generalize rdEnd (rdV kk bs e).2.1 (rdV kk bs e).2.2 = re
  refine rn ?_
  exact q_roundK (j + 1, v1, v2, (rdV kk bs e).2.1, (rdV kk bs e).2.2) (by (repeat (first | exact Keep.mrg _ _ _ _ | (refine Keep.hi rfl ?_) | (refine Keep.one rfl ?_) | exact Keep.all rfl | (refine Keep.set rfl ?_)))) ⟨rfl, by simp only; omega, hr6, hq6, ho4, ho5', by simp only; omega, hfu6⟩ (by simp only; omega)
end Go.Proofs.Ytinafhpbhajdpaa
