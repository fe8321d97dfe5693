/-
  refuterref02.Vals: some values of all kinds, in new memory.
-/
import Derived.Test.YtinafhpbhajdpaaVal
namespace Go.Proofs.Ytinafhpbhajdpaa
set_option linter.unusedVariables false
open Go.Rf Go.RowKit
attribute [local irreducible] Code.wp wpList Exit.then Exit.inBlock bodyPost A Calls

/-- what the generator makes: the fields that the kind does not use are zero -/
structure Val.Shape (v : Val) : Prop where
  k0 : 0 ≤ v.kind
  k6 : v.kind < 6
  u : v.kind ≠ 0 → v.u = 0
  n : v.kind ≠ 1 → v.kind ≠ 2 → v.n = 0
  b01 : v.kind = 2 → v.n = 0 ∨ v.n = 1
  b : v.kind ≠ 3 → v.kind ≠ 4 → v.b = []
  l : v.kind ≠ 5 → v.l = []
  sb : v.b.length ≤ 9
  sl : v.l.length ≤ 4
structure IsVals (w : World) (vo : Value) (T : List (Val × Value × Value)) : Prop where
  own : Own w 37 5 vo T.length (vcs T)
  all : ∀ t ∈ T, IsVal w (blks vo) t.1 t.2.1 t.2.2
  shape : ∀ t ∈ T, t.1.Shape
theorem IsVal.tr' {w w' : World} {S T : List Nat} {v : Val} {vb vl : Value} (h : IsVal w T v vb vl) (hf : Fr S w w') (h0 : IsVal w S v vb vl) : IsVal w' T v vb vl := ⟨h.ok, h0.b.tr hf h0.ob, h0.l.tr hf h0.ol, h.ob, h.ol⟩
theorem IsVals.tr0 {w w' : World} {vo : Value} {T : List (Val × Value × Value)} (h : IsVals w vo T) (hf : Fr [] w w') : IsVals w' vo T := ⟨h.own.tr0 hf, fun t ht => (h.all t ht).tr0 hf, h.shape⟩
theorem IsVals.plain {w : World} {vo : Value} {T : List (Val × Value × Value)} (h : IsVals w vo T) : ∀ t ∈ T, IsVal w [] t.1 t.2.1 t.2.2 := fun t ht => (h.all t ht).mono (by simp)

set_option maxHeartbeats 4000000 in
theorem vals (x : Value) (zs : List Int) (w : World) (hx : Src w x zs.length (zs.map (.int .i64))) (hz : ∀ z ∈ zs, InI64 z) :
    Calls Try.prog 18 #[x] w fun e w' => ∃ vo T, e = .returned vo ∧ IsVals w' vo T ∧ T.length ≤ 8 ∧ Fr [] w w' ∧ ∀ k ∈ blks vo, w.heap.size ≤ k := by
  obtain ⟨ao, c, hxe, _⟩ := id hx
  subst hxe
  refine enter Try.func18 rfl Try.ntmps18 rfl ?_
  refine rn ?_
  refine c_loopK 10 [1, 2, 3, 4, 5, 6, 7, 8, 9] (σ := Nat × Value × List (Val × Value × Value)) (fun s g u => g 3 = s.2.1 ∧ g 4 = .int .i64 s.1 ∧ s.1 ≤ zs.length ∧ s.1 ≤ 8 ∧ s.2.2.length = s.1 ∧ IsVals u s.2.1 s.2.2 ∧ Fr [] w u ∧ ∀ k ∈ blks s.2.1, w.heap.size ≤ k)
    (fun s => 8 - s.1) (0, .slice none 0 0, []) ⟨rfl, rfl, Nat.zero_le _, Nat.zero_le _, rfl, ⟨Own.nil _ _ _, by simp, by simp⟩, Fr.refl _ _, by simp [blks, Value.ownBlock]⟩ ?_
  rintro ⟨i, vo, T⟩ g u ⟨h3, h4, hi, hi8, hTl, hT, hfu, hku⟩
  simp only at h3 h4 hi hi8 hTl hT hku
  rw [eq_upd h4, eq_upd h3]
  by_cases hlt : i < zs.length
  case neg =>
    refine rn ?_
    (apply ret1; exact rfl; (conv => lhs; whnf))
    exact ⟨vo, T, rfl, hT, by omega, hfu, hku⟩
  by_cases hlt8 : i < 8
  case neg =>
    refine rn ?_
    (apply ret1; exact rfl; (conv => lhs; whnf))
    exact ⟨vo, T, rfl, hT, by omega, hfu, hku⟩
  have hzi := hz zs[i] (by simp)
  obtain ⟨ad, rfl, hcell0⟩ := src_at (j := i) (u := .int .i64 zs[i]) (hx.tr0 hfu) (by simp [hlt])
  have hcell := fun (u' : World) (hf : Fr [] u u') => src_cell (j := i) (u := .int .i64 zs[i]) ((hx.tr0 hfu).tr0 hf) (by simp [hlt])
  generalize zs[i] = z at hzi hcell0 hcell
  refine rn ?_
  refine s_index1 rfl rfl rfl hlt rfl ?_
  refine s_load rfl hcell0 ?_
  refine s_call (around z 6 u hzi.1 hzi.2 (by omega)) rfl ?_
  rintro _ _ ⟨rfl, rfl⟩
  refine ⟨_, rfl, ?_⟩
  obtain ⟨hk0, hk6⟩ := arnd_range (a := z) (m := 6) (by omega)
  generalize arnd z 6 = k at hk0 hk6
  refine rn ?_
  refine s_index1 rfl rfl rfl hlt rfl ?_
  refine s_load rfl hcell0 ?_
  refine s_quo rfl rfl (by omega) (IntWalk.i64_quo' _ _ ⟨hzi.1, hzi.2, by omega⟩) ?_
  have hzq := tdiv_in hzi.1 hzi.2 6 (by omega)
  refine s_call (around (z.tdiv 6) 63 u hzq.1 hzq.2 (by omega)) rfl ?_
  rintro _ _ ⟨rfl, rfl⟩
  refine ⟨_, rfl, ?_⟩
  obtain ⟨n, hn⟩ : ∃ n : Nat, arnd (z.tdiv 6) 63 = (n : Int) := ⟨(arnd (z.tdiv 6) 63).toNat, by have := arnd_range (a := z.tdiv 6) (m := 63) (by omega); omega⟩
  have hn63 : n < 63 := by have := arnd_range (a := z.tdiv 6) (m := 63) (by omega); omega
  rw [hn]
  refine rn ?_
  refine s_build [.int .i64 k, .int .u64 0, .int .i64 0, .slice none 0 0, .slice none 0 0] rfl ?_
  refine s_alloc rfl (fun u1 hb1 hf1 hs1 => ?_)
  obtain ⟨b, hb⟩ : ∃ b, u.heap.size = b := ⟨_, rfl⟩
  rw [hb] at hb1 hs1 ⊢
  refine s_storeAggB rfl rfl hb1 (by simp [Value.oneCell']) rfl rfl (fun u2 hb2 hf2 hs2 => ?_)
  have hF2 : Fr [] u u2 := hf1.trans hf2 (by simp; omega)
  refine wpList_nil ?_
  refine q_then ?_
  refine wp_seq ?_
  have szu := hF2.size
  refine c_cut (fun g' u' => ∃ xv xb xl, g' 0 = .slice (some ad) zs.length c ∧ g' 3 = vo ∧ g' 4 = .int .i64 i ∧ g' 7 = .pointer (some ⟨b, 0, none⟩) ∧ Blk u' b (vcells xv xb xl) 37 ∧ Fr [] u u' ∧ IsVal u' (blks vo) xv xb xl ∧ xv.Shape) ?_ ?_
  · by_cases k0 : k = 0
    · subst k0
      refine rn ?_
      refine s_index1 rfl rfl rfl hlt rfl ?_
      refine s_load rfl (hcell _ hF2) ?_
      refine s_conv rfl (u64_wrap z) ?_
      refine rn ?_
      obtain ⟨zu, hzu⟩ : ∃ zu : Nat, z % 18446744073709551616 = (zu : Int) := ⟨(z % 18446744073709551616).toNat, by omega⟩
      rw [hzu]
      refine s_shr rfl rfl (by omega) (shrN zu n (by omega)) ?_
      have hq : zu / 2 ^ n < 18446744073709551616 := Nat.lt_of_le_of_lt (Nat.div_le_self _ _) (by omega)
      refine rn ?_
      ((with_reducible apply s_storeB); exact rfl; (conv => lhs; whnf); exact rfl; exact hb2; exact rfl)
      intro u3 hb3 hf3 _
      refine rn ?_
      refine q_cut ⟨⟨0, zu / 2 ^ n, 0, [], []⟩, .slice none 0 0, .slice none 0 0, rfl, rfl, rfl, rfl, hb3, hF2.trans hf3 (by simp; omega), ?_, ?_⟩
      · exact ⟨⟨⟨by simp, by simp⟩, hq, ⟨by simp, by simp⟩, by simp [Bys], by simp, by simp, by simp⟩, Src.nil _, Src.nil _, fun _ _ _ _ h => by simp at h, fun _ _ _ _ h => by simp at h⟩
      · exact ⟨by simp, by simp, by simp, by simp, by simp, by simp, by simp, by simp, by simp⟩
    by_cases k1 : k = 1
    · subst k1
      refine rn ?_
      refine s_index1 rfl rfl rfl hlt rfl ?_
      refine s_load rfl (hcell _ hF2) ?_
      refine rn ?_
      refine s_shr rfl rfl (by omega) (show _ = z.fdiv (2 ^ n) by rw [show min ((n : Int)).toNat IntKind.i64.bits = n from by have : IntKind.i64.bits = 64 := rfl; omega]) ?_
      have hq := fdiv_in hzi.1 hzi.2 n
      refine rn ?_
      ((with_reducible apply s_storeB); exact rfl; (conv => lhs; whnf); exact rfl; exact hb2; exact rfl)
      intro u3 hb3 hf3 _
      refine rn ?_
      refine q_cut ⟨⟨1, 0, z.fdiv (2 ^ n), [], []⟩, .slice none 0 0, .slice none 0 0, rfl, rfl, rfl, rfl, hb3, hF2.trans hf3 (by simp; omega), ?_, ?_⟩
      · exact ⟨⟨⟨by simp, by simp⟩, by simp, hq, by simp [Bys], by simp, by simp, by simp⟩, Src.nil _, Src.nil _, fun _ _ _ _ h => by simp at h, fun _ _ _ _ h => by simp at h⟩
      · exact ⟨by simp, by simp, by simp, by simp, by simp, by simp, by simp, by simp, by simp⟩
    by_cases k2 : k = 2
    · subst k2
      refine rn ?_
      ((with_reducible apply s_storeB); exact rfl; (conv => lhs; whnf); exact rfl; exact hb2; exact rfl)
      intro u3 hb3 hf3 _
      refine rn ?_
      refine q_cut ⟨⟨2, 0, (n : Int) % 2, [], []⟩, .slice none 0 0, .slice none 0 0, rfl, rfl, rfl, rfl, hb3, hF2.trans hf3 (by simp; omega), ?_, ?_⟩
      · exact ⟨⟨⟨by simp, by simp⟩, by simp, ⟨by simp only; omega, by simp only; omega⟩, by simp [Bys], by simp, by simp, by simp⟩, Src.nil _, Src.nil _, fun _ _ _ _ h => by simp at h, fun _ _ _ _ h => by simp at h⟩
      · exact ⟨by simp, by simp, by simp, by simp, by simp only; omega, by simp, by simp, by simp, by simp⟩
    by_cases k5 : k = 5
    · subst k5
      refine rn ?_
      refine c_loopK 10 [9] (σ := Nat × Value × List Int) (fun s g u' => g 9 = .int .i64 s.1 ∧ s.1 ≤ n % 5 ∧ s.2.2.length = s.1 ∧ Blk u' b [.int .i64 5, .int .u64 0, .int .i64 0, .slice none 0 0, s.2.1] 37 ∧ Own u' 3 1 s.2.1 s.1 (s.2.2.map (.int .i64)) ∧ (∀ y ∈ s.2.2, InI64 y) ∧ (∀ y ∈ blks s.2.1, b < y) ∧ Fr [] u u')
        (fun s => n % 5 - s.1) (0, .slice none 0 0, []) ⟨rfl, Nat.zero_le _, rfl, hb2, Own.nil _ _ _, by simp, by simp [blks, Value.ownBlock], hF2⟩ ?_
      rintro ⟨j, vB, B⟩ g' u' ⟨hj, hjn, hBl, hbB, hoB, hwB, hkB, hF'⟩
      simp only at hj hjn hBl hbB hoB hwB hkB
      rw [eq_upd hj]
      refine rn ?_
      refine s_lss rfl rfl (fun hjlt => ?_) (fun hjge => ?_)
      · refine rn ?_
        (refine d_begin (fun q => Fr [] u q) (by kernel_rfl) rfl ?_)
        have hS : Fr [] u u'.drew := hF'.trans0 (Fr.drew _ _)
        have hbD := hbB.tr0 (Fr.drew [] u')
        have hoD := hoB.tr0 (Fr.drew [] u')
        (refine d_tk 0 hS ?_)
        (refine d_tk 2 hS ?_)
        (refine d_tk 3 hS ?_)
        (apply d_take (i := 4); exact rfl; kernel_rfl; kernel_rfl; kernel_rfl; (intro u hu; exact r_index1 rfl rfl rfl hlt rfl); exact hS)
        (apply d_take (i := 5); exact rfl; kernel_rfl; kernel_rfl; kernel_rfl; (intro u hu; exact r_load rfl (hcell _ hu)); exact hS)
        (refine d_tk 6 hS ?_)
        (apply d_take (i := 7); exact rfl; kernel_rfl; kernel_rfl; kernel_rfl; (intro u hu; exact r_mul rfl rfl (IntWalk.i64_in _ (by omega))); exact hS)
        (refine d_tk 8 hS ?_)
        (apply d_take (i := 9); exact rfl; kernel_rfl; kernel_rfl; kernel_rfl; (intro u hu; exact r_shr rfl rfl (by omega) rfl); exact hS)
        refine d_two (i := 1) (j := 10) rfl rfl (by kernel_rfl) ?_ ?_
        · skip
          refine s_loadB rfl hbD rfl ?_
          refine wpList_nil ?_
          refine q_held hS ?_
          refine d_one (i := 10) rfl (by kernel_rfl) ?_
          ((with_reducible apply s_build1); (conv => lhs; whnf); exact rfl)
          intro w1 ho1 hf1 hs1
          refine wpList_nil ?_
          refine q_held (hS.trans0 hf1) ?_
          refine d_one (i := 11) rfl (by kernel_rfl) ?_
          refine s_append (hoD.tr0 hf1) rfl ho1.src rfl rfl (by simp [Value.oneCell']) (by unfold maxLen; omega) (by omega) (fun v2 w2 ho2 hf2' hk2 _ => ?_)
          have hS2 : Fr [] u w2 := (hS.trans0 hf1).trans hf2' (fun y hy => .inr (by have := hkB y hy; omega))
          refine wpList_nil ?_
          refine q_held hS2 ?_
          (refine d_tk 12 hS2 ?_)
          refine d_one (i := 13) rfl (by kernel_rfl) ?_
          have hb3 := (hbD.tr0 hf1).tr hf2' (fun h => by have := hkB b h; omega)
          ((with_reducible apply s_storeB); exact rfl; (conv => lhs; whnf); exact ho2.one; exact hb3; exact rfl)
          intro w3 hb4 hf3 _
          have hS3 : Fr [] u w3 := hS2.trans hf3 (by simp; omega)
          refine wpList_nil ?_
          refine q_held hS3 ?_
          (refine d_done (by kernel_rfl) ?_)
          refine rn ?_
          have hk3 : ∀ y ∈ blks v2, b < y := fun y hy => by
            have zf := hf1.size
            have zu := hF'.size
            have zd : u'.drew.heap.size = u'.heap.size := rfl
            rcases hk2 y hy with h | h
            · exact hkB y h
            · omega
          refine q_roundK (j + 1, v2, B ++ [z.fdiv (2 ^ min ((13 : Int) * (j : Int)).toNat IntKind.i64.bits)]) (by (repeat (first | exact Keep.mrg _ _ _ _ | (refine Keep.hi rfl ?_) | (refine Keep.one rfl ?_) | exact Keep.all rfl | (refine Keep.set rfl ?_)))) ⟨rfl, by simp only; omega, by simp [hBl], hb4, ?_, ?_, hk3, hS3⟩ (by simp only; omega)
          · have := ho2.tr hf3 (fun y hy => by have := hk3 y hy; simp; omega)
            simpa using this
          · intro y hy
            rcases List.mem_append.1 hy with h | h
            · exact hwB y h
            · simp only [List.mem_singleton] at h
              subst h
              exact fdiv_in hzi.1 hzi.2 _
        · skip
          ((with_reducible apply s_build1); (conv => lhs; whnf); exact rfl)
          intro w1 ho1 hf1 hs1
          refine wpList_nil ?_
          refine q_held (hS.trans0 hf1) ?_
          refine d_one (i := 1) rfl (by kernel_rfl) ?_
          refine s_loadB rfl (hbD.tr0 hf1) rfl ?_
          refine wpList_nil ?_
          refine q_held (hS.trans0 hf1) ?_
          refine d_one (i := 11) rfl (by kernel_rfl) ?_
          refine s_append (hoD.tr0 hf1) rfl ho1.src rfl rfl (by simp [Value.oneCell']) (by unfold maxLen; omega) (by omega) (fun v2 w2 ho2 hf2' hk2 _ => ?_)
          have hS2 : Fr [] u w2 := (hS.trans0 hf1).trans hf2' (fun y hy => .inr (by have := hkB y hy; omega))
          refine wpList_nil ?_
          refine q_held hS2 ?_
          (refine d_tk 12 hS2 ?_)
          refine d_one (i := 13) rfl (by kernel_rfl) ?_
          have hb3 := (hbD.tr0 hf1).tr hf2' (fun h => by have := hkB b h; omega)
          ((with_reducible apply s_storeB); exact rfl; (conv => lhs; whnf); exact ho2.one; exact hb3; exact rfl)
          intro w3 hb4 hf3 _
          have hS3 : Fr [] u w3 := hS2.trans hf3 (by simp; omega)
          refine wpList_nil ?_
          refine q_held hS3 ?_
          (refine d_done (by kernel_rfl) ?_)
          refine rn ?_
          have hk3 : ∀ y ∈ blks v2, b < y := fun y hy => by
            have zf := hf1.size
            have zu := hF'.size
            have zd : u'.drew.heap.size = u'.heap.size := rfl
            rcases hk2 y hy with h | h
            · exact hkB y h
            · omega
          refine q_roundK (j + 1, v2, B ++ [z.fdiv (2 ^ min ((13 : Int) * (j : Int)).toNat IntKind.i64.bits)]) (by (repeat (first | exact Keep.mrg _ _ _ _ | (refine Keep.hi rfl ?_) | (refine Keep.one rfl ?_) | exact Keep.all rfl | (refine Keep.set rfl ?_)))) ⟨rfl, by simp only; omega, by simp [hBl], hb4, ?_, ?_, hk3, hS3⟩ (by simp only; omega)
          · have := ho2.tr hf3 (fun y hy => by have := hk3 y hy; simp; omega)
            simpa using this
          · intro y hy
            rcases List.mem_append.1 hy with h | h
            · exact hwB y h
            · simp only [List.mem_singleton] at h
              subst h
              exact fdiv_in hzi.1 hzi.2 _
      · refine rn ?_
        refine q_cut ⟨⟨5, 0, 0, [], B⟩, .slice none 0 0, vB, rfl, rfl, rfl, rfl, hbB, hF', ?_, ?_⟩
        · refine ⟨⟨⟨by simp, by simp⟩, by simp, ⟨by simp, by simp⟩, by simp [Bys], hwB, by simp, by simp only; omega⟩, Src.nil _, ?_, fun _ _ _ _ h => by simp at h, ?_⟩
          · simp only; rw [hBl]; exact hoB.src
          · intro ad' n' c' e hl' hm
            have h1 := hkB ad'.block (by rw [e]; simp [blks, Value.ownBlock])
            have h2 := hT.own.lt _ hm
            omega
        · exact ⟨by simp, by simp, by simp, by simp, by simp, by simp, by simp, by simp, by simp only; omega⟩
    have k34 : k = 3 ∨ k = 4 := by omega
    rcases k34 with rfl | rfl
    · refine rn ?_
      refine c_loopK 10 [8] (σ := Nat × Value × List Int) (fun s g u' => g 8 = .int .i64 s.1 ∧ s.1 ≤ n % 10 ∧ s.2.2.length = s.1 ∧ Blk u' b [.int .i64 3, .int .u64 0, .int .i64 0, s.2.1, .slice none 0 0] 37 ∧ Own u' 5 1 s.2.1 s.1 (s.2.2.map (.int .u8)) ∧ (∀ y ∈ s.2.2, 0 ≤ y ∧ y < 256) ∧ (∀ y ∈ blks s.2.1, b < y) ∧ Fr [] u u')
        (fun s => n % 10 - s.1) (0, .slice none 0 0, []) ⟨rfl, Nat.zero_le _, rfl, hb2, Own.nil _ _ _, by simp, by simp [blks, Value.ownBlock], hF2⟩ ?_
      rintro ⟨j, vB, B⟩ g' u' ⟨hj, hjn, hBl, hbB, hoB, hwB, hkB, hF'⟩
      simp only at hj hjn hBl hbB hoB hwB hkB
      rw [eq_upd hj]
      refine rn ?_
      refine s_lss rfl rfl (fun hjlt => ?_) (fun hjge => ?_)
      · refine rn ?_
        (refine d_begin (fun q => Fr [] u q) (by kernel_rfl) rfl ?_)
        have hS : Fr [] u u'.drew := hF'.trans0 (Fr.drew _ _)
        have hbD := hbB.tr0 (Fr.drew [] u')
        have hoD := hoB.tr0 (Fr.drew [] u')
        (refine d_tk 0 hS ?_)
        (refine d_tk 2 hS ?_)
        (refine d_tk 3 hS ?_)
        (apply d_take (i := 4); exact rfl; kernel_rfl; kernel_rfl; kernel_rfl; (intro u hu; exact r_index1 rfl rfl rfl hlt rfl); exact hS)
        (apply d_take (i := 5); exact rfl; kernel_rfl; kernel_rfl; kernel_rfl; (intro u hu; exact r_load rfl (hcell _ hu)); exact hS)
        (refine d_tk 6 hS ?_)
        (refine d_tk 7 hS ?_)
        (apply d_take (i := 8); exact rfl; kernel_rfl; kernel_rfl; kernel_rfl; (intro u hu; exact r_shr rfl rfl (by omega) rfl); exact hS)
        (apply d_take (i := 9); exact rfl; kernel_rfl; kernel_rfl; kernel_rfl; (intro u hu; exact r_conv rfl (u8_wrap _)); exact hS)
        refine d_two (i := 1) (j := 10) rfl rfl (by kernel_rfl) ?_ ?_
        · skip
          refine s_loadB rfl hbD rfl ?_
          refine wpList_nil ?_
          refine q_held hS ?_
          refine d_one (i := 10) rfl (by kernel_rfl) ?_
          ((with_reducible apply s_build1); (conv => lhs; whnf); exact rfl)
          intro w1 ho1 hf1 hs1
          refine wpList_nil ?_
          refine q_held (hS.trans0 hf1) ?_
          refine d_one (i := 11) rfl (by kernel_rfl) ?_
          refine s_append (hoD.tr0 hf1) rfl ho1.src rfl rfl (by simp [Value.oneCell']) (by unfold maxLen; omega) (by omega) (fun v2 w2 ho2 hf2' hk2 _ => ?_)
          have hS2 : Fr [] u w2 := (hS.trans0 hf1).trans hf2' (fun y hy => .inr (by have := hkB y hy; omega))
          refine wpList_nil ?_
          refine q_held hS2 ?_
          (refine d_tk 12 hS2 ?_)
          refine d_one (i := 13) rfl (by kernel_rfl) ?_
          have hb3 := (hbD.tr0 hf1).tr hf2' (fun h => by have := hkB b h; omega)
          ((with_reducible apply s_storeB); exact rfl; (conv => lhs; whnf); exact ho2.one; exact hb3; exact rfl)
          intro w3 hb4 hf3 _
          have hS3 : Fr [] u w3 := hS2.trans hf3 (by simp; omega)
          refine wpList_nil ?_
          refine q_held hS3 ?_
          (refine d_done (by kernel_rfl) ?_)
          refine rn ?_
          have hk3 : ∀ y ∈ blks v2, b < y := fun y hy => by
            have zf := hf1.size
            have zu := hF'.size
            have zd : u'.drew.heap.size = u'.heap.size := rfl
            rcases hk2 y hy with h | h
            · exact hkB y h
            · omega
          refine q_roundK (j + 1, v2, B ++ [(z.fdiv (2 ^ min ((j : Int)).toNat IntKind.i64.bits)) % 256]) (by (repeat (first | exact Keep.mrg _ _ _ _ | (refine Keep.hi rfl ?_) | (refine Keep.one rfl ?_) | exact Keep.all rfl | (refine Keep.set rfl ?_)))) ⟨rfl, by simp only; omega, by simp [hBl], hb4, ?_, ?_, hk3, hS3⟩ (by simp only; omega)
          · have := ho2.tr hf3 (fun y hy => by have := hk3 y hy; simp; omega)
            simpa using this
          · intro y hy
            rcases List.mem_append.1 hy with h | h
            · exact hwB y h
            · simp only [List.mem_singleton] at h
              subst h
              omega
        · skip
          ((with_reducible apply s_build1); (conv => lhs; whnf); exact rfl)
          intro w1 ho1 hf1 hs1
          refine wpList_nil ?_
          refine q_held (hS.trans0 hf1) ?_
          refine d_one (i := 1) rfl (by kernel_rfl) ?_
          refine s_loadB rfl (hbD.tr0 hf1) rfl ?_
          refine wpList_nil ?_
          refine q_held (hS.trans0 hf1) ?_
          refine d_one (i := 11) rfl (by kernel_rfl) ?_
          refine s_append (hoD.tr0 hf1) rfl ho1.src rfl rfl (by simp [Value.oneCell']) (by unfold maxLen; omega) (by omega) (fun v2 w2 ho2 hf2' hk2 _ => ?_)
          have hS2 : Fr [] u w2 := (hS.trans0 hf1).trans hf2' (fun y hy => .inr (by have := hkB y hy; omega))
          refine wpList_nil ?_
          refine q_held hS2 ?_
          (refine d_tk 12 hS2 ?_)
          refine d_one (i := 13) rfl (by kernel_rfl) ?_
          have hb3 := (hbD.tr0 hf1).tr hf2' (fun h => by have := hkB b h; omega)
          ((with_reducible apply s_storeB); exact rfl; (conv => lhs; whnf); exact ho2.one; exact hb3; exact rfl)
          intro w3 hb4 hf3 _
          have hS3 : Fr [] u w3 := hS2.trans hf3 (by simp; omega)
          refine wpList_nil ?_
          refine q_held hS3 ?_
          (refine d_done (by kernel_rfl) ?_)
          refine rn ?_
          have hk3 : ∀ y ∈ blks v2, b < y := fun y hy => by
            have zf := hf1.size
            have zu := hF'.size
            have zd : u'.drew.heap.size = u'.heap.size := rfl
            rcases hk2 y hy with h | h
            · exact hkB y h
            · omega
          refine q_roundK (j + 1, v2, B ++ [(z.fdiv (2 ^ min ((j : Int)).toNat IntKind.i64.bits)) % 256]) (by (repeat (first | exact Keep.mrg _ _ _ _ | (refine Keep.hi rfl ?_) | (refine Keep.one rfl ?_) | exact Keep.all rfl | (refine Keep.set rfl ?_)))) ⟨rfl, by simp only; omega, by simp [hBl], hb4, ?_, ?_, hk3, hS3⟩ (by simp only; omega)
          · have := ho2.tr hf3 (fun y hy => by have := hk3 y hy; simp; omega)
            simpa using this
          · intro y hy
            rcases List.mem_append.1 hy with h | h
            · exact hwB y h
            · simp only [List.mem_singleton] at h
              subst h
              omega
      · refine rn ?_
        refine q_cut ⟨⟨_, 0, 0, B, []⟩, vB, .slice none 0 0, rfl, rfl, rfl, rfl, hbB, hF', ?_, ?_⟩
        · refine ⟨⟨⟨by simp, by simp⟩, by simp, ⟨by simp, by simp⟩, hwB, by simp, by simp only; omega, by simp⟩, ?_, Src.nil _, ?_, fun _ _ _ _ h => by simp at h⟩
          · simp only; rw [hBl]; exact hoB.src
          · intro ad' n' c' e hl' hm
            have h1 := hkB ad'.block (by rw [e]; simp [blks, Value.ownBlock])
            have h2 := hT.own.lt _ hm
            omega
        · exact ⟨by simp, by simp, by simp, by simp, by simp, by simp, by simp, by simp only; omega, by simp⟩
    · refine rn ?_
      refine c_loopK 10 [8] (σ := Nat × Value × List Int) (fun s g u' => g 8 = .int .i64 s.1 ∧ s.1 ≤ n % 10 ∧ s.2.2.length = s.1 ∧ Blk u' b [.int .i64 4, .int .u64 0, .int .i64 0, s.2.1, .slice none 0 0] 37 ∧ Own u' 5 1 s.2.1 s.1 (s.2.2.map (.int .u8)) ∧ (∀ y ∈ s.2.2, 0 ≤ y ∧ y < 256) ∧ (∀ y ∈ blks s.2.1, b < y) ∧ Fr [] u u')
        (fun s => n % 10 - s.1) (0, .slice none 0 0, []) ⟨rfl, Nat.zero_le _, rfl, hb2, Own.nil _ _ _, by simp, by simp [blks, Value.ownBlock], hF2⟩ ?_
      rintro ⟨j, vB, B⟩ g' u' ⟨hj, hjn, hBl, hbB, hoB, hwB, hkB, hF'⟩
      simp only at hj hjn hBl hbB hoB hwB hkB
      rw [eq_upd hj]
      refine rn ?_
      refine s_lss rfl rfl (fun hjlt => ?_) (fun hjge => ?_)
      · refine rn ?_
        (refine d_begin (fun q => Fr [] u q) (by kernel_rfl) rfl ?_)
        have hS : Fr [] u u'.drew := hF'.trans0 (Fr.drew _ _)
        have hbD := hbB.tr0 (Fr.drew [] u')
        have hoD := hoB.tr0 (Fr.drew [] u')
        (refine d_tk 0 hS ?_)
        (refine d_tk 2 hS ?_)
        (refine d_tk 3 hS ?_)
        (apply d_take (i := 4); exact rfl; kernel_rfl; kernel_rfl; kernel_rfl; (intro u hu; exact r_index1 rfl rfl rfl hlt rfl); exact hS)
        (apply d_take (i := 5); exact rfl; kernel_rfl; kernel_rfl; kernel_rfl; (intro u hu; exact r_load rfl (hcell _ hu)); exact hS)
        (refine d_tk 6 hS ?_)
        (refine d_tk 7 hS ?_)
        (apply d_take (i := 8); exact rfl; kernel_rfl; kernel_rfl; kernel_rfl; (intro u hu; exact r_shr rfl rfl (by omega) rfl); exact hS)
        (apply d_take (i := 9); exact rfl; kernel_rfl; kernel_rfl; kernel_rfl; (intro u hu; exact r_conv rfl (u8_wrap _)); exact hS)
        refine d_two (i := 1) (j := 10) rfl rfl (by kernel_rfl) ?_ ?_
        · skip
          refine s_loadB rfl hbD rfl ?_
          refine wpList_nil ?_
          refine q_held hS ?_
          refine d_one (i := 10) rfl (by kernel_rfl) ?_
          ((with_reducible apply s_build1); (conv => lhs; whnf); exact rfl)
          intro w1 ho1 hf1 hs1
          refine wpList_nil ?_
          refine q_held (hS.trans0 hf1) ?_
          refine d_one (i := 11) rfl (by kernel_rfl) ?_
          refine s_append (hoD.tr0 hf1) rfl ho1.src rfl rfl (by simp [Value.oneCell']) (by unfold maxLen; omega) (by omega) (fun v2 w2 ho2 hf2' hk2 _ => ?_)
          have hS2 : Fr [] u w2 := (hS.trans0 hf1).trans hf2' (fun y hy => .inr (by have := hkB y hy; omega))
          refine wpList_nil ?_
          refine q_held hS2 ?_
          (refine d_tk 12 hS2 ?_)
          refine d_one (i := 13) rfl (by kernel_rfl) ?_
          have hb3 := (hbD.tr0 hf1).tr hf2' (fun h => by have := hkB b h; omega)
          ((with_reducible apply s_storeB); exact rfl; (conv => lhs; whnf); exact ho2.one; exact hb3; exact rfl)
          intro w3 hb4 hf3 _
          have hS3 : Fr [] u w3 := hS2.trans hf3 (by simp; omega)
          refine wpList_nil ?_
          refine q_held hS3 ?_
          (refine d_done (by kernel_rfl) ?_)
          refine rn ?_
          have hk3 : ∀ y ∈ blks v2, b < y := fun y hy => by
            have zf := hf1.size
            have zu := hF'.size
            have zd : u'.drew.heap.size = u'.heap.size := rfl
            rcases hk2 y hy with h | h
            · exact hkB y h
            · omega
          refine q_roundK (j + 1, v2, B ++ [(z.fdiv (2 ^ min ((j : Int)).toNat IntKind.i64.bits)) % 256]) (by (repeat (first | exact Keep.mrg _ _ _ _ | (refine Keep.hi rfl ?_) | (refine Keep.one rfl ?_) | exact Keep.all rfl | (refine Keep.set rfl ?_)))) ⟨rfl, by simp only; omega, by simp [hBl], hb4, ?_, ?_, hk3, hS3⟩ (by simp only; omega)
          · have := ho2.tr hf3 (fun y hy => by have := hk3 y hy; simp; omega)
            simpa using this
          · intro y hy
            rcases List.mem_append.1 hy with h | h
            · exact hwB y h
            · simp only [List.mem_singleton] at h
              subst h
              omega
        · skip
          ((with_reducible apply s_build1); (conv => lhs; whnf); exact rfl)
          intro w1 ho1 hf1 hs1
          refine wpList_nil ?_
          refine q_held (hS.trans0 hf1) ?_
          refine d_one (i := 1) rfl (by kernel_rfl) ?_
          refine s_loadB rfl (hbD.tr0 hf1) rfl ?_
          refine wpList_nil ?_
          refine q_held (hS.trans0 hf1) ?_
          refine d_one (i := 11) rfl (by kernel_rfl) ?_
          refine s_append (hoD.tr0 hf1) rfl ho1.src rfl rfl (by simp [Value.oneCell']) (by unfold maxLen; omega) (by omega) (fun v2 w2 ho2 hf2' hk2 _ => ?_)
          have hS2 : Fr [] u w2 := (hS.trans0 hf1).trans hf2' (fun y hy => .inr (by have := hkB y hy; omega))
          refine wpList_nil ?_
          refine q_held hS2 ?_
          (refine d_tk 12 hS2 ?_)
          refine d_one (i := 13) rfl (by kernel_rfl) ?_
          have hb3 := (hbD.tr0 hf1).tr hf2' (fun h => by have := hkB b h; omega)
          ((with_reducible apply s_storeB); exact rfl; (conv => lhs; whnf); exact ho2.one; exact hb3; exact rfl)
          intro w3 hb4 hf3 _
          have hS3 : Fr [] u w3 := hS2.trans hf3 (by simp; omega)
          refine wpList_nil ?_
          refine q_held hS3 ?_
          (refine d_done (by kernel_rfl) ?_)
          refine rn ?_
          have hk3 : ∀ y ∈ blks v2, b < y := fun y hy => by
            have zf := hf1.size
            have zu := hF'.size
            have zd : u'.drew.heap.size = u'.heap.size := rfl
            rcases hk2 y hy with h | h
            · exact hkB y h
            · omega
          refine q_roundK (j + 1, v2, B ++ [(z.fdiv (2 ^ min ((j : Int)).toNat IntKind.i64.bits)) % 256]) (by (repeat (first | exact Keep.mrg _ _ _ _ | (refine Keep.hi rfl ?_) | (refine Keep.one rfl ?_) | exact Keep.all rfl | (refine Keep.set rfl ?_)))) ⟨rfl, by simp only; omega, by simp [hBl], hb4, ?_, ?_, hk3, hS3⟩ (by simp only; omega)
          · have := ho2.tr hf3 (fun y hy => by have := hk3 y hy; simp; omega)
            simpa using this
          · intro y hy
            rcases List.mem_append.1 hy with h | h
            · exact hwB y h
            · simp only [List.mem_singleton] at h
              subst h
              omega
      · refine rn ?_
        refine q_cut ⟨⟨_, 0, 0, B, []⟩, vB, .slice none 0 0, rfl, rfl, rfl, rfl, hbB, hF', ?_, ?_⟩
        · refine ⟨⟨⟨by simp, by simp⟩, by simp, ⟨by simp, by simp⟩, hwB, by simp, by simp only; omega, by simp⟩, ?_, Src.nil _, ?_, fun _ _ _ _ h => by simp at h⟩
          · simp only; rw [hBl]; exact hoB.src
          · intro ad' n' c' e hl' hm
            have h1 := hkB ad'.block (by rw [e]; simp [blks, Value.ownBlock])
            have h2 := hT.own.lt _ hm
            omega
        · exact ⟨by simp, by simp, by simp, by simp, by simp, by simp, by simp, by simp only; omega, by simp⟩
  · rintro g' u' ⟨xv, xb, xl, g0, g3, g4, g7, hbx, hF', hxv, hsh⟩
    rw [eq_upd g7, eq_upd g4, eq_upd g3, eq_upd g0]
    refine rn ?_
    refine s_loadAggB rfl hbx rfl ?_
    obtain ⟨aob, cb, hxb, _⟩ := id hxv.b
    obtain ⟨aol, cl, hxl, _⟩ := id hxv.l
    subst hxb hxl
    refine s_buildS (vcells xv (.slice aob xv.b.length cb) (.slice aol xv.l.length cl)) rfl rfl rfl rfl (fun u4 ho4 hf4 hs4 => ?_)
    have hT4 := (hT.tr0 hF').tr0 hf4
    have hxv4 := hxv.tr0 hf4
    refine s_append hT4.own rfl ho4.src rfl rfl ?_ (by unfold maxLen; omega) (by omega) (fun v5 u5 ho5 hf5 hk5 _ => ?_)
    · exact fun y hy => vcs_one [(xv, .slice aob xv.b.length cb, .slice aol xv.l.length cl)] (w := u4) (S := blks vo) (by simpa using hxv4) y (by simpa [vcs] using hy)
    have szF := hF'.size
    have sz4 := hf4.size
    have sz0 := hfu.size
    have hk5' : ∀ y ∈ blks v5, y ∈ blks vo ∨ u4.heap.size ≤ y := hk5
    refine rn ?_
    refine q_roundK (i + 1, v5, T ++ [(xv, .slice aob xv.b.length cb, .slice aol xv.l.length cl)]) (by (repeat (first | exact Keep.mrg _ _ _ _ | (refine Keep.hi rfl ?_) | (refine Keep.one rfl ?_) | exact Keep.all rfl | (refine Keep.set rfl ?_)))) ⟨rfl, rfl, by simp only; omega, by simp only; omega, by simp [hTl], ⟨?_, ?_, ?_⟩, ?_, ?_⟩ (by simp only; omega)
    · have e1 : vcs (T ++ [(xv, .slice aob xv.b.length cb, .slice aol xv.l.length cl)]) = vcs T ++ vcells xv (.slice aob xv.b.length cb) (.slice aol xv.l.length cl) := by simp [vcs]
      simp only [e1]
      simpa using ho5
    · intro t ht
      rcases List.mem_append.1 ht with h | h
      · exact ((hT4.all t h).mono (T := blks v5) hk5').tr' hf5 (hT4.all t h)
      · simp only [List.mem_singleton] at h
        subst h
        exact (hxv4.mono (T := blks v5) hk5').tr' hf5 hxv4
    · intro t ht
      rcases List.mem_append.1 ht with h | h
      · exact hT.shape t h
      · simp only [List.mem_singleton] at h
        subst h
        exact hsh
    · exact ((hfu.trans0 hF').trans0 hf4).trans hf5 (fun y hy => .inr (hku y hy))
    · intro y hy
      rcases hk5 y hy with h | h
      · exact hku y h
      · omega
end Go.Proofs.Ytinafhpbhajdpaa
