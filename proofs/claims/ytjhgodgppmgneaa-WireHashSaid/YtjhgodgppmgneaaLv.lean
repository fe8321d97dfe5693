/-
  The law package's function lives (refuterlaw02): the examples of the section hold.
-/
import Derived.Test.YtjhgodgppmgneaaRd
namespace Go.Proofs.Ytjhgodgppmgneaa
open Go.Rf Go.RowKit
attribute [local irreducible] Code.wp wpList Exit.then Exit.inBlock bodyPost A Calls execOp Addr.add

theorem IsW.old {S : List Nat} {w w' : World} {p : Nat} {v : Value} {bs : List Int} (h : IsW w p v bs) (hf : Fr S w w') (hS : ∀ k ∈ S, w.heap.size ≤ k) : IsW w' p v bs := ⟨h.1.old hf hS, h.2.old hf hS⟩
theorem IsW.new {w : World} {p : Nat} (h : Blk w p [.slice none 0 0] 26) : IsW w p (.slice none 0 0) [] := ⟨h, Own.nil _ _ _⟩
theorem IsR.tr {S : List Nat} {w w' : World} {p : Nat} {v : Value} {bs : List Int} {e : Int} (h : IsR w p v bs e) (hf : Fr S w w') (hp : p ∉ S) (ho : Off v (bs.map (.int .u8)) S) : IsR w' p v bs e := ⟨h.1.tr hf hp, h.2.1.tr hf ho, h.2.2⟩
theorem IsR.tr0 {w w' : World} {p : Nat} {v : Value} {bs : List Int} {e : Int} (h : IsR w p v bs e) (hf : Fr [] w w') : IsR w' p v bs e := ⟨h.1.tr0 hf, h.2.1.tr0 hf, h.2.2⟩
theorem IsR.old {S : List Nat} {w w' : World} {p : Nat} {v : Value} {bs : List Int} {e : Int} (h : IsR w p v bs e) (hf : Fr S w w') (hS : ∀ k ∈ S, w.heap.size ≤ k) : IsR w' p v bs e := ⟨h.1.old hf hS, h.2.1.old hf hS, h.2.2⟩
theorem uv300 : uv 300 = [172, 2] := by rw [uv_ge (by omega), uv_lt (by omega)]; rfl
theorem ivm1 : iv (-1) = [1] := by rw [iv, uv_lt (by decide)]; rfl
theorem rawab : raw (sb ⟨#[97, 98]⟩) = [2, 97, 98] := by
  have : sb ⟨#[97, 98]⟩ = [97, 98] := rfl
  rw [this, raw, uv_lt (by decide)]; rfl
theorem blks_nil : blks (.slice none 0 0) = [] := rfl

theorem lives (w : World) : Calls Try.prog 8 #[] w fun e w' => e = .returned (.bool true) ∧ Fr [] w w' := by
  refine enter Try.func8 rfl Try.ntmps8 rfl ?_
  refine rn ?_
  refine s_alloc rfl (fun w0 hb0 hf0 hs0 => ?_)
  have hw0 := IsW.new hb0
  obtain ⟨p, hp⟩ : ∃ p, w.heap.size = p := ⟨_, rfl⟩
  rw [hp] at hb0 hw0 hs0 ⊢
  refine rn ?_
  refine s_call (wUint p _ [] 300 w0 (by omega) hw0 (by simp)) rfl ?_
  rintro _ w1 ⟨rfl, v1, hw1, hf1, hk1⟩
  refine ⟨_, rfl, ?_⟩
  rw [uv300] at hw1
  refine rn ?_
  refine s_call (wInt p v1 _ (-1) w1 (by omega) (by omega) hw1 (by simp)) rfl ?_
  rintro _ w2 ⟨rfl, hst2⟩
  refine ⟨_, rfl, ?_⟩
  rw [ivm1] at hst2
  obtain ⟨v2, hw2, hf2, hk2⟩ := WStep.trans hf1 hk1 hst2
  refine rn ?_
  refine s_call (wText p v2 _ ⟨#[97, 98]⟩ w2 hw2 (by simp) (by decide)) rfl ?_
  rintro _ w3 ⟨rfl, hst3⟩
  refine ⟨_, rfl, ?_⟩
  rw [rawab] at hst3
  obtain ⟨v3, hw3, hf3, hk3⟩ := WStep.trans hf2 hk2 hst3
  refine rn ?_
  refine s_call (wDone p v3 _ w3 hw3 (by simp)) rfl ?_
  rintro _ w4 ⟨vd, rfl, ho4, hf4, hk4, _⟩
  refine ⟨_, rfl, ?_⟩
  have e6 : ([] ++ [172, 2] ++ [1] ++ [2, 97, 98] : List Int) = [172, 2, 1, 2, 97, 98] := rfl
  rw [e6] at ho4
  obtain ⟨aod, cd, hvd⟩ := ho4.slice
  subst hvd
  refine rn ?_
  refine s_call (wRead _ [172, 2, 1, 2, 97, 98] w4 ho4.src (by decide) (by simp)) rfl ?_
  rintro _ w5 ⟨pr, vr, rfl, hr5, hf5, hpr, hkr, _⟩
  refine ⟨_, rfl, ?_⟩
  refine rn ?_
  refine s_buildS [.int .u8 128, .int .u8 0] rfl rfl rfl rfl (fun w6 ho6 hf6 hs6 => ?_)
  refine s_call (wRead _ [128, 0] w6 ho6.src (by decide) (by simp)) rfl ?_
  rintro _ w7 ⟨pb, vb, rfl, hr7, hf7, hpb, hkb, _⟩
  refine ⟨_, rfl, ?_⟩
  have hr7' := (hr5.tr0 hf6).tr0 hf7
  have hlt5 := hr5.1.lt
  have hsz6 := hf6.size
  have hsz7 := hf7.size
  have hpne : pr ≠ pb := by omega
  refine rn ?_
  refine s_call (rUint pr vr _ 0 w7 hr7') rfl ?_
  rintro _ w8 ⟨rfl, v8, hr8, hf8, hsub8⟩
  refine ⟨_, rfl, ?_⟩
  have q8 : rdU [172, 2, 1, 2, 97, 98] 0 = (300, [1, 2, 97, 98], 0) := by decide
  rw [q8] at hr8 ⊢
  refine rn ?_
  refine s_call (rInt pr v8 _ _ w8 hr8) rfl ?_
  rintro _ w9 ⟨rfl, v9, hr9, hf9, hsub9⟩
  refine ⟨_, rfl, ?_⟩
  have q9 : rdI [1, 2, 97, 98] 0 = (-1, [2, 97, 98], 0) := by decide
  rw [q9] at hr9 ⊢
  refine rn ?_
  refine s_call (rText pr v9 _ _ w9 hr9 (by simp)) rfl ?_
  rintro _ w10 ⟨rfl, v10, hr10, hf10, hsub10⟩
  refine ⟨_, rfl, ?_⟩
  have q10 : rdR [2, 97, 98] 0 = ([97, 98], [], 0) := by decide
  rw [q10] at hr10 ⊢
  have hf810 : Fr [pr] w7 w10 := (hf8.trans hf9 (by simp)).trans hf10 (by simp)
  have hoffb : Off vb (([128, 0] : List Int).map (.int .u8)) [pr] := hr7.2.1.tr0 (Fr.refl _ _) |> fun h => by
    intro ad n c e hl hm
    simp only [List.mem_singleton] at hm
    have hmem : ad.block ∈ blks vb := by rw [e]; simp [blks, Value.ownBlock]
    have := hkb _ hmem
    omega
  have hr11 := hr7.tr hf810 (by simp; omega) hoffb
  refine rn ?_
  refine s_call (rInt pb vb _ _ w10 hr11) rfl ?_
  rintro _ w11 ⟨rfl, v11, hr12, hf11, hsub11⟩
  refine ⟨_, rfl, ?_⟩
  have q11 : rdI [128, 0] 0 = (0, [128, 0], 2) := by decide
  rw [q11] at hr12
  have hsz0 := hf0.size
  have hsz3 := hf3.size
  have hsz4 := hf4.size
  have hsz5 := hf5.size
  have hfa : Fr [pr, pb] w4 w11 := ((hf5.trans0 hf6).trans0 hf7 |>.mono (T := [pr, pb]) (by simp)).trans hf810 (by simp) |>.trans hf11 (by simp)
  have ho11 := ho4.old hfa (by simp; omega)
  refine rn ?_
  refine s_buildS [.int .u8 172, .int .u8 2, .int .u8 1, .int .u8 2, .int .u8 97, .int .u8 98] rfl rfl rfl rfl (fun w12 ho12 hf12 hs12 => ?_)
  refine s_call (sameBytes _ _ [172, 2, 1, 2, 97, 98] [172, 2, 1, 2, 97, 98] w12 (ho11.src.tr0 hf12) ho12.src (by simp)) rfl ?_
  rintro _ w13 ⟨rfl, hf13⟩
  refine ⟨_, rfl, ?_⟩
  rw [decide_eq_true rfl]
  refine rn ?_
  refine s_eqlS rfl rfl (fun _ => ?_) (fun h => absurd rfl h)
  have hr10' : IsR w13 pr v10 [] 0 := by
    have h1 := hr10.tr hf11 (by simp; omega) (by intro ad n c e hl; simp at hl)
    exact (h1.tr0 hf12).tr0 hf13
  refine rn ?_
  refine s_call (rEnd pr v10 _ _ w13 hr10') rfl ?_
  rintro _ _ ⟨rfl, rfl⟩
  refine ⟨_, rfl, ?_⟩
  have q13 : rdEnd [] 0 = 0 := by decide
  rw [q13]
  have hr12' := (hr12.tr0 hf12).tr0 hf13
  refine rn ?_
  refine s_call (rEnd pb v11 _ _ w13 hr12') rfl ?_
  rintro _ _ ⟨rfl, rfl⟩
  refine ⟨_, rfl, ?_⟩
  have q14 : rdEnd [128, 0] 2 = 2 := by decide
  rw [q14]
  refine rn ?_
  (apply ret1; exact rfl; (conv => lhs; whnf))
  refine ⟨rfl, ?_⟩
  rw [blks_nil] at hf3
  exact (((hf0.trans hf3 (by simp; omega)).trans0 hf4).trans hfa (by simp; omega)).trans0 hf12 |>.trans0 hf13
end Go.Proofs.Ytjhgodgppmgneaa
