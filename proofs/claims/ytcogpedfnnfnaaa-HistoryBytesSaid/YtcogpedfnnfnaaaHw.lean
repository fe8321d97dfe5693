/-
  lives of the law package.
-/
import Derived.Test.YtcogpedfnnfnaaaHz
namespace Go.Proofs.Ytcogpedfnnfnaaa
open Go.Rf Go.RowKit
set_option linter.unusedVariables false
set_option maxHeartbeats 8000000
attribute [local irreducible] Code.wp wpList Exit.then Exit.inBlock bodyPost A Calls execOp Addr.add

theorem lvOrdA : Ord (opsFrom 0 [lv1, lv2, lv3, lv4]) := by
  have h : ∀ j i : Fin (opsFrom 0 [lv1, lv2, lv3, lv4]).length, j ≠ i → (opsFrom 0 [lv1, lv2, lv3, lv4])[j].fin ≠ -1 → bef (opsFrom 0 [lv1, lv2, lv3, lv4])[j] (opsFrom 0 [lv1, lv2, lv3, lv4])[i] = true → j < i := by decide +kernel
  intro j i hj hi h1 h2 h3
  exact h ⟨j, hj⟩ ⟨i, hi⟩ (fun e => h1 (by simpa using e)) h2 h3
theorem lvOrdB : Ord (opsFrom 0 [lv1, lv2, lv3, evCrash]) := by
  have h : ∀ j i : Fin (opsFrom 0 [lv1, lv2, lv3, evCrash]).length, j ≠ i → (opsFrom 0 [lv1, lv2, lv3, evCrash])[j].fin ≠ -1 → bef (opsFrom 0 [lv1, lv2, lv3, evCrash])[j] (opsFrom 0 [lv1, lv2, lv3, evCrash])[i] = true → j < i := by decide +kernel
  intro j i hj hi h1 h2 h3
  exact h ⟨j, hj⟩ ⟨i, hi⟩ (fun e => h1 (by simpa using e)) h2 h3
theorem lvLA : (opsFrom 0 [lv1, lv2, lv3, lv4]).length ≤ 1000000 := by decide +kernel
theorem lvLB : (opsFrom 0 [lv1, lv2, lv3, evCrash]).length ≤ 1000000 := by decide +kernel

theorem ir_of {w : World} {e : Nat} {v : Value} {xs : List Nat} {m : Nat} (h : Own w e 1 v m (nv xs)) (hm : xs.length = m) : IR w [] xs [v] := ⟨v, rfl, by rw [hm]; exact h.src, fun _ _ _ _ _ => by simp⟩

theorem livesC (w : World) : Calls Try.prog 20 #[] w fun r w' => r = .returned (.bool true) ∧ Fr [] w w' := by
  refine enter Try.func20 rfl Try.ntmps20 rfl ?_
  refine rx ?_
  refine s_build (vc (vN 1) (.slice none 0 0)) rfl ?_
  refine s_buildS (vc (vN 1) (.slice none 0 0)) rfl rfl rfl rfl (fun w1 ho1 hf1 hs1 => ?_)
  refine s_build (ec lv1 (.slice (some ⟨w.heap.size, 0, none⟩) 1 1) (.slice none 0 0)) rfl ?_
  refine s_build (ec lv2 (.slice none 0 0) (.slice none 0 0)) rfl ?_
  refine s_build (ec lv3 (.slice none 0 0) (.slice none 0 0)) rfl ?_
  refine s_build (ec lv4 (.slice none 0 0) (.slice none 0 0)) rfl ?_
  refine s_buildS (ec lv1 (.slice (some ⟨w.heap.size, 0, none⟩) 1 1) (.slice none 0 0) ++ (ec lv2 (.slice none 0 0) (.slice none 0 0) ++ (ec lv3 (.slice none 0 0) (.slice none 0 0) ++ ec lv4 (.slice none 0 0) (.slice none 0 0)))) rfl rfl rfl rfl (fun w2 ho2 hf2 hs2 => ?_)
  have hF2 := hf1.trans0 hf2
  have hvs : VS w2 [] lv1.args (.slice (some ⟨w.heap.size, 0, none⟩) 1 1) := VS.of (ys := vc (vN 1) (.slice none 0 0)) (by decide) (ho1.src.tr0 hf2) (fun _ _ _ _ _ => by simp) (Rws.one ⟨_, rfl, VS.nil _ _⟩)
  have rowA : ∀ z, Fr [] w2 z → Rws (EvR z []) [lv1, lv2, lv3] (ec lv1 (.slice (some ⟨w.heap.size, 0, none⟩) 1 1) (.slice none 0 0) ++ (ec lv2 (.slice none 0 0) (.slice none 0 0) ++ ec lv3 (.slice none 0 0) (.slice none 0 0))) := fun z hz =>
    .cons (ec_row lv1 (hvs.tr0 hz) (VS.nil _ _)) (.cons (ec_row lv2 (VS.nil _ _) (VS.nil _ _)) (Rws.one (ec_row lv3 (VS.nil _ _) (VS.nil _ _))))
  have hev : EvS w2 [lv1, lv2, lv3, lv4] (.slice (some ⟨w1.heap.size, 0, none⟩) 4 4) := by
    refine Sl.ofOwn (k := 8) ho2 ?_
    have := (rowA w2 (Fr.refl _ _)).app (Rws.one (ec_row lv4 (w := w2) (S := []) (VS.nil _ _) (VS.nil _ _)))
    simpa using this
  refine rx ?_
  refine s_call (opsC [lv1, lv2, lv3, lv4] _ w2 hev (fun e he => lvN e (by simp only [List.mem_cons, List.not_mem_nil, or_false] at he ⊢; rcases he with h | h | h | h <;> simp [h])) (by decide)) rfl ?_
  rintro _ w3 ⟨v3, rfl, ho3, hk3, hf3⟩
  refine ⟨_, rfl, ?_⟩
  rw [lvA, if_pos rfl] at ho3
  rw [lvA]
  have hs2' : w2.heap.size = w1.heap.size + 1 := hs2
  have hs3 := hf3.size
  have hoA := OwnR.oc ho3
  refine rx ?_
  refine s_build (ec evCrash (.slice none 0 0) (.slice none 0 0)) rfl ?_
  refine s_indexAddr (j := 3) rfl rfl rfl (by decide) rfl ?_
  refine s_storeRowA (q := 24) (m := 8) (cs := ec evCrash (.slice none 0 0) (.slice none 0 0)) (ho2.tr0 hf3) rfl rfl rfl rfl rfl (evStab.one (w := w) (S := []) (ec_row evCrash (VS.nil _ _) (VS.nil _ _))) (by decide) (fun w4 ho4 hf4 hs4 => ?_)
  have hb4 : blks (.slice (some ⟨w1.heap.size, 0, none⟩) 4 4) = [w1.heap.size] := rfl
  rw [hb4] at hf4
  have hvs4 : VS w4 [] lv1.args (.slice (some ⟨w.heap.size, 0, none⟩) 1 1) := VS.of (ys := vc (vN 1) (.slice none 0 0)) (by decide) ((((ho1.tr0 hf2).tr0 hf3).tr hf4 (fun k hk => by simp [blks, Value.ownBlock] at hk; simp; omega)).src) (fun _ _ _ _ _ => by simp) (Rws.one ⟨_, rfl, VS.nil _ _⟩)
  have hev4 : EvS w4 [lv1, lv2, lv3, evCrash] (.slice (some ⟨w1.heap.size, 0, none⟩) 4 4) := by
    refine Sl.ofOwn (k := 8) ho4 ?_
    have := Rws.cons (ec_row lv1 (w := w4) (S := []) hvs4 (VS.nil _ _)) (.cons (ec_row lv2 (VS.nil _ _) (VS.nil _ _)) (.cons (ec_row lv3 (VS.nil _ _) (VS.nil _ _)) (Rws.one (ec_row evCrash (VS.nil _ _) (VS.nil _ _)))))
    exact this
  have hoA4 : OcS w4 (opsFrom 0 [lv1, lv2, lv3, lv4]) v3 := by
    obtain ⟨ys, hY, hR⟩ := ho3
    exact ⟨ys, (hY.tr hf4 (fun k hk => by have := hk3 k hk; simp; omega)).src, fun _ _ _ _ _ => by simp, hR.imp (fun x cs _ hr => hr.oc)⟩
  have hF4 : Fr [] w w4 := (hF2.trans0 hf3).trans hf4 (by simp; have := hf1.size; omega)
  refine rx ?_
  refine s_call (opsC [lv1, lv2, lv3, evCrash] _ w4 hev4 (fun e he => lvN e (by simp only [List.mem_cons, List.not_mem_nil, or_false] at he ⊢; rcases he with h | h | h | h <;> simp [h])) (by decide)) rfl ?_
  rintro _ w5 ⟨v5, rfl, ho5, hk5, hf5⟩
  refine ⟨_, rfl, ?_⟩
  rw [lvB, if_pos rfl] at ho5
  rw [lvB]
  have hF5 := hF4.trans0 hf5
  refine rx ?_
  refine s_call (ordersC _ v3 9 w5 (OcS.tr0 hoA4 hf5) lvOrdA lvLA (by decide)) rfl ?_
  rintro _ w6 ⟨v6, rfl, ho6, hk6, hf6⟩
  refine ⟨_, rfl, ?_⟩
  rw [lvOA] at ho6
  refine g_yes rfl ?_
  refine s_buildS (nv [0, 1]) rfl rfl rfl rfl (fun w7 ho7 hf7 hs7 => ?_)
  refine g_yes rfl ?_
  refine s_buildS (nv [1, 0]) rfl rfl rfl rfl (fun w8 ho8 hf8 hs8 => ?_)
  refine g_yes rfl ?_
  refine s_buildS [.slice (some ⟨w6.heap.size, 0, none⟩) 2 2, .slice (some ⟨w7.heap.size, 0, none⟩) 2 2] rfl rfl rfl rfl (fun w9 ho9 hf9 hs9 => ?_)
  have hL9 : LS w9 [[0, 1], [1, 0]] (.slice (some ⟨w8.heap.size, 0, none⟩) 2 2) := by
    refine Sl.ofOwn (k := 1) ho9 ?_
    exact Rws.cons (ir_of ((ho7.tr0 hf8).tr0 hf9) rfl) (Rws.one (ir_of (ho8.tr0 hf9) rfl))
  have hL6 : LS w9 [[0, 1], [1, 0]] v6 := LS.tr0 (ho6.sl irStab) ((hf7.trans0 hf8).trans0 hf9)
  have hF9 := (((hF5.trans0 hf6).trans0 hf7).trans0 hf8).trans0 hf9
  refine g_yes rfl ?_
  refine s_call (listsC _ _ _ _ w9 hL6 hL9 (by decide) (by decide)) rfl ?_
  rintro _ w10 ⟨rfl, hf10⟩
  refine ⟨_, rfl, ?_⟩
  rw [decide_eq_true rfl]
  have hF10 := hF9.trans0 hf10
  have h510 : Fr [] w5 w10 := (((hf6.trans0 hf7).trans0 hf8).trans0 hf9).trans0 hf10
  refine rx ?_
  refine s_call (ordersC _ v5 9 w10 (OcS.tr0 (OwnR.oc ho5) h510) lvOrdB lvLB (by decide)) rfl ?_
  rintro _ w11 ⟨v11, rfl, ho11, hk11, hf11⟩
  refine ⟨_, rfl, ?_⟩
  rw [lvOB] at ho11
  refine g_yes rfl ?_
  refine s_buildS (nv [0]) rfl rfl rfl rfl (fun w12 ho12 hf12 hs12 => ?_)
  refine g_yes rfl ?_
  refine s_buildS (nv [0, 1]) rfl rfl rfl rfl (fun w13 ho13 hf13 hs13 => ?_)
  refine g_yes rfl ?_
  refine s_buildS (nv [1, 0]) rfl rfl rfl rfl (fun w14 ho14 hf14 hs14 => ?_)
  refine g_yes rfl ?_
  refine s_buildS [.slice (some ⟨w11.heap.size, 0, none⟩) 1 1, .slice (some ⟨w12.heap.size, 0, none⟩) 2 2, .slice (some ⟨w13.heap.size, 0, none⟩) 2 2] rfl rfl rfl rfl (fun w15 ho15 hf15 hs15 => ?_)
  have hL15 : LS w15 [[0], [0, 1], [1, 0]] (.slice (some ⟨w14.heap.size, 0, none⟩) 3 3) := by
    refine Sl.ofOwn (k := 1) ho15 ?_
    exact Rws.cons (ir_of (((ho12.tr0 hf13).tr0 hf14).tr0 hf15) rfl) (.cons (ir_of ((ho13.tr0 hf14).tr0 hf15) rfl) (Rws.one (ir_of (ho14.tr0 hf15) rfl)))
  have hL11 : LS w15 [[0], [0, 1], [1, 0]] v11 := LS.tr0 (ho11.sl irStab) (((hf12.trans0 hf13).trans0 hf14).trans0 hf15)
  have hF15 := ((((hF10.trans0 hf11).trans0 hf12).trans0 hf13).trans0 hf14).trans0 hf15
  refine g_yes rfl ?_
  refine s_call (listsC _ _ _ _ w15 hL11 hL15 (by decide) (by decide)) rfl ?_
  rintro _ w16 ⟨rfl, hf16⟩
  refine ⟨_, rfl, ?_⟩
  rw [decide_eq_true rfl]
  refine rx ?_
  (apply ret1; exact rfl; (conv => lhs; whnf))
  exact ⟨rfl, hF15.trans0 hf16⟩
end Go.Proofs.Ytcogpedfnnfnaaa
