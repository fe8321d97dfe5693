/-
  Package walk: New.
-/
import Derived.Test.YtpochcchekoonaaGreatUa
namespace Go.Proofs.YtpochcchekoonaaGreat
open Go.Rf Go.RowKit
set_option linter.unusedVariables false
set_option linter.unusedSimpArgs false
attribute [local irreducible] Code.wp wpList Exit.then Exit.inBlock bodyPost A Calls execOp Addr.add
theorem zeros_vals {w : World} {S : List Nat} : ∀ n : Nat, Rws (VR w S) (List.replicate n (numV 0)) (zeros [.int .i64 0, .int .i64 0, .string .empty, .slice none 0 0] n)
  | 0 => .nil
  | n + 1 => by
    rw [List.replicate_succ]
    exact .cons ⟨.slice none 0 0, rfl, VS.nil _ _⟩ (zeros_vals n)
theorem set_nextV {l : List V} {i n : Nat} {v z : V} (hl : l.length = i) (hi : i < n) : (l ++ List.replicate (n - i) z).set i v = (l ++ [v]) ++ List.replicate (n - (i + 1)) z := by
  obtain ⟨m, hm⟩ : ∃ m, n - i = m + 1 := ⟨n - i - 1, by omega⟩
  rw [hm, show n - (i + 1) = m by omega, List.set_append_right _ _ (by omega), hl, Nat.sub_self, List.replicate_succ, List.set_cons_zero, List.append_assoc]
  rfl
theorem keep_nextV {l : List V} {i n : Nat} {z : V} (hi : i < n) : l ++ List.replicate (n - i) z = (l ++ [z]) ++ List.replicate (n - (i + 1)) z := by
  obtain ⟨m, hm⟩ : ∃ m, n - i = m + 1 := ⟨n - i - 1, by omega⟩
  rw [hm, show n - (i + 1) = m by omega, List.replicate_succ, List.append_assoc]
  rfl
theorem app_nextV {l : List V} {i n : Nat} {z : V} (hl : l.length = i) {k : Nat} (hk : k < i) (h : k < (l ++ List.replicate (n - i) z).length) : (l ++ List.replicate (n - i) z)[k] = l[k]'(by omega) := by rw [List.getElem_append_left]

theorem row_keep {ys cs : List Value} {i p : Nat} (hp : p < i) (hl : i * 4 ≤ ys.length) : ((ys.take (i * 4) ++ cs).drop (p * 4)).take 4 = (ys.drop (p * 4)).take 4 := by
  apply List.ext_getElem?
  intro j
  rw [List.getElem?_take, List.getElem?_take]
  split
  · rw [List.getElem?_drop, List.getElem?_drop, List.getElem?_append_left (by rw [List.length_take]; omega), List.getElem?_take, if_pos (by omega)]
  · rfl
/-- the walker while it is made -/
structure NewM (t : List Nd) (S : List Nat) (sn : Value) (wb b A F : Nat) (u : World) (i : Nat) : Prop where
  blk : Blk u wb [.pointer (some ⟨b, 0, none⟩), .slice (some ⟨A, 0, none⟩) t.length t.length, .slice (some ⟨F, 0, none⟩) t.length t.length] 133
  set : ∃ x y z, Blk u b [sn, x, y, z] 140
  len : Blk u A ((lensT (t.take i) ++ List.replicate (t.length - i) 0).map (.int .i64)) 3
  fix : ∃ ys, Own u 33 4 (.slice (some ⟨F, 0, none⟩) t.length t.length) t.length ys ∧ Rws (VR u (A :: F :: S)) (fxsT (t.take i) ++ List.replicate (t.length - i) (numV 0)) ys
theorem NewM.old {t : List Nd} {S T : List Nat} {sn : Value} {wb b A F : Nat} {u u' : World} {i : Nat} (h : NewM t S sn wb b A F u i) (hf : Fr T u u') (hT : ∀ k ∈ T, k ∈ S ∨ u.heap.size ≤ k) (hd : ∀ k ∈ T, k ≠ wb ∧ k ≠ b ∧ k ≠ A ∧ k ≠ F) : NewM t S sn wb b A F u' i := by
  obtain ⟨h1, ⟨x, y, z, h2⟩, h3, ⟨ys, h4, h5⟩⟩ := h
  exact ⟨h1.tr hf (fun h => (hd _ h).1 rfl), ⟨x, y, z, h2.tr hf (fun h => (hd _ h).2.1 rfl)⟩, h3.tr hf (fun h => (hd _ h).2.2.1 rfl), ⟨ys, h4.tr hf (fun k hk hm => by
    simp [blks, Value.ownBlock] at hk; exact (hd _ hm).2.2.2 (by omega)), h5.imp fun x cs _ hr => vrStab.old hr hf (fun k hk => by
      rcases hT k hk with h | h
      · exact .inl (by simp [h])
      · exact .inr h)⟩⟩
theorem NewM.tr0 {t : List Nd} {S : List Nat} {sn : Value} {wb b A F : Nat} {u u' : World} {i : Nat} (h : NewM t S sn wb b A F u i) (hf : Fr [] u u') : NewM t S sn wb b A F u' i := h.old hf (by simp) (by simp)

set_option maxHeartbeats 32000000 in
theorem newP (t : List Nd) (st : Value) (w : World) (S : List Nat) (hSb : ∀ k ∈ S, k < w.heap.size) (ht : NS w S t st) (hok : ∀ x ∈ t, NdOk x) (hv : VT t) :
    Calls Tryz.prog 40 #[.agg #[st]] w fun e w' => ∃ wb b A F, e = .returned (.pointer (some ⟨wb, 0, none⟩)) ∧ WalkM t S st wb b A F w' ∧ w.heap.size ≤ wb ∧ w.heap.size ≤ b ∧ w.heap.size ≤ A ∧ w.heap.size ≤ F ∧ Fr [] w w' := by
  have htS := ht
  replace ht : NS w [] t st := ht.mono (by simp)
  obtain ⟨as_, cs_, rfl, _⟩ := ht.slice
  have hl : t.length ≤ 1000000 := by have := hv.len; omega
  refine enter Tryz.func40 rfl Tryz.ntmps40 rfl ?_
  refine rx ?_
  refine s_box (l := [.slice as_ t.length cs_]) rfl rfl (fun w1 hb1 hf0 hs0 => ?_)
  refine rx ?_
  refine c_cut (fun g u => g 1 = .pointer (some ⟨w.heap.size, 0, none⟩) ∧ ∃ wb b A F, g 3 = .pointer (some ⟨wb, 0, none⟩) ∧ NewM t S (.slice as_ t.length cs_) wb b A F u 0 ∧ (w1.heap.size ≤ wb ∧ w1.heap.size ≤ b ∧ w1.heap.size ≤ A ∧ w1.heap.size ≤ F) ∧ (wb < u.heap.size ∧ b < u.heap.size ∧ A < u.heap.size ∧ F < u.heap.size) ∧ (A ≠ F ∧ A ≠ wb ∧ A ≠ b ∧ F ≠ wb ∧ F ≠ b) ∧ Fr [] w1 u) ?_ ?_
  rotate_left
  · rintro g0 u0 ⟨g1, wb, b, A, F, g3, hm0, hfr, hlt0, hdis, hfu0⟩
    rw [eq_upd g1, eq_upd g3]
    have hb1u := hb1.tr0 hfu0
    refine rx ?_
    refine c_loopK 9 [4, 5, 6, 7, 8] (σ := Nat) (fun i g u => g 23 = .int .i64 t.length ∧ g 24 = .int .i64 (i : Nat) ∧ i ≤ t.length ∧ NewM t S (.slice as_ t.length cs_) wb b A F u i ∧ Fr [A, F] u0 u) (fun i => t.length - i) 0 ⟨rfl, rfl, Nat.zero_le _, hm0, Fr.refl _ _⟩ ?_
    rintro i g u ⟨h23, h24, hi, hm, hfu⟩
    rw [eq_upd h23, eq_upd h24]
    have hsu := hfu.size
    have hfwu : Fr [] w u := hf0.trans0 (hfu0.trans hfu (by simp; omega))
    by_cases hlt : i < t.length
    case neg =>
      have hil : i = t.length := by omega
      subst hil
      refine rx ?_
      (apply ret1; exact rfl; (conv => lhs; whnf))
      obtain ⟨h1, h2, h3, ⟨ys, h4, h5⟩⟩ := hm
      rw [List.take_length, Nat.sub_self, List.replicate_zero, List.append_nil] at h3
      rw [List.take_length, Nat.sub_self, List.replicate_zero, List.append_nil] at h5
      have hfl := fxsT_len t
      refine ⟨wb, b, A, F, rfl, ⟨h1, h2, h3, VS.of (by omega) (by rw [hfl]; exact h4.src) (fun ad n c e hp hmem => ?_) (h5.imp fun x cs _ hr => vrStab.mono hr (fun k hk => .inl (by simp [hk]))), ?_⟩, by omega, by omega, by omega, by omega, hfwu⟩
      · simp only [Value.slice.injEq, Option.some.injEq] at e
        have hb := congrArg Addr.block e.1
        have := hSb _ hmem
        simp only at hb
        omega
      · refine ⟨fun h => ?_, fun h => ?_, fun h => ?_⟩ <;> (have := hSb _ h; omega)
    have htu : NS u (A :: F :: S) t (.slice as_ t.length cs_) := (htS.mono (T := A :: F :: S) (fun k hk => by
      rcases List.mem_cons.1 hk with h | h
      · right; omega
      rcases List.mem_cons.1 h with h | h
      · right; omega
      · exact .inl h)).tr0 hfwu
    obtain ⟨ad, rfl, hn⟩ := NS.ptr htu hlt
    have hokx := hok t[i] (by simp)
    have hbt := hb1u.tr hfu (by simp; omega)
    have hbw := hm.blk
    have hlp : (t.take i).length = i := by rw [List.length_take]; omega
    have hlL : (lensT (t.take i)).length = i := by rw [lensT_len, hlp]
    have hlok := (show Chk t i from ⟨fun j hj hji => ⟨hv.form hj, hv.nums hj⟩, fun a ha => by
        obtain ⟨j, hj, rfl⟩ := List.mem_iff_getElem.1 ha
        have h1 := lensT_get (t := t) (n := i) (k := j) (by omega) (by omega)
        rw [List.getElem?_eq_getElem hj, ← lT_eq (by omega)] at h1
        rw [Option.some.inj h1]; exact hv.l0 (by omega), fun a ha => by
        obtain ⟨j, hj, rfl⟩ := List.mem_iff_getElem.1 ha
        have hjl : j < i := by rw [sizsT_len, hlp] at hj; exact hj
        have h1 := sizsT_get (t := t) (n := i) (k := j) hjl (by omega)
        rw [List.getElem?_eq_getElem hj, ← zT_eq (by omega)] at h1
        rw [Option.some.inj h1]; have := hv.z1 (t := t) (i := j) (by omega); omega⟩).lok hlt (hv.form hlt)
    have hkd := hv.kind hlt
    have hk4 : t[i].kind = 4 → 0 < t[i].kids.length := fun h => by have := (hv.bind hlt h).1; omega
    have hlN : lenN (lensT (t.take i) ++ List.replicate (t.length - i) 0) t[i] = lT t i := by rw [lenN_app hlok.rng, lT_eq hlt]
    have hl0 := hv.l0 hlt
    generalize hpn : ad.add (i * 12) = pn at hn
    have hAl : (lensT (t.take i) ++ List.replicate (t.length - i) 0).length = t.length := by rw [List.length_append, hlL, List.length_replicate]; omega
    refine rx ?_
    rw [hpn]
    (refine d_begin (fun y => Fr [A] u y) (by kernel_rfl) rfl ?_)
    have hS0 : Fr [] u u.drew := Fr.drew _ _
    have hS : Fr [A] u u.drew := Fr.drew _ _
    ((first | refine d_tx 0 hS ?_ | refine d_ty 0 hS ?_ | refine d_tn 0 hS ?_); (first | refine d_tx 1 hS ?_ | refine d_ty 1 hS ?_ | refine d_tn 1 hS ?_); (first | refine d_tx 2 hS ?_ | refine d_ty 2 hS ?_ | refine d_tn 2 hS ?_))
    (apply d_take (i := 3); exact rfl; kernel_rfl; kernel_rfl; kernel_rfl; (intro u hu; exact (r_load rfl (Blk.cell (Blk.tr hbw hu (by simp; omega)) rfl))); exact hS)
    ((first | refine d_tx 4 hS ?_ | refine d_ty 4 hS ?_ | refine d_tn 4 hS ?_); (first | refine d_tx 5 hS ?_ | refine d_ty 5 hS ?_ | refine d_tn 5 hS ?_); (first | refine d_tx 6 hS ?_ | refine d_ty 6 hS ?_ | refine d_tn 6 hS ?_); (first | refine d_tx 7 hS ?_ | refine d_ty 7 hS ?_ | refine d_tn 7 hS ?_); (first | refine d_tx 8 hS ?_ | refine d_ty 8 hS ?_ | refine d_tn 8 hS ?_))
    (apply d_take (i := 9); exact rfl; kernel_rfl; kernel_rfl; kernel_rfl; (intro u hu; exact (r_load rfl (Blk.cell (Blk.tr hbw hu (by simp; omega)) rfl))); exact hS)
    refine d_one (i := 10) rfl (by kernel_rfl) ?_
    refine s_call (lengthP t[i] pn _ _ u.drew hokx (ls_of hlok (by omega)) hkd hk4 ((hn.mono (by simp)).tr0 hS0) (blkIs (hm.len.tr0 hS0) hAl)) rfl ?_
    rintro _ _ ⟨rfl, rfl⟩
    refine ⟨_, rfl, ?_⟩
    rw [hlN]
    refine wpList_nil (q_held hS ?_)
    (apply d_take (i := 11); exact rfl; kernel_rfl; kernel_rfl; kernel_rfl; (intro u hu; exact (r_index1 (j := i) rfl rfl rfl (by omega) rfl)); exact hS)
    refine d_one (i := 12) rfl (by kernel_rfl) ?_
    rw [add_lit, Nat.zero_add]
    refine s_storeBj (v := .int .i64 (lT t i)) rfl rfl rfl (hm.len.tr0 hS0) (by rw [List.length_map, hAl]; omega) (fun u1 hA1 hf1 hs1 => ?_)
    rw [set_map, set_next hlL hlt] at hA1
    have hS1 : Fr [A] u u1 := hS.trans hf1 (by simp)
    refine wpList_nil (q_held hS1 ?_)
    (refine d_done (by kernel_rfl) ?_)
    have hnL : lensT (t.take (i + 1)) = lensT (t.take i) ++ [lT t i] := by rw [List.take_succ_eq_append_getElem hlt, lensT_snoc, lT_eq hlt]
    rw [← hnL] at hA1
    have hcA := Cells.ofBlk hA1
    have hgA : ((lensT (t.take (i + 1)) ++ List.replicate (t.length - (i + 1)) 0).map (Value.int .i64))[i]? = some (.int .i64 (lT t i)) := by
      rw [hnL, List.getElem?_map, List.append_assoc, List.getElem?_append_right (by omega), hlL, Nat.sub_self]; rfl
    have hbw1 := hbw.tr hS1 (by simp; omega)
    have hbt1 := hbt.tr hS1 (by simp; omega)
    have hset1 : ∃ x y z, Blk u1 b [.slice (some ad) t.length cs_, x, y, z] 140 := by
      obtain ⟨x, y, z, h2⟩ := hm.set
      exact ⟨x, y, z, h2.tr hS1 (by simp; omega)⟩
    obtain ⟨ys, hoF, hrF⟩ := hm.fix
    have hoF1 := hoF.tr hS1 (by simp [blks, Value.ownBlock]; omega)
    have hrF1 : Rws (VR u1 (A :: F :: S)) (fxsT (t.take i) ++ List.replicate (t.length - i) (numV 0)) ys := hrF.imp fun x cs _ hr => vrStab.tr hr (hS1.mono (by simp))
    have hn1 : PN u1 (A :: F :: S) t[i] pn := hn.tr (hS1.mono (by simp))
    have hfl : (fxsT (t.take i)).length = i := by rw [fxsT_len, hlp]
    have hnF : fxsT (t.take (i + 1)) = fxsT (t.take i) ++ [fT t i] := by rw [List.take_succ_eq_append_getElem hlt, fxsT_snoc, fT_eq hlt, lT_eq hlt]
    have hfe := fT_eq hlt
    have hyl := Rws.len (k := 4) VR.len hrF1
    have hFl : (fxsT (t.take i) ++ List.replicate (t.length - i) (numV 0)).length = t.length := by rw [List.length_append, hfl, List.length_replicate]; omega
    rw [hFl] at hyl
    -- a value is put at place i
    have put : ∀ (z z' : World) (cs : List Value), Fr [A] u z → VR z (A :: F :: S) (fT t i) cs → Blk z A ((lensT (t.take (i + 1)) ++ List.replicate (t.length - (i + 1)) 0).map (.int .i64)) 3 → Own z' 33 4 (.slice (some ⟨F, 0, none⟩) t.length t.length) t.length (ys.take (i * 4) ++ cs ++ ys.drop (i * 4 + 4)) → Fr [F] z z' → NewM t S (.slice (some ad) t.length cs_) wb b A F z' (i + 1) ∧ Fr [A, F] u0 z' := by
      intro z z' cs hz hcs hbA ho hf
      have hzz : Fr [A, F] u z' := (hz.mono (by simp)).trans hf (by simp)
      refine ⟨⟨hbw.tr hzz (by simp; omega), ?_, hbA.tr hf (by simp; omega), ⟨_, ho, ?_⟩⟩, hfu.trans hzz (fun k hk => .inl hk)⟩
      · obtain ⟨x, y, q, h2⟩ := hm.set
        exact ⟨x, y, q, h2.tr hzz (by simp; omega)⟩
      · rw [hnF, ← set_nextV (v := fT t i) hfl hlt, show i * 4 + 4 = (i + 1) * 4 by omega]
        exact Rws.set VR.len (hrF.imp fun x cs _ hr => vrStab.tr hr (hzz.mono (by simp))) (vrStab.tr hcs (hf.mono (by simp))) (by rw [hFl]; exact hlt)
    refine rx ?_
    rw [Nat.mul_one]
    refine s_loadC rfl hcA hgA ?_
    by_cases hpos : 0 < lT t i
    · have hz : fT t i = numV 0 := by rw [hfe]; unfold fxN; rw [if_pos hpos]
      rw [hz] at hnF
      rw [keep_nextV hlt, ← hnF] at hrF1
      refine rx ?_
      exact q_roundK (i + 1) (by (repeat (first | exact Keep.mrg _ _ _ _ | (refine Keep.hi rfl ?_) | (refine Keep.one rfl ?_) | exact Keep.all rfl | (refine Keep.inn rfl ?_) | (refine Keep.set rfl ?_)))) ⟨rfl, rfl, by omega, ⟨hbw1, hset1, hA1, ⟨ys, hoF1, hrF1⟩⟩, hfu.trans hS1 (by simp)⟩ (by omega)
    unfold fxN at hfe
    rw [if_neg hpos] at hfe
    have hn10 := hn1
    obtain ⟨hpS, _, hc, ⟨sw, sl, sv, sk, sx, rfl, _, _, _, hk, hx⟩⟩ := hn1
    obtain ⟨ak, ck, rfl, _⟩ := hk.slice
    obtain ⟨ax, cx, rfl, _⟩ := hx.slice
    have hlk := hokx.lk
    rcases kind5 hv hlt with k0 | k1 | k2 | k3 | k4
    · rw [if_pos k0] at hfe
      refine rx ?_
      (refine d_begin (fun y => Fr [F] u1 y) (by kernel_rfl) rfl ?_)
      have hT0 : Fr [] u1 u1.drew := Fr.drew _ _
      have hT : Fr [F] u1 u1.drew := Fr.drew _ _
      have hpF : pn.block ∉ [F] := fun h => hpS (by simp at h ⊢; omega)
      ((first | refine d_tx 0 hT ?_ | refine d_ty 0 hT ?_ | refine d_tn 0 hT ?_); (first | refine d_tx 1 hT ?_ | refine d_ty 1 hT ?_ | refine d_tn 1 hT ?_); (first | refine d_tx 2 hT ?_ | refine d_ty 2 hT ?_ | refine d_tn 2 hT ?_))
      (apply d_take (i := 3); exact rfl; kernel_rfl; kernel_rfl; kernel_rfl; (intro u hu; exact (r_load rfl (Blk.cell (Blk.tr hbw1 hu (by simp; omega)) rfl))); exact hT)
      ((first | refine d_tx 4 hT ?_ | refine d_ty 4 hT ?_ | refine d_tn 4 hT ?_); (first | refine d_tx 5 hT ?_ | refine d_ty 5 hT ?_ | refine d_tn 5 hT ?_); (first | refine d_tx 6 hT ?_ | refine d_ty 6 hT ?_ | refine d_tn 6 hT ?_); (first | refine d_tx 7 hT ?_ | refine d_ty 7 hT ?_ | refine d_tn 7 hT ?_))
      (apply d_take (i := 8); exact rfl; kernel_rfl; kernel_rfl; kernel_rfl; (intro u hu; exact (r_loadSub (m := 4) rfl (Cells.tr hc hu hpF) (by rfl))); exact hT)
      (apply d_take (i := 9); exact rfl; kernel_rfl; kernel_rfl; kernel_rfl; (intro u hu; exact (r_indexAddr (j := i) rfl rfl rfl (by omega) rfl)); exact hT)
      refine d_one (i := 10) rfl (by kernel_rfl) ?_
      have hrow : VR u1.drew (A :: F :: S) (fT t i) (vc t[i].val (.slice ax t[i].val.kids.length cx)) := by rw [hfe]; exact ⟨_, rfl, hx.tr0 hT0⟩
      refine s_storeRowA (q := i * 4) (m := 4) (cs := vc t[i].val (.slice ax t[i].val.kids.length cx)) (hoF1.tr0 hT0) rfl rfl rfl rfl rfl (VR.mem1 _ _ hrow) (by omega) (fun u2 ho2 hf2 hs2 => ?_)
      have hblk : blks (.slice (some ⟨F, 0, none⟩) t.length t.length) = [F] := rfl
      rw [hblk] at hf2
      have hT2 : Fr [F] u1 u2 := hT.trans hf2 (by simp)
      refine wpList_nil (q_held hT2 ?_)
      (refine d_done (by kernel_rfl) ?_)
      obtain ⟨hnm, hfr2⟩ := put u1.drew u2 _ (hS1.trans0 hT0) hrow (hA1.tr0 hT0) ho2 hf2
      refine rx ?_
      exact q_roundK (i + 1) (by (repeat (first | exact Keep.mrg _ _ _ _ | (refine Keep.hi rfl ?_) | (refine Keep.one rfl ?_) | exact Keep.all rfl | (refine Keep.inn rfl ?_) | (refine Keep.set rfl ?_)))) ⟨rfl, rfl, by omega, hnm, hfr2⟩ (by omega)
    · exfalso
      have : lT t i = 1 := by rw [lT_eq hlt]; unfold lenN; rw [if_neg (by omega), if_pos k1]
      omega
    · exfalso
      have h1 := hv.cho hlt k2
      have h2 := lT_cho hv hlt k2 t[i].kids[0] (by simp)
      obtain ⟨q, hq, hqi⟩ := hv.kid hlt (List.getElem_mem (show 0 < t[i].kids.length by omega))
      rw [hq, Int.toNat_natCast] at h2
      have := (hv.l0 (t := t) (i := q) (by omega)).1
      omega
    · rw [if_neg (by omega), if_pos k3, fT_map hv hlt (fun k hk => hk)] at hfe
      refine rx ?_
      refine s_makeS (k := t[i].kids.length) rfl rfl (by omega) (by unfold maxLen; omega) (fun z1 ho1 hfz1 hsz1 => ?_)
      obtain ⟨B, hB⟩ : ∃ B, B = u1.heap.size := ⟨_, rfl⟩
      rw [← hB] at ho1 ⊢
      have hcz1 := hc.tr0 hfz1
      have hbwz1 := hbw1.tr0 hfz1
      have hsu1 := hS1.size
      have hslF : Sl u1 [] (VR u1 (A :: F :: S)) (fxsT (t.take i) ++ List.replicate (t.length - i) (numV 0)) (.slice (some ⟨F, 0, none⟩) t.length t.length) := ⟨ys, by rw [hFl]; exact hoF1.src, fun _ _ _ _ _ => by simp, hrF1⟩
      have hBAF : ∀ k ∈ B :: A :: F :: S, k ∈ A :: F :: S ∨ u1.heap.size ≤ k := fun k hk => by
        rcases List.mem_cons.1 hk with h | h
        · right; omega
        · exact .inl h
      refine rx ?_
      refine c_loopK 78 [7, 8] (σ := Nat × List Value) (fun s g q => g 78 = .slice ak t[i].kids.length ck ∧ g 79 = .int .i64 t[i].kids.length ∧ g 80 = .int .i64 (s.1 : Nat) ∧ s.1 ≤ t[i].kids.length ∧ s.2.length = s.1 * 4 ∧ Own q 33 4 (.slice (some ⟨B, 0, none⟩) t[i].kids.length t[i].kids.length) t[i].kids.length (s.2 ++ zeros [.int .i64 0, .int .i64 0, .string .empty, .slice none 0 0] (t[i].kids.length - s.1)) ∧ Rws (VR q (B :: A :: F :: S)) ((t[i].kids.take s.1).map fun q => fT t q.toNat) s.2 ∧ Fr [B] z1 q)
        (fun s => t[i].kids.length - s.1) (0, []) ⟨rfl, rfl, rfl, Nat.zero_le _, rfl, by simpa using ho1, by simpa using Rws.nil, Fr.refl _ _⟩ ?_
      rintro ⟨j, zs⟩ g2 q ⟨h78, h79, h80, hj, hzl, hoq, hrq, hfq⟩
      simp only at h80 hj hzl hoq hrq
      rw [eq_upd h78, eq_upd h79, eq_upd h80]
      have hfuq : Fr [] u1 q := hfz1.trans hfq (by simp; omega)
      have hbwq := hbw1.tr0 hfuq
      have hszq := hfuq.size
      by_cases hjl : j < t[i].kids.length
      case neg =>
        have hje : j = t[i].kids.length := by omega
        have het : t[i].kids.take j = t[i].kids := List.take_of_length_le (by omega)
        rw [het] at hrq
        rw [hje, Nat.sub_self, show zeros [.int .i64 0, .int .i64 0, .string .empty, .slice none 0 0] 0 = [] from rfl, List.append_nil] at hoq
        have hvs : VS q (A :: F :: S) (t[i].kids.map fun q => fT t q.toNat) (.slice (some ⟨B, 0, none⟩) t[i].kids.length t[i].kids.length) := by
          refine VS.of (by simp; omega) (by rw [List.length_map]; exact hoq.src) (fun ad n c e hp hmem => ?_) (hrq.imp fun x cs _ hr => vrStab.mono hr (fun k hk => .inl (List.mem_cons_of_mem _ hk)))
          simp only [Value.slice.injEq, Option.some.injEq] at e
          have hb := congrArg Addr.block e.1
          simp only at hb
          rcases List.mem_cons.1 hmem with h | h
          · omega
          rcases List.mem_cons.1 h with h | h
          · omega
          · have := hSb _ h; have := hfwu.size; omega
        have hvk : (.slice (some ⟨B, 0, none⟩) t[i].kids.length t[i].kids.length : Value) = .slice (some ⟨B, 0, none⟩) t[i].kids.length t[i].kids.length := rfl
        refine rx ?_
        (refine d_begin (fun y => Fr [F] q y) (by kernel_rfl) rfl ?_)
        have hT0 : Fr [] q q.drew := Fr.drew _ _
        have hT : Fr [F] q q.drew := Fr.drew _ _
        ((first | refine d_tx 0 hT ?_ | refine d_ty 0 hT ?_ | refine d_tn 0 hT ?_); (first | refine d_tx 1 hT ?_ | refine d_ty 1 hT ?_ | refine d_tn 1 hT ?_); (first | refine d_tx 2 hT ?_ | refine d_ty 2 hT ?_ | refine d_tn 2 hT ?_))
        (apply d_take (i := 3); exact rfl; kernel_rfl; kernel_rfl; kernel_rfl; (intro u hu; exact (r_load rfl (Blk.cell (Blk.tr hbwq hu (by simp; omega)) rfl))); exact hT)
        ((first | refine d_tx 4 hT ?_ | refine d_ty 4 hT ?_ | refine d_tn 4 hT ?_); (first | refine d_tx 5 hT ?_ | refine d_ty 5 hT ?_ | refine d_tn 5 hT ?_); (first | refine d_tx 6 hT ?_ | refine d_ty 6 hT ?_ | refine d_tn 6 hT ?_))
        refine d_one (i := 7) rfl (by kernel_rfl) ?_
        refine s_call (madeP t[i] pn (t[i].kids.map fun q => fT t q.toNat) _ q.drew (((hn10.tr0 hfuq).tr0 hT0).mono (by simp)) ((hvs.tr0 hT0).any)) rfl ?_
        rintro _ q1 ⟨rfl, hf3⟩
        refine ⟨_, rfl, ?_⟩
        have hT1 : Fr [F] q q1 := hT.trans0 hf3
        have hT10 := hT0.trans0 hf3
        refine wpList_nil (q_held hT1 ?_)
        (apply d_take (i := 8); exact rfl; kernel_rfl; kernel_rfl; kernel_rfl; (intro u hu; exact (r_indexAddr (j := i) rfl rfl rfl (by omega) rfl)); exact hT1)
        refine d_one (i := 9) rfl (by kernel_rfl) ?_
        have hrow : VR q1 (A :: F :: S) (fT t i) (vc (madeV t[i] (t[i].kids.map fun q => fT t q.toNat)) (.slice (some ⟨B, 0, none⟩) t[i].kids.length t[i].kids.length)) := by rw [hfe]; exact ⟨_, rfl, by rw [madeV_kids]; exact hvs.tr0 hT10⟩
        refine s_storeRowA (q := i * 4) (m := 4) (cs := vc (madeV t[i] (t[i].kids.map fun q => fT t q.toNat)) (.slice (some ⟨B, 0, none⟩) t[i].kids.length t[i].kids.length)) (hoF1.tr0 (hfuq.trans0 hT10)) rfl rfl rfl rfl rfl (VR.mem1 _ _ hrow) (by omega) (fun u2 ho2 hf2 hs2 => ?_)
        have hblk : blks (.slice (some ⟨F, 0, none⟩) t.length t.length) = [F] := rfl
        rw [hblk] at hf2
        have hT2 : Fr [F] q u2 := hT1.trans hf2 (by simp)
        refine wpList_nil (q_held hT2 ?_)
        (refine d_done (by kernel_rfl) ?_)
        obtain ⟨hnm, hfr2⟩ := put q1 u2 _ ((hS1.trans0 hfuq).trans0 hT10) hrow (hA1.tr0 (hfuq.trans0 hT10)) ho2 hf2
        refine rx ?_
        exact q_roundK (i + 1) (by (repeat (first | exact Keep.mrg _ _ _ _ | (refine Keep.hi rfl ?_) | (refine Keep.one rfl ?_) | exact Keep.all rfl | (refine Keep.inn rfl ?_) | (refine Keep.set rfl ?_)))) ⟨rfl, rfl, by omega, hnm, hfr2⟩ (by omega)
      obtain ⟨ad1, rfl, hcell⟩ := Ls.at (hk.tr0 hfuq) hjl
      obtain ⟨p, hp, hpi⟩ := hv.kid hlt (List.getElem_mem hjl)
      rw [hp] at hcell
      obtain ⟨ad2, cs2, e2, ⟨s2, rfl, hs2v⟩, hcell2⟩ := Sl.at hslF VR.len (show p < (fxsT (t.take i) ++ List.replicate (t.length - i) (numV 0)).length by omega)
      cases e2
      have hfp : (fxsT (t.take i) ++ List.replicate (t.length - i) (numV 0))[p]'(by omega) = fT t p := by
        rw [app_nextV hfl hpi]
        have := fT_at (t := t) hpi (by omega)
        unfold fAt at this
        rw [Int.toNat_natCast, List.getD_eq_getElem?_getD, List.getElem?_eq_getElem (by omega)] at this
        exact this
      rw [hfp] at hs2v hcell2
      have hcq := hcell2.tr0 hfuq
      have hrow : VR q (B :: A :: F :: S) (fT t p) (vc (fT t p) s2) := ⟨s2, rfl, (hs2v.mono hBAF).tr0 hfuq⟩
      refine rx ?_
      rw [Nat.mul_one]
      refine s_load rfl hcell ?_
      refine rx ?_
      refine s_storeRowA (q := j * 4) (m := 4) (cs := vc (fT t p) s2) hoq rfl rfl rfl rfl rfl (VR.mem1 _ _ hrow) (by omega) (fun q2 ho2 hf2 hs2 => ?_)
      have hblk : blks (.slice (some ⟨B, 0, none⟩) t[i].kids.length t[i].kids.length) = [B] := rfl
      rw [hblk] at hf2
      rw [fill_next hzl rfl hjl] at ho2
      refine rx ?_
      refine q_roundK (j + 1, zs ++ vc (fT t p) s2) (by (repeat (first | exact Keep.mrg _ _ _ _ | (refine Keep.hi rfl ?_) | (refine Keep.one rfl ?_) | exact Keep.all rfl | (refine Keep.inn rfl ?_) | (refine Keep.set rfl ?_)))) ⟨rfl, rfl, rfl, by simp only; omega, by simp [hzl, vc]; omega, ho2, ?_, hfq.trans hf2 (by simp)⟩ (by simp only; omega)
      simp only
      rw [List.take_succ_eq_append_getElem hjl, List.map_append, List.map_cons, List.map_nil, hp, Int.toNat_natCast]
      exact Rws.app (hrq.imp fun x cs _ hr => vrStab.tr hr (hf2.mono (by simp))) (Rws.one (vrStab.tr hrow (hf2.mono (by simp))))
    · rw [if_neg (by omega), if_neg (by omega), if_pos k4] at hfe
      have hb4 := hv.bind hlt k4
      have h1l : 1 < t[i].kids.length := by omega
      have hk1e : t[i].kids.getD 1 0 = t[i].kids[1] := by rw [List.getD_eq_getElem?_getD, List.getElem?_eq_getElem h1l]; rfl
      obtain ⟨ad1, rfl, hcell⟩ := Ls.at hk h1l
      obtain ⟨p, hp, hpi⟩ := hv.kid hlt (List.getElem_mem h1l)
      rw [hk1e, hp, fT_at hpi (by omega)] at hfe
      rw [hp] at hcell
      obtain ⟨cs2, ⟨s2, rfl, hs2v⟩, hrow2⟩ := hrF1.get VR.len (show p < (fxsT (t.take i) ++ List.replicate (t.length - i) (numV 0)).length by omega)
      have hfp : (fxsT (t.take i) ++ List.replicate (t.length - i) (numV 0))[p]'(by omega) = fT t p := by
        rw [app_nextV hfl hpi]
        have := fT_at (t := t) hpi (by omega)
        unfold fAt at this
        rw [Int.toNat_natCast, List.getD_eq_getElem?_getD, List.getElem?_eq_getElem (by omega)] at this
        exact this
      rw [hfp] at hs2v hrow2
      have hcel : ∀ z, Fr [F] u1 z → pn.block ∉ [F] → Cells z pn (nc t[i] sw sl sv (.slice (some ad1) t[i].kids.length ck) (.slice ax t[i].val.kids.length cx)) := fun z hz hp => hc.tr hz hp
      have hpF : pn.block ∉ [F] := fun h => hpS (by simp at h ⊢; omega)
      have hkF : ∀ z, Fr [F] u1 z → z.cell? (ad1.add 1) = some (.int .i64 p) := fun z hz => by
        obtain ⟨ad', e', hc'⟩ := Ls.at (hk.tr (hz.mono (by simp))) h1l
        cases e'
        rw [hp] at hc'
        exact hc'
      have hrc : Cells u1 ((⟨F, 0, none⟩ : Addr).add (p * 4)) (vc (fT t p) s2) := by
        have := (Cells.ofSrc hoF1.src).sub (p * 4) 4
        rwa [hrow2] at this
      refine rx ?_
      (refine d_begin (fun y => Fr [F] u1 y ∧ Cells y ((⟨F, 0, none⟩ : Addr).add (p * 4)) (vc (fT t p) s2)) (by kernel_rfl) rfl ?_)
      have hT0 : Fr [] u1 u1.drew := Fr.drew _ _
      have hT : Fr [F] u1 u1.drew ∧ Cells u1.drew ((⟨F, 0, none⟩ : Addr).add (p * 4)) (vc (fT t p) s2) := ⟨Fr.drew _ _, hrc.tr0 hT0⟩
      ((first | refine d_tx 0 hT ?_ | refine d_ty 0 hT ?_ | refine d_tn 0 hT ?_); (first | refine d_tx 1 hT ?_ | refine d_ty 1 hT ?_ | refine d_tn 1 hT ?_); (first | refine d_tx 2 hT ?_ | refine d_ty 2 hT ?_ | refine d_tn 2 hT ?_))
      (apply d_take (i := 3); exact rfl; kernel_rfl; kernel_rfl; kernel_rfl; (intro u hu; exact (r_load rfl (Blk.cell (Blk.tr hbw1 hu.1 (by simp; omega)) rfl))); exact hT)
      ((first | refine d_tx 4 hT ?_ | refine d_ty 4 hT ?_ | refine d_tn 4 hT ?_); (first | refine d_tx 5 hT ?_ | refine d_ty 5 hT ?_ | refine d_tn 5 hT ?_); (first | refine d_tx 6 hT ?_ | refine d_ty 6 hT ?_ | refine d_tn 6 hT ?_); (first | refine d_tx 7 hT ?_ | refine d_ty 7 hT ?_ | refine d_tn 7 hT ?_))
      (apply d_take (i := 8); exact rfl; kernel_rfl; kernel_rfl; kernel_rfl; (intro u hu; exact (r_load rfl (Blk.cell (Blk.tr hbw1 hu.1 (by simp; omega)) rfl))); exact hT)
      ((first | refine d_tx 9 hT ?_ | refine d_ty 9 hT ?_ | refine d_tn 9 hT ?_); (first | refine d_tx 10 hT ?_ | refine d_ty 10 hT ?_ | refine d_tn 10 hT ?_); (first | refine d_tx 11 hT ?_ | refine d_ty 11 hT ?_ | refine d_tn 11 hT ?_))
      (apply d_take (i := 12); exact rfl; kernel_rfl; kernel_rfl; kernel_rfl; (intro u hu; exact (r_load rfl (Cells.get (Cells.tr hc hu.1 hpF) rfl))); exact hT)
      (apply d_take (i := 13); exact rfl; kernel_rfl; kernel_rfl; kernel_rfl; (intro u hu; exact (r_index1 (j := 1) rfl rfl rfl (by omega) rfl)); exact hT)
      (apply d_take (i := 14); exact rfl; kernel_rfl; kernel_rfl; kernel_rfl; (intro u hu; exact (r_load rfl (hkF _ hu.1))); exact hT)
      (apply d_take (i := 15); exact rfl; kernel_rfl; kernel_rfl; kernel_rfl; (intro u hu; exact (r_indexAddr (j := p) rfl rfl rfl (by omega) rfl)); exact hT)
      (apply d_take (i := 16); exact rfl; kernel_rfl; kernel_rfl; kernel_rfl; (intro u hu; exact (r_loadC rfl hu.2 (by rfl))); exact hT)
      (apply d_take (i := 17); exact rfl; kernel_rfl; kernel_rfl; kernel_rfl; (intro u hu; exact (r_indexAddr (j := i) rfl rfl rfl (by omega) rfl)); exact hT)
      refine d_one (i := 18) rfl (by kernel_rfl) ?_
      have hrow : VR u1.drew (A :: F :: S) (fT t i) (vc (fT t p) s2) := by rw [hfe]; exact ⟨_, rfl, hs2v.tr0 hT0⟩
      refine s_storeRowA (q := i * 4) (m := 4) (cs := vc (fT t p) s2) (hoF1.tr0 hT0) rfl rfl rfl rfl rfl (VR.mem1 _ _ hrow) (by omega) (fun u2 ho2 hf2 hs2 => ?_)
      have hblk : blks (.slice (some ⟨F, 0, none⟩) t.length t.length) = [F] := rfl
      rw [hblk] at hf2
      have hT2 : Fr [F] u1 u2 := hT.1.trans hf2 (by simp)
      have hrc2 : Cells u2 ((⟨F, 0, none⟩ : Addr).add (p * 4)) (vc (fT t p) s2) := by
        have := (Cells.ofSrc ho2.src).sub (p * 4) 4
        rw [List.append_assoc, row_keep hpi (by omega), hrow2] at this
        exact this
      refine wpList_nil (q_held ⟨hT2, hrc2⟩ ?_)
      (refine d_done (by kernel_rfl) ?_)
      obtain ⟨hnm, hfr2⟩ := put u1.drew u2 _ (hS1.trans0 hT0) hrow (hA1.tr0 hT0) ho2 hf2
      refine rx ?_
      exact q_roundK (i + 1) (by (repeat (first | exact Keep.mrg _ _ _ _ | (refine Keep.hi rfl ?_) | (refine Keep.one rfl ?_) | exact Keep.all rfl | (refine Keep.inn rfl ?_) | (refine Keep.set rfl ?_)))) ⟨rfl, rfl, by omega, hnm, hfr2⟩ (by omega)
  (refine d_begin (fun y => Fr [] w1 y) (by kernel_rfl) rfl ?_)
  have hS0 : Fr [] w1 w1.drew := Fr.drew _ _
  have hsz0 : w1.drew.heap.size = w1.heap.size := rfl
  generalize w1.drew = z0 at hS0 hsz0 ⊢
  ((first | refine d_tx 0 hS0 ?_ | refine d_ty 0 hS0 ?_ | refine d_tn 0 hS0 ?_))
  ((first | refine d_tx 2 hS0 ?_ | refine d_ty 2 hS0 ?_ | refine d_tn 2 hS0 ?_); (first | refine d_tx 3 hS0 ?_ | refine d_ty 3 hS0 ?_ | refine d_tn 3 hS0 ?_); (first | refine d_tx 4 hS0 ?_ | refine d_ty 4 hS0 ?_ | refine d_tn 4 hS0 ?_))
  ((first | refine d_tx 6 hS0 ?_ | refine d_ty 6 hS0 ?_ | refine d_tn 6 hS0 ?_); (first | refine d_tx 7 hS0 ?_ | refine d_ty 7 hS0 ?_ | refine d_tn 7 hS0 ?_); (first | refine d_tx 8 hS0 ?_ | refine d_ty 8 hS0 ?_ | refine d_tn 8 hS0 ?_))
  refine d_three (i := 1) (j := 5) (k := 9) rfl rfl rfl (by kernel_rfl) ?oa ?ob ?oc
  case' oa =>
    (refine s_call (newSetsP t _ z0 ((ht.tr0 hf0).tr0 hS0) hl) rfl ?_; rintro _ z1 ⟨b, K, L, M, rfl, hset, hbb, hKK, hLL, hMM, hf1⟩; refine ⟨_, rfl, ?_⟩; have hs1 := hf1.size; have hS1 := hS0.trans0 hf1; refine wpList_nil (q_held hS1 ?_))
    refine d_two (i := 5) (j := 9) rfl rfl (by kernel_rfl) ?oa1 ?ob1
    case' oa1 =>
      (refine s_makeS (k := t.length) rfl rfl (by omega) (by unfold maxLen; omega) (fun z2 hoA hf2 hs2 => ?_); obtain ⟨A, hAe⟩ : ∃ y, y = z1.heap.size := ⟨_, rfl⟩; rw [← hAe] at hoA ⊢; have hS2 := hS1.trans0 hf2; refine wpList_nil (q_held hS2 ?_))
      refine d_one (i := 9) rfl (by kernel_rfl) ?_
      (refine s_makeS (k := t.length) rfl rfl (by omega) (by unfold maxLen; omega) (fun z3 hoF hf3 hs3 => ?_); obtain ⟨F, hFe⟩ : ∃ y, y = z2.heap.size := ⟨_, rfl⟩; rw [← hFe] at hoF ⊢; have hS3 := hS2.trans0 hf3; refine wpList_nil (q_held hS3 ?_))
    case' ob1 =>
      (refine s_makeS (k := t.length) rfl rfl (by omega) (by unfold maxLen; omega) (fun z2 hoF hf2 hs2 => ?_); obtain ⟨F, hFe⟩ : ∃ y, y = z1.heap.size := ⟨_, rfl⟩; rw [← hFe] at hoF ⊢; have hS2 := hS1.trans0 hf2; refine wpList_nil (q_held hS2 ?_))
      refine d_one (i := 5) rfl (by kernel_rfl) ?_
      (refine s_makeS (k := t.length) rfl rfl (by omega) (by unfold maxLen; omega) (fun z3 hoA hf3 hs3 => ?_); obtain ⟨A, hAe⟩ : ∃ y, y = z2.heap.size := ⟨_, rfl⟩; rw [← hAe] at hoA ⊢; have hS3 := hS2.trans0 hf3; refine wpList_nil (q_held hS3 ?_))
  case' ob =>
    (refine s_makeS (k := t.length) rfl rfl (by omega) (by unfold maxLen; omega) (fun z1 hoA hf1 hs1 => ?_); obtain ⟨A, hAe⟩ : ∃ y, y = z0.heap.size := ⟨_, rfl⟩; rw [← hAe] at hoA ⊢; have hS1 := hS0.trans0 hf1; refine wpList_nil (q_held hS1 ?_))
    refine d_two (i := 1) (j := 9) rfl rfl (by kernel_rfl) ?oa2 ?ob2
    case' oa2 =>
      (refine s_call (newSetsP t _ z1 ((ht.tr0 hf0).tr0 hS1) hl) rfl ?_; rintro _ z2 ⟨b, K, L, M, rfl, hset, hbb, hKK, hLL, hMM, hf2⟩; refine ⟨_, rfl, ?_⟩; have hs2 := hf2.size; have hS2 := hS1.trans0 hf2; refine wpList_nil (q_held hS2 ?_))
      refine d_one (i := 9) rfl (by kernel_rfl) ?_
      (refine s_makeS (k := t.length) rfl rfl (by omega) (by unfold maxLen; omega) (fun z3 hoF hf3 hs3 => ?_); obtain ⟨F, hFe⟩ : ∃ y, y = z2.heap.size := ⟨_, rfl⟩; rw [← hFe] at hoF ⊢; have hS3 := hS2.trans0 hf3; refine wpList_nil (q_held hS3 ?_))
    case' ob2 =>
      (refine s_makeS (k := t.length) rfl rfl (by omega) (by unfold maxLen; omega) (fun z2 hoF hf2 hs2 => ?_); obtain ⟨F, hFe⟩ : ∃ y, y = z1.heap.size := ⟨_, rfl⟩; rw [← hFe] at hoF ⊢; have hS2 := hS1.trans0 hf2; refine wpList_nil (q_held hS2 ?_))
      refine d_one (i := 1) rfl (by kernel_rfl) ?_
      (refine s_call (newSetsP t _ z2 ((ht.tr0 hf0).tr0 hS2) hl) rfl ?_; rintro _ z3 ⟨b, K, L, M, rfl, hset, hbb, hKK, hLL, hMM, hf3⟩; refine ⟨_, rfl, ?_⟩; have hs3 := hf3.size; have hS3 := hS2.trans0 hf3; refine wpList_nil (q_held hS3 ?_))
  case' oc =>
    (refine s_makeS (k := t.length) rfl rfl (by omega) (by unfold maxLen; omega) (fun z1 hoF hf1 hs1 => ?_); obtain ⟨F, hFe⟩ : ∃ y, y = z0.heap.size := ⟨_, rfl⟩; rw [← hFe] at hoF ⊢; have hS1 := hS0.trans0 hf1; refine wpList_nil (q_held hS1 ?_))
    refine d_two (i := 1) (j := 5) rfl rfl (by kernel_rfl) ?oa3 ?ob3
    case' oa3 =>
      (refine s_call (newSetsP t _ z1 ((ht.tr0 hf0).tr0 hS1) hl) rfl ?_; rintro _ z2 ⟨b, K, L, M, rfl, hset, hbb, hKK, hLL, hMM, hf2⟩; refine ⟨_, rfl, ?_⟩; have hs2 := hf2.size; have hS2 := hS1.trans0 hf2; refine wpList_nil (q_held hS2 ?_))
      refine d_one (i := 5) rfl (by kernel_rfl) ?_
      (refine s_makeS (k := t.length) rfl rfl (by omega) (by unfold maxLen; omega) (fun z3 hoA hf3 hs3 => ?_); obtain ⟨A, hAe⟩ : ∃ y, y = z2.heap.size := ⟨_, rfl⟩; rw [← hAe] at hoA ⊢; have hS3 := hS2.trans0 hf3; refine wpList_nil (q_held hS3 ?_))
    case' ob3 =>
      (refine s_makeS (k := t.length) rfl rfl (by omega) (by unfold maxLen; omega) (fun z2 hoA hf2 hs2 => ?_); obtain ⟨A, hAe⟩ : ∃ y, y = z1.heap.size := ⟨_, rfl⟩; rw [← hAe] at hoA ⊢; have hS2 := hS1.trans0 hf2; refine wpList_nil (q_held hS2 ?_))
      refine d_one (i := 1) rfl (by kernel_rfl) ?_
      (refine s_call (newSetsP t _ z2 ((ht.tr0 hf0).tr0 hS2) hl) rfl ?_; rintro _ z3 ⟨b, K, L, M, rfl, hset, hbb, hKK, hLL, hMM, hf3⟩; refine ⟨_, rfl, ?_⟩; have hs3 := hf3.size; have hS3 := hS2.trans0 hf3; refine wpList_nil (q_held hS3 ?_))
  all_goals
    have hlt := (hset [b, K, L, M] (by simp)).lt
    replace hoA : Own z3 3 1 (.slice (some ⟨A, 0, none⟩) t.length t.length) t.length (zeros [.int .i64 0] t.length) := by first | exact hoA | exact hoA.tr0 hf3 | exact hoA.tr0 (hf2.trans0 hf3)
    replace hoF : Own z3 33 4 (.slice (some ⟨F, 0, none⟩) t.length t.length) t.length (zeros [.int .i64 0, .int .i64 0, .string .empty, .slice none 0 0] t.length) := by first | exact hoF | exact hoF.tr0 hf3 | exact hoF.tr0 (hf2.trans0 hf3)
    replace hset : ∀ S, b ∈ S ∧ K ∈ S ∧ L ∈ S ∧ M ∈ S → SetK t S (.slice as_ t.length cs_) b K L M z3 (List.replicate t.length false) := by first | exact hset | exact fun S hS => (hset S hS).tr0 hf3 | exact fun S hS => (hset S hS).tr0 (hf2.trans0 hf3)
    have hdis : A ≠ F ∧ A ≠ b ∧ F ≠ b ∧ (A < z3.heap.size ∧ F < z3.heap.size ∧ b < z3.heap.size) ∧ w1.heap.size ≤ A ∧ w1.heap.size ≤ F ∧ w1.heap.size ≤ b := by omega
    clear hAe hFe hbb hKK hLL hMM hlt
    (apply d_take (i := 10); exact rfl; kernel_rfl; kernel_rfl; kernel_rfl; (intro u hu; exact (r_build [.pointer (some ⟨b, 0, none⟩), .slice (some ⟨A, 0, none⟩) t.length t.length, .slice (some ⟨F, 0, none⟩) t.length t.length] (by rfl))); exact hS3)
    refine d_one (i := 11) rfl (by kernel_rfl) ?_
    refine s_box rfl rfl (fun z4 hb4 hf4 hs4 => ?_)
    have hS4 := hS3.trans0 hf4
    refine wpList_nil (q_held hS4 ?_)
    (refine d_one (i := 12) rfl (by kernel_rfl) ?_; refine rx ?_; refine q_held hS4 ?_)
    (refine d_done (by kernel_rfl) ?_)
    have hbA := hoA.blk.tr0 hf4
    rw [zeros_int] at hbA
    have hsz := hS3.size
    exact q_cut ⟨rfl, z3.heap.size, b, A, F, rfl, ⟨hb4, ⟨_, _, _, (hset [b, K, L, M] (by simp)).blk.tr0 hf4⟩, by simpa [lensT] using hbA, ⟨_, hoF.tr0 hf4, by simpa [fxsT, fxGo] using zeros_vals t.length⟩⟩, by omega, by omega, by omega, hS4⟩
end Go.Proofs.YtpochcchekoonaaGreat
