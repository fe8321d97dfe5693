/-
  Lengths of encodings; values.Encode and the reference's Encode of values. The reference's Encode of values and of histories; history.Encode.
-/
import Derived.Test.YtcogpedfnnfnaaaB2
import Derived.Test.YtcogpedfnnfnaaaRf2
import Derived.Test.YtcogpedfnnfnaaaHv
namespace Go.Proofs.Ytcogpedfnnfnaaa
open Go.Rf Go.RowKit
set_option linter.unusedVariables false
set_option maxHeartbeats 4000000
attribute [local irreducible] Code.wp wpList Exit.then Exit.inBlock bodyPost A Calls execOp Addr.add

theorem fmd_kind {v : V} (h : fmd v = true) : (v.kind = 0 ∨ v.kind = 1 ∨ v.kind = 2 ∨ v.kind = 3) ∧ v.s.size ≤ 16 := by
  have e : v.s.size = v.s.data.toList.length := rfl
  unfold fmd at h
  by_cases k0 : v.kind = 0
  · rw [if_pos k0, decide_eq_true_eq] at h
    exact ⟨.inl k0, by rw [h.1]; exact size0 _⟩
  by_cases k1 : v.kind = 1
  · rw [if_neg k0, if_pos k1, decide_eq_true_eq] at h
    exact ⟨.inr (.inl k1), by rw [h.2.1]; exact size0 _⟩
  by_cases k2 : v.kind = 2
  · rw [if_neg k0, if_neg k1, if_pos k2, decide_eq_true_eq] at h
    exact ⟨.inr (.inr (.inl k2)), by rw [h.2]; exact size0 _⟩
  by_cases k3 : v.kind = 3
  · rw [if_neg k0, if_neg k1, if_neg k2, if_pos k3, Bool.and_eq_true] at h
    have h1 := capB_len h.2
    exact ⟨.inr (.inr (.inr k3)), by omega⟩
  · rw [if_neg k0, if_neg k1, if_neg k2, if_neg k3] at h; cases h
theorem raw_len {bs : List Int} (h : bs.length ≤ 1000000000) : (raw bs).length ≤ bs.length + 10 := by
  unfold raw
  have := uv_len bs.length (by omega)
  rw [List.length_append]; omega
theorem encVs_le {l : List V} (H : ∀ x ∈ l, (encV x).length ≤ 60 * vsz x) : (encVs l).length ≤ 60 * vszs l := by
  induction l with
  | nil => simp [encVs, vszs]
  | cons v l ih =>
    have h1 := H v (by simp)
    have h2 := ih (fun x hx => H x (by simp [hx]))
    simp only [encVs, vszs, List.length_append]; omega
theorem encV_le (v : V) (hF : allF v = true) (hT : allT v = true) (hI : IntV v) : (encV v).length ≤ 60 * vsz v := by
  have hfm : fmd v = true ∧ allFs v.kids = true := by rw [allF_eq, Bool.and_eq_true] at hF; exact hF
  have hft : fts v = true ∧ allTs v.kids = true := by rw [allT_eq, Bool.and_eq_true] at hT; exact hT
  have hk256 : v.kids.length ≤ 256 := by
    have := hft.1
    simp only [fts, decide_eq_true_eq] at this
    exact this.1
  have H : ∀ x ∈ v.kids, (encV x).length ≤ 60 * vsz x := fun x hx => encV_le x (allFs_mem hfm.2 hx) (allTs_mem hft.2 hx) (hI.kids x hx)
  have h1 := encVs_le H
  obtain ⟨hk, hs⟩ := fmd_kind hfm.1
  have e1 := iv_len (n := v.kind) (by omega) (by omega)
  have e2 := iv_len hI.n.1 hI.n.2
  have e3 := iv_len (n := (v.kids.length : Int)) (by omega) (by omega)
  have e4 := raw_len (bs := sb v.s) (by rw [sb_len]; omega)
  have e5 := sb_len v.s
  rw [encV_eq, vsz_eq]
  (repeat' split) <;> simp only [List.length_append, List.length_cons, List.length_nil, List.nil_append] <;> omega
termination_by SizeOf.sizeOf v
decreasing_by
  have h1 := List.sizeOf_lt_of_mem hx
  have h2 : SizeOf.sizeOf v.kids < SizeOf.sizeOf v := by cases v; simp; omega
  omega
theorem enc_short {v : V} (h : valV v = 0) (hI : IntV v) : (encV v).length ≤ 61440 := by
  obtain ⟨h1, h2, h3⟩ := val_parts h
  have := encV_le v h1 h2 hI
  omega

def encO (v : V) : List Int := if valV v = 0 then encV v else []
theorem encodeV (v : V) (sl : Value) (w : World) (hv : VS w [] v.kids sl) (hok : VOk v) (hI : IntV v) :
    Calls Try.prog 61 #[.agg (vc v sl).toArray] w fun r w' => ∃ v', r = .returned (.tuple #[v', .int .i64 (valV v)]) ∧ Out w w' v' (encO v) := by
  obtain ⟨ao, c, rfl, hc⟩ := hv.slice
  refine enter Try.func61 rfl Try.ntmps61 rfl ?_
  refine rx ?_
  refine s_box rfl rfl (fun w1 hb1 hf1 hs1 => ?_)
  have hb1 : Blk w1 w.heap.size (vc v (.slice ao v.kids.length c)) 44 := hb1
  refine rx ?_
  refine s_call (validP v _ w1 (hv.tr0 hf1) hok.nm hok.sz) rfl ?_
  rintro _ w2 ⟨rfl, hf2⟩
  refine ⟨_, rfl, ?_⟩
  have hF2 := hf1.trans0 hf2
  by_cases hval : valV v = 0
  case neg =>
    refine rx ?_
    (apply ret2; exact rfl; (conv => lhs; whnf); (conv => lhs; whnf))
    unfold encO
    rw [if_neg hval]
    exact ⟨_, rfl, Own.nil _ _ _, hF2, by simp [blks, Value.ownBlock]⟩
  unfold encO
  rw [if_pos hval, hval]
  obtain ⟨h1, h2, h3⟩ := val_parts hval
  have hsh := enc_short hval hI
  refine rx ?_
  refine s_alloc rfl (fun w3 hb3 hf3 hs3 => ?_)
  have hb3 : Blk w3 w2.heap.size [.slice none 0 0] 129 := hb3
  have hb1' := (hb1.tr0 hf2).tr0 hf3
  have hw3 : IsWC w3 w2.heap.size (.slice none 0 0) [] := ⟨hb3, Own.nil _ _ _⟩
  have hF3 := hF2.trans0 hf3
  have hs2 := hF2.size
  clear hb1
  refine rx ?_
  have hv3 : VS w3 (w2.heap.size :: blks (.slice none 0 0)) v.kids (.slice ao v.kids.length c) := (hv.tr0 hF2).mono (T := w2.heap.size :: blks (.slice none 0 0)) (fun k hk => by simp [blks, Value.ownBlock] at hk; right; omega) |>.tr0 hf3
  refine s_call (cValue v h1 h2 hI w2.heap.size (.slice none 0 0) [] _ w3 hw3 hv3 (by simp; omega)) rfl ?_
  rintro _ w4 ⟨rfl, v4, hw4, hf4, hk4⟩
  refine ⟨_, rfl, ?_⟩
  rw [List.nil_append] at hw4
  refine rx ?_
  refine s_call (wDoneC w2.heap.size v4 _ w4 hw4 (by omega)) rfl ?_
  rintro _ w5 ⟨v5, rfl, ho5, hf5, hk5, _⟩
  refine ⟨_, rfl, ?_⟩
  refine rx ?_
  (apply ret2; exact rfl; (conv => lhs; whnf); (conv => lhs; whnf))
  have hF4 : Fr [] w w4 := hF3.trans hf4 (fun k hk => by simp [blks, Value.ownBlock] at hk; right; omega)
  have hs4 := hF4.size
  exact ⟨_, rfl, ho5, hF4.trans0 hf5, fun k hk => by have := hk5 k hk; omega⟩
end Go.Proofs.Ytcogpedfnnfnaaa
namespace Go.Proofs.Ytcogpedfnnfnaaa
open Go.Rf Go.RowKit
set_option linter.unusedVariables false
set_option maxHeartbeats 4000000
attribute [local irreducible] Code.wp wpList Exit.then Exit.inBlock bodyPost A Calls execOp Addr.add

theorem Out.old {w w1 u : World} {v : Value} {bs : List Int} (h : Out w w1 v bs) (hf : Fr [] w1 u) : Out w u v bs := ⟨h.1.tr0 hf, h.2.1.trans0 hf, h.2.2⟩
theorem Out.slice {w w1 : World} {v : Value} {bs : List Int} (h : Out w w1 v bs) : ∃ ao c, v = .slice ao bs.length c := h.1.slice
/-- an append of bytes to what grows -/
theorem s_grow {P : Program} {ops : Array Oper} {Q : Exit → Act → World → Prop} {rest : List Oper} {n : Nat} {f : Env} {w0 w : World} {d : Nat} {ty : TypeId} {ps : String} {af : Array Edge} {x s : Operand} {t by_ : Nat} [Rr : RowT P t 5 1 by_] {v xv : Value} {bs cs : List Int} (ho : Out w0 w v bs) (hs : ev n f s = v) (hsrc : Src w xv cs.length (cs.map (.int .u8))) (hx : ev n f x = xv) (hl : bs.length + cs.length ≤ 10000000000) (hby : by_ ≤ 1)
    (h : ∀ v' w', Out w0 w' v' (bs ++ cs) → Fr (blks v) w w' → wpList P ops Q rest (A n (upd f d v')) w') :
    wpList P ops Q (⟨some d, .call { callee := .builtin .append, args := #[s, x], argTypes := #[t, t] }, ty, ps, af, none⟩ :: rest) (A n f) w := by
  have hb : (bs.length + cs.length) * by_ ≤ (bs.length + cs.length) * 1 := Nat.mul_le_mul_left _ hby
  refine s_append ho.1 hs hsrc hx (by simp) (ints_one _ _) (by unfold maxLen; omega) (by omega) (fun v' w' ho' hf' hk' _ => h v' w' (ho.app (Fr.refl _ _) ho' hf' hk') hf')

theorem encodeR (v : V) (hF : allF v = true) (hT : allT v = true) (hI : IntV v) (sl : Value) (w : World) (hv : VS w [] v.kids sl) (hl : (encV v).length ≤ 1000000000) :
    Calls Try.prog 68 #[.agg (vc v sl).toArray] w fun r w' => ∃ v', r = .returned v' ∧ Out w w' v' (encV v) := by
  have hfm : fmd v = true ∧ allFs v.kids = true := by rw [allF_eq, Bool.and_eq_true] at hF; exact hF
  have hft : fts v = true ∧ allTs v.kids = true := by rw [allT_eq, Bool.and_eq_true] at hT; exact hT
  have hk256 : v.kids.length ≤ 256 := by
    have := hft.1
    simp only [fts, decide_eq_true_eq] at this
    exact this.1
  have H : ∀ x ∈ v.kids, ∀ (sx : Value) (u : World), VS u [] x.kids sx → (encV x).length ≤ 1000000000 →
      Calls Try.prog 68 #[.agg (vc x sx).toArray] u fun r w' => ∃ v', r = .returned v' ∧ Out u w' v' (encV x) := fun x hx sx u h1 h2 => encodeR x (allFs_mem hfm.2 hx) (allTs_mem hft.2 hx) (hI.kids x hx) sx u h1 h2
  obtain ⟨hkr, hs16⟩ := fmd_kind hfm.1
  have hE := encV_eq v
  obtain ⟨ao, c, rfl, hc⟩ := hv.slice
  have hiv := hI.n
  have e1 := iv_len (n := v.kind) (by omega) (by omega)
  have e2 := iv_len hiv.1 hiv.2
  have e3 := iv_len (n := (v.kids.length : Int)) (by omega) (by omega)
  refine enter Try.func68 rfl Try.ntmps68 rfl ?_
  refine rx ?_
  refine s_box rfl rfl (fun w1 hb1 hf1 hs1 => ?_)
  have hb1 : Blk w1 w.heap.size (vc v (.slice ao v.kids.length c)) 44 := hb1
  refine rx ?_
  refine s_call (refInt v.kind w1 ⟨by omega, by omega⟩) rfl ?_
  rintro _ w2 ⟨v2, rfl, ho2⟩
  refine ⟨_, rfl, ?_⟩
  have hO2 : Out w1 w2 v2 (iv v.kind) := ho2
  have up : ∀ {u : World} {vu : Value} {bs : List Int}, Out w1 u vu bs → Out w u vu bs := fun h => ⟨h.1, hf1.trans0 h.2.1, fun k hk => by have := h.2.2 k hk; omega⟩
  have hb2 := hb1.tr0 ho2.2.1
  clear hb1
  by_cases k0 : v.kind = 0
  · rw [if_pos k0] at hE
    refine rx ?_
    refine s_call (refInt v.n w2 hiv) rfl ?_
    rintro _ w3 ⟨v3, rfl, ho3⟩
    refine ⟨_, rfl, ?_⟩
    refine s_grow (hO2.old ho3.2.1) rfl ho3.1.src rfl (by omega) (by decide) (fun v4 w4 ho4 _ => ?_)
    refine rx ?_
    (apply ret1; exact rfl; (conv => lhs; whnf))
    exact ⟨_, rfl, by rw [hE]; exact up ho4⟩
  by_cases k1 : v.kind = 1
  · rw [if_neg k0, if_pos k1] at hE
    have hn01 : v.n = 0 ∨ v.n = 1 := by
      have := hfm.1
      unfold fmd at this
      rw [if_neg k0, if_pos k1, decide_eq_true_eq] at this
      exact this.1
    have e0 : (if v.n = 1 then (1 : Int) else 0) = v.n := by rcases hn01 with h | h <;> rw [h] <;> rfl
    rw [e0] at hE
    refine rx ?_
    refine s_buildS [.int .u8 v.n] rfl rfl rfl rfl (fun w3 ho3 hf3 hs3 => ?_)
    refine s_grow (cs := [v.n]) (hO2.old hf3) rfl ho3.src rfl (by simp; omega) (by decide) (fun v4 w4 ho4 _ => ?_)
    refine rx ?_
    (apply ret1; exact rfl; (conv => lhs; whnf))
    exact ⟨_, rfl, by rw [hE]; exact up ho4⟩
  rw [if_neg k0, if_neg k1] at hE
  have hEl : (encV v).length = (iv v.kind).length + ((if v.kind = 3 then raw (sb v.s) else []).length + ((iv (v.kids.length : Int)).length + (encVs v.kids).length)) := by rw [hE]; simp
  by_cases k3 : v.kind = 3
  case' pos =>
    refine rx ?_
    refine s_fromStr rfl (fun cb w3 hcb hsrc hf3 => ?_)
    have hsrc' : Src w3 (.slice (some ⟨w2.heap.size, 0, none⟩) v.s.size cb) (sb v.s).length ((sb v.s).map (.int .u8)) := by
      rw [sb_len]
      have : (sb v.s).map (Value.int .u8) = v.s.data.toList.map fun b => .int .u8 b.toNat := by simp [sb]
      rw [this]; exact hsrc
    refine s_call (refRaw _ (sb v.s) w3 hsrc' (by rw [sb_len]; omega)) rfl ?_
    rintro _ w4 ⟨v4, rfl, ho4⟩
    refine ⟨_, rfl, ?_⟩
    have hF4 := hf3.trans0 ho4.2.1
    rw [if_pos k3] at hEl hE
    refine s_grow (hO2.old hF4) rfl ho4.1.src rfl (by omega) (by decide) (fun v5 w5 ho5 hf5 => ?_)
    have hb5 := (hb2.tr0 hF4).tr hf5 (fun hm => by have := ho2.2.2 _ hm; omega)
    obtain ⟨pre, hpre⟩ : ∃ pre, iv v.kind ++ raw (sb v.s) = pre := ⟨_, rfl⟩
    have hpl : pre.length = (iv v.kind).length + (raw (sb v.s)).length := by rw [← hpre]; simp
    rw [hpre] at ho5
    rw [← List.append_assoc, hpre] at hE
    have hlen : pre.length + ((iv (v.kids.length : Int)).length + (encVs v.kids).length) ≤ 1000000000 := by omega
    clear hpre hpl hb2 hO2 ho2 hEl
    refine rx ?_
    generalize w5 = wz at ho5 hb5 ⊢
    generalize v5 = vz at ho5 ⊢
  case' neg =>
    rw [if_neg k3] at hEl hE
    rw [List.nil_append] at hE
    have hb5 := hb2
    have ho5 := hO2
    obtain ⟨pre, hpre⟩ : ∃ pre, iv v.kind = pre := ⟨_, rfl⟩
    rw [hpre] at ho5 hE hEl
    have hlen : pre.length + ((iv (v.kids.length : Int)).length + (encVs v.kids).length) ≤ 1000000000 := by simp at hEl; omega
    clear hpre hb2 hO2 ho2 hEl
    refine rx ?_
    generalize w2 = wz at ho5 hb5 ⊢
    generalize v2 = vz at ho5 ⊢
  all_goals
    refine s_call (refInt v.kids.length wz ⟨by omega, by omega⟩) rfl ?_
    rintro _ w6 ⟨v6, rfl, ho6⟩
    refine ⟨_, rfl, ?_⟩
    have hNz : w.heap.size ∉ blks vz := fun hm => by have := ho5.2.2 _ hm; omega
    refine s_grow (ho5.old ho6.2.1) rfl ho6.1.src rfl (by omega) (by decide) (fun v7 w7 ho7 hf7 => ?_)
    have hb7 := (hb5.tr0 ho6.2.1).tr hf7 hNz
    obtain ⟨p2, hp2⟩ : ∃ p2, pre ++ iv (v.kids.length : Int) = p2 := ⟨_, rfl⟩
    have hp2l : p2.length = pre.length + (iv (v.kids.length : Int)).length := by rw [← hp2]; simp
    rw [hp2] at ho7
    rw [← List.append_assoc, hp2] at hE
    have hlen2 : p2.length + (encVs v.kids).length ≤ 1000000000 := by omega
    clear hb5
    refine rx ?_
    refine c_loopK 40 [3, 4] (σ := Nat × Value) (fun st g z => g 4 = .int .i64 st.1 ∧ g 3 = st.2 ∧ st.1 ≤ v.kids.length ∧ Out w1 z st.2 (p2 ++ encVs (v.kids.take st.1)) ∧ Blk z w.heap.size (vc v (.slice ao v.kids.length c)) 44) (fun st => v.kids.length - st.1) (0, v7)
      ⟨rfl, rfl, Nat.zero_le _, by simpa [encVs] using ho7, hb7⟩ ?_
    rintro ⟨i, vi⟩ g z ⟨h4, h3, hi, hoz, hbz⟩
    simp only at h4 h3 hi hoz
    rw [eq_upd h4, eq_upd h3]
    clear hb7
    by_cases hlt : i < v.kids.length
    case neg =>
      refine rx ?_
      (apply ret1; exact rfl; (conv => lhs; whnf))
      rw [List.take_of_length_le (by omega), ← hE] at hoz
      exact ⟨_, rfl, up hoz⟩
    obtain ⟨ad, cs, rfl, ⟨sx, rfl, hx⟩, hcx⟩ := (hv.tr0 (hf1.trans0 hoz.2.1)).sl.at VR.len hlt
    have hstep : encVs (v.kids.take (i + 1)) = encVs (v.kids.take i) ++ encV v.kids[i] := by rw [List.take_succ_eq_append_getElem hlt, encVs_append]; simp [encVs]
    have hle1 := encVs_len_take v.kids (i + 1)
    rw [hstep, List.length_append] at hle1
    refine rx ?_
    refine s_call (H v.kids[i] (by simp) sx z hx (by omega)) rfl ?_
    rintro _ z2 ⟨r2, rfl, hr2⟩
    refine ⟨_, rfl, ?_⟩
    refine s_grow (hoz.old hr2.2.1) rfl hr2.1.src rfl (by rw [List.length_append]; omega) (by decide) (fun v3 z3 ho3 hf3 => ?_)
    have hb3 := (hbz.tr0 hr2.2.1).tr hf3 (fun hm => by have := hoz.2.2 _ hm; omega)
    refine rx ?_
    exact q_roundK (i + 1, v3) (by (repeat (first | exact Keep.mrg _ _ _ _ | (refine Keep.hi rfl ?_) | (refine Keep.one rfl ?_) | exact Keep.all rfl | (refine Keep.inn rfl ?_) | (refine Keep.set rfl ?_)))) ⟨rfl, rfl, by simp only; omega, by simp only [hstep]; simpa using ho3, hb3⟩ (by simp only; omega)
termination_by SizeOf.sizeOf v
decreasing_by
  have h1 := List.sizeOf_lt_of_mem hx
  have h2 : SizeOf.sizeOf v.kids < SizeOf.sizeOf v := by cases v; simp; omega
  omega
end Go.Proofs.Ytcogpedfnnfnaaa
