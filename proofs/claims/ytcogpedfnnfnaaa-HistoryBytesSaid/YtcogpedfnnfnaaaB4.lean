/-
  history.Encode and the reference's Encode of histories. history.Encode.
-/
import Derived.Test.YtcogpedfnnfnaaaB3
namespace Go.Proofs.Ytcogpedfnnfnaaa
open Go.Rf Go.RowKit
set_option linter.unusedVariables false
set_option maxHeartbeats 4000000
attribute [local irreducible] Code.wp wpList Exit.then Exit.inBlock bodyPost A Calls execOp Addr.add

theorem errs_all {l : List Ev} : ∀ (n i : Nat), l.length - i = n → errL l i (l.drop i) = 0 → ∀ k (h : k < l.length), i ≤ k → fmdE l[k] = 0 := by
  intro n
  induction n with
  | zero => intro i hn _ k hk hik; omega
  | succ n ih =>
    intro i hn he k hk hik
    have hil : i < l.length := by omega
    rw [errL_drop hil] at he
    by_cases hc : chk l i l[i] ≠ 0
    · rw [if_pos hc] at he; exact absurd he hc
    · rw [if_neg hc] at he
      by_cases hki : k = i
      · subst hki
        have := Decidable.not_not.1 hc
        unfold chk at this
        by_cases hf : fmdE l[k] ≠ 0
        · rw [if_pos hf] at this; exact this
        · exact Decidable.not_not.1 hf
      · exact ih (i + 1) (by omega) he k hk (by omega)
theorem valid_fmd {l : List Ev} (h : validH l = 0) : l.length ≤ 64 ∧ ∀ e ∈ l, fmdE e = 0 := by
  unfold validH at h
  by_cases hb : 64 < l.length ∨ 16 < nbeg l
  · rw [if_pos hb] at h; omega
  · rw [if_neg hb] at h
    refine ⟨by omega, fun e he => ?_⟩
    obtain ⟨k, hk, rfl⟩ := List.getElem_of_mem he
    exact errs_all l.length 0 (by omega) (by simpa using h) k hk (Nat.zero_le _)
theorem firstErr_all {l : List V} (h : firstErr l = 0) : ∀ v ∈ l, valV v = 0 := by
  induction l with
  | nil => intro v hv; cases hv
  | cons a l ih =>
    intro v hv
    simp only [firstErr] at h
    split at h
    · rename_i h1
      rcases List.mem_cons.1 hv with rfl | hv
      · exact h1
      · exact ih h v hv
    · rename_i h1; exact absurd h h1
structure FmdE (e : Ev) : Prop where
  args : ∀ v ∈ e.args, valV v = 0
  res : valV e.res = 0
  al : e.args.length ≤ 16
  nm : e.name.size ≤ 16
theorem fmd_good {e : Ev} (h : fmdE e = 0) : FmdE e := by
  unfold fmdE at h
  by_cases h1 : e.kind < 0 ∨ 2 < e.kind ∨ e.client < 0 ∨ 3 < e.client
  · rw [if_pos h1] at h; omega
  rw [if_neg h1] at h
  by_cases h2 : e.kind = 2 ∧ e.client ≠ 0 ∨ e.kind ≠ 0 ∧ (e.name ≠ ⟨#[]⟩ ∨ 0 < e.args.length) ∨ e.kind ≠ 1 ∧ zeroV e.res = false
  · rw [if_pos h2] at h; omega
  rw [if_neg h2] at h
  by_cases h3 : e.kind = 0 ∧ (e.name = ⟨#[]⟩ ∨ 16 < e.name.size ∨ 16 < e.args.length)
  · rw [if_pos h3] at h; omega
  rw [if_neg h3] at h
  by_cases h4 : firstErr e.args = 0
  · rw [if_pos h4] at h
    by_cases hk : e.kind = 0
    · refine ⟨firstErr_all h4, h, Decidable.byContradiction fun hc => h3 ⟨hk, .inr (.inr (by omega))⟩, Decidable.byContradiction fun hc => h3 ⟨hk, .inr (.inl (by omega))⟩⟩
    · have hn : e.name = ⟨#[]⟩ := Decidable.byContradiction fun hc => h2 (.inr (.inl ⟨hk, .inl hc⟩))
      refine ⟨firstErr_all h4, h, Decidable.byContradiction fun hc => h2 (.inr (.inl ⟨hk, .inr (by omega)⟩)), by rw [hn]; exact size0 _⟩
  · rw [if_neg h4] at h; exact absurd h h4
theorem rawVs_le {l : List V} (h : ∀ v ∈ l, (encV v).length ≤ 61440) : (rawVs l).length ≤ 61450 * l.length := by
  induction l with
  | nil => simp [rawVs]
  | cons v l ih =>
    have h1 := h v (by simp)
    have h2 := ih (fun x hx => h x (by simp [hx]))
    have h3 := raw_len (bs := encV v) (by omega)
    simp only [rawVs, List.length_append, List.length_cons]; omega
theorem encE_le {x : Ev} (hf : FmdE x) (hI : InE x) : (encE x).length ≤ 1100000 := by
  have h1 := iv_len hI.k.1 hI.k.2
  have h2 := iv_len hI.c.1 hI.c.2
  have ha := hf.al
  have hnm := hf.nm
  have h3 := iv_len (n := (x.args.length : Int)) (by omega) (by omega)
  have h4 := rawVs_le (l := x.args) (fun v hv => enc_short (hf.args v hv) (hI.args v hv))
  have h5 := enc_short hf.res hI.res
  have h6 := raw_len (bs := encV x.res) (by omega)
  have h7 := raw_len (bs := sb x.name) (by rw [sb_len]; omega)
  have h8 := sb_len x.name
  unfold encE
  simp only [List.length_append]; omega
theorem encEs_le {l : List Ev} (h : ∀ x ∈ l, (encE x).length ≤ 1100000) : (encEs l).length ≤ 1100000 * l.length := by
  induction l with
  | nil => simp [encEs]
  | cons v l ih =>
    have h1 := h v (by simp)
    have h2 := ih (fun x hx => h x (by simp [hx]))
    simp only [encEs, List.length_append, List.length_cons]; omega
theorem encEs_take_le (l : List Ev) (i : Nat) : (encEs (l.take i)).length ≤ (encEs l).length := by
  conv => rhs; rw [← List.take_append_drop i l, encEs_append, List.length_append]
  omega
theorem rawVs_take_le (l : List V) (i : Nat) : (rawVs (l.take i)).length ≤ (rawVs l).length := by
  conv => rhs; rw [← List.take_append_drop i l, rawVs_append, List.length_append]
  omega
theorem encEs_snoc {l : List Ev} {i : Nat} (h : i < l.length) : encEs (l.take (i + 1)) = encEs (l.take i) ++ encE l[i] := by rw [List.take_succ_eq_append_getElem h, encEs_append]; simp [encEs]
theorem rawVs_snoc {l : List V} {i : Nat} (h : i < l.length) : rawVs (l.take (i + 1)) = rawVs (l.take i) ++ raw (encV l[i]) := by rw [List.take_succ_eq_append_getElem h, rawVs_append]; simp [rawVs]
def encHO (l : List Ev) : List Int := if validH l = 0 then encH l else []
theorem encH_le {l : List Ev} (hv : validH l = 0) (hI : ∀ e ∈ l, InE e) : (encEs l).length ≤ 70400000 ∧ (encH l).length ≤ 70400010 := by
  obtain ⟨h1, h2⟩ := valid_fmd hv
  have h3 := encEs_le (l := l) (fun x hx => encE_le (fmd_good (h2 x hx)) (hI x hx))
  have h4 := iv_len (n := (l.length : Int)) (by omega) (by omega)
  unfold encH
  rw [List.length_append]
  omega

set_option maxRecDepth 4000 in
theorem encodeHR (l : List Ev) (sl : Value) (w : World) (hl : EvS w l sl) (hok : ∀ e ∈ l, EvOk e) (hI : ∀ e ∈ l, InE e) (hb : l.length ≤ 1000000) :
    Calls Try.prog 35 #[sl] w fun r w' => ∃ v', r = .returned (.tuple #[v', .int .i64 (validH l)]) ∧ Out w w' v' (encHO l) := by
  obtain ⟨ao, c, rfl, hc⟩ := Sl.slice hl
  refine enter Try.func35 rfl Try.ntmps35 rfl ?_
  refine rx ?_
  refine s_call (validER l _ w hl hok hb) rfl ?_
  rintro _ w1 ⟨rfl, hf1⟩
  refine ⟨_, rfl, ?_⟩
  by_cases hval : validH l = 0
  case neg =>
    refine rx ?_
    (apply ret2; exact rfl; (conv => lhs; whnf); (conv => lhs; whnf))
    unfold encHO
    rw [if_neg hval]
    exact ⟨_, rfl, Own.nil _ _ _, hf1, by simp [blks, Value.ownBlock]⟩
  unfold encHO
  rw [if_pos hval, hval]
  obtain ⟨h64, hfm⟩ := valid_fmd hval
  obtain ⟨hEl, hHl⟩ := encH_le hval hI
  refine rx ?_
  refine s_call (refInt l.length w1 ⟨by omega, by omega⟩) rfl ?_
  rintro _ w2 ⟨v2, rfl, ho2⟩
  refine ⟨_, rfl, ?_⟩
  have hO2 : Out w w2 v2 (iv l.length) := ⟨ho2.1, hf1.trans0 ho2.2.1, fun k hk => by have := ho2.2.2 k hk; have := hf1.size; omega⟩
  have hil := iv_len (n := (l.length : Int)) (by omega) (by omega)
  refine rx ?_
  refine c_loopK 16 [5, 6, 7] (σ := Nat × Value) (fun st g z => g 6 = .int .i64 st.1 ∧ g 5 = st.2 ∧ st.1 ≤ l.length ∧ Out w z st.2 (iv l.length ++ encEs (l.take st.1))) (fun st => l.length - st.1) (0, v2) ⟨rfl, rfl, Nat.zero_le _, by simpa [encEs] using hO2⟩ ?_
  rintro ⟨i, vi⟩ g z ⟨h6, h5, hi, hoz⟩
  simp only at h6 h5 hi hoz
  rw [eq_upd h6, eq_upd h5]
  by_cases hlt : i < l.length
  case neg =>
    refine rx ?_
    (apply ret2; exact rfl; (conv => lhs; whnf); (conv => lhs; whnf))
    rw [List.take_of_length_le (by omega)] at hoz
    exact ⟨_, rfl, hoz⟩
  obtain ⟨ad, cs, rfl, ⟨sa, sr, rfl, ha, hr⟩, hcw⟩ := Sl.at hl evLen hlt
  obtain ⟨aa, ca, e, _⟩ := ha.slice
  subst e
  have hx := hI l[i] (by simp)
  have hg := fmd_good (hfm l[i] (by simp))
  have hal := hg.al
  have hnm := hg.nm
  have hsn := encEs_snoc hlt
  have htl := encEs_take_le l (i + 1)
  rw [hsn, List.length_append] at htl
  have hEE : encE l[i] = iv l[i].kind ++ (iv l[i].client ++ (raw (sb l[i].name) ++ (iv l[i].args.length ++ (rawVs l[i].args ++ raw (encV l[i].res))))) := rfl
  have hEEl : (encE l[i]).length = (iv l[i].kind).length + ((iv l[i].client).length + ((raw (sb l[i].name)).length + ((iv (l[i].args.length : Int)).length + ((rawVs l[i].args).length + (raw (encV l[i].res)).length)))) := by rw [hEE]; simp only [List.length_append]
  obtain ⟨pre, hpre⟩ : ∃ pre, iv (l.length : Int) ++ encEs (l.take i) = pre := ⟨_, rfl⟩
  have hprel : pre.length + (encE l[i]).length ≤ 80000000 := by rw [← hpre, List.length_append]; omega
  have hgoal : iv (l.length : Int) ++ encEs (l.take (i + 1)) = pre ++ encE l[i] := by rw [hsn, ← List.append_assoc, hpre]
  rw [hpre] at hoz
  have hcz := hcw.tr0 hoz.2.1
  refine rx ?_
  refine s_call (refInt l[i].kind z hx.k) rfl ?_
  rintro _ y1 ⟨r1, rfl, hr1⟩
  refine ⟨_, rfl, ?_⟩
  refine s_grow (hoz.old hr1.2.1) rfl hr1.1.src rfl (by omega) (by decide) (fun v1 z1 ho1 _ => ?_)
  have hc1 := hcw.tr0 ho1.2.1
  clear hcz
  refine rx ?_
  refine s_call (refInt l[i].client z1 hx.c) rfl ?_
  rintro _ y2 ⟨r2, rfl, hr2⟩
  refine ⟨_, rfl, ?_⟩
  refine s_grow (ho1.old hr2.2.1) rfl hr2.1.src rfl (by simp only [List.length_append]; omega) (by decide) (fun v2' z2 ho2' _ => ?_)
  have hc2 := hcw.tr0 ho2'.2.1
  clear hc1
  refine rx ?_
  refine s_fromStr rfl (fun cb y3 hcb hsrc hfy3 => ?_)
  have hsrc' : Src y3 (.slice (some ⟨z2.heap.size, 0, none⟩) l[i].name.size cb) (sb l[i].name).length ((sb l[i].name).map (.int .u8)) := by
    rw [sb_len]
    have : (sb l[i].name).map (Value.int .u8) = l[i].name.data.toList.map fun b => .int .u8 b.toNat := by simp [sb]
    rw [this]; exact hsrc
  refine s_call (refRaw _ (sb l[i].name) y3 hsrc' (by rw [sb_len]; omega)) rfl ?_
  rintro _ y4 ⟨r4, rfl, hr4⟩
  refine ⟨_, rfl, ?_⟩
  refine s_grow (ho2'.old (hfy3.trans0 hr4.2.1)) rfl hr4.1.src rfl (by simp only [List.length_append]; omega) (by decide) (fun v4 z4 ho4 _ => ?_)
  have hc4 := hcw.tr0 ho4.2.1
  clear hc2
  refine rx ?_
  refine s_call (refInt l[i].args.length z4 ⟨by omega, by omega⟩) rfl ?_
  rintro _ y5 ⟨r5, rfl, hr5⟩
  refine ⟨_, rfl, ?_⟩
  refine s_grow (ho4.old hr5.2.1) rfl hr5.1.src rfl (by simp only [List.length_append]; omega) (by decide) (fun v5 z5 ho5 _ => ?_)
  obtain ⟨p5, hp5⟩ : ∃ p5, pre ++ iv l[i].kind ++ iv l[i].client ++ raw (sb l[i].name) ++ iv (l[i].args.length : Int) = p5 := ⟨_, rfl⟩
  have hp5l : p5.length + ((rawVs l[i].args).length + (raw (encV l[i].res)).length) ≤ 80000000 := by rw [← hp5]; simp only [List.length_append]; omega
  have hgoal5 : pre ++ encE l[i] = p5 ++ (rawVs l[i].args ++ raw (encV l[i].res)) := by rw [← hp5, hEE]; simp only [List.append_assoc]
  rw [hp5] at ho5
  clear hc4
  refine rx ?_
  refine c_loopK 56 [5, 7] (σ := Nat × Value) (fun st g y => g 7 = .int .i64 st.1 ∧ g 5 = st.2 ∧ st.1 ≤ l[i].args.length ∧ Out w y st.2 (p5 ++ rawVs (l[i].args.take st.1))) (fun st => l[i].args.length - st.1) (0, v5) ⟨rfl, rfl, Nat.zero_le _, by simpa [rawVs] using ho5⟩ ?_
  rintro ⟨k, vk⟩ g y ⟨h7, h5, hk, hoy⟩
  simp only at h7 h5 hk hoy
  rw [eq_upd h7, eq_upd h5]
  have hcy := hcw.tr0 hoy.2.1
  by_cases hkl : k < l[i].args.length
  case neg =>
    refine rx ?_
    obtain ⟨q1, q2, q3⟩ := val_parts hg.res
    have hrs := enc_short hg.res hx.res
    refine s_call (encodeR l[i].res q1 q2 hx.res sr y (hr.tr0 hoy.2.1) (by omega)) rfl ?_
    rintro _ y1 ⟨r1, rfl, hr1⟩
    refine ⟨_, rfl, ?_⟩
    refine s_call (refRaw r1 (encV l[i].res) y1 hr1.1.src (by omega)) rfl ?_
    rintro _ y2 ⟨r2, rfl, hr2⟩
    refine ⟨_, rfl, ?_⟩
    rw [List.take_of_length_le (by omega)] at hoy
    refine s_grow (hoy.old (hr1.2.1.trans0 hr2.2.1)) rfl hr2.1.src rfl (by simp only [List.length_append]; omega) (by decide) (fun v3 y3 ho3 _ => ?_)
    refine rx ?_
    refine q_roundK (i + 1, v3) (by (repeat (first | exact Keep.mrg _ _ _ _ | (refine Keep.hi rfl ?_) | (refine Keep.one rfl ?_) | exact Keep.all rfl | (refine Keep.inn rfl ?_) | (refine Keep.set rfl ?_)))) ⟨rfl, rfl, by simp only; omega, ?_⟩ (by simp only; omega)
    simp only
    rw [hgoal, hgoal5, ← List.append_assoc]
    exact ho3
  obtain ⟨bd, cs, e, ⟨sx, rfl, hxv⟩, hcx⟩ := (ha.tr0 hoy.2.1).sl.at VR.len hkl
  subst e
  have hva := hg.args l[i].args[k] (by simp)
  have hia := hx.args l[i].args[k] (by simp)
  obtain ⟨q1, q2, q3⟩ := val_parts hva
  have hrs := enc_short hva hia
  have hsn2 := rawVs_snoc hkl
  have htl2 := rawVs_take_le l[i].args (k + 1)
  rw [hsn2, List.length_append] at htl2
  refine rx ?_
  refine s_call (encodeR l[i].args[k] q1 q2 hia sx y hxv (by omega)) rfl ?_
  rintro _ y1 ⟨r1, rfl, hr1⟩
  refine ⟨_, rfl, ?_⟩
  refine s_call (refRaw r1 (encV l[i].args[k]) y1 hr1.1.src (by omega)) rfl ?_
  rintro _ y2 ⟨r2, rfl, hr2⟩
  refine ⟨_, rfl, ?_⟩
  refine s_grow (hoy.old (hr1.2.1.trans0 hr2.2.1)) rfl hr2.1.src rfl (by simp only [List.length_append]; omega) (by decide) (fun v3 y3 ho3 _ => ?_)
  refine rx ?_
  refine q_roundK (k + 1, v3) (by (repeat (first | exact Keep.mrg _ _ _ _ | (refine Keep.hi rfl ?_) | (refine Keep.one rfl ?_) | exact Keep.all rfl | (refine Keep.inn rfl ?_) | (refine Keep.set rfl ?_)))) ⟨rfl, rfl, by simp only; omega, ?_⟩ (by simp only; omega)
  simp only
  rw [hsn2, ← List.append_assoc]
  exact ho3
end Go.Proofs.Ytcogpedfnnfnaaa
namespace Go.Proofs.Ytcogpedfnnfnaaa
open Go.Rf Go.RowKit
set_option linter.unusedVariables false
set_option maxHeartbeats 4000000
attribute [local irreducible] Code.wp wpList Exit.then Exit.inBlock bodyPost A Calls execOp Addr.add

theorem IsW.tr0 {w w' : World} {p : Nat} {v : Value} {bs : List Int} (h : IsW w p v bs) (hf : Fr [] w w') : IsW w' p v bs := ⟨h.1.tr0 hf, h.2.tr0 hf⟩
theorem encClo (p : Nat) (vw : Value) (bs : List Int) (v : V) (sl : Value) (w : World) (hw : IsW w p vw bs) (hv : VS w [] v.kids sl) (hok : VOk v) (hI : IntV v) (hval : valV v = 0) (hl : bs.length ≤ 10000000000) :
    Calls Try.prog 60 #[.agg (vc v sl).toArray, .pointer (some ⟨p, 0, none⟩)] w fun r w' => r = .returned (.tuple #[]) ∧ WStep p w vw (bs ++ raw (encV v)) w' := by
  obtain ⟨ao, c, rfl, hc⟩ := hv.slice
  refine enter Try.func60 rfl Try.ntmps60 rfl ?_
  refine rx ?_
  refine s_box rfl rfl (fun w1 hb1 hf1 hs1 => ?_)
  have hb1 : Blk w1 w.heap.size (vc v (.slice ao v.kids.length c)) 44 := hb1
  refine rx ?_
  refine s_call (encodeV v _ w1 (hv.tr0 hf1) hok hI) rfl ?_
  rintro _ w2 ⟨v2, rfl, ho2⟩
  refine ⟨_, rfl, ?_⟩
  unfold encO at ho2
  rw [if_pos hval] at ho2
  have hF2 : Fr [] w w2 := hf1.trans0 ho2.2.1
  have hsh := enc_short hval hI
  refine rx ?_
  refine s_call (wRaw p vw v2 bs (encV v) w2 ho2.1.src (fun ad n' c' e hp hm => ?_) (hw.tr0 hF2) (by omega) (by omega)) rfl ?_
  · have h1 := ho2.2.2 ad.block (by rw [e]; simp [blks, Value.ownBlock])
    rcases List.mem_cons.1 hm with h | h
    · have := hw.1.lt; omega
    · have := hw.2.lt _ h; omega
  rintro _ w3 ⟨rfl, hst⟩
  refine ⟨_, rfl, ?_⟩
  refine rx ?_
  exact end0 rfl ⟨rfl, WStep.trans (hF2.mono (by simp)) (fun k hk => .inl hk) hst⟩

/-- the writer, and a block that it leaves alone -/
structure W3 (w : World) (p N : Nat) (cells : List Value) (t : Nat) (z : World) (vi : Value) (bs : List Int) : Prop where
  isw : IsW z p vi bs
  fr : Fr [] w z
  new : ∀ k ∈ blks vi, w.heap.size ≤ k ∧ k ≠ N
  blk : Blk z N cells t
  pn : p ≠ N
  pw : w.heap.size ≤ p
theorem W3.quiet {w : World} {p N : Nat} {cells : List Value} {t : Nat} {z z1 : World} {vi : Value} {bs : List Int} (h : W3 w p N cells t z vi bs) (hf : Fr [] z z1) : W3 w p N cells t z1 vi bs := ⟨h.isw.tr0 hf, h.fr.trans0 hf, h.new, h.blk.tr0 hf, h.pn, h.pw⟩
theorem W3.step {w : World} {p N : Nat} {cells : List Value} {t : Nat} {z z2 : World} {vi : Value} {bs bs' : List Int} (h : W3 w p N cells t z vi bs) (hst : WStep p z vi bs' z2) : ∃ v', W3 w p N cells t z2 v' bs' := by
  obtain ⟨v', h1, h2, h3⟩ := hst
  have hN := h.blk.lt
  have hz := h.fr.size
  refine ⟨v', h1, h.fr.trans h2 (fun k hk => ?_), fun k hk => ?_, h.blk.tr h2 (fun hm => ?_), h.pn, h.pw⟩
  · rcases List.mem_cons.1 hk with rfl | hk
    · exact .inr h.pw
    · exact .inr (h.new k hk).1
  · rcases h3 k hk with h4 | h4
    · exact h.new k h4
    · omega
  · rcases List.mem_cons.1 hm with h4 | h4
    · exact h.pn h4.symm
    · exact (h.new _ h4).2 rfl

set_option maxRecDepth 4000 in
theorem encodeHC (l : List Ev) (sl : Value) (w : World) (hl : EvS w l sl) (hok : ∀ e ∈ l, EvOk e) (hI : ∀ e ∈ l, InE e) (hb : l.length ≤ 1000000) :
    Calls Try.prog 34 #[sl] w fun r w' => ∃ v', r = .returned (.tuple #[v', .int .i64 (validH l)]) ∧ Out w w' v' (encHO l) := by
  obtain ⟨ao, c, rfl, hc⟩ := Sl.slice hl
  refine enter Try.func34 rfl Try.ntmps34 rfl ?_
  refine rx ?_
  refine s_call (validHC l _ w hl hok hb) rfl ?_
  rintro _ w1 ⟨rfl, hf1⟩
  refine ⟨_, rfl, ?_⟩
  by_cases hval : validH l = 0
  case neg =>
    refine rx ?_
    (apply ret2; exact rfl; (conv => lhs; whnf); (conv => lhs; whnf))
    unfold encHO
    rw [if_neg hval]
    exact ⟨_, rfl, Own.nil _ _ _, hf1, by simp [blks, Value.ownBlock]⟩
  unfold encHO
  rw [if_pos hval, hval]
  obtain ⟨h64, hfm⟩ := valid_fmd hval
  obtain ⟨hEl, hHl⟩ := encH_le hval hI
  refine rx ?_
  refine s_alloc rfl (fun w2 hb2 hf2 hs2 => ?_)
  have hb2 : Blk w2 w1.heap.size [.slice none 0 0] 101 := hb2
  obtain ⟨p, hp⟩ : ∃ p, w1.heap.size = p := ⟨_, rfl⟩
  rw [hp] at hb2 hs2 ⊢
  have hF2 := hf1.trans0 hf2
  have hs1 := hf1.size
  have hw2 : IsW w2 p (.slice none 0 0) [] := ⟨hb2, Own.nil _ _ _⟩
  refine rx ?_
  refine s_makeFunc (a := []) (b := [.pointer (some ⟨p, 0, none⟩)]) rfl rfl ?_
  refine rx ?_
  refine s_call (wInt p (.slice none 0 0) [] l.length w2 (by omega) (by omega) hw2 (by simp)) rfl ?_
  rintro _ w3 ⟨rfl, v3, hw3, hf3, hk3⟩
  refine ⟨_, rfl, ?_⟩
  rw [List.nil_append] at hw3
  have hil := iv_len (n := (l.length : Int)) (by omega) (by omega)
  have hF3 : Fr [] w w3 := hF2.trans hf3 (fun k hk => by simp [blks, Value.ownBlock] at hk; right; omega)
  have hs22 := hF2.size
  refine rx ?_
  refine c_loopK 22 [8, 10] (σ := Nat × Value) (fun st g z => g 22 = .int .i64 st.1 ∧ st.1 ≤ l.length ∧ IsW z p st.2 (iv l.length ++ encEs (l.take st.1)) ∧ Fr [] w z ∧ (∀ k ∈ blks st.2, w.heap.size ≤ k)) (fun st => l.length - st.1) (0, v3)
    ⟨rfl, Nat.zero_le _, by simpa [encEs] using hw3, hF3, fun k hk => by
      rcases hk3 k hk with h | h
      · simp [blks, Value.ownBlock] at h
      · omega⟩ ?_
  rintro ⟨i, vi⟩ g z ⟨h22, hi, hwz, hfz, hkz⟩
  simp only at h22 hi hwz hkz
  rw [eq_upd h22]
  by_cases hlt : i < l.length
  case neg =>
    refine rx ?_
    rw [List.take_of_length_le (by omega)] at hwz
    refine s_call (wDone p vi _ z hwz (by have : (iv (l.length : Int) ++ encEs l).length ≤ 70400010 := hHl; omega)) rfl ?_
    rintro _ z2 ⟨r2, rfl, hr2, hg2, hgk, _⟩
    refine ⟨_, rfl, ?_⟩
    refine rx ?_
    (apply ret2; exact rfl; (conv => lhs; whnf); (conv => lhs; whnf))
    have hsz := hfz.size
    exact ⟨_, rfl, hr2, hfz.trans0 hg2, fun k hk => by have := hgk k hk; omega⟩
  obtain ⟨ad, cs, rfl, ⟨sa, sr, rfl, ha, hr⟩, hcw⟩ := Sl.at hl evLen hlt
  obtain ⟨aa, ca, e, _⟩ := ha.slice
  subst e
  have hx := hI l[i] (by simp)
  have hoke := hok l[i] (by simp)
  have hg := fmd_good (hfm l[i] (by simp))
  have hal := hg.al
  have hnm := hg.nm
  have hsn := encEs_snoc hlt
  have htl := encEs_take_le l (i + 1)
  rw [hsn, List.length_append] at htl
  have hEE : encE l[i] = iv l[i].kind ++ (iv l[i].client ++ (raw (sb l[i].name) ++ (iv l[i].args.length ++ (rawVs l[i].args ++ raw (encV l[i].res))))) := rfl
  have hEEl : (encE l[i]).length = (iv l[i].kind).length + ((iv l[i].client).length + ((raw (sb l[i].name)).length + ((iv (l[i].args.length : Int)).length + ((rawVs l[i].args).length + (raw (encV l[i].res)).length)))) := by rw [hEE]; simp only [List.length_append]
  obtain ⟨pre, hpre⟩ : ∃ pre, iv (l.length : Int) ++ encEs (l.take i) = pre := ⟨_, rfl⟩
  have hprel : pre.length + (encE l[i]).length ≤ 80000000 := by rw [← hpre, List.length_append]; omega
  have hgoal : iv (l.length : Int) ++ encEs (l.take (i + 1)) = pre ++ encE l[i] := by rw [hsn, ← List.append_assoc, hpre]
  rw [hpre] at hwz
  have hcz := hcw.tr0 hfz
  refine rx ?_
  refine s_alloc rfl (fun z1 hbz1 hfz1 hsz1 => ?_)
  refine s_storeAggB rfl rfl hbz1 (evStab.one (w := w) (S := []) ⟨_, sr, rfl, ha, hr⟩) rfl rfl (fun z2 hbz2 hfz2 hsz2 => ?_)
  have hFz2 : Fr [] z z2 := hfz1.trans hfz2 (by simp)
  obtain ⟨N, hN⟩ : ∃ N, z.heap.size = N := ⟨_, rfl⟩
  have hbz2 : Blk z2 z.heap.size (ec l[i] (.slice aa l[i].args.length ca) sr) 61 := hbz2
  rw [hN] at hbz2 ⊢
  have hW : W3 w p N (ec l[i] (.slice aa l[i].args.length ca) sr) 61 z2 vi pre := ⟨hwz.tr0 hFz2, hfz.trans0 hFz2, fun k hk => ⟨hkz k hk, fun e => by have := hwz.2.lt k hk; omega⟩, hbz2, fun e => by have := hwz.1.lt; omega, by omega⟩
  clear hcz hbz2
  have hb0 := hW.blk
  refine rx ?_
  refine s_call (wInt p vi _ l[i].kind z2 hx.k.1 hx.k.2 hW.isw (by omega)) rfl ?_
  rintro _ z3 ⟨rfl, hst⟩
  refine ⟨_, rfl, ?_⟩
  obtain ⟨u3, hW3⟩ := hW.step hst
  clear hb0 hst
  have hb3 := hW3.blk
  refine rx ?_
  refine s_call (wInt p u3 _ l[i].client z3 hx.c.1 hx.c.2 hW3.isw (by simp only [List.length_append]; omega)) rfl ?_
  rintro _ z4 ⟨rfl, hst⟩
  refine ⟨_, rfl, ?_⟩
  obtain ⟨u4, hW4⟩ := hW3.step hst
  clear hb3 hst
  have hb4 := hW4.blk
  refine rx ?_
  refine s_call (wText p u4 _ l[i].name z4 hW4.isw (by simp only [List.length_append]; omega) (by omega)) rfl ?_
  rintro _ z5 ⟨rfl, hst⟩
  refine ⟨_, rfl, ?_⟩
  obtain ⟨u5, hW5⟩ := hW4.step hst
  clear hb4 hst
  have hb5 := hW5.blk
  refine rx ?_
  refine s_call (wInt p u5 _ l[i].args.length z5 (by omega) (by omega) hW5.isw (by simp only [List.length_append]; omega)) rfl ?_
  rintro _ z6 ⟨rfl, hst⟩
  refine ⟨_, rfl, ?_⟩
  obtain ⟨u6, hW6⟩ := hW5.step hst
  clear hb5 hst
  obtain ⟨p5, hp5⟩ : ∃ p5, pre ++ iv l[i].kind ++ iv l[i].client ++ raw (sb l[i].name) ++ iv (l[i].args.length : Int) = p5 := ⟨_, rfl⟩
  have hp5l : p5.length + ((rawVs l[i].args).length + (raw (encV l[i].res)).length) ≤ 80000000 := by rw [← hp5]; simp only [List.length_append]; omega
  have hgoal5 : pre ++ encE l[i] = p5 ++ (rawVs l[i].args ++ raw (encV l[i].res)) := by rw [← hp5, hEE]; simp only [List.append_assoc]
  rw [hp5] at hW6
  have hb6 := hW6.blk
  refine rx ?_
  refine c_loopK 42 [10] (σ := Nat × Value) (fun st g y => g 42 = .int .i64 st.1 ∧ st.1 ≤ l[i].args.length ∧ W3 w p N (ec l[i] (.slice aa l[i].args.length ca) sr) 61 y st.2 (p5 ++ rawVs (l[i].args.take st.1))) (fun st => l[i].args.length - st.1) (0, u6) ⟨rfl, Nat.zero_le _, by simpa [rawVs] using hW6⟩ ?_
  rintro ⟨k, vk⟩ g y ⟨h42, hk, hWy⟩
  simp only at h42 hk hWy
  rw [eq_upd h42]
  clear hb6
  have hby := hWy.blk
  by_cases hkl : k < l[i].args.length
  case neg =>
    rw [List.take_of_length_le (by omega)] at hWy
    have hrs := enc_short hg.res hx.res
    refine rx ?_
    refine s_callV (first := []) (cap := [.pointer (some ⟨p, 0, none⟩)]) (encClo p vk _ l[i].res sr y hWy.isw (hr.tr0 hWy.fr) hoke.res hx.res hg.res (by simp only [List.length_append]; omega)) rfl rfl rfl ?_
    rintro _ y2 ⟨rfl, hst⟩
    refine ⟨_, rfl, ?_⟩
    obtain ⟨u7, hW7⟩ := hWy.step hst
    refine rx ?_
    refine q_roundK (i + 1, u7) (by (repeat (first | exact Keep.mrg _ _ _ _ | (refine Keep.hi rfl ?_) | (refine Keep.one rfl ?_) | exact Keep.all rfl | (refine Keep.inn rfl ?_) | (refine Keep.set rfl ?_)))) ⟨rfl, by simp only; omega, ?_, hW7.fr, fun k hk => (hW7.new k hk).1⟩ (by simp only; omega)
    simp only
    rw [hgoal, hgoal5, ← List.append_assoc]
    exact hW7.isw
  obtain ⟨bd, cs, e, ⟨sx, rfl, hxv⟩, hcx⟩ := (ha.tr0 hWy.fr).sl.at VR.len hkl
  subst e
  have hva := hg.args l[i].args[k] (by simp)
  have hia := hx.args l[i].args[k] (by simp)
  have hrs := enc_short hva hia
  have hsn2 := rawVs_snoc hkl
  have htl2 := rawVs_take_le l[i].args (k + 1)
  rw [hsn2, List.length_append] at htl2
  refine rx ?_
  refine s_alloc rfl (fun y1 hby1 hfy1 hsy1 => ?_)
  refine s_storeAggB rfl rfl hby1 (VR.mem1 (w := y) (S := []) l[i].args[k] _ ⟨sx, rfl, hxv⟩) rfl rfl (fun y2 hby2 hfy2 hsy2 => ?_)
  have hFy2 : Fr [] y y2 := hfy1.trans hfy2 (by simp)
  have hby2 : Blk y2 y.heap.size (vc l[i].args[k] sx) 44 := hby2
  have hWy2 := hWy.quiet hFy2
  clear hby
  refine rx ?_
  refine s_callV (first := []) (cap := [.pointer (some ⟨p, 0, none⟩)]) (encClo p vk _ l[i].args[k] sx y2 hWy2.isw (hxv.tr0 hFy2) (hoke.args _ (by simp)) hia hva (by simp only [List.length_append]; omega)) rfl rfl rfl ?_
  rintro _ y3 ⟨rfl, hst⟩
  refine ⟨_, rfl, ?_⟩
  obtain ⟨u7, hW7⟩ := hWy2.step hst
  refine rx ?_
  refine q_roundK (k + 1, u7) (by (repeat (first | exact Keep.mrg _ _ _ _ | (refine Keep.hi rfl ?_) | (refine Keep.one rfl ?_) | exact Keep.all rfl | (refine Keep.inn rfl ?_) | (refine Keep.set rfl ?_)))) ⟨rfl, by simp only; omega, ?_⟩ (by simp only; omega)
  simp only
  rw [hsn2, ← List.append_assoc]
  exact hW7
end Go.Proofs.Ytcogpedfnnfnaaa
