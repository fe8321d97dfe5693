/-
  The reference of trees: Valid.
-/
import Derived.Test.YtpochcchekoonaaGreatA3
namespace Go.Proofs.YtpochcchekoonaaGreat
open Go.Rf Go.RowKit
set_option linter.unusedVariables false
set_option linter.unusedSimpArgs false
attribute [local irreducible] Code.wp wpList Exit.then Exit.inBlock bodyPost A Calls execOp Addr.add
def lensT (p : List Nd) : List Int := p.foldl (fun ls x => ls ++ [lenN ls x]) []
def sizsT (p : List Nd) : List Int := p.foldl (fun ls x => ls ++ [sizN ls x]) []
theorem lensT_snoc (p : List Nd) (x : Nd) : lensT (p ++ [x]) = lensT p ++ [lenN (lensT p) x] := by unfold lensT; rw [List.foldl_append]; rfl
theorem sizsT_snoc (p : List Nd) (x : Nd) : sizsT (p ++ [x]) = sizsT p ++ [sizN (sizsT p) x] := by unfold sizsT; rw [List.foldl_append]; rfl
theorem lensT_len (p : List Nd) : (lensT p).length = p.length := by
  refine snocInd (P := fun p => (lensT p).length = p.length) rfl (fun p x ih => ?_) p
  rw [lensT_snoc, List.length_append, ih]; simp
theorem sizsT_len (p : List Nd) : (sizsT p).length = p.length := by
  refine snocInd (P := fun p => (sizsT p).length = p.length) rfl (fun p x ih => ?_) p
  rw [sizsT_snoc, List.length_append, ih]; simp
theorem lenN_nonneg {ls : List Int} {x : Nd} {m : Int} (h : LsOk ls x m) : 0 ≤ lenN ls x := by
  have h1 := sumI_bd (h.all (l := x.kids) (fun k hk => hk))
  have h2 : 0 ≤ mst ls x.kind x.kids := maxI_nonneg _
  have h3 : 0 ≤ (x.kids.map (kd ls)).headD 0 := by
    rcases hk : x.kids.map (kd ls) with _ | ⟨a, r⟩
    · simp
    · exact (h.all (l := x.kids) (fun k hk => hk) a (by rw [hk]; simp)).1
  unfold lenN
  repeat' split
  all_goals omega
theorem sizN_nonneg {ls : List Int} {x : Nd} {m : Int} (h : LsOk ls x m) : 0 ≤ sizN ls x := by
  have h1 := sumI_bd (h.all (l := x.kids) (fun k hk => hk))
  have h2 : 0 ≤ mst ls x.kind x.kids := maxI_nonneg _
  unfold sizN
  repeat' split
  all_goals omega
def stepE (p : List Nd) (x : Nd) : Int :=
  if nodeE p.length x ≠ 0 then nodeE p.length x else if 256 < lenN (lensT p) x ∨ 1024 < sizN (sizsT p) x then 4 else if x.kind = 4 then bndE (lstAt (setsT p) (x.kids.headD 0)) x.vals else 0
def valGo (p : List Nd) : List Nd → Int
  | [] => 0
  | x :: r => if stepE p x ≠ 0 then stepE p x else valGo (p ++ [x]) r
def validT (t : List Nd) : Int := if 4096 < t.length then 4 else valGo [] t
theorem nodeE_zero {i : Int} {x : Nd} (h : nodeE i x = 0) : formN i x = true ∧ frsE (ownV x) = 0 ∧ numsN x = true := by
  unfold nodeE at h
  split at h
  · omega
  · rename_i h1
    split at h
    · rename_i h2; exact absurd h h2
    · rename_i h2
      split at h
      · omega
      · rename_i h3
        exact ⟨by simpa using h1, by simpa using h2, by simpa using h3⟩
/-- what is known of the nodes that were checked -/
structure Chk (t : List Nd) (n : Nat) : Prop where
  wf : Wf t n
  len : ∀ a ∈ lensT (t.take n), 0 ≤ a ∧ a ≤ 256
  siz : ∀ a ∈ sizsT (t.take n), 0 ≤ a ∧ a ≤ 1024
theorem Chk.lok {t : List Nd} {n : Nat} (h : Chk t n) (hn : n < t.length) (hf : formN n t[n] = true) : LsOk (lensT (t.take n)) t[n] 100000 := by
  refine ⟨fun k hk => ?_, fun a ha => ?_⟩
  · have := formN_kids hf k hk
    rw [lensT_len, List.length_take]; omega
  · have := h.len a ha; omega
theorem Chk.sok {t : List Nd} {n : Nat} (h : Chk t n) (hn : n < t.length) (hf : formN n t[n] = true) : LsOk (sizsT (t.take n)) t[n] 100000 := by
  refine ⟨fun k hk => ?_, fun a ha => ?_⟩
  · have := formN_kids hf k hk
    rw [sizsT_len, List.length_take]; omega
  · have := h.siz a ha; omega
theorem Wf.succ {t : List Nd} {n : Nat} (h : Wf t n) (hn : n < t.length) (hf : formN n t[n] = true) (hm : numsN t[n] = true) : Wf t (n + 1) := by
  intro i hi hlt
  by_cases e : i = n
  · subst e; exact ⟨hf, hm⟩
  · exact h i hi (by omega)
theorem Chk.succ {t : List Nd} {n : Nat} (h : Chk t n) (hn : n < t.length) (hf : formN n t[n] = true) (hm : numsN t[n] = true) (h1 : lenN (lensT (t.take n)) t[n] ≤ 256) (h2 : sizN (sizsT (t.take n)) t[n] ≤ 1024) : Chk t (n + 1) := by
  refine ⟨h.wf.succ hn hf hm, ?_, ?_⟩
  · rw [List.take_succ_eq_append_getElem hn, lensT_snoc]
    intro a ha
    rcases List.mem_append.1 ha with ha | ha
    · exact h.len a ha
    · rw [List.mem_singleton.1 ha]; exact ⟨lenN_nonneg (h.lok hn hf), h1⟩
  · rw [List.take_succ_eq_append_getElem hn, sizsT_snoc]
    intro a ha
    rcases List.mem_append.1 ha with ha | ha
    · exact h.siz a ha
    · rw [List.mem_singleton.1 ha]; exact ⟨sizN_nonneg (h.sok hn hf), h2⟩

theorem headD_get {l : List Int} (h : 0 < l.length) : l.headD 0 = l[0] := by
  cases l with
  | nil => simp at h
  | cons a l => rfl
theorem valGo_drop {t : List Nd} {i : Nat} (h : i < t.length) : valGo (t.take i) (t.drop i) = if stepE (t.take i) t[i] ≠ 0 then stepE (t.take i) t[i] else valGo (t.take (i + 1)) (t.drop (i + 1)) := by
  rw [List.drop_eq_getElem_cons h, valGo, List.take_succ_eq_append_getElem h]
set_option maxHeartbeats 16000000 in
theorem validRT (t : List Nd) (st : Value) (w : World) (ht : NS w [] t st) (hok : ∀ x ∈ t, NdOk x) (hl : t.length ≤ 1000000) :
    Calls Tryz.prog 31 #[.agg #[st]] w fun e w' => e = .returned (.int .i64 (validT t)) ∧ Fr [] w w' := by
  obtain ⟨as_, cs_, rfl, _⟩ := ht.slice
  refine enter Tryz.func31 rfl Tryz.ntmps31 rfl ?_
  refine rx ?_
  refine s_box (l := [.slice as_ t.length cs_]) rfl rfl (fun w1 hb1 hf1 hs1 => ?_)
  by_cases hbig : 4096 < t.length
  · refine rx ?_
    (apply ret1; exact rfl; (conv => lhs; whnf))
    exact ⟨by unfold validT; rw [if_pos hbig], hf1⟩
  have hvt : validT t = valGo [] t := by unfold validT; rw [if_neg hbig]
  refine rx ?_
  refine c_loopK 8 [3, 4, 5, 6, 7] (σ := Nat × Value × Value) (fun s g u => g 5 = .int .i64 (s.1 : Nat) ∧ g 3 = s.2.1 ∧ g 4 = s.2.2 ∧ s.1 ≤ t.length ∧ validT t = valGo (t.take s.1) (t.drop s.1) ∧ Chk t s.1 ∧ Own u 3 1 s.2.1 (lensT (t.take s.1)).length ((lensT (t.take s.1)).map (.int .i64)) ∧ Own u 3 1 s.2.2 (sizsT (t.take s.1)).length ((sizsT (t.take s.1)).map (.int .i64)) ∧ (∀ b ∈ blks s.2.1, w1.heap.size ≤ b) ∧ (∀ b ∈ blks s.2.2, w1.heap.size ≤ b) ∧ (∀ b ∈ blks s.2.1, b ∉ blks s.2.2) ∧ Fr [] w1 u) (fun s => t.length - s.1) (0, .slice none 0 0, .slice none 0 0) ⟨rfl, rfl, rfl, Nat.zero_le _, hvt, ⟨fun i h h' => absurd h' (by simp), by simp [lensT], by simp [sizsT]⟩, Own.nil _ _ _, Own.nil _ _ _, fun b hb => fresh0 hb, fun b hb => fresh0 hb, fun b hb => by simp [blks, Value.ownBlock] at hb, Fr.refl _ _⟩ ?_
  rintro ⟨i, v3, v4⟩ g u ⟨h5, h3, h4, hi, hgo, hchk, ho3, ho4, hk3, hk4, hdis, hfu⟩
  simp only at h5 h3 h4 hi hgo hchk ho3 ho4 hk3 hk4 hdis
  rw [eq_upd h3, eq_upd h4, eq_upd h5]
  have hb1u := hb1.tr0 hfu
  have hFu := hf1.trans0 hfu
  by_cases hlt : i < t.length
  case neg =>
    refine rx ?_
    (apply ret1; exact rfl; (conv => lhs; whnf))
    refine ⟨?_, hFu⟩
    rw [hgo, List.drop_eq_nil_of_le (by omega), valGo]
  obtain ⟨ad, cs1, rfl, ⟨sw, sl, sv, sk, sx, rfl, hw, hla, hv, hk, hx⟩, hcell1⟩ := Sl.at ht ndLen hlt
  have hcell := hcell1.tr0 hFu
  have hokx := hok t[i] (by simp)
  have hlp : (t.take i).length = i := by rw [List.length_take]; omega
  have hst : stepE (t.take i) t[i] = stepE (t.take i) t[i] := rfl
  rw [valGo_drop hlt] at hgo
  conv at hst => rhs; unfold stepE
  rw [hlp] at hst
  have h1c : ∀ u ∈ nc t[i] sw sl sv sk sx, u.oneCell' = true := ndStab.one (w := w) (S := []) ⟨sw, sl, sv, sk, sx, rfl, hw, hla, hv, hk, hx⟩
  refine rx ?_
  refine s_alloc rfl (fun u1 hb7 hf7 hs7 => ?_)
  refine s_storeAggB (cs := nc t[i] sw sl sv sk sx) rfl rfl hb7 h1c rfl rfl (fun u2 hb8 hf8 hs8 => ?_)
  have hF8 : Fr [] u u2 := (hf7.mono (by simp)).trans hf8 (by simp)
  replace hb8 : Blk u2 u.heap.size (nc t[i] sw sl sv sk sx) 36 := hb8
  clear hb7 hf7 hf8
  have hF2 := hFu.trans0 hF8
  refine rx ?_
  refine s_call (nodeC i t[i] sw sl sv sk sx u2 hokx (hw.tr0 hF2) (hla.tr0 hF2) (hv.tr0 hF2) (hk.tr0 hF2) (hx.tr0 hF2)) rfl ?_
  rintro _ u3 ⟨rfl, hf3⟩
  refine ⟨_, rfl, ?_⟩
  have hF3 := hF2.trans0 hf3
  have hFu3 := hF8.trans0 hf3
  have hb83 := hb8.tr0 hf3
  by_cases hne : nodeE i t[i] = 0
  case neg =>
    rw [if_pos hne] at hst
    refine rx ?_
    (apply ret1; exact rfl; (conv => lhs; whnf))
    refine ⟨?_, hF3⟩
    rw [hgo, hst, if_pos hne]
  rw [if_neg (by simpa using hne)] at hst
  obtain ⟨hfo, hfe, hnm⟩ := nodeE_zero hne
  have hlL := lensT_len (t.take i)
  have hlS := sizsT_len (t.take i)
  rw [hlp] at hlL hlS
  have hlok := hchk.lok hlt hfo
  have hsok := hchk.sok hlt hfo
  have hkd := formN_kind hfo
  have hb4 : t[i].kind = 4 → 0 < t[i].kids.length := fun h => by have := formN_bind hfo h; omega
  have hlt3 := ho3.lt
  have hlt4 := ho4.lt
  have hsz3 := hFu3.size
  have hnL : lensT (t.take (i + 1)) = lensT (t.take i) ++ [lenN (lensT (t.take i)) t[i]] := by rw [List.take_succ_eq_append_getElem hlt, lensT_snoc]
  have hnS : sizsT (t.take (i + 1)) = sizsT (t.take i) ++ [sizN (sizsT (t.take i)) t[i]] := by rw [List.take_succ_eq_append_getElem hlt, sizsT_snoc]
  have hsuc := hchk.succ hlt hfo hnm
  generalize lensT (t.take i) = LL at ho3 hlL hlok hnL hsuc hst
  generalize sizsT (t.take i) = SS at ho4 hlS hsok hnS hsuc hst
  refine rx ?_
  refine s_call (lengthsC LL t[i] v3 sw sl sv sk sx u3 hokx hlok (by omega) hkd hb4 (ho3.tr0 hFu3) (hk.tr0 hF3)) rfl ?_
  rintro _ u4 ⟨v3', rfl, ho3', hk3', hf4⟩
  refine ⟨_, rfl, ?_⟩
  have hsz4 := hf4.size
  have hF4 : Fr [] w1 u4 := (hfu.trans0 hFu3).trans hf4 (fun b hb => .inr (hk3 b hb))
  have hFw4 := hf1.trans0 hF4
  have hb84 := hb83.tr hf4 (fun hm => by have := hlt3 _ hm; omega)
  have ho44 := (ho4.tr0 hFu3).tr hf4 (fun b hb hm => hdis b hm hb)
  refine rx ?_
  refine s_call (sizesC SS t[i] v4 sw sl sv sk sx u4 hokx hsok (by omega) hkd ho44 (hk.tr0 hFw4) (hx.tr0 hFw4)) rfl ?_
  rintro _ u5 ⟨v4', rfl, ho4', hk4', hf5⟩
  refine ⟨_, rfl, ?_⟩
  have hsz5 := hf5.size
  have hF5 : Fr [] w1 u5 := hF4.trans hf5 (fun b hb => .inr (hk4 b hb))
  have hFw5 := hf1.trans0 hF5
  have hb85 := hb84.tr hf5 (fun hm => by have := hlt4 _ hm; omega)
  have hd34 : ∀ b ∈ blks v3', b ∉ blks v4 := fun b hb hm => by
    rcases hk3' b hb with h | h
    · exact hdis b h hm
    · have := hlt4 b hm; omega
  have hltv3 := ho3'.lt
  have ho35 := ho3'.tr hf5 hd34
  have hd5 : ∀ b ∈ blks v3', b ∉ blks v4' := fun b hb hm => by
    rcases hk4' b hm with h | h
    · exact hd34 b hb h
    · have := hltv3 b hb; omega
  have hiL : IS u5 [] (LL ++ [lenN LL t[i]]) v3' := Ls.ofSrc (by rw [List.length_append]; exact ho35.src)
  have hiS : IS u5 [] (SS ++ [sizN SS t[i]]) v4' := Ls.ofSrc (by rw [List.length_append]; exact ho4'.src)
  obtain ⟨a3, c3, rfl⟩ := ho3'.slice
  obtain ⟨a4, c4, rfl⟩ := ho4'.slice
  obtain ⟨ad3, rfl, hc3⟩ := Ls.at hiL (i := i) (by rw [List.length_append]; simp; omega)
  obtain ⟨ad4, rfl, hc4⟩ := Ls.at hiS (i := i) (by rw [List.length_append]; simp; omega)
  have e3 : (LL ++ [lenN LL t[i]])[i]'(by rw [List.length_append]; simp; omega) = lenN LL t[i] := by rw [List.getElem_append_right (by omega)]; simp
  have e4 : (SS ++ [sizN SS t[i]])[i]'(by rw [List.length_append]; simp; omega) = sizN SS t[i] := by rw [List.getElem_append_right (by omega)]; simp
  rw [e3] at hc3
  rw [e4] at hc4
  have hb15 := hb1.tr0 hF5
  refine rx ?_
  rw [Nat.mul_one]
  refine s_load rfl hc3 ?_
  by_cases hbg : 256 < lenN LL t[i] ∨ 1024 < sizN SS t[i]
  · rw [if_pos hbg] at hst
    by_cases hb3 : 256 < lenN LL t[i]
    · refine rx ?_
      (apply ret1; exact rfl; (conv => lhs; whnf))
      exact ⟨by rw [hgo, hst]; rfl, hFw5⟩
    · refine rx ?_
      rw [Nat.mul_one]
      refine s_load rfl hc4 ?_
      refine rx ?_
      (apply ret1; exact rfl; (conv => lhs; whnf))
      exact ⟨by rw [hgo, hst]; rfl, hFw5⟩
  rw [if_neg hbg] at hst
  have hsc := hsuc (by omega) (by omega)
  have hkf3 : ∀ b ∈ blks (.slice (some ad3) (LL.length + 1) c3), w1.heap.size ≤ b := fun b hb => by
    rcases hk3' b hb with h | h
    · exact hk3 b h
    · have := (hfu.trans0 hFu3).size; omega
  have hkf4 : ∀ b ∈ blks (.slice (some ad4) (SS.length + 1) c4), w1.heap.size ≤ b := fun b hb => by
    rcases hk4' b hb with h | h
    · exact hk4 b h
    · have := hF4.size; omega
  refine rx ?_
  rw [Nat.mul_one]
  refine s_load rfl hc4 ?_
  by_cases k4 : t[i].kind = 4
  case neg =>
    rw [if_neg k4] at hst
    rw [hst, if_neg (by simp)] at hgo
    refine rx ?_
    exact q_roundK (i + 1, .slice (some ad3) (LL.length + 1) c3, .slice (some ad4) (SS.length + 1) c4) (by (repeat (first | exact Keep.mrg _ _ _ _ | (refine Keep.hi rfl ?_) | (refine Keep.one rfl ?_) | exact Keep.all rfl | (refine Keep.inn rfl ?_) | (refine Keep.set rfl ?_)))) ⟨rfl, rfl, rfl, by simp only; omega, hgo, hsc, by simp only; rw [hnL, List.length_append]; exact ho35, by simp only; rw [hnS, List.length_append]; exact ho4', hkf3, hkf4, hd5, hF5⟩ (by simp only; omega)
  rw [if_pos k4] at hst
  have h0 := hb4 k4
  have hkr := formN_kids hfo t[i].kids[0] (by simp)
  obtain ⟨k, hk0⟩ : ∃ k : Nat, t[i].kids[0] = (k : Int) := ⟨t[i].kids[0].toNat, by omega⟩
  have hki : k < i := by omega
  have ehd : t[i].kids.headD 0 = (k : Int) := by rw [← hk0]; exact headD_get h0
  have hle : lstAt (setsT (t.take i)) (t[i].kids.headD 0) = setN (setsT (t.take k)) (t[k]'(by omega)) := by
    rw [ehd]
    unfold lstAt
    rw [Int.toNat_natCast, List.getD, setsT_get hki (by omega)]; rfl
  rw [hle] at hst
  have hwk : Wf t (k + 1) := fun j hj hjk => hchk.wf j hj (by omega)
  refine rx ?_
  refine s_call (boundC t t[i] k _ sw sl sv sk sx u5 (ht.tr0 hFw5) hok (by omega) hl hwk h0 hk0 (hk.tr0 hFw5) (hv.tr0 hFw5)) rfl ?_
  rintro _ u6 ⟨rfl, hf6⟩
  refine ⟨_, rfl, ?_⟩
  rw [← hst]
  by_cases hz : stepE (t.take i) t[i] = 0
  · rw [if_neg (by simpa using hz)] at hgo
    refine rx ?_
    exact q_roundK (i + 1, .slice (some ad3) (LL.length + 1) c3, .slice (some ad4) (SS.length + 1) c4) (by (repeat (first | exact Keep.mrg _ _ _ _ | (refine Keep.hi rfl ?_) | (refine Keep.one rfl ?_) | exact Keep.all rfl | (refine Keep.inn rfl ?_) | (refine Keep.set rfl ?_)))) ⟨rfl, rfl, rfl, by simp only; omega, hgo, hsc, by simp only; rw [hnL, List.length_append]; exact ho35.tr0 hf6, by simp only; rw [hnS, List.length_append]; exact ho4'.tr0 hf6, hkf3, hkf4, hd5, hF5.trans0 hf6⟩ (by simp only; omega)
  · rw [if_pos hz] at hgo
    refine rx ?_
    (apply ret1; exact rfl; (conv => lhs; whnf))
    exact ⟨by rw [hgo], hFw5.trans0 hf6⟩
end Go.Proofs.YtpochcchekoonaaGreat
