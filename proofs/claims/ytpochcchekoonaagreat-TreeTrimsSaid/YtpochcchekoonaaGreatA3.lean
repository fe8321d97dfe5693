/-
  The reference of trees: Lists, Values, bound. The reference of trees: Values, bound. The reference of trees: bound.
-/
import Derived.Test.YtpochcchekoonaaGreatTi
namespace Go.Proofs.YtpochcchekoonaaGreat
open Go.Rf Go.RowKit
set_option linter.unusedVariables false
set_option linter.unusedSimpArgs false
attribute [local irreducible] Code.wp wpList Exit.then Exit.inBlock bodyPost A Calls execOp Addr.add
theorem snocInd {α : Type} {P : List α → Prop} (h0 : P []) (hs : ∀ p x, P p → P (p ++ [x])) (l : List α) : P l := by
  have : ∀ l : List α, P l.reverse := fun l => by
    induction l with
    | nil => exact h0
    | cons a l ih => rw [List.reverse_cons]; exact hs _ _ ih
  simpa using this l.reverse
def setsT (p : List Nd) : List (Option (List V)) := p.foldl (fun ls x => ls ++ [setN ls x]) []
theorem setsT_snoc (p : List Nd) (x : Nd) : setsT (p ++ [x]) = setsT p ++ [setN (setsT p) x] := by unfold setsT; rw [List.foldl_append]; rfl
theorem setsT_len (p : List Nd) : (setsT p).length = p.length := by
  refine snocInd (P := fun p => (setsT p).length = p.length) rfl (fun p x ih => ?_) p
  rw [setsT_snoc, List.length_append, ih]; simp
theorem setsT_take {t : List Nd} {i : Nat} (h : i < t.length) : setsT (t.take (i + 1)) = setsT (t.take i) ++ [setN (setsT (t.take i)) t[i]] := by rw [List.take_succ_eq_append_getElem h, setsT_snoc]
theorem seqGo_len {ls : List (Option (List V))} : ∀ (ks : List Int) (rows : List (List V)), rows.length ≤ 1024 → ∀ r, seqGo ls ks rows = some r → r.length ≤ 1024
  | [], rows, h, r, e => by simp only [seqGo, Option.some.injEq] at e; rw [← e]; exact h
  | k :: ks, rows, h, r, e => by
    simp only [seqGo] at e
    split at e
    · cases e
    · rename_i l _
      by_cases hb : 1024 < rows.length * l.length
      · rw [if_pos hb] at e; cases e
      · rw [if_neg hb] at e
        exact seqGo_len ks _ (by rw [prodS_len]; omega) r e
theorem uniGo_len {ls : List (Option (List V))} : ∀ (ks : List Int) (out : List V) (m : Bool), (m = false → out.length ≤ 1024) → (uniGo ls ks out m).2 = false → (uniGo ls ks out m).1.length ≤ 1024
  | [], out, m, h, e => by simp only [uniGo] at e ⊢; exact h e
  | k :: ks, out, m, h, e => by
    simp only [uniGo] at e ⊢
    refine uniGo_len ks _ _ (fun hm => ?_) e
    simp only [Bool.or_eq_false_iff, decide_eq_false_iff_not] at hm
    omega
theorem setN_len {ls : List (Option (List V))} {x : Nd} {l : List V} (h : setN ls x = some l) : l.length ≤ 1024 := by
  unfold setN at h
  split at h
  · cases h; simp
  split at h
  · split at h
    · cases h
    · cases h; rw [rngV_len]; omega
  split at h
  · unfold seqN at h
    obtain ⟨rows, hr, rfl⟩ := Option.map_eq_some_iff.1 h
    have h1 := seqGo_len _ _ (by simp) _ hr
    have h2 := srtV_len (rows.map (madeV x))
    rw [List.length_map] at h2
    omega
  · unfold uniN at h
    split at h
    · cases h
    · rename_i hm
      cases h
      exact uniGo_len _ _ _ (by simp) (by simpa using hm)
theorem setsT_mem {p : List Nd} {l : List V} (h : some l ∈ setsT p) : l.length ≤ 1024 := by
  revert h
  refine snocInd (P := fun p => some l ∈ setsT p → l.length ≤ 1024) (fun h => by simp [setsT] at h) (fun p x ih h => ?_) p
  rw [setsT_snoc] at h
  rcases List.mem_append.1 h with h | h
  · exact ih h
  · exact setN_len (List.mem_singleton.1 h).symm
/-- the first n nodes are well formed -/
def Wf (t : List Nd) (n : Nat) : Prop := ∀ i (h : i < t.length), i < n → formN i t[i] = true ∧ numsN t[i] = true
theorem formN_kids {i : Int} {x : Nd} (h : formN i x = true) : ∀ k ∈ x.kids, 0 ≤ k ∧ k < i := by
  unfold formN at h
  simp only [Bool.and_eq_true, List.all_eq_true] at h
  exact fun k hk => of_decide_eq_true (h.2.2.1 k hk)
theorem formN_kind {i : Int} {x : Nd} (h : formN i x = true) : 0 ≤ x.kind ∧ x.kind ≤ 4 := by
  unfold formN at h
  simp only [Bool.and_eq_true] at h
  exact of_decide_eq_true h.2.1
theorem formN_bind {i : Int} {x : Nd} (h : formN i x = true) (h4 : x.kind = 4) : x.kids.length = x.vals.length + 1 := by
  unfold formN at h
  simp only [Bool.and_eq_true] at h
  exact (of_decide_eq_true h.2.2.2.1).2.2 h4
theorem Wf.bf {t : List Nd} {n i : Nat} (h : Wf t n) (hi : i < t.length) (hn : i < n) : BfOk (setsT (t.take i)) t[i] := by
  have h1 := formN_kids (h i hi hn).1
  refine ⟨fun k hk => ?_, fun l hl => setsT_mem hl⟩
  have := h1 k hk
  rw [setsT_len, List.length_take]
  omega

set_option maxHeartbeats 8000000 in
theorem listsC (t : List Nd) (n : Nat) (st : Value) (w : World) (ht : NS w [] t st) (hok : ∀ x ∈ t, NdOk x) (hn : n ≤ t.length) (hl : t.length ≤ 1000000) (hwf : Wf t n) :
    Calls Tryz.prog 107 #[.agg #[st], .int .i64 n] w fun e w' => ∃ v, e = .returned v ∧ OwnR w' 161 2 LstR (setsT (t.take n)) v ∧ Fr [] w w' := by
  obtain ⟨as_, cs_, rfl, _⟩ := ht.slice
  refine enter Tryz.func107 rfl Tryz.ntmps107 rfl ?_
  refine rx ?_
  refine s_box (l := [.slice as_ t.length cs_]) rfl rfl (fun w1 hb1 hf1 hs1 => ?_)
  refine rx ?_
  refine c_loopK 7 [5, 6] (σ := Nat × Value) (fun s g u => g 6 = .int .i64 (s.1 : Nat) ∧ g 5 = s.2 ∧ s.1 ≤ n ∧ OwnR u 161 2 LstR (setsT (t.take s.1)) s.2 ∧ (∀ b ∈ blks s.2, w1.heap.size ≤ b) ∧ Fr [] w1 u) (fun s => n - s.1) (0, .slice none 0 0) ⟨rfl, rfl, Nat.zero_le _, OwnR.nil _ _ _ _, fun b hb => fresh0 hb, Fr.refl _ _⟩ ?_
  rintro ⟨i, v⟩ g u ⟨h6, h5, hi, ho, hkv, hfu⟩
  simp only at h6 h5 hi ho hkv
  obtain ⟨av, cv, rfl⟩ := ho.slice
  rw [eq_upd h5, eq_upd h6]
  have hb1u := hb1.tr0 hfu
  have hFu := hf1.trans0 hfu
  have hszu := hfu.size
  by_cases hlt : i < n
  case neg =>
    refine rx ?_
    (apply ret1; exact rfl; (conv => lhs; whnf))
    have e : i = n := by omega
    subst e
    exact ⟨_, rfl, ho, hFu⟩
  have hlt' : i < t.length := by omega
  obtain ⟨ad, cs1, rfl, ⟨sw, sl, sv, sk, sx, rfl, hw, hla, hv, hk, hx⟩, hcell1⟩ := Sl.at ht ndLen hlt'
  replace hcell1 := hcell1.tr0 hFu
  have hsl := setsT_len (t.take i)
  have hsl2 : (setsT (t.take i)).length ≤ 1000000 := by rw [hsl, List.length_take]; omega
  have hnx := setsT_take hlt'
  have hbf := hwf.bf hlt' hlt
  have hfo := hwf i hlt' hlt
  generalize setsT (t.take i) = ls at ho hkv hsl2 hnx hbf
  have hltv := ho.lt
  have hsb : Sl u [] (LstR u (blks (.slice av ls.length cv))) ls (.slice av ls.length cv) := by
    obtain ⟨ys, h1, h2⟩ := ho
    exact ⟨ys, h1.src, fun _ _ _ _ _ => by simp, h2⟩
  refine rx ?_
  refine s_call (listC t[i] ls sw sl sv sk sx _ u (blks (.slice av ls.length cv)) hltv (hok _ (by simp)) hbf (formN_kind hfo.1) hfo.2 (hk.tr0 hFu) hsb ((hx.mono (fun b hb => .inr (by have := hkv b hb; omega))).tr0 hFu)) rfl ?_
  rintro _ u1 ⟨s', rfl, hvs, hf2⟩
  refine ⟨_, rfl, ?_⟩
  obtain ⟨a', c', rfl, _⟩ := hvs.slice
  have hsz1 := hf2.size
  refine s_pushA (R := LstR) (a := setN ls t[i]) (cs := lc (setN ls t[i]) (.slice a' ((setN ls t[i]).getD []).length c')) (ho.tr0 lstStab hf2) lstStab rfl rfl rfl ⟨_, rfl, hvs⟩ rfl rfl rfl (by unfold maxLen; omega) (by omega) (fun v2 u2 ho2 hf3 hk3 => ?_)
  refine rx ?_
  refine q_roundK (i + 1, v2) (by (repeat (first | exact Keep.mrg _ _ _ _ | (refine Keep.hi rfl ?_) | (refine Keep.one rfl ?_) | exact Keep.all rfl | (refine Keep.inn rfl ?_) | (refine Keep.set rfl ?_)))) ⟨rfl, rfl, by simp only; omega, (by simp only; rw [hnx]; exact ho2), fun b hb => ?_, (hfu.trans0 hf2).trans hf3 (fun b hb => .inr (hkv b hb))⟩ (by simp only; omega)
  rcases hk3 b hb with h | h
  · exact hkv b h
  · omega
end Go.Proofs.YtpochcchekoonaaGreat
namespace Go.Proofs.YtpochcchekoonaaGreat
open Go.Rf Go.RowKit
set_option linter.unusedVariables false
set_option linter.unusedSimpArgs false
attribute [local irreducible] Code.wp wpList Exit.then Exit.inBlock bodyPost A Calls execOp Addr.add
theorem setsT_get {t : List Nd} : ∀ {n k : Nat}, k < n → (hk : k < t.length) → (setsT (t.take n))[k]? = some (setN (setsT (t.take k)) t[k])
  | 0, k, h, hk => by omega
  | n + 1, k, h, hk => by
    by_cases hn : n < t.length
    · rw [setsT_take hn]
      by_cases e : k = n
      · subst e
        rw [List.getElem?_append_right (by rw [setsT_len, List.length_take]; omega)]
        rw [setsT_len, List.length_take]
        simp [Nat.min_eq_left (Nat.le_of_lt hn)]
      · rw [List.getElem?_append_left (by rw [setsT_len, List.length_take]; omega)]
        exact setsT_get (by omega) hk
    · rw [List.take_of_length_le (by omega)]
      have h1 := setsT_get (t := t) (n := n) (k := k) (by omega) hk
      rw [List.take_of_length_le (by omega)] at h1
      exact h1
set_option maxHeartbeats 8000000 in
theorem valuesC (t : List Nd) (i : Nat) (st : Value) (w : World) (ht : NS w [] t st) (hok : ∀ x ∈ t, NdOk x) (hi : i < t.length) (hl : t.length ≤ 1000000) (hwf : Wf t (i + 1)) :
    Calls Tryz.prog 64 #[.agg #[st], .int .i64 i] w fun e w' => ∃ s, e = .returned (.tuple #[s, .bool (!(setN (setsT (t.take i)) t[i]).isNone)]) ∧ VS w' [] ((setN (setsT (t.take i)) t[i]).getD []) s ∧ Fr [] w w' := by
  obtain ⟨as_, cs_, rfl, _⟩ := ht.slice
  refine enter Tryz.func64 rfl Tryz.ntmps64 rfl ?_
  refine rx ?_
  refine s_box (l := [.slice as_ t.length cs_]) rfl rfl (fun w1 hb1 hf1 hs1 => ?_)
  refine rx ?_
  refine s_call (listsC t (i + 1) _ w1 (ht.tr0 hf1) hok (by omega) hl hwf) rfl ?_
  rintro _ w2 ⟨v, rfl, ho, hf2⟩
  refine ⟨_, rfl, ?_⟩
  have hF2 := hf1.trans0 hf2
  have hsl : (setsT (t.take (i + 1))).length = i + 1 := by rw [setsT_len, List.length_take]; omega
  have hge := setsT_get (t := t) (n := i + 1) (k := i) (by omega) hi
  have hslv := ho.sl lstStab
  obtain ⟨av, cv, rfl⟩ := ho.slice
  have hi2 : i < (setsT (t.take (i + 1))).length := by omega
  obtain ⟨ad, cs1, rfl, ⟨s1, rfl, hs1v⟩, hcell⟩ := Sl.at hslv (fun x cs h => lstStab.len h) hi2
  have he : (setsT (t.take (i + 1)))[i] = setN (setsT (t.take i)) t[i] := by
    rw [List.getElem?_eq_getElem hi2] at hge
    exact Option.some.inj hge
  rw [he] at hs1v hcell
  rw [hsl] at ho
  generalize setN (setsT (t.take i)) t[i] = o at hs1v hcell
  obtain ⟨a1, c1, rfl, _⟩ := hs1v.slice
  rw [hsl]
  refine rx ?_
  (refine d_begin (fun y => Fr [] w2 y) (by kernel_rfl) rfl ?_)
  have hS : Fr [] w2 w2.drew := Fr.drew _ _
  ((first | refine d_tx 0 hS ?_ | refine d_ty 0 hS ?_ | refine d_tn 0 hS ?_); (first | refine d_tx 1 hS ?_ | refine d_ty 1 hS ?_ | refine d_tn 1 hS ?_); (first | refine d_tx 2 hS ?_ | refine d_ty 2 hS ?_ | refine d_tn 2 hS ?_); (first | refine d_tx 3 hS ?_ | refine d_ty 3 hS ?_ | refine d_tn 3 hS ?_); (first | refine d_tx 4 hS ?_ | refine d_ty 4 hS ?_ | refine d_tn 4 hS ?_); (first | refine d_tx 5 hS ?_ | refine d_ty 5 hS ?_ | refine d_tn 5 hS ?_); (first | refine d_tx 6 hS ?_ | refine d_ty 6 hS ?_ | refine d_tn 6 hS ?_); (first | refine d_tx 7 hS ?_ | refine d_ty 7 hS ?_ | refine d_tn 7 hS ?_); (first | refine d_tx 8 hS ?_ | refine d_ty 8 hS ?_ | refine d_tn 8 hS ?_); (first | refine d_tx 9 hS ?_ | refine d_ty 9 hS ?_ | refine d_tn 9 hS ?_); (first | refine d_tx 10 hS ?_ | refine d_ty 10 hS ?_ | refine d_tn 10 hS ?_))
  (refine d_one (i := 11) rfl (by kernel_rfl) ?_; refine rx ?_; refine q_held hS ?_)
  (refine d_one (i := 12) rfl (by kernel_rfl) ?_; refine rx ?_; refine q_held hS ?_)
  (refine d_done (by kernel_rfl) ?_)
  refine rx ?_
  (apply ret2; exact rfl; (conv => lhs; whnf); (conv => lhs; whnf))
  exact ⟨_, rfl, hs1v.tr0 hS, hF2.trans0 hS⟩
end Go.Proofs.YtpochcchekoonaaGreat
namespace Go.Proofs.YtpochcchekoonaaGreat
open Go.Rf Go.RowKit
set_option linter.unusedVariables false
set_option linter.unusedSimpArgs false
attribute [local irreducible] Code.wp wpList Exit.then Exit.inBlock bodyPost A Calls execOp Addr.add
def bndE (o : Option (List V)) (vs : List V) : Int := match o with
  | none => 4
  | some l => if sameVs l vs = true then 0 else 1
set_option maxHeartbeats 8000000 in
theorem boundC (t : List Nd) (x : Nd) (k : Nat) (st sw sl sv sk sx : Value) (w : World) (ht : NS w [] t st) (hok : ∀ x ∈ t, NdOk x) (hk : k < t.length) (hl : t.length ≤ 1000000) (hwf : Wf t (k + 1)) (h0 : 0 < x.kids.length) (hx0 : x.kids[0] = (k : Int)) (hks : IS w [] x.kids sk) (hv : VS w [] x.vals sv) :
    Calls Tryz.prog 68 #[.agg #[st], .agg (nc x sw sl sv sk sx).toArray] w fun e w' => e = .returned (.int .i64 (bndE (setN (setsT (t.take k)) t[k]) x.vals)) ∧ Fr [] w w' := by
  obtain ⟨as_, cs_, rfl, _⟩ := ht.slice
  obtain ⟨ak, ck, rfl, _⟩ := hks.slice
  refine enter Tryz.func68 rfl Tryz.ntmps68 rfl ?_
  refine rx ?_
  refine s_box (l := [.slice as_ t.length cs_]) rfl rfl (fun w1 hb1 hf1 hs1 => ?_)
  refine s_box rfl rfl (fun w2 hb2 hf2 hs2 => ?_)
  have hb12 := hb1.tr0 hf2
  have hF2 := hf1.trans0 hf2
  obtain ⟨ad, rfl, hcell⟩ := Ls.at (hks.tr0 hF2) h0
  rw [hx0] at hcell
  refine rx ?_
  (refine d_begin (fun y => Fr [] w2 y) (by kernel_rfl) rfl ?_)
  have hS : Fr [] w2 w2.drew := Fr.drew _ _
  ((first | refine d_tx 0 hS ?_ | refine d_ty 0 hS ?_ | refine d_tn 0 hS ?_); (first | refine d_tx 1 hS ?_ | refine d_ty 1 hS ?_ | refine d_tn 1 hS ?_); (first | refine d_tx 2 hS ?_ | refine d_ty 2 hS ?_ | refine d_tn 2 hS ?_); (first | refine d_tx 3 hS ?_ | refine d_ty 3 hS ?_ | refine d_tn 3 hS ?_))
  (apply d_take (i := 4); exact rfl; kernel_rfl; kernel_rfl; kernel_rfl; (intro u hu; exact (r_load rfl (by rw [Nat.zero_mul]; rw [← hu.cell (World.block_lt_of_cell? w2 _ hcell) (by simp)] at hcell; exact hcell))); exact hS)
  refine d_one (i := 5) rfl (by kernel_rfl) ?_
  refine s_call (valuesC t k _ _ ((ht.tr0 hF2).tr0 hS) hok hk hl hwf) rfl ?_
  rintro _ w3 ⟨s, rfl, hs, hf3⟩
  refine ⟨_, rfl, ?_⟩
  have hT := hS.trans0 hf3
  generalize setN (setsT (t.take k)) t[k] = o at hs
  obtain ⟨a3, c3, rfl, _⟩ := hs.slice
  refine wpList_nil (q_held hT ?_)
  ((first | refine d_tx 6 hT ?_ | refine d_ty 6 hT ?_ | refine d_tn 6 hT ?_); (first | refine d_tx 7 hT ?_ | refine d_ty 7 hT ?_ | refine d_tn 7 hT ?_); (first | refine d_tx 8 hT ?_ | refine d_ty 8 hT ?_ | refine d_tn 8 hT ?_))
  (refine d_one (i := 9) rfl (by kernel_rfl) ?_; refine rx ?_; refine q_held hT ?_)
  (refine d_one (i := 10) rfl (by kernel_rfl) ?_; refine rx ?_; refine q_held hT ?_)
  (refine d_done (by kernel_rfl) ?_)
  have hF3 := hF2.trans0 hT
  have hb23 := hb2.tr0 hT
  cases o with
  | none =>
    refine rx ?_
    (apply ret1; exact rfl; (conv => lhs; whnf))
    exact ⟨rfl, hF3⟩
  | some l =>
  refine rx ?_
  refine s_call (sameValuesC l x.vals _ _ w3 hs (hv.tr0 hF3)) rfl ?_
  rintro _ w4 ⟨rfl, hf4⟩
  refine ⟨_, rfl, ?_⟩
  rcases hq : sameVs l x.vals with _ | _
  all_goals
    refine rx ?_
    (apply ret1; exact rfl; (conv => lhs; whnf))
    exact ⟨by simp [bndE, hq], hF3.trans0 hf4⟩
end Go.Proofs.YtpochcchekoonaaGreat
