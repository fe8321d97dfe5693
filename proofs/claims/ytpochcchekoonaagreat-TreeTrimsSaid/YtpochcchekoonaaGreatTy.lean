/-
  Package tree: Valid answers as the reference's.
-/
import Derived.Test.YtpochcchekoonaaGreatTx
namespace Go.Proofs.YtpochcchekoonaaGreat
open Go.Rf Go.RowKit
set_option linter.unusedVariables false
set_option linter.unusedSimpArgs false
attribute [local irreducible] Code.wp wpList Exit.then Exit.inBlock bodyPost A Calls execOp Addr.add
theorem kd_app {ls zs : List Int} {k : Int} (h0 : 0 ≤ k) (h : k < ls.length) : kd (ls ++ zs) k = kd ls k := by
  unfold kd
  rw [List.getD_eq_getElem?_getD, List.getD_eq_getElem?_getD, List.getElem?_append_left (by omega)]
theorem map_kd_app {ls zs : List Int} {l : List Int} (h : ∀ k ∈ l, 0 ≤ k ∧ k < ls.length) : l.map (kd (ls ++ zs)) = l.map (kd ls) := List.map_congr_left fun k hk => kd_app (h k hk).1 (h k hk).2
theorem mst_app {ls zs : List Int} {kind : Int} {l : List Int} (h : ∀ k ∈ l, 0 ≤ k ∧ k < ls.length) : mst (ls ++ zs) kind l = mst ls kind l := by unfold mst; rw [map_kd_app h]
theorem lenN_app {ls zs : List Int} {x : Nd} (h : ∀ k ∈ x.kids, 0 ≤ k ∧ k < ls.length) : lenN (ls ++ zs) x = lenN ls x := by unfold lenN; rw [map_kd_app h, mst_app h]
theorem szP_app {ls zs : List Int} {x : Nd} (h : ∀ k ∈ x.kids, 0 ≤ k ∧ k < ls.length) : szP (ls ++ zs) x = szP ls x := by unfold szP; rw [map_kd_app h, mst_app h]
theorem maxI_ge {l : List Int} {a : Int} (h : a ∈ l) : a ≤ maxI l := by
  induction l with
  | nil => simp at h
  | cons b l ih =>
    simp only [maxI]
    rcases List.mem_cons.1 h with rfl | h
    · omega
    · have := ih h; omega
theorem mst_ge1 {ss : List Int} {x : Nd} (h : ∀ k ∈ x.kids, 1 ≤ kd ss k) (hx : x.kind = 2 ∧ 0 < x.kids.length ∨ 1 < x.kids.length) : 1 ≤ mst ss x.kind x.kids := by
  unfold mst
  have hk : ∃ a ∈ (if x.kind = 2 then x.kids.map (kd ss) else (x.kids.map (kd ss)).tail), 1 ≤ a := by
    split
    · have h0 : 0 < x.kids.length := by omega
      exact ⟨kd ss x.kids[0], List.mem_map.2 ⟨_, by simp, rfl⟩, h _ (by simp)⟩
    · have h1 : 1 < x.kids.length := by omega
      refine ⟨kd ss x.kids[1], ?_, h _ (by simp)⟩
      rw [← List.map_tail]
      refine List.mem_map.2 ⟨_, ?_, rfl⟩
      have hm : (x.kids.drop 1)[0]'(by rw [List.length_drop]; omega) ∈ x.kids.drop 1 := List.getElem_mem _
      rw [List.getElem_drop] at hm
      rw [← List.drop_one]
      exact hm
  obtain ⟨a, ha, h1⟩ := hk
  have := maxI_ge ha
  omega
theorem szP_eq {ss : List Int} {x : Nd} {i : Int} (hf : formN i x = true) (h : ∀ k ∈ x.kids, 1 ≤ kd ss k) : (szP ss x ≤ 1024 ↔ sizN ss x ≤ 1024) ∧ ((x.kind = 4 → 0 < x.vals.length) → szP ss x = sizN ss x) := by
  have hkd := formN_kind hf
  unfold szP sizN
  by_cases k0 : x.kind = 0
  · simp [k0]
  by_cases k1 : x.kind = 1
  · simp [k1]
  by_cases k3 : x.kind = 3
  · simp [k3]
  rw [if_neg k0, if_neg k3, if_pos (by omega), if_neg k0, if_neg k1, if_neg k3]
  have hm0 : 0 ≤ mst ss x.kind x.kids := maxI_nonneg _
  by_cases k2 : x.kind = 2
  · have hl : 1 ≤ x.kids.length := by
      unfold formN at hf
      simp only [Bool.and_eq_true] at hf
      exact ((of_decide_eq_true hf.2.2.2.1).1 k2).1
    have := mst_ge1 h (.inl ⟨k2, hl⟩)
    omega
  · have hl := formN_bind hf (by omega)
    refine ⟨by omega, fun hv => ?_⟩
    have := mst_ge1 h (.inr (by have := hv (by omega); omega))
    omega
theorem parts_eq {i : Int} {x : Nd} (hf : formN i x = true) : partsE x = frsE (ownV x) := by
  have hu : unusedN x = true := by
    unfold formN at hf
    simp only [Bool.and_eq_true] at hf
    exact hf.1
  unfold unusedN at hu
  have hu' := of_decide_eq_true hu
  unfold partsE ownV
  by_cases k0 : x.kind = 0
  · rw [if_pos k0, if_pos k0]
    have hv : x.vals = [] := List.eq_nil_of_length_eq_zero (by omega)
    rw [hv]
    simp only [List.append_nil, frsE]
    split
    · rfl
    · rename_i h; simpa using h
  · rw [if_neg k0, if_neg k0]; rfl
theorem uniGo_mem {ls : List (Option (List V))} : ∀ (ks : List Int) (out : List V) (m : Bool) {v : V}, v ∈ out → v ∈ (uniGo ls ks out m).1
  | [], out, m, v, h => h
  | k :: ks, out, m, v, h => by rw [uniGo]; exact uniGo_mem ks _ _ (srtV_mem.2 (by simp [h]))
theorem uni_ne {ls : List (Option (List V))} {ks : List Int} (hk : 0 < ks.length) (h : ∀ k ∈ ks, lstAt ls k ≠ some []) : uniN ls ks ≠ some [] := by
  intro e
  unfold uniN at e
  split at e
  · cases e
  · rename_i hm
    cases ks with
    | nil => simp at hk
    | cons k ks =>
      have hl := h k (by simp)
      rw [uniGo] at hm e
      rcases hq : lstAt ls k with _ | l
      · rw [hq] at hm
        simp only [Option.isNone_none, Bool.true_or, Bool.or_true] at hm
        exact hm (uniGo_true _ _)
      · rw [hq] at e hl
        cases l with
        | nil => exact hl rfl
        | cons v l =>
          have := uniGo_mem (ls := ls) ks (srtV ([] ++ (some (v :: l)).getD [])) (false || ((some (v :: l)).isNone || decide (1024 < (srtV ([] ++ (some (v :: l)).getD [])).length))) (v := v) (srtV_mem.2 (by simp))
          rw [Option.some.inj e] at this
          simp at this
theorem seqGo_ne {ls : List (Option (List V))} : ∀ (ks : List Int) (rows : List (List V)), rows ≠ [] → (∀ k ∈ ks, lstAt ls k ≠ some []) → ∀ r, seqGo ls ks rows = some r → r ≠ []
  | [], rows, h, _, r, e => by simp only [seqGo, Option.some.injEq] at e; rw [← e]; exact h
  | k :: ks, rows, h, hk, r, e => by
    simp only [seqGo] at e
    split at e
    · cases e
    · rename_i l hl
      by_cases hb : 1024 < rows.length * l.length
      · rw [if_pos hb] at e; cases e
      · rw [if_neg hb] at e
        refine seqGo_ne ks _ (fun hn => ?_) (fun k hk' => hk k (by simp [hk'])) r e
        have h1 := prodS_len rows l
        rw [hn] at h1
        have h2 := hk k (by simp)
        have h3 : l ≠ [] := fun e => h2 (by rw [hl, e])
        have h4 : 0 < rows.length := List.length_pos_iff.2 h
        have h5 : 0 < l.length := List.length_pos_iff.2 h3
        have := Nat.mul_pos h4 h5
        simp at h1
        omega
theorem setN_ne {ls : List (Option (List V))} {i : Int} {x : Nd} (hf : formN i x = true) (hn : numsN x = true) (hv : x.kind = 4 → 0 < x.vals.length) (h : ∀ k ∈ x.kids, lstAt ls k ≠ some []) : setN ls x ≠ some [] := by
  have hnum : x.lo ≤ x.hi := by
    unfold numsN at hn
    rw [Bool.and_eq_true] at hn
    exact (of_decide_eq_true hn.1).1
  have hkd := formN_kind hf
  unfold setN
  by_cases k0 : x.kind = 0
  · rw [if_pos k0]; simp
  by_cases k1 : x.kind = 1
  · rw [if_neg k0, if_pos k1]
    split
    · simp
    · intro e
      have := rngV_len x.lo (x.hi - x.lo + 1).toNat
      rw [Option.some.inj e] at this
      simp at this
      omega
  by_cases k3 : x.kind = 3
  · rw [if_neg k0, if_neg k1, if_pos k3]
    unfold seqN
    rcases hq : seqGo ls x.kids [[]] with _ | rows
    · simp
    · have h1 := seqGo_ne x.kids [[]] (by simp) h rows hq
      simp only [Option.map_some, ne_eq, Option.some.injEq]
      intro e
      cases rows with
      | nil => exact h1 rfl
      | cons r rows =>
        have : madeV x r ∈ srtV ((r :: rows).map (madeV x)) := srtV_mem.2 (by simp)
        rw [e] at this; simp at this
  rw [if_neg k0, if_neg k1, if_neg k3]
  by_cases k2 : x.kind = 2
  · have hl : 1 ≤ x.kids.length := by
      unfold formN at hf
      simp only [Bool.and_eq_true] at hf
      exact ((of_decide_eq_true hf.2.2.2.1).1 k2).1
    have hrm : remK x 0 = x.kids := by unfold remK; rw [if_neg (by omega)]; rfl
    rw [hrm]
    exact uni_ne (by omega) h
  · have hl := formN_bind hf (by omega)
    have hrm : remK x 0 = x.kids.drop 1 := by unfold remK; rw [if_pos ⟨by omega, rfl⟩]
    rw [hrm]
    exact uni_ne (by rw [List.length_drop]; have := hv (by omega); omega) (fun k hk => h k (List.mem_of_mem_drop hk))

/-- what is known of the nodes that were checked: sizes are positive, no set is empty, too -/
structure Chk2 (t : List Nd) (n : Nat) : Prop where
  chk : Chk t n
  s1 : ∀ a ∈ sizsT (t.take n), 1 ≤ a
  ne : ∀ k, k < n → k < t.length → sT t k ≠ some []
theorem Chk2.zero (t : List Nd) : Chk2 t 0 := ⟨⟨fun i h h' => absurd h' (by simp), by simp [lensT], by simp [sizsT]⟩, by simp [sizsT], fun k h => by omega⟩
theorem Chk2.kd1 {t : List Nd} {n : Nat} (h : Chk2 t n) (hn : n < t.length) (hf : formN n t[n] = true) : ∀ k ∈ t[n].kids, 1 ≤ kd (sizsT (t.take n)) k := by
  intro k hk
  have h1 := formN_kids hf k hk
  have hl : (sizsT (t.take n)).length = n := by rw [sizsT_len, List.length_take]; omega
  unfold kd
  rw [List.getD_eq_getElem?_getD, List.getElem?_eq_getElem (by omega)]
  exact h.s1 _ (by simp)
theorem Chk2.succ {t : List Nd} {n : Nat} (h : Chk2 t n) (hn : n < t.length) (hf : formN n t[n] = true) (hm : numsN t[n] = true) (h1 : lenN (lensT (t.take n)) t[n] ≤ 256) (h2 : sizN (sizsT (t.take n)) t[n] ≤ 1024) (hv : t[n].kind = 4 → 0 < t[n].vals.length) : Chk2 t (n + 1) := by
  have hk1 := h.kd1 hn hf
  refine ⟨h.chk.succ hn hf hm h1 h2, ?_, fun k hk hkl => ?_⟩
  · rw [List.take_succ_eq_append_getElem hn, sizsT_snoc]
    intro a ha
    rcases List.mem_append.1 ha with ha | ha
    · exact h.s1 a ha
    · rw [List.mem_singleton.1 ha, ← (szP_eq hf hk1).2 hv]
      have hkd := formN_kind hf
      unfold szP
      have hz := vsz_eq t[n].val
      have hs := sumI_bd (m := 1024) (l := t[n].kids.map (kd (sizsT (t.take n)))) (fun a ha => by
        obtain ⟨k, hk, rfl⟩ := List.mem_map.1 ha
        have hr := formN_kids hf k hk
        have hl : (sizsT (t.take n)).length = n := by rw [sizsT_len, List.length_take]; omega
        unfold kd
        rw [List.getD_eq_getElem?_getD, List.getElem?_eq_getElem (by omega)]
        exact h.chk.siz _ (by simp))
      repeat' split
      all_goals omega
  · by_cases e : k = n
    · subst e
      rw [sT_eq hn]
      refine setN_ne hf hm hv (fun q hq => ?_)
      have hr := formN_kids hf q hq
      obtain ⟨p, rfl⟩ : ∃ p : Nat, q = (p : Int) := ⟨q.toNat, by omega⟩
      rw [lstAt_eq (by omega) (by omega)]
      exact h.ne p (by omega) (by omega)
    · exact h.ne k (by omega) hkl
theorem bnd_vals {o : Option (List V)} {vs : List V} (h : bndE o vs = 0) (ho : o ≠ some []) : o = some vs ∧ 0 < vs.length := by
  unfold bndE at h
  cases o with
  | none => simp at h
  | some l =>
    simp only at h
    split at h
    · rename_i hs
      have hlv : l = vs := by
        clear h ho
        induction l generalizing vs with
        | nil => cases vs with
          | nil => rfl
          | cons b vs => simp [sameVs] at hs
        | cons a l ih => cases vs with
          | nil => simp [sameVs] at hs
          | cons b vs =>
            simp only [sameVs, Bool.and_eq_true, decide_eq_true_eq] at hs
            rw [cmpV_iff.1 hs.1, ih hs.2]
      subst hlv
      refine ⟨rfl, List.length_pos_iff.2 (fun e => ho (by rw [e]))⟩
    · omega
theorem set_next {l : List Int} {i n : Nat} {v : Int} (hl : l.length = i) (hi : i < n) : (l ++ List.replicate (n - i) 0).set i v = (l ++ [v]) ++ List.replicate (n - (i + 1)) 0 := by
  obtain ⟨m, hm⟩ : ∃ m, n - i = m + 1 := ⟨n - i - 1, by omega⟩
  rw [hm, show n - (i + 1) = m by omega, List.set_append_right _ _ (by omega), hl, Nat.sub_self, List.replicate_succ, List.set_cons_zero, List.append_assoc]
  rfl
theorem ls_of {ls : List Int} {n : Nat} {x : Nd} {m : Int} (h : LsOk ls x m) (hm : 0 ≤ m) : LsOk (ls ++ List.replicate n 0) x m := by
  refine ⟨fun k hk => ?_, fun a ha => ?_⟩
  · have := h.rng k hk; rw [List.length_append]; omega
  · rcases List.mem_append.1 ha with h' | h'
    · exact h.val a h'
    · rw [(List.mem_replicate.1 h').2]; omega
theorem zeros_int (n : Nat) : zeros [Value.int .i64 0] n = (List.replicate n (0 : Int)).map (Value.int .i64) := by
  induction n with
  | zero => rfl
  | succ n ih => simp [zeros, ih, List.replicate_succ]

theorem step_node {p : List Nd} {x : Nd} (h : nodeE p.length x ≠ 0) : stepE p x = nodeE p.length x := by unfold stepE; rw [if_pos h]
theorem step_big {p : List Nd} {x : Nd} (h : nodeE p.length x = 0) (hb : 256 < lenN (lensT p) x ∨ 1024 < sizN (sizsT p) x) : stepE p x = 4 := by unfold stepE; rw [if_neg (by simpa using h), if_pos hb]
theorem step_rest {p : List Nd} {x : Nd} (h : nodeE p.length x = 0) (hb : ¬ (256 < lenN (lensT p) x ∨ 1024 < sizN (sizsT p) x)) : stepE p x = if x.kind = 4 then bndE (lstAt (setsT p) (x.kids.headD 0)) x.vals else 0 := by unfold stepE; rw [if_neg (by simpa using h), if_neg hb]
theorem node_form {i : Int} {x : Nd} (h : formN i x = false) : nodeE i x = 1 := by unfold nodeE; rw [if_pos h]
theorem node_parts {i : Int} {x : Nd} (h : formN i x = true) (hp : partsE x ≠ 0) : nodeE i x = partsE x := by unfold nodeE; rw [if_neg (by simp [h]), ← parts_eq h, if_pos hp]
theorem node_nums {i : Int} {x : Nd} (h : formN i x = true) (hp : partsE x = 0) (hn : numsN x = false) : nodeE i x = 5 := by unfold nodeE; rw [if_neg (by simp [h]), ← parts_eq h, if_neg (by simpa using hp), if_pos hn]
theorem node_ok {i : Int} {x : Nd} (h : formN i x = true) (hp : partsE x = 0) (hn : numsN x = true) : nodeE i x = 0 := by unfold nodeE; rw [if_neg (by simp [h]), ← parts_eq h, if_neg (by simpa using hp), if_neg (by simp [hn])]
theorem casesN (x : Nd) (pn : Addr) (c : Value) (w : World) (hn : PN w [] x pn) (hx : ¬ x.kind = 4) :
    Calls Tryz.prog 51 #[c, .pointer (some pn)] w fun e w' => e = .returned (.int .i64 0) ∧ w = w' := by
  obtain ⟨_, _, hc, ⟨sw, sl, sv, sk, sx, rfl, hw, hl, hv, hks, hx'⟩⟩ := hn
  refine enter Tryz.func51 rfl Tryz.ntmps51 rfl ?_
  refine rx ?_
  (apply ret1; exact rfl; (conv => lhs; whnf))
  exact ⟨rfl, rfl⟩
set_option maxHeartbeats 32000000 in
theorem validPT (t : List Nd) (st : Value) (w : World) (ht : NS w [] t st) (hok : ∀ x ∈ t, NdOk x) (hl : t.length ≤ 1000000) :
    Calls Tryz.prog 17 #[.agg #[st]] w fun e w' => e = .returned (.int .i64 (validT t)) ∧ Fr [] w w' := by
  obtain ⟨as_, cs_, rfl, _⟩ := ht.slice
  refine enter Tryz.func17 rfl Tryz.ntmps17 rfl ?_
  refine rx ?_
  refine s_box (l := [.slice as_ t.length cs_]) rfl rfl (fun w1 hb1 hf0 hs0 => ?_)
  by_cases hbig : 4096 < t.length
  · refine rx ?_
    (apply ret1; exact rfl; (conv => lhs; whnf))
    exact ⟨by unfold validT; rw [if_pos hbig], hf0⟩
  have hvt : validT t = valGo [] t := by unfold validT; rw [if_neg hbig]
  refine rx ?_
  refine c_cut (fun g u => g 1 = .pointer (some ⟨w.heap.size, 0, none⟩) ∧ ∃ cb A Z b K L M S, g 3 = .pointer (some ⟨cb, 0, none⟩) ∧ ChkM t S (.slice as_ t.length cs_) cb A Z b K L M u (List.replicate t.length false) (List.replicate t.length 0) (List.replicate t.length 0) ∧ (∀ y ∈ S, w1.heap.size ≤ y ∧ y < u.heap.size) ∧ Fr [] w1 u) ?_ ?_
  rotate_left
  · rintro g0 u0 ⟨g1, cb, A, Z, b, K, L, M, S, g3, hm0, hSS, hfu0⟩
    rw [eq_upd g1, eq_upd g3]
    have hb1u := hb1.tr0 hfu0
    have htS : NS u0 S t (.slice as_ t.length cs_) := ((ht.mono (T := S) (fun y hy => .inr (by have := (hSS y hy).1; omega))).tr0 hf0).tr0 hfu0
    have hmS := hm0.mem
    have hmS2 := hm0.set.mem
    have hall : ∀ y ∈ [A, Z, K, L, M], y ∈ S := by simp; exact ⟨hmS.1, hmS.2, hmS2.2.1, hmS2.2.2.1, hmS2.2.2.2⟩
    refine rx ?_
    refine c_loopK 8 [4, 5, 6, 7] (σ := Nat × List Bool) (fun s g u => g 28 = .int .i64 t.length ∧ g 29 = .int .i64 (s.1 : Nat) ∧ s.1 ≤ t.length ∧ validT t = valGo (t.take s.1) (t.drop s.1) ∧ Chk2 t s.1 ∧ ChkM t S (.slice as_ t.length cs_) cb A Z b K L M u s.2 (lensT (t.take s.1) ++ List.replicate (t.length - s.1) 0) (sizsT (t.take s.1) ++ List.replicate (t.length - s.1) 0) ∧ Fr [A, Z, K, L, M] u0 u) (fun s => t.length - s.1) (0, _) ⟨rfl, rfl, Nat.zero_le _, hvt, Chk2.zero t, hm0, Fr.refl _ _⟩ ?_
    rintro ⟨i, kn⟩ g u ⟨h28, h29, hi, hgo, hchk, hm, hfu⟩
    simp only at h29 hi hgo hchk hm
    rw [eq_upd h28, eq_upd h29]
    have hfuS : Fr S u0 u := hfu.mono (fun y hy => .inl (hall y hy))
    have hsu := hfu.size
    have hfin : ∀ u', Fr [A, Z, K, L, M] u u' → Fr [] w u' := fun u' h => hf0.trans0 (hfu0.trans (hfu.trans h (fun y hy => .inl hy)) (fun y hy => .inr (hSS y (hall y hy)).1))
    have hbt := hb1u.tr hfu (fun h => by have := (hSS _ (hall _ h)).1; omega)
    by_cases hlt : i < t.length
    case neg =>
      refine rx ?_
      (apply ret1; exact rfl; (conv => lhs; whnf))
      refine ⟨?_, hfin _ (Fr.refl _ _)⟩
      rw [hgo, List.drop_eq_nil_of_le (by omega), valGo]
    have htu := htS.tr hfuS
    obtain ⟨ad, rfl, hn⟩ := NS.ptr htu hlt
    have hokx := hok t[i] (by simp)
    have hlp : (t.take i).length = i := by rw [List.length_take]; omega
    rw [valGo_drop hlt] at hgo
    have hfe := form_eq i t[i]
    have bad : ∀ e : Int, nodeE i t[i] = e → e ≠ 0 → validT t = e := fun e he hne => by
      rw [hgo, step_node (by rw [hlp, he]; exact hne), hlp, he, if_pos hne]
    have hSu : ∀ y ∈ S, y < u.heap.size := fun y hy => by have := (hSS y hy).2; omega
    generalize hpn : ad.add (i * 12) = pn at hn
    refine rx ?_
    rw [hpn]
    refine s_call (cleanP t[i] pn u hokx (hn.mono (by simp))) rfl ?_
    rintro _ u1 ⟨rfl, hf1⟩
    refine ⟨_, rfl, ?_⟩
    rcases hcl : cleanN t[i] with _ | _
    · rw [hcl] at hfe
      refine rx ?_
      (apply ret1; exact rfl; (conv => lhs; whnf))
      exact ⟨by rw [bad 1 (node_form hfe) (by simp)], hfin _ (hf1.mono (by simp))⟩
    rw [hcl, Bool.true_and] at hfe
    have hm1 := hm.tr0 hf1
    have ht1 := htu.tr0 hf1
    refine rx ?_
    refine s_call (shapedP t hok i hlt _ _ _ _ cb u1 hm1.blk (ht1.mono (by simp))) rfl ?_
    rintro _ u2 ⟨rfl, hf2⟩
    refine ⟨_, rfl, ?_⟩
    rcases hsh : shapeN i t[i] with _ | _
    · rw [hsh] at hfe
      refine rx ?_
      (apply ret1; exact rfl; (conv => lhs; whnf))
      exact ⟨by rw [bad 1 (node_form hfe) (by simp)], hfin _ ((hf1.trans0 hf2).mono (by simp))⟩
    rw [hsh] at hfe
    have hfo : formN i t[i] = true := hfe
    have hF2 := hf1.trans0 hf2
    refine rx ?_
    refine s_call (partsP t[i] pn u2 hokx ((hn.tr0 hF2).mono (by simp))) rfl ?_
    rintro _ u3 ⟨rfl, hf3⟩
    refine ⟨_, rfl, ?_⟩
    have hF3 := hF2.trans0 hf3
    by_cases hpe : partsE t[i] = 0
    case neg =>
      refine rx ?_
      (apply ret1; exact rfl; (conv => lhs; whnf))
      exact ⟨by rw [bad _ (node_parts hfo hpe) hpe], hfin _ (hF3.mono (by simp))⟩
    refine rx ?_
    refine s_call (inRangeP t[i] pn u3 hokx ((hn.tr0 hF3).mono (by simp))) rfl ?_
    rintro _ u4 ⟨rfl, hf4⟩
    refine ⟨_, rfl, ?_⟩
    have hF4 := hF3.trans0 hf4
    rcases hnm : numsN t[i] with _ | _
    · refine rx ?_
      (apply ret1; exact rfl; (conv => lhs; whnf))
      exact ⟨by rw [bad 5 (node_nums hfo hpe hnm) (by simp)], hfin _ (hF4.mono (by simp))⟩
    have hne0 : nodeE (t.take i).length t[i] = 0 := by rw [hlp]; exact node_ok hfo hpe hnm
    have hstb := step_big hne0
    have hstr := step_rest hne0
    have hlok := hchk.chk.lok hlt hfo
    have hsok := hchk.chk.sok hlt hfo
    have hkd := formN_kind hfo
    have hb4 : t[i].kind = 4 → 0 < t[i].kids.length := fun h => by have := formN_bind hfo h; omega
    have hlL : (lensT (t.take i)).length = i := by rw [lensT_len, hlp]
    have hlS : (sizsT (t.take i)).length = i := by rw [sizsT_len, hlp]
    have hsz := szP_eq hfo (hchk.kd1 hlt hfo)
    have hm4 := hm.tr0 hF4
    have ht4 := htu.tr0 hF4
    have hns := smallP t hok i hlt S _ cb A Z b K L M u4 kn _ _ hm4 ht4 (ls_of hlok (by omega)) (ls_of hsok (by omega)) hkd hb4
    rw [lenN_app hlok.rng, szP_app hsok.rng, set_next hlL hlt, set_next hlS hlt] at hns
    have hnL : lensT (t.take (i + 1)) = lensT (t.take i) ++ [lenN (lensT (t.take i)) t[i]] := by rw [List.take_succ_eq_append_getElem hlt, lensT_snoc]
    have hnS : sizsT (t.take (i + 1)) = sizsT (t.take i) ++ [sizN (sizsT (t.take i)) t[i]] := by rw [List.take_succ_eq_append_getElem hlt, sizsT_snoc]
    have hsuc := hchk.succ hlt hfo hnm
    generalize lensT (t.take i) = LL at *
    generalize sizsT (t.take i) = ZZ at *
    refine rx ?_
    refine s_call hns rfl ?_
    rintro _ u5 ⟨rfl, hm5, hf5⟩
    refine ⟨_, rfl, ?_⟩
    have hF5 : Fr [A, Z, K, L, M] u u5 := (hF4.mono (by simp)).trans hf5 (fun y hy => .inl (by simp at hy ⊢; omega))
    by_cases hsm : lenN LL t[i] ≤ 256 ∧ szP ZZ t[i] ≤ 1024
    case neg =>
      rw [decide_eq_false hsm]
      refine rx ?_
      (apply ret1; exact rfl; (conv => lhs; whnf))
      exact ⟨by rw [hgo, hstb (by omega)]; rfl, hfin _ hF5⟩
    have hst := hstr (by omega)
    rw [decide_eq_true hsm]
    have hn5 : PN u5 S t[i] pn := (hn.tr0 hF4).tr (hf5.mono (fun y hy => .inl (hall y (by simp at hy ⊢; omega))))
    have ht5 := ht4.tr (hf5.mono (fun y hy => .inl (hall y (by simp at hy ⊢; omega))))
    have hSu5 : ∀ y ∈ S, y < u5.heap.size := fun y hy => by have := hSu y hy; have := hF5.size; omega
    by_cases k4 : t[i].kind = 4
    case neg =>
      rw [if_neg k4] at hst
      rw [hst, if_neg (by simp)] at hgo
      have hc2 := hsuc hsm.1 (hsz.1.1 hsm.2) (fun h => absurd h k4)
      rw [hsz.2 (fun h => absurd h k4), ← hnS, ← hnL] at hm5
      refine rx ?_
      refine s_call (casesN t[i] pn _ u5 (hn5.mono (by simp)) k4) rfl ?_
      rintro _ _ ⟨rfl, rfl⟩
      refine ⟨_, rfl, ?_⟩
      refine rx ?_
      exact q_roundK (i + 1, kn) (by (repeat (first | exact Keep.mrg _ _ _ _ | (refine Keep.hi rfl ?_) | (refine Keep.one rfl ?_) | exact Keep.all rfl | (refine Keep.inn rfl ?_) | (refine Keep.set rfl ?_)))) ⟨rfl, rfl, by simp only; omega, hgo, hc2, hm5, hfu.trans hF5 (fun y hy => .inl hy)⟩ (by simp only; omega)
    rw [if_pos k4] at hst
    have h0 := hb4 k4
    have hkr := formN_kids hfo t[i].kids[0] (by simp)
    obtain ⟨k, hk0⟩ : ∃ k : Nat, t[i].kids[0] = (k : Int) := ⟨t[i].kids[0].toNat, by omega⟩
    have hki : k < i := by omega
    have hle : lstAt (setsT (t.take i)) (t[i].kids.headD 0) = sT t k := by rw [headD_get h0, hk0]; exact lstAt_eq hki (by omega)
    rw [hle] at hst
    have hwk : Wf t (k + 1) := fun j hj hjk => hchk.chk.wf j hj (by omega)
    refine rx ?_
    refine s_call (casesP t hok t[i] pn k (by omega) hwk S _ cb A Z b K L M u5 kn _ _ hSu5 hm5 ht5 hn5 k4 h0 hk0) rfl ?_
    rintro _ u6 ⟨rfl, ⟨kn', hm6⟩, hf6⟩
    refine ⟨_, rfl, ?_⟩
    have hF6 : Fr [A, Z, K, L, M] u u6 := hF5.trans hf6 (fun y hy => .inl (by simp at hy ⊢; omega))
    rw [← hst]
    by_cases hz : stepE (t.take i) t[i] = 0
    · rw [if_neg (by simpa using hz)] at hgo
      have hbv := bnd_vals (hst ▸ hz) (hchk.ne k hki (by omega))
      have hc2 := hsuc hsm.1 (hsz.1.1 hsm.2) (fun _ => hbv.2)
      rw [hsz.2 (fun _ => hbv.2), ← hnS, ← hnL] at hm6
      refine rx ?_
      exact q_roundK (i + 1, kn') (by (repeat (first | exact Keep.mrg _ _ _ _ | (refine Keep.hi rfl ?_) | (refine Keep.one rfl ?_) | exact Keep.all rfl | (refine Keep.inn rfl ?_) | (refine Keep.set rfl ?_)))) ⟨rfl, rfl, by simp only; omega, hgo, hc2, hm6, hfu.trans hF6 (fun y hy => .inl hy)⟩ (by simp only; omega)
    · rw [if_pos hz] at hgo
      refine rx ?_
      (apply ret1; exact rfl; (conv => lhs; whnf))
      exact ⟨by rw [hgo], hfin _ hF6⟩
  (refine d_begin (fun y => Fr [] w1 y) (by kernel_rfl) rfl ?_)
  have hS0 : Fr [] w1 w1.drew := Fr.drew _ _
  have hsz0 : w1.drew.heap.size = w1.heap.size := rfl
  generalize w1.drew = z0 at hS0 hsz0 ⊢
  ((first | refine d_tx 0 hS0 ?_ | refine d_ty 0 hS0 ?_ | refine d_tn 0 hS0 ?_); (first | refine d_tx 1 hS0 ?_ | refine d_ty 1 hS0 ?_ | refine d_tn 1 hS0 ?_); (first | refine d_tx 2 hS0 ?_ | refine d_ty 2 hS0 ?_ | refine d_tn 2 hS0 ?_); (first | refine d_tx 3 hS0 ?_ | refine d_ty 3 hS0 ?_ | refine d_tn 3 hS0 ?_); (first | refine d_tx 4 hS0 ?_ | refine d_ty 4 hS0 ?_ | refine d_tn 4 hS0 ?_))
  ((first | refine d_tx 6 hS0 ?_ | refine d_ty 6 hS0 ?_ | refine d_tn 6 hS0 ?_); (first | refine d_tx 7 hS0 ?_ | refine d_ty 7 hS0 ?_ | refine d_tn 7 hS0 ?_); (first | refine d_tx 8 hS0 ?_ | refine d_ty 8 hS0 ?_ | refine d_tn 8 hS0 ?_))
  ((first | refine d_tx 10 hS0 ?_ | refine d_ty 10 hS0 ?_ | refine d_tn 10 hS0 ?_))
  refine d_three (i := 5) (j := 9) (k := 11) rfl rfl rfl (by kernel_rfl) ?oa ?ob ?oc
  case' oa =>
    (refine s_makeS (k := t.length) rfl rfl (by omega) (by unfold maxLen; omega) (fun z1 hoA hf1 hs1 => ?_); obtain ⟨A, hAe⟩ : ∃ y, y = z0.heap.size := ⟨_, rfl⟩; rw [← hAe] at hoA ⊢; have hS1 := hS0.trans0 hf1; refine wpList_nil (q_held hS1 ?_))
    refine d_two (i := 9) (j := 11) rfl rfl (by kernel_rfl) ?oa1 ?ob1
    case' oa1 =>
      (refine s_makeS (k := t.length) rfl rfl (by omega) (by unfold maxLen; omega) (fun z2 hoZ hf2 hs2 => ?_); obtain ⟨Z, hZe⟩ : ∃ y, y = z1.heap.size := ⟨_, rfl⟩; rw [← hZe] at hoZ ⊢; have hS2 := hS1.trans0 hf2; refine wpList_nil (q_held hS2 ?_))
      refine d_one (i := 11) rfl (by kernel_rfl) ?_
      (refine s_call (newSetsP t _ z2 ((ht.tr0 hf0).tr0 hS2) hl) rfl ?_; rintro _ z3 ⟨b, K, L, M, rfl, hset, hbb, hKK, hLL, hMM, hf3⟩; refine ⟨_, rfl, ?_⟩; have hs3 := hf3.size; have hS3 := hS2.trans0 hf3; refine wpList_nil (q_held hS3 ?_))
    case' ob1 =>
      (refine s_call (newSetsP t _ z1 ((ht.tr0 hf0).tr0 hS1) hl) rfl ?_; rintro _ z2 ⟨b, K, L, M, rfl, hset, hbb, hKK, hLL, hMM, hf2⟩; refine ⟨_, rfl, ?_⟩; have hs2 := hf2.size; have hS2 := hS1.trans0 hf2; refine wpList_nil (q_held hS2 ?_))
      refine d_one (i := 9) rfl (by kernel_rfl) ?_
      (refine s_makeS (k := t.length) rfl rfl (by omega) (by unfold maxLen; omega) (fun z3 hoZ hf3 hs3 => ?_); obtain ⟨Z, hZe⟩ : ∃ y, y = z2.heap.size := ⟨_, rfl⟩; rw [← hZe] at hoZ ⊢; have hS3 := hS2.trans0 hf3; refine wpList_nil (q_held hS3 ?_))
  case' ob =>
    (refine s_makeS (k := t.length) rfl rfl (by omega) (by unfold maxLen; omega) (fun z1 hoZ hf1 hs1 => ?_); obtain ⟨Z, hZe⟩ : ∃ y, y = z0.heap.size := ⟨_, rfl⟩; rw [← hZe] at hoZ ⊢; have hS1 := hS0.trans0 hf1; refine wpList_nil (q_held hS1 ?_))
    refine d_two (i := 5) (j := 11) rfl rfl (by kernel_rfl) ?oa2 ?ob2
    case' oa2 =>
      (refine s_makeS (k := t.length) rfl rfl (by omega) (by unfold maxLen; omega) (fun z2 hoA hf2 hs2 => ?_); obtain ⟨A, hAe⟩ : ∃ y, y = z1.heap.size := ⟨_, rfl⟩; rw [← hAe] at hoA ⊢; have hS2 := hS1.trans0 hf2; refine wpList_nil (q_held hS2 ?_))
      refine d_one (i := 11) rfl (by kernel_rfl) ?_
      (refine s_call (newSetsP t _ z2 ((ht.tr0 hf0).tr0 hS2) hl) rfl ?_; rintro _ z3 ⟨b, K, L, M, rfl, hset, hbb, hKK, hLL, hMM, hf3⟩; refine ⟨_, rfl, ?_⟩; have hs3 := hf3.size; have hS3 := hS2.trans0 hf3; refine wpList_nil (q_held hS3 ?_))
    case' ob2 =>
      (refine s_call (newSetsP t _ z1 ((ht.tr0 hf0).tr0 hS1) hl) rfl ?_; rintro _ z2 ⟨b, K, L, M, rfl, hset, hbb, hKK, hLL, hMM, hf2⟩; refine ⟨_, rfl, ?_⟩; have hs2 := hf2.size; have hS2 := hS1.trans0 hf2; refine wpList_nil (q_held hS2 ?_))
      refine d_one (i := 5) rfl (by kernel_rfl) ?_
      (refine s_makeS (k := t.length) rfl rfl (by omega) (by unfold maxLen; omega) (fun z3 hoA hf3 hs3 => ?_); obtain ⟨A, hAe⟩ : ∃ y, y = z2.heap.size := ⟨_, rfl⟩; rw [← hAe] at hoA ⊢; have hS3 := hS2.trans0 hf3; refine wpList_nil (q_held hS3 ?_))
  case' oc =>
    (refine s_call (newSetsP t _ z0 ((ht.tr0 hf0).tr0 hS0) hl) rfl ?_; rintro _ z1 ⟨b, K, L, M, rfl, hset, hbb, hKK, hLL, hMM, hf1⟩; refine ⟨_, rfl, ?_⟩; have hs1 := hf1.size; have hS1 := hS0.trans0 hf1; refine wpList_nil (q_held hS1 ?_))
    refine d_two (i := 5) (j := 9) rfl rfl (by kernel_rfl) ?oa3 ?ob3
    case' oa3 =>
      (refine s_makeS (k := t.length) rfl rfl (by omega) (by unfold maxLen; omega) (fun z2 hoA hf2 hs2 => ?_); obtain ⟨A, hAe⟩ : ∃ y, y = z1.heap.size := ⟨_, rfl⟩; rw [← hAe] at hoA ⊢; have hS2 := hS1.trans0 hf2; refine wpList_nil (q_held hS2 ?_))
      refine d_one (i := 9) rfl (by kernel_rfl) ?_
      (refine s_makeS (k := t.length) rfl rfl (by omega) (by unfold maxLen; omega) (fun z3 hoZ hf3 hs3 => ?_); obtain ⟨Z, hZe⟩ : ∃ y, y = z2.heap.size := ⟨_, rfl⟩; rw [← hZe] at hoZ ⊢; have hS3 := hS2.trans0 hf3; refine wpList_nil (q_held hS3 ?_))
    case' ob3 =>
      (refine s_makeS (k := t.length) rfl rfl (by omega) (by unfold maxLen; omega) (fun z2 hoZ hf2 hs2 => ?_); obtain ⟨Z, hZe⟩ : ∃ y, y = z1.heap.size := ⟨_, rfl⟩; rw [← hZe] at hoZ ⊢; have hS2 := hS1.trans0 hf2; refine wpList_nil (q_held hS2 ?_))
      refine d_one (i := 5) rfl (by kernel_rfl) ?_
      (refine s_makeS (k := t.length) rfl rfl (by omega) (by unfold maxLen; omega) (fun z3 hoA hf3 hs3 => ?_); obtain ⟨A, hAe⟩ : ∃ y, y = z2.heap.size := ⟨_, rfl⟩; rw [← hAe] at hoA ⊢; have hS3 := hS2.trans0 hf3; refine wpList_nil (q_held hS3 ?_))
  all_goals
    have hlt := (hset [b, K, L, M] (by simp)).lt
    replace hoA : Own z3 3 1 (.slice (some ⟨A, 0, none⟩) t.length t.length) t.length (zeros [.int .i64 0] t.length) := by first | exact hoA | exact hoA.tr0 hf3 | exact hoA.tr0 (hf2.trans0 hf3)
    replace hoZ : Own z3 3 1 (.slice (some ⟨Z, 0, none⟩) t.length t.length) t.length (zeros [.int .i64 0] t.length) := by first | exact hoZ | exact hoZ.tr0 hf3 | exact hoZ.tr0 (hf2.trans0 hf3)
    replace hset : ∀ S, b ∈ S ∧ K ∈ S ∧ L ∈ S ∧ M ∈ S → SetK t S (.slice as_ t.length cs_) b K L M z3 (List.replicate t.length false) := by first | exact hset | exact fun S hS => (hset S hS).tr0 hf3 | exact fun S hS => (hset S hS).tr0 (hf2.trans0 hf3)
    have hdis : A ≠ Z ∧ (A ≠ b ∧ A ≠ K ∧ A ≠ L ∧ A ≠ M) ∧ (Z ≠ b ∧ Z ≠ K ∧ Z ≠ L ∧ Z ≠ M) ∧ (A < z3.heap.size ∧ Z < z3.heap.size) ∧ (b < z3.heap.size ∧ K < z3.heap.size ∧ L < z3.heap.size ∧ M < z3.heap.size) ∧ w1.heap.size ≤ A ∧ w1.heap.size ≤ Z ∧ w1.heap.size ≤ b ∧ w1.heap.size ≤ K ∧ w1.heap.size ≤ L ∧ w1.heap.size ≤ M := by omega
    clear hAe hZe hbb hKK hLL hMM hlt
    (apply d_take (i := 12); exact rfl; kernel_rfl; kernel_rfl; kernel_rfl; (intro u hu; exact (r_build [.slice as_ t.length cs_, .slice (some ⟨A, 0, none⟩) t.length t.length, .slice (some ⟨Z, 0, none⟩) t.length t.length, .pointer (some ⟨b, 0, none⟩)] (by rfl))); exact hS3)
    refine d_one (i := 13) rfl (by kernel_rfl) ?_
    refine s_box rfl rfl (fun z4 hb4 hf4 hs4 => ?_)
    have hS4 := hS3.trans0 hf4
    refine wpList_nil (q_held hS4 ?_)
    (refine d_one (i := 14) rfl (by kernel_rfl) ?_; refine rx ?_; refine q_held hS4 ?_)
    (refine d_done (by kernel_rfl) ?_)
    have hbA := hoA.blk.tr0 hf4
    have hbZ := hoZ.blk.tr0 hf4
    rw [zeros_int] at hbA hbZ
    exact q_cut ⟨rfl, z3.heap.size, A, Z, b, K, L, M, [A, Z, b, K, L, M], rfl, ⟨hb4, by simp, by simp, hbA, hbZ, (hset _ (by simp)).tr0 hf4, by omega, by simp; omega, by simp⟩, by simp; omega, hS4⟩
end Go.Proofs.YtpochcchekoonaaGreat
