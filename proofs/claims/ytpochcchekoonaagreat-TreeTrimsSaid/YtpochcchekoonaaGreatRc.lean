/-
  The plain law of valid trees: what validT says; the tree of each node; what is read lies in the sets, every choice has options, values are valid.
-/
import Derived.Test.YtpochcchekoonaaGreatTy
namespace Go.Proofs.YtpochcchekoonaaGreat
open Go.Rf Go.RowKit
set_option linter.unusedVariables false
set_option linter.unusedSimpArgs false

/-! ### what a valid tree is -/
structure VT (t : List Nd) : Prop where
  len : t.length ≤ 4096
  chk : Chk2 t t.length
  own : ∀ i (h : i < t.length), frsE (ownV t[i]) = 0
  bnd : ∀ i (h : i < t.length), t[i].kind = 4 → sT t (t[i].kids.headD 0).toNat = some t[i].vals
theorem valGo_all {t : List Nd} : ∀ (m i : Nat), t.length - i = m → valGo (t.take i) (t.drop i) = 0 → ∀ j (h : j < t.length), i ≤ j → stepE (t.take j) t[j] = 0
  | 0, i, hm, h, j, hj, hij => by omega
  | m + 1, i, hm, h, j, hj, hij => by
    have hi : i < t.length := by omega
    rw [valGo_drop hi] at h
    by_cases hz : stepE (t.take i) t[i] = 0
    · rw [if_neg (by simpa using hz)] at h
      by_cases e : j = i
      · subst e; exact hz
      · exact valGo_all m (i + 1) (by omega) h j hj (by omega)
    · rw [if_pos hz] at h; exact absurd h hz
theorem VT.of {t : List Nd} (h : validT t = 0) : VT t := by
  unfold validT at h
  split at h
  · omega
  · rename_i hlen
    have hs := valGo_all t.length 0 rfl h
    have hstep : ∀ j (hj : j < t.length), nodeE j t[j] = 0 ∧ ¬ (256 < lenN (lensT (t.take j)) t[j] ∨ 1024 < sizN (sizsT (t.take j)) t[j]) ∧ (t[j].kind = 4 → bndE (lstAt (setsT (t.take j)) (t[j].kids.headD 0)) t[j].vals = 0) := by
      intro j hj
      have h1 := hs j hj (by omega)
      have hlp : (t.take j).length = j := by rw [List.length_take]; omega
      by_cases hn : nodeE (t.take j).length t[j] = 0
      · by_cases hb : 256 < lenN (lensT (t.take j)) t[j] ∨ 1024 < sizN (sizsT (t.take j)) t[j]
        · rw [step_big hn hb] at h1; omega
        · rw [step_rest hn hb] at h1
          rw [hlp] at hn
          exact ⟨hn, hb, fun h4 => by rw [if_pos h4] at h1; exact h1⟩
      · rw [step_node hn] at h1; exact absurd h1 hn
    have hchk : ∀ n, n ≤ t.length → Chk2 t n := by
      intro n
      induction n with
      | zero => intro _; exact Chk2.zero t
      | succ n ih =>
        intro hn
        have c := ih (by omega)
        obtain ⟨h1, h2, h3⟩ := hstep n (by omega)
        obtain ⟨hf, hp, hm⟩ := nodeE_zero h1
        refine c.succ (by omega) hf hm (by omega) (by omega) (fun h4 => ?_)
        have hb := h3 h4
        have hl := formN_bind hf h4
        have h0 : 0 < t[n].kids.length := by omega
        have hkr := formN_kids hf t[n].kids[0] (by simp)
        obtain ⟨k, hk0⟩ : ∃ k : Nat, t[n].kids[0] = (k : Int) := ⟨t[n].kids[0].toNat, by omega⟩
        rw [headD_get h0, hk0, lstAt_eq (by omega) (by omega)] at hb
        exact (bnd_vals hb (c.ne k (by omega) (by omega))).2
    have hc := hchk t.length (Nat.le_refl _)
    refine ⟨by omega, hc, fun i hi => (nodeE_zero (hstep i hi).1).2.1, fun i hi h4 => ?_⟩
    obtain ⟨h1, h2, h3⟩ := hstep i hi
    obtain ⟨hf, hp, hm⟩ := nodeE_zero h1
    have hb := h3 h4
    have hl := formN_bind hf h4
    have h0 : 0 < t[i].kids.length := by omega
    have hkr := formN_kids hf t[i].kids[0] (by simp)
    obtain ⟨k, hk0⟩ : ∃ k : Nat, t[i].kids[0] = (k : Int) := ⟨t[i].kids[0].toNat, by omega⟩
    rw [headD_get h0, hk0, lstAt_eq (by omega) (by omega)] at hb
    rw [headD_get h0, hk0, Int.toNat_natCast]
    exact (bnd_vals hb (hc.ne k (by omega) (by omega))).1
section
variable {t : List Nd}
theorem VT.form (h : VT t) {i : Nat} (hi : i < t.length) : formN i t[i] = true := (h.chk.chk.wf i hi hi).1
theorem VT.nums (h : VT t) {i : Nat} (hi : i < t.length) : numsN t[i] = true := (h.chk.chk.wf i hi hi).2
theorem VT.kind (h : VT t) {i : Nat} (hi : i < t.length) : 0 ≤ t[i].kind ∧ t[i].kind ≤ 4 := formN_kind (h.form hi)
theorem VT.kids (h : VT t) {i : Nat} (hi : i < t.length) : ∀ k ∈ t[i].kids, 0 ≤ k ∧ k < i := formN_kids (h.form hi)
theorem VT.kid (h : VT t) {i : Nat} (hi : i < t.length) {k : Int} (hk : k ∈ t[i].kids) : ∃ q : Nat, k = (q : Int) ∧ q < i := ⟨k.toNat, by have := h.kids hi k hk; omega, by have := h.kids hi k hk; omega⟩
theorem VT.rng (h : VT t) {i : Nat} (hi : i < t.length) : t[i].lo ≤ t[i].hi ∧ -4611686018427387904 ≤ t[i].lo ∧ t[i].hi ≤ 4611686018427387904 ∧ t[i].hi < t[i].lo + 1099511627776 := by
  have hn := h.nums hi
  unfold numsN at hn
  rw [Bool.and_eq_true] at hn
  exact of_decide_eq_true hn.1
theorem VT.cho (h : VT t) {i : Nat} (hi : i < t.length) (h2 : t[i].kind = 2) : 1 ≤ t[i].kids.length ∧ t[i].kids.length ≤ 256 := by
  have hf := h.form hi
  unfold formN at hf
  simp only [Bool.and_eq_true] at hf
  have := (of_decide_eq_true hf.2.2.2.1).1 h2
  exact ⟨this.1, this.2.1⟩
theorem VT.seq (h : VT t) {i : Nat} (hi : i < t.length) (h3 : t[i].kind = 3) : t[i].kids.length ≤ 256 ∧ (t[i].name = ⟨#[]⟩ ∨ capB t[i].name.data.toList = true ∧ t[i].kids.length ≤ 16) := by
  have hf := h.form hi
  unfold formN at hf
  simp only [Bool.and_eq_true] at hf
  exact (of_decide_eq_true hf.2.2.2.1).2.1 h3
theorem VT.bind (h : VT t) {i : Nat} (hi : i < t.length) (h4 : t[i].kind = 4) : t[i].kids.length = t[i].vals.length + 1 ∧ 0 < t[i].vals.length ∧ Srt t[i].vals := by
  have hb := h.bnd i hi h4
  have hl := formN_bind (h.form hi) h4
  have h0 : 0 < t[i].kids.length := by omega
  obtain ⟨k, hk, hki⟩ := h.kid hi (List.getElem_mem h0)
  rw [headD_get h0, hk, Int.toNat_natCast] at hb
  have hne := h.chk.ne k (by omega) (by omega)
  have hsr := sT_srt (t := t) (k := k) (by omega)
  rw [hb] at hne hsr
  refine ⟨hl, List.length_pos_iff.2 (fun e => hne (by rw [e])), hsr⟩
end

/-! ### the tree of each node -/
def tAt (ts : List T) (k : Int) : T := ts.getD k.toNat (.leaf (numV 0))
def mkT (ts : List T) (i : Nat) (x : Nd) : T :=
  if x.kind = 0 then .leaf x.val else if x.kind = 1 then .rng i x.lo (x.hi - x.lo + 1).toNat else if x.kind = 2 then .cho i (x.kids.map (tAt ts)) else if x.kind = 3 then .seq x (x.kids.map (tAt ts))
  else .bnd x.vals (tAt ts (x.kids.headD 0)) (x.kids.tail.map (tAt ts))
def trsT (p : List Nd) : List T := p.foldl (fun ts x => ts ++ [mkT ts ts.length x]) []
theorem trsT_snoc (p : List Nd) (x : Nd) : trsT (p ++ [x]) = trsT p ++ [mkT (trsT p) (trsT p).length x] := by unfold trsT; rw [List.foldl_append]; rfl
theorem trsT_len (p : List Nd) : (trsT p).length = p.length := by
  refine snocInd (P := fun p => (trsT p).length = p.length) rfl (fun p x ih => ?_) p
  rw [trsT_snoc, List.length_append, ih]; simp
theorem trsT_take {t : List Nd} {i : Nat} (h : i < t.length) : trsT (t.take (i + 1)) = trsT (t.take i) ++ [mkT (trsT (t.take i)) i t[i]] := by
  rw [List.take_succ_eq_append_getElem h, trsT_snoc, trsT_len, List.length_take, Nat.min_eq_left (by omega)]
theorem trsT_get {t : List Nd} : ∀ {n k : Nat}, k < n → (hk : k < t.length) → (trsT (t.take n))[k]? = some (mkT (trsT (t.take k)) k t[k])
  | 0, k, h, hk => by omega
  | n + 1, k, h, hk => by
    by_cases hn : n < t.length
    · rw [trsT_take hn]
      by_cases e : k = n
      · subst e
        rw [List.getElem?_append_right (by rw [trsT_len, List.length_take]; omega)]
        rw [trsT_len, List.length_take]
        simp [Nat.min_eq_left (Nat.le_of_lt hn)]
      · rw [List.getElem?_append_left (by rw [trsT_len, List.length_take]; omega)]
        exact trsT_get (by omega) hk
    · rw [List.take_of_length_le (by omega)]
      have h1 := trsT_get (t := t) (n := n) (k := k) (by omega) hk
      rw [List.take_of_length_le (by omega)] at h1
      exact h1
def tA (t : List Nd) (k : Nat) : T := (trsT t).getD k (.leaf (numV 0))
theorem tA_eq {t : List Nd} {k : Nat} (hk : k < t.length) : tA t k = mkT (trsT (t.take k)) k t[k] := by
  unfold tA
  have := trsT_get (t := t) (n := t.length) hk hk
  rw [List.take_length] at this
  rw [List.getD_eq_getElem?_getD, this]; rfl
theorem tAt_eq {t : List Nd} {n k : Nat} (hk : k < n) (hn : k < t.length) : tAt (trsT (t.take n)) (k : Int) = tA t k := by
  unfold tAt
  rw [Int.toNat_natCast, List.getD_eq_getElem?_getD, trsT_get hk hn, tA_eq hn]; rfl
section
variable {t : List Nd}
theorem tAt_map (h : VT t) {i : Nat} (hi : i < t.length) {l : List Int} (hl : ∀ k ∈ l, k ∈ t[i].kids) : l.map (tAt (trsT (t.take i))) = l.map (fun q => tA t q.toNat) := List.map_congr_left fun k hk => by
  obtain ⟨q, rfl, hq⟩ := h.kid hi (hl k hk)
  rw [tAt_eq hq (by omega), Int.toNat_natCast]
def kidsT (t : List Nd) (l : List Int) : List T := l.map fun q => tA t q.toNat
theorem kidsT_len (l : List Int) : (kidsT t l).length = l.length := by simp [kidsT]
theorem kidsT_mem {l : List Int} {s : T} (h : s ∈ kidsT t l) : ∃ k ∈ l, s = tA t k.toNat := by
  obtain ⟨k, hk, rfl⟩ := List.mem_map.1 h; exact ⟨k, hk, rfl⟩
theorem tA_leaf {i : Nat} (hi : i < t.length) (h0 : t[i].kind = 0) : tA t i = .leaf t[i].val := by rw [tA_eq hi]; unfold mkT; rw [if_pos h0]
theorem tA_rng {i : Nat} (hi : i < t.length) (h1 : t[i].kind = 1) : tA t i = .rng i t[i].lo (t[i].hi - t[i].lo + 1).toNat := by rw [tA_eq hi]; unfold mkT; rw [if_neg (by omega), if_pos h1]
theorem tA_cho (h : VT t) {i : Nat} (hi : i < t.length) (h2 : t[i].kind = 2) : tA t i = .cho i (kidsT t t[i].kids) := by rw [tA_eq hi]; unfold mkT; rw [if_neg (by omega), if_neg (by omega), if_pos h2, tAt_map h hi (fun k hk => hk)]; rfl
theorem tA_seq (h : VT t) {i : Nat} (hi : i < t.length) (h3 : t[i].kind = 3) : tA t i = .seq t[i] (kidsT t t[i].kids) := by rw [tA_eq hi]; unfold mkT; rw [if_neg (by omega), if_neg (by omega), if_neg (by omega), if_pos h3, tAt_map h hi (fun k hk => hk)]; rfl
theorem tA_bnd (h : VT t) {i : Nat} (hi : i < t.length) (h4 : t[i].kind = 4) : tA t i = .bnd t[i].vals (tA t (t[i].kids.headD 0).toNat) (kidsT t t[i].kids.tail) := by
  have h0 : 0 < t[i].kids.length := by have := (h.bind hi h4).1; omega
  obtain ⟨q, hq, hqi⟩ := h.kid hi (List.getElem_mem h0)
  rw [tA_eq hi]; unfold mkT
  rw [if_neg (by omega), if_neg (by omega), if_neg (by omega), if_neg (by omega), tAt_map h hi (fun k hk => List.mem_of_mem_tail hk), headD_get h0, hq, tAt_eq hqi (by omega), Int.toNat_natCast]; rfl
theorem vInd {Q : Nat → Prop} (step : ∀ k (hk : k < t.length), (∀ j, j < k → Q j) → Q k) : ∀ k, k < t.length → Q k := by
  intro k
  induction k using Nat.strongRecOn with
  | _ k ih => intro hk; exact step k hk (fun j hj => ih j hj (by omega))
theorem kind5 (h : VT t) {i : Nat} (hi : i < t.length) : t[i].kind = 0 ∨ t[i].kind = 1 ∨ t[i].kind = 2 ∨ t[i].kind = 3 ∨ t[i].kind = 4 := by have := h.kind hi; omega
end

/-! ### parts of readings -/
section
variable {P : List Int}
theorem rdN_ok {ts : List T} {k a : Nat} {v : V} {e : Nat} {sp : List Sp} (h : rdN P ts k a = .ok v e sp) : ∃ (hk : k < ts.length), rd P ts[k] a = .ok v e sp := by
  by_cases hk : k < ts.length
  · rw [rdN_get P ts k a hk] at h; exact ⟨hk, h⟩
  · exfalso
    have : ∀ (ts : List T) (k a : Nat), ¬ k < ts.length → rdN P ts k a = .bad := by
      intro ts
      induction ts with
      | nil => intro k a _; simp [rdN]
      | cons t ts ih =>
        intro k a hk
        cases k with
        | zero => simp at hk
        | succ k => simp only [rdN]; exact ih k a (by simpa using hk)
    rw [this ts k a hk] at h; cases h
theorem rdN_stop {ts : List T} {k a i n : Nat} (h : rdN P ts k a = .stop i n) : ∃ (hk : k < ts.length), rd P ts[k] a = .stop i n := by
  by_cases hk : k < ts.length
  · rw [rdN_get P ts k a hk] at h; exact ⟨hk, h⟩
  · exfalso
    have : ∀ (ts : List T) (k a : Nat), ¬ k < ts.length → rdN P ts k a = .bad := by
      intro ts
      induction ts with
      | nil => intro k a _; simp [rdN]
      | cons t ts ih =>
        intro k a hk
        cases k with
        | zero => simp at hk
        | succ k => simp only [rdN]; exact ih k a (by simpa using hk)
    rw [this ts k a hk] at h; cases h
theorem rdS_ok {s : Nat} : ∀ {ts : List T} {a : Nat} {vs : List V} {e : Nat} {sp : List Sp}, rdS P s ts a = .ok vs e sp → vs.length = ts.length ∧ ∀ j (hj : j < ts.length) (hj' : j < vs.length), ∃ a' e' sp', rd P ts[j] a' = .ok vs[j] e' sp'
  | [], a, vs, e, sp, h => by simp only [rdS, Res.ok.injEq] at h; rw [← h.1]; simp
  | t :: ts, a, vs, e, sp, h => by
    simp only [rdS] at h
    rcases hq : rd P t a with ⟨v1, e1, sp1⟩ | _ | _
    · rw [hq] at h
      simp only [Res.bind_ok] at h
      rcases hq2 : rdS P s ts e1 with ⟨v2, e2, sp2⟩ | _ | _
      · rw [hq2] at h
        simp only [Res.bind_ok, Res.ok.injEq] at h
        obtain ⟨h1, h2⟩ := rdS_ok hq2
        rw [← h.1]
        refine ⟨by simp [h1], fun j hj hj' => ?_⟩
        cases j with
        | zero => exact ⟨a, e1, sp1, hq⟩
        | succ j => simpa using h2 j (by simpa using hj) (by simpa using hj')
      · rw [hq2] at h; cases h
      · rw [hq2] at h; cases h
    · rw [hq] at h; cases h
    · rw [hq] at h; cases h
theorem rdS_stop {s : Nat} : ∀ {ts : List T} {a i n : Nat}, rdS P s ts a = .stop i n → ∃ t ∈ ts, ∃ a', rd P t a' = .stop i n
  | [], a, i, n, h => by simp [rdS] at h
  | t :: ts, a, i, n, h => by
    simp only [rdS] at h
    rcases hq : rd P t a with ⟨v1, e1, sp1⟩ | ⟨i1, n1⟩ | _
    · rw [hq] at h
      simp only [Res.bind_ok] at h
      rcases hq2 : rdS P s ts e1 with ⟨v2, e2, sp2⟩ | ⟨i2, n2⟩ | _
      · rw [hq2] at h; cases h
      · rw [hq2] at h
        simp only [Res.bind_stop, Res.stop.injEq] at h
        obtain ⟨rfl, rfl⟩ := h
        obtain ⟨s', hs, a', h'⟩ := rdS_stop hq2
        exact ⟨s', by simp [hs], a', h'⟩
      · rw [hq2] at h; cases h
    · rw [hq] at h
      simp only [Res.bind_stop, Res.stop.injEq] at h
      obtain ⟨rfl, rfl⟩ := h
      exact ⟨t, by simp, a, hq⟩
    · rw [hq] at h; cases h
theorem pick_ok {α : Type} {i n a : Nat} {f : Nat → Res α} {v : α} {e : Nat} {sp : List Sp} (h : pick1 P i n a f = .ok v e sp) : ∃ c : Nat, P[a]? = some (c : Int) ∧ c < n ∧ f c = .ok v e sp := by
  unfold pick1 at h
  split at h
  · cases h
  · rename_i c hc
    split at h
    · rename_i hr
      refine ⟨c.toNat, by rw [Int.toNat_of_nonneg hr.1]; exact hc, by omega, h⟩
    · cases h
theorem pick_stop {α : Type} {i n a i' n' : Nat} {f : Nat → Res α} (h : pick1 P i n a f = .stop i' n') : (i' = i ∧ n' = n) ∨ ∃ c : Nat, c < n ∧ f c = .stop i' n' := by
  unfold pick1 at h
  split at h
  · simp only [Res.stop.injEq] at h; exact .inl ⟨h.1.symm, h.2.symm⟩
  · rename_i c hc
    split at h
    · rename_i hr; exact .inr ⟨c.toNat, by omega, h⟩
    · cases h
end

/-! ### what is read lies in the sets -/
theorem rngV_mem {lo : Int} : ∀ {n c : Nat}, c < n → numV (lo + c) ∈ rngV lo n
  | 0, c, h => by omega
  | n + 1, c, h => by
    rw [rngV, List.mem_append]
    by_cases e : c = n
    · right; rw [e]; simp
    · left; exact rngV_mem (by omega)
theorem uniGo_all {ls : List (Option (List V))} : ∀ {ks : List Int} {out : List V} {m : Bool}, (uniGo ls ks out m).2 = false → ∀ k ∈ ks, ∃ l, lstAt ls k = some l ∧ ∀ v ∈ l, v ∈ (uniGo ls ks out m).1
  | [], out, m, h, k, hk => by simp at hk
  | k0 :: ks, out, m, h, k, hk => by
    rw [uniGo] at h ⊢
    rcases List.mem_cons.1 hk with rfl | hk
    · rcases hq : lstAt ls k with _ | l
      · rw [hq] at h
        simp only [Option.isNone_none, Bool.true_or, Bool.or_true] at h
        rw [uniGo_true] at h; cases h
      · exact ⟨l, rfl, fun v hv => uniGo_mem ks _ _ (srtV_mem.2 (by simp [hv]))⟩
    · exact uniGo_all h k hk
theorem uni_mem {ls : List (Option (List V))} {ks : List Int} {out : List V} (h : uniN ls ks = some out) : ∀ k ∈ ks, ∃ l, lstAt ls k = some l ∧ ∀ v ∈ l, v ∈ out := by
  unfold uniN at h
  split at h
  · cases h
  · rename_i hm
    have := uniGo_all (ls := ls) (ks := ks) (out := []) (m := false) (by simpa using hm)
    rw [Option.some.inj h] at this
    exact this
theorem seqGo_mem {ls : List (Option (List V))} : ∀ {ks : List Int} {rows R : List (List V)}, seqGo ls ks rows = some R → ∀ (r vs : List V), r ∈ rows → vs.length = ks.length → (∀ j (hj : j < ks.length) (hj' : j < vs.length), ∀ l, lstAt ls ks[j] = some l → vs[j] ∈ l) → r ++ vs ∈ R
  | [], rows, R, h, r, vs, hr, hl, hv => by
    simp only [seqGo, Option.some.injEq] at h
    have : vs = [] := List.eq_nil_of_length_eq_zero (by simpa using hl)
    rw [this, List.append_nil, ← h]; exact hr
  | k :: ks, rows, R, h, r, vs, hr, hl, hv => by
    simp only [seqGo] at h
    split at h
    · cases h
    · rename_i l hq
      by_cases hb : 1024 < rows.length * l.length
      · rw [if_pos hb] at h; cases h
      · rw [if_neg hb] at h
        cases vs with
        | nil => simp at hl
        | cons v vs =>
          have hv0 : v ∈ l := hv 0 (by simp) (by simp) l hq
          have := seqGo_mem h (r ++ [v]) vs (by unfold prodS; exact List.mem_flatMap.2 ⟨r, hr, List.mem_map.2 ⟨v, hv0, rfl⟩⟩) (by simpa using hl) (fun j hj hj' l hl => hv (j + 1) (by simpa using hj) (by simpa using hj') l hl)
          rwa [List.append_assoc] at this
theorem rd_mem {t : List Nd} (h : VT t) : ∀ k, k < t.length → ∀ (P : List Int) (a : Nat) (v : V) (e : Nat) (sp : List Sp), rd P (tA t k) a = .ok v e sp → ∀ l, sT t k = some l → v ∈ l := by
  refine vInd fun k hk ih P a v e sp hrd l hl => ?_
  rw [sT_eq hk] at hl
  have hkid : ∀ q, q ∈ t[k].kids → ∀ (P : List Int) (a : Nat) (v : V) (e : Nat) (sp : List Sp), rd P (tA t q.toNat) a = .ok v e sp → ∀ l, lstAt (setsT (t.take k)) q = some l → v ∈ l := by
    intro q hq P a v e sp hr l hl
    obtain ⟨p, rfl, hp⟩ := h.kid hk hq
    rw [lstAt_eq hp (by omega)] at hl
    rw [Int.toNat_natCast] at hr
    exact ih p hp P a v e sp hr l hl
  rcases kind5 h hk with h0 | h1 | h2 | h3 | h4
  · rw [tA_leaf hk h0] at hrd
    unfold setN at hl
    rw [if_pos h0] at hl
    simp only [rd, Res.ok.injEq] at hrd
    rw [← Option.some.inj hl, ← hrd.1]; simp
  · rw [tA_rng hk h1] at hrd
    unfold setN at hl
    rw [if_neg (by omega), if_pos h1] at hl
    split at hl
    · cases hl
    · simp only [rd] at hrd
      obtain ⟨c, hc, hn, hv⟩ := pick_ok hrd
      simp only [Res.ok.injEq] at hv
      rw [← Option.some.inj hl, ← hv.1]
      exact rngV_mem hn
  · rw [tA_cho h hk h2] at hrd
    unfold setN at hl
    rw [if_neg (by omega), if_neg (by omega), if_neg (by omega)] at hl
    have hrm : remK t[k] 0 = t[k].kids := by unfold remK; rw [if_neg (by omega)]; rfl
    rw [hrm] at hl
    simp only [rd] at hrd
    obtain ⟨c, hc, hn, hv⟩ := pick_ok hrd
    obtain ⟨hcl, hv⟩ := rdN_ok hv
    rw [kidsT_len] at hn
    simp only [kidsT, List.getElem_map] at hv
    obtain ⟨l', h1', h2'⟩ := uni_mem hl t[k].kids[c] (by simp)
    exact h2' v (hkid _ (by simp) P _ v e sp hv l' h1')
  · rw [tA_seq h hk h3] at hrd
    unfold setN at hl
    rw [if_neg (by omega), if_neg (by omega), if_pos h3] at hl
    unfold seqN at hl
    obtain ⟨rows, hr, rfl⟩ := Option.map_eq_some_iff.1 hl
    simp only [rd] at hrd
    rcases hq : rdS P a (kidsT t t[k].kids) a with ⟨vs, e1, sp1⟩ | _ | _
    · rw [hq] at hrd
      simp only [Res.bind_ok, Res.ok.injEq] at hrd
      obtain ⟨hlen, hvs⟩ := rdS_ok hq
      rw [kidsT_len] at hlen
      rw [← hrd.1, srtV_mem]
      refine List.mem_map.2 ⟨vs, ?_, rfl⟩
      have := seqGo_mem hr [] vs (by simp) hlen (fun j hj hj' l hl => by
        obtain ⟨a', e', sp', hv⟩ := hvs j (by rw [kidsT_len]; exact hj) hj'
        simp only [kidsT, List.getElem_map] at hv
        exact hkid _ (by simp) P a' _ e' sp' hv l hl)
      simpa using this
    · rw [hq] at hrd; cases hrd
    · rw [hq] at hrd; cases hrd
  · rw [tA_bnd h hk h4] at hrd
    unfold setN at hl
    rw [if_neg (by omega), if_neg (by omega), if_neg (by omega)] at hl
    have hrm : remK t[k] 0 = t[k].kids.tail := by unfold remK; rw [if_pos ⟨h4, rfl⟩, List.drop_one]
    rw [hrm] at hl
    simp only [rd] at hrd
    rcases hq : rd P (tA t (t[k].kids.headD 0).toNat) a with ⟨v1, e1, sp1⟩ | _ | _
    · rw [hq] at hrd
      simp only [Res.bind_ok] at hrd
      rcases hq2 : rdN P (kidsT t t[k].kids.tail) (fndV t[k].vals v1).1 e1 with ⟨v2, e2, sp2⟩ | _ | _
      · rw [hq2] at hrd
        simp only [Res.bind_ok, Res.ok.injEq] at hrd
        obtain ⟨hcl, hv⟩ := rdN_ok hq2
        simp only [kidsT, List.getElem_map] at hv
        have hm : t[k].kids.tail[(fndV t[k].vals v1).1]'(by rw [kidsT_len] at hcl; exact hcl) ∈ t[k].kids.tail := List.getElem_mem _
        obtain ⟨l', h1', h2'⟩ := uni_mem hl _ hm
        rw [← hrd.1]
        exact h2' v2 (hkid _ (List.mem_of_mem_tail hm) P _ v2 e2 sp2 hv l' h1')
      · rw [hq2] at hrd; cases hrd
      · rw [hq2] at hrd; cases hrd
    · rw [hq] at hrd; cases hrd
    · rw [hq] at hrd; cases hrd
theorem fnd_idx {l : List V} {v : V} (hs : Srt l) (hv : v ∈ l) : (fndV l v).1 < l.length := by
  by_cases h : (fndV l v).1 < l.length
  · exact h
  · have := fnd_end l v h
    rw [(fnd_mem hs).2 hv] at this; cases this
theorem VT.first {t : List Nd} (h : VT t) {i : Nat} (hi : i < t.length) (h4 : t[i].kind = 4) : ∃ q : Nat, q < i ∧ (t[i].kids.headD 0) = (q : Int) ∧ sT t q = some t[i].vals := by
  have hb := h.bnd i hi h4
  have h0 : 0 < t[i].kids.length := by have := (h.bind hi h4).1; omega
  obtain ⟨q, hq, hqi⟩ := h.kid hi (List.getElem_mem h0)
  rw [headD_get h0, hq, Int.toNat_natCast] at hb
  exact ⟨q, hqi, by rw [headD_get h0, hq], hb⟩
theorem good {t : List Nd} (h : VT t) : ∀ k, k < t.length → Good (tA t k) := by
  refine vInd fun k hk ih => ?_
  have hkid : ∀ q, q ∈ t[k].kids → Good (tA t q.toNat) := by
    intro q hq
    obtain ⟨p, rfl, hp⟩ := h.kid hk hq
    rw [Int.toNat_natCast]
    exact ih p hp
  rcases kind5 h hk with h0 | h1 | h2 | h3 | h4
  · rw [tA_leaf hk h0]; exact .leaf _
  · rw [tA_rng hk h1]
    have := h.rng hk
    exact .rng (by omega)
  · rw [tA_cho h hk h2]
    refine .cho (by rw [kidsT_len]; have := h.cho hk h2; omega) (fun s hs => ?_)
    obtain ⟨q, hq, rfl⟩ := kidsT_mem hs
    exact hkid q hq
  · rw [tA_seq h hk h3]
    refine .seq (fun s hs => ?_)
    obtain ⟨q, hq, rfl⟩ := kidsT_mem hs
    exact hkid q hq
  · rw [tA_bnd h hk h4]
    obtain ⟨q, hq, hqe, hqs⟩ := h.first hk h4
    rw [hqe, Int.toNat_natCast]
    have hb := h.bind hk h4
    refine .bnd (ih q hq) (fun s hs => ?_) (fun P a v e sp hr => ?_)
    · obtain ⟨p, hp, rfl⟩ := kidsT_mem hs
      exact hkid p (List.mem_of_mem_tail hp)
    · have hv := rd_mem h q (by omega) P a v e sp hr _ hqs
      have := fnd_idx hb.2.2 hv
      rw [kidsT_len, List.length_tail]; omega
end Go.Proofs.YtpochcchekoonaaGreat
