/-
  The plain law of fitting: the fitted path is read, its beginnings stop at the node whose number comes next; fitting a path gives it back.
-/
import Derived.Test.YtpochcchekoonaaGreatRa
namespace Go.Proofs.YtpochcchekoonaaGreat
open Go.Rf Go.RowKit
set_option linter.unusedVariables false
set_option linter.unusedSimpArgs false

--BEGIN
mutual
theorem fit_ext (raw : List Int) : ∀ (t : T) (p : List Int), ∃ q, (fit raw t p).2 = p ++ q
  | .leaf v, p => ⟨[], by simp [fit]⟩
  | .rng i lo n, p => ⟨[(clp raw p.length n : Int)], by simp only [fit]⟩
  | .cho i ks, p => by
    obtain ⟨q, h⟩ := fitN_ext raw ks (clp raw p.length ks.length) (p ++ [(clp raw p.length ks.length : Int)])
    exact ⟨_, by simp only [fit]; rw [h, List.append_assoc]⟩
  | .seq x ks, p => by
    obtain ⟨q, h⟩ := fitS_ext raw ks p
    exact ⟨q, by simp only [fit]; rw [h]⟩
  | .bnd vals f ks, p => by
    obtain ⟨q, h⟩ := fit_ext raw f p
    obtain ⟨q', h'⟩ := fitN_ext raw ks (fndV vals (fit raw f p).1).1 (fit raw f p).2
    exact ⟨q ++ q', by simp only [fit]; rw [h', h, List.append_assoc]⟩
theorem fitN_ext (raw : List Int) : ∀ (ts : List T) (k : Nat) (p : List Int), ∃ q, (fitN raw ts k p).2 = p ++ q
  | [], k, p => ⟨[], by simp [fitN]⟩
  | t :: ts, 0, p => by simp only [fitN]; exact fit_ext raw t p
  | t :: ts, k + 1, p => by simp only [fitN]; exact fitN_ext raw ts k p
theorem fitS_ext (raw : List Int) : ∀ (ts : List T) (p : List Int), ∃ q, (fitS raw ts p).2 = p ++ q
  | [], p => ⟨[], by simp [fitS]⟩
  | t :: ts, p => by
    obtain ⟨q, h⟩ := fit_ext raw t p
    obtain ⟨q', h'⟩ := fitS_ext raw ts (fit raw t p).2
    exact ⟨q ++ q', by simp only [fitS]; rw [h', h, List.append_assoc]⟩
end
theorem pick_at {α : Type} {P p Q : List Int} {i n : Nat} {c : Nat} {f : Nat → Res α} (hP : P = p ++ (c : Int) :: Q) (hc : c < n) : pick1 P i n p.length f = f c := by
  subst hP
  have : (p ++ (c : Int) :: Q)[p.length]? = some (c : Int) := by simp
  simp only [pick1, this]
  rw [if_pos (by omega)]; simp
mutual
theorem fit_rd (raw : List Int) : ∀ (t : T), Good t → ∀ (p Q : List Int), ∃ sp, rd ((fit raw t p).2 ++ Q) t p.length = .ok (fit raw t p).1 (fit raw t p).2.length sp
  | .leaf v, _, p, Q => ⟨[], by simp [fit, rd]⟩
  | .rng i lo n, hg, p, Q => by
    cases hg with
    | rng hn =>
    simp only [fit, rd]
    refine ⟨[], ?_⟩
    rw [pick_at (c := clp raw p.length n) (by rw [List.append_assoc]; rfl) (clp_lt hn)]
    simp
  | .cho i ks, hg, p, Q => by
    cases hg with
    | cho hp hk =>
    have hc : clp raw p.length ks.length < ks.length := clp_lt hp
    simp only [fit, rd]
    generalize clp raw p.length ks.length = c at hc
    obtain ⟨q, hq⟩ := fitN_ext raw ks c (p ++ [(c : Int)])
    obtain ⟨sp, h⟩ := fitN_rd raw ks hk c (p ++ [(c : Int)]) Q hc
    refine ⟨sp, ?_⟩
    rw [pick_at (c := c) (Q := q ++ Q) (by rw [hq]; simp) hc]
    simpa using h
  | .seq x ks, hg, p, Q => by
    cases hg with
    | seq hk =>
    obtain ⟨sp, h⟩ := fitS_rd raw p.length ks hk p Q
    refine ⟨sp, ?_⟩
    simp only [fit, rd]
    rw [h]; rfl
  | .bnd vals f ks, hg, p, Q => by
    cases hg with
    | bnd hf hk hv =>
    simp only [fit, rd]
    generalize hp1 : fit raw f p = fp
    obtain ⟨q, hq⟩ := fitN_ext raw ks (fndV vals fp.1).1 fp.2
    obtain ⟨sp, h⟩ := fit_rd raw f hf p (q ++ Q)
    rw [hp1, ← List.append_assoc, ← hq] at h
    rw [h]
    have hl := hv _ _ _ _ _ h
    obtain ⟨sp2, h2⟩ := fitN_rd raw ks hk (fndV vals fp.1).1 fp.2 Q hl
    simp only [Res.bind_ok]
    rw [h2]
    exact ⟨_, rfl⟩
theorem fitN_rd (raw : List Int) : ∀ (ts : List T), (∀ t ∈ ts, Good t) → ∀ (k : Nat) (p Q : List Int), k < ts.length → ∃ sp, rdN ((fitN raw ts k p).2 ++ Q) ts k p.length = .ok (fitN raw ts k p).1 (fitN raw ts k p).2.length sp
  | [], _, k, p, Q, h => by simp at h
  | t :: ts, hg, 0, p, Q, _ => by simp only [fitN, rdN]; exact fit_rd raw t (hg t (by simp)) p Q
  | t :: ts, hg, k + 1, p, Q, h => by simp only [fitN, rdN]; exact fitN_rd raw ts (fun t ht => hg t (by simp [ht])) k p Q (by simpa using h)
theorem fitS_rd (raw : List Int) (s : Nat) : ∀ (ts : List T), (∀ t ∈ ts, Good t) → ∀ (p Q : List Int), ∃ sp, rdS ((fitS raw ts p).2 ++ Q) s ts p.length = .ok (fitS raw ts p).1 (fitS raw ts p).2.length sp
  | [], _, p, Q => ⟨[], by simp [fitS, rdS]⟩
  | t :: ts, hg, p, Q => by
    simp only [fitS, rdS]
    generalize hp1 : fit raw t p = fp
    obtain ⟨q, hq⟩ := fitS_ext raw ts fp.2
    obtain ⟨sp, h⟩ := fit_rd raw t (hg t (by simp)) p (q ++ Q)
    rw [hp1, ← List.append_assoc, ← hq] at h
    rw [h]
    obtain ⟨sp2, h2⟩ := fitS_rd raw s ts (fun t ht => hg t (by simp [ht])) fp.2 Q
    simp only [Res.bind_ok]
    rw [h2]
    exact ⟨_, rfl⟩
end
theorem take_ext {p q : List Int} {k : Nat} (h : p.length ≤ k) : ∃ q', (p ++ q).take k = p ++ q' := ⟨q.take (k - p.length), by rw [List.take_append, List.take_of_length_le h]⟩
mutual
theorem fit_take (raw : List Int) : ∀ (t : T), Good t → ∀ (p : List Int) (k : Nat), p.length ≤ k → k < (fit raw t p).2.length → ∃ i n, rd ((fit raw t p).2.take k) t p.length = .stop i n ∧ (fit raw t p).2[k]? = some (clp raw k n : Int)
  | .leaf v, _, p, k, h1, h2 => by simp only [fit] at h2; omega
  | .rng i lo n, hg, p, k, h1, h2 => by
    simp only [fit] at h2 ⊢
    have : k = p.length := by simp at h2; omega
    subst this
    refine ⟨i, n, ?_, by simp⟩
    simp [rd, pick1]
  | .cho i ks, hg, p, k, h1, h2 => by
    cases hg with
    | cho hp hk =>
    have hc : clp raw p.length ks.length < ks.length := clp_lt hp
    simp only [fit, rd] at h2 ⊢
    obtain ⟨c, hcc⟩ : ∃ c, clp raw p.length ks.length = c := ⟨_, rfl⟩
    rw [hcc] at hc h2 ⊢
    obtain ⟨q, hq⟩ := fitN_ext raw ks c (p ++ [(c : Int)])
    by_cases e : k = p.length
    · subst e
      refine ⟨i, ks.length, ?_, ?_⟩
      · have : ((fitN raw ks c (p ++ [(c : Int)])).2.take p.length)[p.length]? = none := by rw [List.getElem?_eq_none_iff, List.length_take]; omega
        simp only [pick1, this]
      · rw [hq, hcc]; simp
    · obtain ⟨i', n', h3, h4⟩ := fitN_take raw ks hk c (p ++ [(c : Int)]) k hc (by simp; omega) h2
      refine ⟨i', n', ?_, h4⟩
      obtain ⟨q', hq'⟩ := take_ext (p := p ++ [(c : Int)]) (q := q) (k := k) (by simp; omega)
      rw [← hq] at hq'
      rw [pick_at (c := c) (Q := q') (by rw [hq']; simp) hc]
      simpa using h3
  | .seq x ks, hg, p, k, h1, h2 => by
    cases hg with
    | seq hk =>
    simp only [fit, rd] at h2 ⊢
    obtain ⟨i, n, h3, h4⟩ := fitS_take raw p.length ks hk p k h1 h2
    exact ⟨i, n, by rw [h3]; rfl, h4⟩
  | .bnd vals f ks, hg, p, k, h1, h2 => by
    cases hg with
    | bnd hf hk hv =>
    simp only [fit, rd] at h2 ⊢
    have hrd := fit_rd raw f hf p
    have htk := fit_take raw f hf p k h1
    generalize hp1 : fit raw f p = fp at h2 hrd htk ⊢
    obtain ⟨q, hq⟩ := fitN_ext raw ks (fndV vals fp.1).1 fp.2
    by_cases hlt : k < fp.2.length
    · obtain ⟨i, n, h3, h4⟩ := htk hlt
      refine ⟨i, n, ?_, ?_⟩
      · rw [hq, List.take_append_of_le_length (by omega), h3]; rfl
      · rw [hq, List.getElem?_append_left hlt]; exact h4
    · obtain ⟨q', hq'⟩ := take_ext (p := fp.2) (q := q) (k := k) (by omega)
      rw [← hq] at hq'
      obtain ⟨sp, h⟩ := hrd q'
      have hl := hv _ _ _ _ _ h
      obtain ⟨i, n, h3, h4⟩ := fitN_take raw ks hk (fndV vals fp.1).1 fp.2 k hl (by omega) h2
      refine ⟨i, n, ?_, h4⟩
      rw [hq'] at h3 ⊢
      rw [h]
      simp only [Res.bind_ok]
      rw [h3]; rfl
theorem fitN_take (raw : List Int) : ∀ (ts : List T), (∀ t ∈ ts, Good t) → ∀ (j : Nat) (p : List Int) (k : Nat), j < ts.length → p.length ≤ k → k < (fitN raw ts j p).2.length → ∃ i n, rdN ((fitN raw ts j p).2.take k) ts j p.length = .stop i n ∧ (fitN raw ts j p).2[k]? = some (clp raw k n : Int)
  | [], _, j, p, k, h, _, _ => by simp at h
  | t :: ts, hg, 0, p, k, _, h1, h2 => by simp only [fitN, rdN] at h2 ⊢; exact fit_take raw t (hg t (by simp)) p k h1 h2
  | t :: ts, hg, j + 1, p, k, h, h1, h2 => by simp only [fitN, rdN] at h2 ⊢; exact fitN_take raw ts (fun t ht => hg t (by simp [ht])) j p k (by simpa using h) h1 h2
theorem fitS_take (raw : List Int) (s : Nat) : ∀ (ts : List T), (∀ t ∈ ts, Good t) → ∀ (p : List Int) (k : Nat), p.length ≤ k → k < (fitS raw ts p).2.length → ∃ i n, rdS ((fitS raw ts p).2.take k) s ts p.length = .stop i n ∧ (fitS raw ts p).2[k]? = some (clp raw k n : Int)
  | [], _, p, k, h1, h2 => by simp only [fitS] at h2; omega
  | t :: ts, hg, p, k, h1, h2 => by
    simp only [fitS, rdS] at h2 ⊢
    have hrd := fit_rd raw t (hg t (by simp)) p
    have htk := fit_take raw t (hg t (by simp)) p k h1
    generalize hp1 : fit raw t p = fp at h2 hrd htk ⊢
    obtain ⟨q, hq⟩ := fitS_ext raw ts fp.2
    by_cases hlt : k < fp.2.length
    · obtain ⟨i, n, h3, h4⟩ := htk hlt
      refine ⟨i, n, ?_, ?_⟩
      · rw [hq, List.take_append_of_le_length (by omega), h3]; rfl
      · rw [hq, List.getElem?_append_left hlt]; exact h4
    · obtain ⟨q', hq'⟩ := take_ext (p := fp.2) (q := q) (k := k) (by omega)
      rw [← hq] at hq'
      obtain ⟨sp, h⟩ := hrd q'
      obtain ⟨i, n, h3, h4⟩ := fitS_take raw s ts (fun t ht => hg t (by simp [ht])) fp.2 k (by omega) h2
      refine ⟨i, n, ?_, h4⟩
      rw [hq'] at h3 ⊢
      rw [h]
      simp only [Res.bind_ok]
      rw [h3]; rfl
end
/-! ### fitting what can be read -/
theorem clp_of {P : List Int} {a n : Nat} {c : Int} (h : P[a]? = some c) (h0 : 0 ≤ c) (h1 : c < n) : clp P a n = c.toNat := by
  unfold clp
  rw [List.getD_eq_getElem?_getD, h]
  simp only [Option.getD_some]
  omega
theorem take_snoc {P : List Int} {a : Nat} {c : Int} (h : P[a]? = some c) (h0 : 0 ≤ c) : P.take a ++ [(c.toNat : Int)] = P.take (a + 1) := by
  obtain ⟨hl, rfl⟩ := List.getElem?_eq_some_iff.1 h
  rw [List.take_succ_eq_append_getElem hl, Int.toNat_of_nonneg h0]
/-- fitting goes the way that was read -/
def Fits {α : Type} (P : List Int) (r : Res α) (f : α × List Int) : Prop := match r with
  | .ok v e _ => f = (v, P.take e)
  | .stop _ _ => ∃ q, f.2 = P ++ q
  | .bad => True
mutual
theorem rd_fit (P : List Int) : ∀ (t : T) (a : Nat), a ≤ P.length → Fits P (rd P t a) (fit P t (P.take a))
  | .leaf v, a, ha => by simp [rd, fit, Fits]
  | .rng i lo n, a, ha => by
    have hl : (P.take a).length = a := by rw [List.length_take]; omega
    simp only [rd, fit, pick1, hl]
    rcases hq : P[a]? with _ | c
    · have := none_len ha hq
      subst this
      exact ⟨[(clp P P.length n : Int)], by simp only [List.take_length]⟩
    · simp only
      split
      · rename_i hc
        simp only [Fits, clp_of hq hc.1 hc.2, take_snoc hq hc.1]
      · trivial
  | .cho i ks, a, ha => by
    have hl : (P.take a).length = a := by rw [List.length_take]; omega
    simp only [rd, fit, pick1, hl]
    rcases hq : P[a]? with _ | c
    · have := none_len ha hq
      subst this
      obtain ⟨q, h⟩ := fitN_ext P ks (clp P P.length ks.length) (P.take P.length ++ [(clp P P.length ks.length : Int)])
      exact ⟨[(clp P P.length ks.length : Int)] ++ q, by rw [h, List.take_length, List.append_assoc]⟩
    · simp only
      split
      · rename_i hc
        rw [clp_of hq hc.1 hc.2, take_snoc hq hc.1]
        exact rdN_fit P ks c.toNat (a + 1) (List.getElem?_eq_some_iff.1 hq).1
      · trivial
  | .seq x ks, a, ha => by
    have h := rdS_fit P a ks a ha
    simp only [rd, fit]
    rcases hq : rdS P a ks a with ⟨vs, e, sp⟩ | ⟨i, n⟩ | _
    · rw [hq] at h
      simp only [Fits] at h
      simp only [Res.bind_ok, Fits, h]
    · rw [hq] at h; exact h
    · trivial
  | .bnd vals f ks, a, ha => by
    have h := rd_fit P f a ha
    simp only [rd, fit]
    rcases hq : rd P f a with ⟨v, e, sp⟩ | ⟨i, n⟩ | _
    · rw [hq] at h
      simp only [Fits] at h
      rw [h]
      simp only [Res.bind_ok]
      have h2 := rdN_fit P ks (fndV vals v).1 e (rd_end P f a ha hq).2
      rcases hq2 : rdN P ks (fndV vals v).1 e with ⟨v2, e2, sp2⟩ | ⟨i, n⟩ | _
      · rw [hq2] at h2
        simp only [Fits] at h2
        simp only [Res.bind_ok, Fits, h2]
      · rw [hq2] at h2; exact h2
      · trivial
    · rw [hq] at h
      obtain ⟨q, h⟩ := h
      obtain ⟨q', h'⟩ := fitN_ext P ks (fndV vals (fit P f (P.take a)).1).1 (fit P f (P.take a)).2
      exact ⟨q ++ q', by rw [h', h, List.append_assoc]⟩
    · trivial
theorem rdN_fit (P : List Int) : ∀ (ts : List T) (k a : Nat), a ≤ P.length → Fits P (rdN P ts k a) (fitN P ts k (P.take a))
  | [], k, a, ha => by simp [rdN, Fits]
  | t :: ts, 0, a, ha => by simp only [rdN, fitN]; exact rd_fit P t a ha
  | t :: ts, k + 1, a, ha => by simp only [rdN, fitN]; exact rdN_fit P ts k a ha
theorem rdS_fit (P : List Int) (s : Nat) : ∀ (ts : List T) (a : Nat), a ≤ P.length → Fits P (rdS P s ts a) (fitS P ts (P.take a))
  | [], a, ha => by simp [rdS, fitS, Fits]
  | t :: ts, a, ha => by
    have h := rd_fit P t a ha
    simp only [rdS, fitS]
    rcases hq : rd P t a with ⟨v, e, sp⟩ | ⟨i, n⟩ | _
    · rw [hq] at h
      simp only [Fits] at h
      rw [h]
      simp only [Res.bind_ok]
      have h2 := rdS_fit P s ts e (rd_end P t a ha hq).2
      rcases hq2 : rdS P s ts e with ⟨v2, e2, sp2⟩ | ⟨i, n⟩ | _
      · rw [hq2] at h2
        simp only [Fits] at h2
        simp only [Res.bind_ok, Fits, h2]
      · rw [hq2] at h2; exact h2
      · trivial
    · rw [hq] at h
      obtain ⟨q, h⟩ := h
      obtain ⟨q', h'⟩ := fitS_ext P ts (fit P t (P.take a)).2
      exact ⟨q ++ q', by rw [h', h, List.append_assoc]⟩
    · trivial
end
/-! ### spans lie in order, within what was read -/
theorem sp_mono {e e' : Nat} (he : e ≤ e') {sp : List Sp} (h : ∀ x ∈ sp, x.1 ≤ x.2.1 ∧ x.2.1 ≤ x.2.2 ∧ x.2.2 ≤ e) : ∀ x ∈ sp, x.1 ≤ x.2.1 ∧ x.2.1 ≤ x.2.2 ∧ x.2.2 ≤ e' := fun x hx => by have := h x hx; omega
mutual
theorem rd_sp (P : List Int) : ∀ (t : T) (a : Nat) {v : V} {e : Nat} {sp : List Sp}, rd P t a = .ok v e sp → ∀ x ∈ sp, x.1 ≤ x.2.1 ∧ x.2.1 ≤ x.2.2 ∧ x.2.2 ≤ e
  | .leaf v, a, _, _, sp, h => by
    simp only [rd, Res.ok.injEq] at h
    rw [← h.2.2]; simp
  | .rng i lo n, a, _, _, sp, h => by
    simp only [rd, pick1] at h
    split at h
    · cases h
    · split at h
      · simp only [Res.ok.injEq] at h; rw [← h.2.2]; simp
      · cases h
  | .cho i ks, a, _, _, sp, h => by
    simp only [rd, pick1] at h
    split at h
    · cases h
    · split at h
      · exact rdN_sp P ks _ _ h
      · cases h
  | .seq x ks, a, _, _, sp, h => by
    simp only [rd] at h
    rcases hq : rdS P a ks a with ⟨vs, e, sp⟩ | _ | _
    · rw [hq] at h
      simp only [Res.bind_ok, Res.ok.injEq] at h
      have := rdS_sp P a ks a (Nat.le_refl _) hq
      rw [← h.2.1, ← h.2.2]; exact this
    · rw [hq] at h; cases h
    · rw [hq] at h; cases h
  | .bnd vals f ks, a, _, _, sp, h => by
    simp only [rd] at h
    rcases hq : rd P f a with ⟨v1, e1, sp1⟩ | _ | _
    · rw [hq] at h
      simp only [Res.bind_ok] at h
      rcases hq2 : rdN P ks (fndV vals v1).1 e1 with ⟨v2, e2, sp2⟩ | _ | _
      · rw [hq2] at h
        simp only [Res.bind_ok, Res.ok.injEq] at h
        have h1 := rd_sp P f a hq
        have h2 := rdN_sp P ks _ _ hq2
        have h3 := rdN_mono P ks _ _ hq2
        rw [← h.2.1, ← h.2.2]
        intro x hx
        rcases List.mem_append.1 hx with hx | hx
        · exact sp_mono h3 h1 x hx
        · exact h2 x hx
      · rw [hq2] at h; cases h
      · rw [hq2] at h; cases h
    · rw [hq] at h; cases h
    · rw [hq] at h; cases h
theorem rdN_sp (P : List Int) : ∀ (ts : List T) (k a : Nat) {v : V} {e : Nat} {sp : List Sp}, rdN P ts k a = .ok v e sp → ∀ x ∈ sp, x.1 ≤ x.2.1 ∧ x.2.1 ≤ x.2.2 ∧ x.2.2 ≤ e
  | [], k, a, _, _, _, h => by simp [rdN] at h
  | t :: ts, 0, a, _, _, _, h => by simp only [rdN] at h; exact rd_sp P t a h
  | t :: ts, k + 1, a, _, _, _, h => by simp only [rdN] at h; exact rdN_sp P ts k a h
theorem rdS_sp (P : List Int) (s : Nat) : ∀ (ts : List T) (a : Nat) {vs : List V} {e : Nat} {sp : List Sp}, s ≤ a → rdS P s ts a = .ok vs e sp → ∀ x ∈ sp, x.1 ≤ x.2.1 ∧ x.2.1 ≤ x.2.2 ∧ x.2.2 ≤ e
  | [], a, _, _, sp, hs, h => by simp only [rdS, Res.ok.injEq] at h; rw [← h.2.2]; simp
  | t :: ts, a, _, _, sp, hs, h => by
    simp only [rdS] at h
    rcases hq : rd P t a with ⟨v1, e1, sp1⟩ | _ | _
    · rw [hq] at h
      simp only [Res.bind_ok] at h
      rcases hq2 : rdS P s ts e1 with ⟨v2, e2, sp2⟩ | _ | _
      · rw [hq2] at h
        simp only [Res.bind_ok, Res.ok.injEq] at h
        have h1 := rd_sp P t a hq
        have h0 := rd_mono P t a hq
        have h2 := rdS_sp P s ts e1 (by omega) hq2
        have h3 := rdS_mono P s ts e1 hq2
        rw [← h.2.1, ← h.2.2]
        intro x hx
        rcases List.mem_cons.1 hx with rfl | hx
        · exact ⟨hs, h0, h3⟩
        rcases List.mem_append.1 hx with hx | hx
        · exact sp_mono h3 h1 x hx
        · exact h2 x hx
      · rw [hq2] at h; cases h
      · rw [hq2] at h; cases h
    · rw [hq] at h; cases h
    · rw [hq] at h; cases h
end
/-! ### how many spans there can be -/
mutual
def nsp : T → Nat
  | .leaf _ => 0
  | .rng _ _ _ => 0
  | .cho _ ks => nspM ks
  | .seq _ ks => nspS ks
  | .bnd _ f ks => nsp f + nspM ks
def nspM : List T → Nat
  | [] => 0
  | t :: ts => max (nsp t) (nspM ts)
def nspS : List T → Nat
  | [] => 0
  | t :: ts => 1 + nsp t + nspS ts
end
theorem nspM_mem : ∀ {ts : List T} {t : T}, t ∈ ts → nsp t ≤ nspM ts
  | [], t, h => by simp at h
  | x :: ts, t, h => by
    simp only [nspM]
    rcases List.mem_cons.1 h with rfl | h
    · omega
    · have := nspM_mem h; omega
theorem nspM_le {ts : List T} {m : Nat} (h : ∀ t ∈ ts, nsp t ≤ m) : nspM ts ≤ m := by
  induction ts with
  | nil => simp [nspM]
  | cons x ts ih => simp only [nspM]; have := h x (by simp); have := ih (fun t ht => h t (by simp [ht])); omega
theorem nspS_le {ts : List T} {m : Nat} (h : ∀ t ∈ ts, nsp t ≤ m) : nspS ts ≤ ts.length * (m + 1) := by
  induction ts with
  | nil => simp [nspS]
  | cons x ts ih => simp only [nspS, List.length_cons, Nat.add_mul]; have := h x (by simp); have := ih (fun t ht => h t (by simp [ht])); omega
mutual
theorem rd_nsp (P : List Int) : ∀ (t : T) (a : Nat) {v : V} {e : Nat} {sp : List Sp}, rd P t a = .ok v e sp → sp.length ≤ nsp t
  | .leaf v, a, _, _, sp, h => by
    simp only [rd, Res.ok.injEq] at h
    rw [← h.2.2]; simp
  | .rng i lo n, a, _, _, sp, h => by
    simp only [rd, pick1] at h
    split at h
    · cases h
    · split at h
      · simp only [Res.ok.injEq] at h; rw [← h.2.2]; simp
      · cases h
  | .cho i ks, a, _, _, sp, h => by
    simp only [rd, pick1] at h
    split at h
    · cases h
    · split at h
      · exact rdN_nsp P ks _ _ h
      · cases h
  | .seq x ks, a, _, _, sp, h => by
    simp only [rd] at h
    rcases hq : rdS P a ks a with ⟨vs, e, sp⟩ | _ | _
    · rw [hq] at h
      simp only [Res.bind_ok, Res.ok.injEq] at h
      have := rdS_nsp P a ks a hq
      rw [← h.2.2]; exact this
    · rw [hq] at h; cases h
    · rw [hq] at h; cases h
  | .bnd vals f ks, a, _, _, sp, h => by
    simp only [rd] at h
    rcases hq : rd P f a with ⟨v1, e1, sp1⟩ | _ | _
    · rw [hq] at h
      simp only [Res.bind_ok] at h
      rcases hq2 : rdN P ks (fndV vals v1).1 e1 with ⟨v2, e2, sp2⟩ | _ | _
      · rw [hq2] at h
        simp only [Res.bind_ok, Res.ok.injEq] at h
        have h1 := rd_nsp P f a hq
        have h2 := rdN_nsp P ks _ _ hq2
        rw [← h.2.2]
        simp only [nsp, List.length_append]; omega
      · rw [hq2] at h; cases h
      · rw [hq2] at h; cases h
    · rw [hq] at h; cases h
    · rw [hq] at h; cases h
theorem rdN_nsp (P : List Int) : ∀ (ts : List T) (k a : Nat) {v : V} {e : Nat} {sp : List Sp}, rdN P ts k a = .ok v e sp → sp.length ≤ nspM ts
  | [], k, a, _, _, _, h => by simp [rdN] at h
  | t :: ts, 0, a, _, _, _, h => by simp only [rdN] at h; have := rd_nsp P t a h; simp only [nspM]; omega
  | t :: ts, k + 1, a, _, _, _, h => by simp only [rdN] at h; have := rdN_nsp P ts k a h; simp only [nspM]; omega
theorem rdS_nsp (P : List Int) (s : Nat) : ∀ (ts : List T) (a : Nat) {vs : List V} {e : Nat} {sp : List Sp}, rdS P s ts a = .ok vs e sp → sp.length ≤ nspS ts
  | [], a, _, _, sp, h => by simp only [rdS, Res.ok.injEq] at h; rw [← h.2.2]; simp
  | t :: ts, a, _, _, sp, h => by
    simp only [rdS] at h
    rcases hq : rd P t a with ⟨v1, e1, sp1⟩ | _ | _
    · rw [hq] at h
      simp only [Res.bind_ok] at h
      rcases hq2 : rdS P s ts e1 with ⟨v2, e2, sp2⟩ | _ | _
      · rw [hq2] at h
        simp only [Res.bind_ok, Res.ok.injEq] at h
        have h1 := rd_nsp P t a hq
        have h2 := rdS_nsp P s ts e1 hq2
        rw [← h.2.2]
        simp only [nspS, List.length_cons, List.length_append]; omega
      · rw [hq2] at h; cases h
      · rw [hq2] at h; cases h
    · rw [hq] at h; cases h
    · rw [hq] at h; cases h
end
--END
end Go.Proofs.YtpochcchekoonaaGreat
