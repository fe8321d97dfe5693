/-
  The plain law of valid trees: nodes without choices; options; valid values; how long paths are.
-/
import Derived.Test.YtpochcchekoonaaGreatRc
namespace Go.Proofs.YtpochcchekoonaaGreat
open Go.Rf Go.RowKit
set_option linter.unusedVariables false
set_option linter.unusedSimpArgs false

/-! ### lengths, sizes by index -/
theorem lensT_get {t : List Nd} : ∀ {n k : Nat}, k < n → (hk : k < t.length) → (lensT (t.take n))[k]? = some (lenN (lensT (t.take k)) t[k])
  | 0, k, h, hk => by omega
  | n + 1, k, h, hk => by
    by_cases hn : n < t.length
    · rw [List.take_succ_eq_append_getElem hn, lensT_snoc]
      by_cases e : k = n
      · subst e
        rw [List.getElem?_append_right (by rw [lensT_len, List.length_take]; omega)]
        rw [lensT_len, List.length_take]
        simp [Nat.min_eq_left (Nat.le_of_lt hn)]
      · rw [List.getElem?_append_left (by rw [lensT_len, List.length_take]; omega)]
        exact lensT_get (by omega) hk
    · rw [List.take_of_length_le (by omega)]
      have h1 := lensT_get (t := t) (n := n) (k := k) (by omega) hk
      rw [List.take_of_length_le (by omega)] at h1
      exact h1
theorem sizsT_get {t : List Nd} : ∀ {n k : Nat}, k < n → (hk : k < t.length) → (sizsT (t.take n))[k]? = some (sizN (sizsT (t.take k)) t[k])
  | 0, k, h, hk => by omega
  | n + 1, k, h, hk => by
    by_cases hn : n < t.length
    · rw [List.take_succ_eq_append_getElem hn, sizsT_snoc]
      by_cases e : k = n
      · subst e
        rw [List.getElem?_append_right (by rw [sizsT_len, List.length_take]; omega)]
        rw [sizsT_len, List.length_take]
        simp [Nat.min_eq_left (Nat.le_of_lt hn)]
      · rw [List.getElem?_append_left (by rw [sizsT_len, List.length_take]; omega)]
        exact sizsT_get (by omega) hk
    · rw [List.take_of_length_le (by omega)]
      have h1 := sizsT_get (t := t) (n := n) (k := k) (by omega) hk
      rw [List.take_of_length_le (by omega)] at h1
      exact h1
def lT (t : List Nd) (k : Nat) : Int := kd (lensT t) k
def zT (t : List Nd) (k : Nat) : Int := kd (sizsT t) k
theorem lT_eq {t : List Nd} {k : Nat} (hk : k < t.length) : lT t k = lenN (lensT (t.take k)) t[k] := by
  have := lensT_get (t := t) (n := t.length) hk hk
  rw [List.take_length] at this
  unfold lT kd
  rw [Int.toNat_natCast, List.getD_eq_getElem?_getD, this]; rfl
theorem zT_eq {t : List Nd} {k : Nat} (hk : k < t.length) : zT t k = sizN (sizsT (t.take k)) t[k] := by
  have := sizsT_get (t := t) (n := t.length) hk hk
  rw [List.take_length] at this
  unfold zT kd
  rw [Int.toNat_natCast, List.getD_eq_getElem?_getD, this]; rfl
theorem lT_kd {t : List Nd} {n k : Nat} (hk : k < n) (hn : k < t.length) : kd (lensT (t.take n)) (k : Int) = lT t k := by
  rw [lT_eq hn]; unfold kd
  rw [Int.toNat_natCast, List.getD_eq_getElem?_getD, lensT_get hk hn]; rfl
theorem zT_kd {t : List Nd} {n k : Nat} (hk : k < n) (hn : k < t.length) : kd (sizsT (t.take n)) (k : Int) = zT t k := by
  rw [zT_eq hn]; unfold kd
  rw [Int.toNat_natCast, List.getD_eq_getElem?_getD, sizsT_get hk hn]; rfl
section
variable {t : List Nd}
theorem lT_map (h : VT t) {i : Nat} (hi : i < t.length) {l : List Int} (hl : ∀ k ∈ l, k ∈ t[i].kids) : l.map (kd (lensT (t.take i))) = l.map (fun q => lT t q.toNat) := List.map_congr_left fun k hk => by
  obtain ⟨q, rfl, hq⟩ := h.kid hi (hl k hk)
  rw [lT_kd hq (by omega), Int.toNat_natCast]
theorem zT_map (h : VT t) {i : Nat} (hi : i < t.length) {l : List Int} (hl : ∀ k ∈ l, k ∈ t[i].kids) : l.map (kd (sizsT (t.take i))) = l.map (fun q => zT t q.toNat) := List.map_congr_left fun k hk => by
  obtain ⟨q, rfl, hq⟩ := h.kid hi (hl k hk)
  rw [zT_kd hq (by omega), Int.toNat_natCast]
theorem VT.l0 (h : VT t) {i : Nat} (hi : i < t.length) : 0 ≤ lT t i ∧ lT t i ≤ 256 := by
  have h1 := lensT_get (t := t) (n := t.length) hi hi
  rw [← lT_eq hi] at h1
  exact h.chk.chk.len _ (List.mem_of_getElem? h1)
theorem VT.z1 (h : VT t) {i : Nat} (hi : i < t.length) : 1 ≤ zT t i ∧ zT t i ≤ 1024 := by
  have h1 := sizsT_get (t := t) (n := t.length) hi hi
  rw [← zT_eq hi] at h1
  exact ⟨h.chk.s1 _ (List.mem_of_getElem? h1), (h.chk.chk.siz _ (List.mem_of_getElem? h1)).2⟩
theorem sumI_ge {l : List Int} (h : ∀ a ∈ l, 0 ≤ a) : ∀ a ∈ l, a ≤ sumI l := by
  have h0 : ∀ l : List Int, (∀ a ∈ l, 0 ≤ a) → 0 ≤ sumI l := by
    intro l
    induction l with
    | nil => simp [sumI]
    | cons b l ih => intro h; simp only [sumI]; have := h b (by simp); have := ih (fun a ha => h a (by simp [ha])); omega
  induction l with
  | nil => simp
  | cons b l ih =>
    intro a ha
    simp only [sumI]
    have hb := h b (by simp)
    have hl := h0 l (fun a ha => h a (by simp [ha]))
    rcases List.mem_cons.1 ha with rfl | ha
    · omega
    · have := ih (fun a ha => h a (by simp [ha])) a ha; omega
theorem lT_cho (h : VT t) {i : Nat} (hi : i < t.length) (h2 : t[i].kind = 2) : ∀ k ∈ t[i].kids, lT t k.toNat + 1 ≤ lT t i := by
  intro k hk
  rw [lT_eq hi]
  unfold lenN mst
  rw [if_neg (by omega), if_neg (by omega), if_neg (by omega), if_pos h2, if_pos h2, lT_map h hi (fun k hk => hk)]
  have := maxI_ge (l := t[i].kids.map fun q => lT t q.toNat) (List.mem_map.2 ⟨k, hk, rfl⟩)
  omega
theorem lT_seq (h : VT t) {i : Nat} (hi : i < t.length) (h3 : t[i].kind = 3) : lT t i = sumI (t[i].kids.map fun q => lT t q.toNat) := by
  rw [lT_eq hi]
  unfold lenN
  rw [if_neg (by omega), if_neg (by omega), if_pos h3, lT_map h hi (fun k hk => hk)]
theorem lT_bnd (h : VT t) {i : Nat} (hi : i < t.length) (h4 : t[i].kind = 4) : ∀ k ∈ t[i].kids.tail, lT t (t[i].kids.headD 0).toNat + lT t k.toNat ≤ lT t i := by
  intro k hk
  have h0 : 0 < t[i].kids.length := by have := (h.bind hi h4).1; omega
  rw [lT_eq hi]
  unfold lenN mst
  rw [if_neg (by omega), if_neg (by omega), if_neg (by omega), if_neg (by omega), if_neg (by omega), headD_map h0, headD_get h0, lT_map h hi (fun k hk => hk)]
  have := maxI_ge (l := (t[i].kids.map fun q => lT t q.toNat).tail) (a := lT t k.toNat) (by rw [← List.map_tail]; exact List.mem_map.2 ⟨k, hk, rfl⟩)
  obtain ⟨q, hq, hqi⟩ := h.kid hi (List.getElem_mem h0)
  rw [hq, lT_kd hqi (by omega), Int.toNat_natCast]
  omega

/-! ### nodes without choices -/
def fAt (fs : List V) (q : Int) : V := fs.getD q.toNat (numV 0)
def fxN (fs : List V) (len : Int) (x : Nd) : V := if 0 < len then numV 0 else if x.kind = 0 then x.val else if x.kind = 3 then madeV x (x.kids.map (fAt fs)) else if x.kind = 4 then fAt fs (x.kids.getD 1 0) else numV 0
def fxGo (p : List Nd) : List Int × List V := p.foldl (fun st x => (st.1 ++ [lenN st.1 x], st.2 ++ [fxN st.2 (lenN st.1 x) x])) ([], [])
theorem fxGo_snoc (p : List Nd) (x : Nd) : fxGo (p ++ [x]) = ((fxGo p).1 ++ [lenN (fxGo p).1 x], (fxGo p).2 ++ [fxN (fxGo p).2 (lenN (fxGo p).1 x) x]) := by unfold fxGo; rw [List.foldl_append]; rfl
theorem fxGo_len (p : List Nd) : (fxGo p).1 = lensT p := by
  refine snocInd (P := fun p => (fxGo p).1 = lensT p) rfl (fun p x ih => ?_) p
  rw [fxGo_snoc, lensT_snoc, ih]
def fxsT (p : List Nd) : List V := (fxGo p).2
theorem fxsT_snoc (p : List Nd) (x : Nd) : fxsT (p ++ [x]) = fxsT p ++ [fxN (fxsT p) (lenN (lensT p) x) x] := by unfold fxsT; rw [fxGo_snoc, fxGo_len]
theorem fxsT_len (p : List Nd) : (fxsT p).length = p.length := by
  refine snocInd (P := fun p => (fxsT p).length = p.length) rfl (fun p x ih => ?_) p
  rw [fxsT_snoc, List.length_append, ih]; simp
theorem fxsT_get : ∀ {n k : Nat}, k < n → (hk : k < t.length) → (fxsT (t.take n))[k]? = some (fxN (fxsT (t.take k)) (lenN (lensT (t.take k)) t[k]) t[k])
  | 0, k, h, hk => by omega
  | n + 1, k, h, hk => by
    by_cases hn : n < t.length
    · rw [List.take_succ_eq_append_getElem hn, fxsT_snoc]
      by_cases e : k = n
      · subst e
        rw [List.getElem?_append_right (by rw [fxsT_len, List.length_take]; omega)]
        rw [fxsT_len, List.length_take]
        simp [Nat.min_eq_left (Nat.le_of_lt hn)]
      · rw [List.getElem?_append_left (by rw [fxsT_len, List.length_take]; omega)]
        exact fxsT_get (by omega) hk
    · rw [List.take_of_length_le (by omega)]
      have h1 := fxsT_get (n := n) (k := k) (by omega) hk
      rw [List.take_of_length_le (by omega)] at h1
      exact h1
def fT (t : List Nd) (k : Nat) : V := fAt (fxsT t) k
theorem fT_eq {k : Nat} (hk : k < t.length) : fT t k = fxN (fxsT (t.take k)) (lT t k) t[k] := by
  have := fxsT_get (n := t.length) hk hk
  rw [List.take_length] at this
  unfold fT fAt
  rw [Int.toNat_natCast, List.getD_eq_getElem?_getD, this, lT_eq hk]; rfl
theorem fT_at {n k : Nat} (hk : k < n) (hn : k < t.length) : fAt (fxsT (t.take n)) (k : Int) = fT t k := by
  rw [fT_eq hn, lT_eq hn]; unfold fAt
  rw [Int.toNat_natCast, List.getD_eq_getElem?_getD, fxsT_get hk hn]; rfl
theorem fT_map (h : VT t) {i : Nat} (hi : i < t.length) {l : List Int} (hl : ∀ k ∈ l, k ∈ t[i].kids) : l.map (fAt (fxsT (t.take i))) = l.map (fun q => fT t q.toNat) := List.map_congr_left fun k hk => by
  obtain ⟨q, rfl, hq⟩ := h.kid hi (hl k hk)
  rw [fT_at hq (by omega), Int.toNat_natCast]
def pAt (ps : List Bool) (q : Int) : Bool := ps.getD q.toNat false
def plN (ps : List Bool) (len : Int) (x : Nd) : Bool := decide (¬ 0 < len) && (decide (x.kind ≠ 3 ∨ x.kids.length = 0) && x.kids.all (pAt ps))
def plGo (p : List Nd) : List Int × List Bool := p.foldl (fun st x => (st.1 ++ [lenN st.1 x], st.2 ++ [plN st.2 (lenN st.1 x) x])) ([], [])
theorem plGo_snoc (p : List Nd) (x : Nd) : plGo (p ++ [x]) = ((plGo p).1 ++ [lenN (plGo p).1 x], (plGo p).2 ++ [plN (plGo p).2 (lenN (plGo p).1 x) x]) := by unfold plGo; rw [List.foldl_append]; rfl
theorem plGo_len (p : List Nd) : (plGo p).1 = lensT p := by
  refine snocInd (P := fun p => (plGo p).1 = lensT p) rfl (fun p x ih => ?_) p
  rw [plGo_snoc, lensT_snoc, ih]
def plsT (p : List Nd) : List Bool := (plGo p).2
theorem plsT_snoc (p : List Nd) (x : Nd) : plsT (p ++ [x]) = plsT p ++ [plN (plsT p) (lenN (lensT p) x) x] := by unfold plsT; rw [plGo_snoc, plGo_len]
theorem plsT_len (p : List Nd) : (plsT p).length = p.length := by
  refine snocInd (P := fun p => (plsT p).length = p.length) rfl (fun p x ih => ?_) p
  rw [plsT_snoc, List.length_append, ih]; simp
theorem plsT_get : ∀ {n k : Nat}, k < n → (hk : k < t.length) → (plsT (t.take n))[k]? = some (plN (plsT (t.take k)) (lenN (lensT (t.take k)) t[k]) t[k])
  | 0, k, h, hk => by omega
  | n + 1, k, h, hk => by
    by_cases hn : n < t.length
    · rw [List.take_succ_eq_append_getElem hn, plsT_snoc]
      by_cases e : k = n
      · subst e
        rw [List.getElem?_append_right (by rw [plsT_len, List.length_take]; omega)]
        rw [plsT_len, List.length_take]
        simp [Nat.min_eq_left (Nat.le_of_lt hn)]
      · rw [List.getElem?_append_left (by rw [plsT_len, List.length_take]; omega)]
        exact plsT_get (by omega) hk
    · rw [List.take_of_length_le (by omega)]
      have h1 := plsT_get (n := n) (k := k) (by omega) hk
      rw [List.take_of_length_le (by omega)] at h1
      exact h1
def pT (t : List Nd) (k : Nat) : Bool := pAt (plsT t) k
theorem pT_eq {k : Nat} (hk : k < t.length) : pT t k = plN (plsT (t.take k)) (lT t k) t[k] := by
  have := plsT_get (n := t.length) hk hk
  rw [List.take_length] at this
  unfold pT pAt
  rw [Int.toNat_natCast, List.getD_eq_getElem?_getD, this, lT_eq hk]; rfl
theorem pT_at {n k : Nat} (hk : k < n) (hn : k < t.length) : pAt (plsT (t.take n)) (k : Int) = pT t k := by
  rw [pT_eq hn, lT_eq hn]; unfold pAt
  rw [Int.toNat_natCast, List.getD_eq_getElem?_getD, plsT_get hk hn]; rfl
theorem seqGo_one {ls : List (Option (List V))} {g : Int → V} : ∀ (ks : List Int) (r : List V), (∀ k ∈ ks, lstAt ls k = some [g k]) → seqGo ls ks [r] = some [r ++ ks.map g]
  | [], r, _ => by simp [seqGo]
  | k :: ks, r, h => by
    simp only [seqGo, h k (by simp)]
    rw [if_neg (by simp)]
    have : prodS [r] [g k] = [r ++ [g k]] := by simp [prodS]
    rw [this, seqGo_one ks _ (fun k hk => h k (by simp [hk])), List.append_assoc]; rfl
theorem rdS_fix {P : List Int} {s : Nat} {g : Int → V} : ∀ (l : List Int) (a : Nat), (∀ k ∈ l, ∃ sp, rd P (tA t k.toNat) a = .ok (g k) a sp) → ∃ sp, rdS P s (kidsT t l) a = .ok (l.map g) a sp
  | [], a, _ => ⟨[], by simp [kidsT, rdS]⟩
  | k :: l, a, h => by
    obtain ⟨sp, h1⟩ := h k (by simp)
    obtain ⟨sp2, h2⟩ := rdS_fix (s := s) l a (fun k hk => h k (by simp [hk]))
    refine ⟨(s, a, a) :: (sp ++ sp2), ?_⟩
    have e : kidsT t (k :: l) = tA t k.toNat :: kidsT t l := rfl
    rw [e]
    simp only [rdS, h1, Res.bind_ok, h2]
    rfl
theorem one_eq {l : List Int} (h : l.length = 1) : l = [l[0]'(by omega)] := by
  cases l with
  | nil => simp at h
  | cons x r =>
    have : r = [] := List.eq_nil_of_length_eq_zero (by simpa using h)
    subst this; rfl
theorem fixed (h : VT t) : ∀ k, k < t.length → lT t k = 0 → sT t k = some [fT t k] ∧ ∀ (P : List Int) (a : Nat), ∃ sp, rd P (tA t k) a = .ok (fT t k) a sp ∧ (pT t k = true → sp = []) := by
  refine vInd fun k hk ih hl => ?_
  have hkid : ∀ q ∈ t[k].kids, lT t q.toNat = 0 → lstAt (setsT (t.take k)) q = some [fT t q.toNat] ∧ ∀ (P : List Int) (a : Nat), ∃ sp, rd P (tA t q.toNat) a = .ok (fT t q.toNat) a sp ∧ (pT t q.toNat = true → sp = []) := by
    intro q hq h0
    obtain ⟨p, rfl, hp⟩ := h.kid hk hq
    rw [Int.toNat_natCast] at h0 ⊢
    rw [lstAt_eq hp (by omega)]
    exact ih p hp h0
  have hkl0 : ∀ q ∈ t[k].kids, 0 ≤ lT t q.toNat := fun q hq => by
    obtain ⟨p, rfl, hp⟩ := h.kid hk hq
    rw [Int.toNat_natCast]
    exact (h.l0 (by omega)).1
  have hf := fT_eq hk
  have hpl := pT_eq hk
  unfold fxN at hf
  rw [if_neg (by omega)] at hf
  rw [sT_eq hk]
  rcases kind5 h hk with h0 | h1 | h2 | h3 | h4
  · rw [if_pos h0] at hf
    rw [hf]
    refine ⟨by unfold setN; rw [if_pos h0], fun P a => ⟨[], by rw [tA_leaf hk h0]; simp [rd], fun _ => rfl⟩⟩
  · exfalso
    rw [lT_eq hk] at hl
    unfold lenN at hl
    rw [if_neg (by omega), if_pos h1] at hl
    omega
  · exfalso
    have := h.cho hk h2
    have := lT_cho h hk h2 t[k].kids[0] (by simp)
    have := hkl0 t[k].kids[0] (by simp)
    omega
  · rw [if_neg (by omega), if_pos h3, fT_map h hk (fun q hq => hq)] at hf
    have hs := lT_seq h hk h3
    have hz : ∀ q ∈ t[k].kids, lT t q.toNat = 0 := fun q hq => by
      have h1 := sumI_ge (l := t[k].kids.map fun q => lT t q.toNat) (fun a ha => by obtain ⟨q, hq, rfl⟩ := List.mem_map.1 ha; exact hkl0 q hq) _ (List.mem_map.2 ⟨q, hq, rfl⟩)
      have := hkl0 q hq
      omega
    constructor
    · unfold setN seqN
      rw [if_neg (by omega), if_neg (by omega), if_pos h3, seqGo_one (g := fun q => fT t q.toNat) _ _ (fun q hq => (hkid q hq (hz q hq)).1), hf]
      rfl
    · intro P a
      obtain ⟨sp, hr⟩ := rdS_fix (t := t) (P := P) (s := a) (g := fun q => fT t q.toNat) t[k].kids a (fun q hq => by obtain ⟨sp, h1, _⟩ := (hkid q hq (hz q hq)).2 P a; exact ⟨sp, h1⟩)
      refine ⟨sp, ?_, fun hp => ?_⟩
      · rw [tA_seq h hk h3, hf]
        simp only [rd, hr, Res.bind_ok]
      · rw [hp] at hpl
        unfold plN at hpl
        have hpl' := hpl.symm
        simp only [Bool.and_eq_true, decide_eq_true_eq] at hpl'
        have hnil : t[k].kids = [] := List.eq_nil_of_length_eq_zero (by rcases hpl'.2.1 with h | h; exact absurd h3 h; exact h)
        rw [hnil] at hr
        simp only [kidsT, List.map_nil, rdS, Res.ok.injEq] at hr
        exact hr.2.2.symm
  · rw [if_neg (by omega), if_neg (by omega), if_pos h4] at hf
    have hb := h.bind hk h4
    have hlen2 : 1 < t[k].kids.length := by omega
    obtain ⟨q, hq, hqe, hqs⟩ := h.first hk h4
    have hq0 : t[k].kids.headD 0 ∈ t[k].kids := by rw [headD_get (by omega)]; simp
    have htl : t[k].kids.tail.length = t[k].vals.length := by rw [List.length_tail]; omega
    have hle : ∀ p ∈ t[k].kids.tail, lT t (t[k].kids.headD 0).toNat = 0 ∧ lT t p.toNat = 0 := fun p hp => by
      have h1 := lT_bnd h hk h4 p hp
      have h2 := hkl0 _ hq0
      have h3 := hkl0 p (List.mem_of_mem_tail hp)
      omega
    have hm0 : t[k].kids.tail[0]'(by omega) ∈ t[k].kids.tail := List.getElem_mem _
    have hl0 := (hle _ hm0).1
    have hfirst := ih q hq (by rw [hqe, Int.toNat_natCast] at hl0; exact hl0)
    have hvals : t[k].vals = [fT t q] := by
      have := hqs.symm.trans hfirst.1
      exact Option.some.inj this
    have h1l : t[k].kids.tail.length = 1 := by rw [htl, hvals]; rfl
    have hk1 : t[k].kids.getD 1 0 = t[k].kids.tail[0]'(by omega) := by
      rw [List.getD_eq_getElem?_getD, List.getElem?_eq_getElem hlen2, List.getElem_tail]; rfl
    have htail : t[k].kids.tail = [t[k].kids.tail[0]'(by omega)] := one_eq h1l
    obtain ⟨p1, hp1, hp1i⟩ := h.kid hk (List.mem_of_mem_tail hm0)
    rw [hk1, hp1, fT_at hp1i (by omega)] at hf
    have hsec := hkid _ (List.mem_of_mem_tail hm0) (hle _ hm0).2
    rw [hp1, Int.toNat_natCast] at hsec
    have hrm : remK t[k] 0 = [(p1 : Int)] := by unfold remK; rw [if_pos ⟨h4, rfl⟩, List.drop_one, htail, hp1]
    constructor
    · unfold setN uniN
      rw [if_neg (by omega), if_neg (by omega), if_neg (by omega), hrm, uniGo, hsec.1, uniGo, hf]
      rfl
    · intro P a
      obtain ⟨sp1, hr1, hs1⟩ := hfirst.2 P a
      obtain ⟨sp2, hr2, hs2⟩ := hsec.2 P a
      have hfd : fndV t[k].vals (fT t q) = (0, true) := by rw [hvals]; simp [fndV, cmpV_refl]
      refine ⟨sp1 ++ sp2, ?_, fun hp => ?_⟩
      · rw [tA_bnd h hk h4, hqe, Int.toNat_natCast, htail, hp1, hf]
        simp only [rd, hr1, Res.bind_ok, hfd, kidsT, List.map_cons, List.map_nil, rdN, Int.toNat_natCast, hr2]
      · rw [hp] at hpl
        unfold plN at hpl
        have hpl' := hpl.symm
        simp only [Bool.and_eq_true, decide_eq_true_eq, List.all_eq_true] at hpl'
        have ha := hpl'.2.2 _ hq0
        have hb := hpl'.2.2 _ (List.mem_of_mem_tail hm0)
        rw [hqe, pT_at hq (by omega)] at ha
        rw [hp1, pT_at hp1i (by omega)] at hb
        rw [hs1 ha, hs2 hb]; rfl

/-! ### where reading stops -/
def optN (x : Nd) : Nat := if x.kind = 1 then (x.hi - x.lo + 1).toNat else x.kids.length
theorem stops (h : VT t) : ∀ k, k < t.length → ∀ (P : List Int) (a i n : Nat), rd P (tA t k) a = .stop i n → ∃ hi : i < t.length, (t[i].kind = 1 ∨ t[i].kind = 2) ∧ n = optN t[i] ∧ i ≤ k := by
  refine vInd fun k hk ih P a i n hrd => ?_
  have hkid : ∀ q ∈ t[k].kids, ∀ (a i n : Nat), rd P (tA t q.toNat) a = .stop i n → ∃ hi : i < t.length, (t[i].kind = 1 ∨ t[i].kind = 2) ∧ n = optN t[i] ∧ i ≤ k := by
    intro q hq a i n hr
    obtain ⟨p, rfl, hp⟩ := h.kid hk hq
    rw [Int.toNat_natCast] at hr
    obtain ⟨h1, h2, h3, h4⟩ := ih p hp P a i n hr
    exact ⟨h1, h2, h3, by omega⟩
  rcases kind5 h hk with h0 | h1 | h2 | h3 | h4
  · rw [tA_leaf hk h0] at hrd; simp [rd] at hrd
  · rw [tA_rng hk h1] at hrd
    simp only [rd] at hrd
    rcases pick_stop hrd with ⟨rfl, rfl⟩ | ⟨c, _, hc⟩
    · exact ⟨hk, .inl h1, by unfold optN; rw [if_pos h1], Nat.le_refl _⟩
    · cases hc
  · rw [tA_cho h hk h2] at hrd
    simp only [rd] at hrd
    rcases pick_stop hrd with ⟨rfl, rfl⟩ | ⟨c, _, hc⟩
    · exact ⟨hk, .inr h2, by unfold optN; rw [if_neg (by omega), kidsT_len], Nat.le_refl _⟩
    · obtain ⟨hcl, hv⟩ := rdN_stop hc
      simp only [kidsT, List.getElem_map] at hv
      exact hkid _ (by simp) _ i n hv
  · rw [tA_seq h hk h3] at hrd
    simp only [rd] at hrd
    rcases hq : rdS P a (kidsT t t[k].kids) a with ⟨vs, e1, sp1⟩ | ⟨i1, n1⟩ | _
    · rw [hq] at hrd; cases hrd
    · rw [hq] at hrd
      simp only [Res.bind_stop, Res.stop.injEq] at hrd
      obtain ⟨rfl, rfl⟩ := hrd
      obtain ⟨s, hs, a', hr⟩ := rdS_stop hq
      obtain ⟨q, hq', rfl⟩ := kidsT_mem hs
      exact hkid q hq' a' _ _ hr
    · rw [hq] at hrd; cases hrd
  · rw [tA_bnd h hk h4] at hrd
    have hq0 : t[k].kids.headD 0 ∈ t[k].kids := by have := (h.bind hk h4).1; rw [headD_get (by omega)]; simp
    simp only [rd] at hrd
    rcases hq : rd P (tA t (t[k].kids.headD 0).toNat) a with ⟨v1, e1, sp1⟩ | ⟨i1, n1⟩ | _
    · rw [hq] at hrd
      simp only [Res.bind_ok] at hrd
      rcases hq2 : rdN P (kidsT t t[k].kids.tail) (fndV t[k].vals v1).1 e1 with ⟨v2, e2, sp2⟩ | ⟨i1, n1⟩ | _
      · rw [hq2] at hrd; cases hrd
      · rw [hq2] at hrd
        simp only [Res.bind_stop, Res.stop.injEq] at hrd
        obtain ⟨rfl, rfl⟩ := hrd
        obtain ⟨hcl, hv⟩ := rdN_stop hq2
        simp only [kidsT, List.getElem_map] at hv
        exact hkid _ (List.mem_of_mem_tail (List.getElem_mem _)) _ _ _ hv
      · rw [hq2] at hrd; cases hrd
    · rw [hq] at hrd
      simp only [Res.bind_stop, Res.stop.injEq] at hrd
      obtain ⟨rfl, rfl⟩ := hrd
      exact hkid _ hq0 _ _ _ hq
    · rw [hq] at hrd; cases hrd

/-! ### what is read is a valid value -/
theorem frsE_zero {l : List V} (h : frsE l = 0) : ∀ v ∈ l, valV v = 0 := by
  induction l with
  | nil => simp
  | cons a l ih =>
    simp only [frsE] at h
    split at h
    · rename_i hne; exact absurd h hne
    · rename_i hz
      intro v hv
      rcases List.mem_cons.1 hv with rfl | hv
      · simpa using hz
      · exact ih h v hv
theorem valV_zero {v : V} : valV v = 0 ↔ allF v = true ∧ allT v = true ∧ vsz v ≤ 1024 := by
  unfold valV
  split
  · rename_i h
    split
    · rename_i h2; simp [h, h2]
    · rename_i h2
      simp only [h, true_and]
      constructor
      · intro h; omega
      · intro h; exact absurd h h2
  · rename_i h
    constructor
    · intro h; omega
    · intro h2; exact absurd h2.1 h
theorem allFs_of {l : List V} (h : ∀ v ∈ l, allF v = true) : allFs l = true := by
  induction l with
  | nil => rfl
  | cons a l ih => simp only [allFs, Bool.and_eq_true]; exact ⟨h a (by simp), ih (fun v hv => h v (by simp [hv]))⟩
theorem allTs_of {l : List V} (h : ∀ v ∈ l, allT v = true) : allTs l = true := by
  induction l with
  | nil => rfl
  | cons a l ih => simp only [allTs, Bool.and_eq_true]; exact ⟨h a (by simp), ih (fun v hv => h v (by simp [hv]))⟩
theorem vszs_le {l : List V} {zs : List Int} (hl : l.length = zs.length) (h : ∀ j (hj : j < l.length) (hj' : j < zs.length), (vsz l[j] : Int) ≤ zs[j]) : (vszs l : Int) ≤ sumI zs := by
  induction l generalizing zs with
  | nil => cases zs with
    | nil => simp [vszs, sumI]
    | cons => simp at hl
  | cons a l ih => cases zs with
    | nil => simp at hl
    | cons z zs =>
      simp only [vszs, sumI]
      have h0 := h 0 (by simp) (by simp)
      simp only [List.getElem_cons_zero] at h0
      have := ih (by simpa using hl) (fun j hj hj' => h (j + 1) (by simpa using hj) (by simpa using hj'))
      omega
theorem rd_valid (h : VT t) : ∀ k, k < t.length → ∀ (P : List Int) (a : Nat) (v : V) (e : Nat) (sp : List Sp), rd P (tA t k) a = .ok v e sp → allF v = true ∧ allT v = true ∧ (vsz v : Int) ≤ zT t k := by
  refine vInd fun k hk ih P a v e sp hrd => ?_
  have hkid : ∀ q ∈ t[k].kids, ∀ (a : Nat) (v : V) (e : Nat) (sp : List Sp), rd P (tA t q.toNat) a = .ok v e sp → allF v = true ∧ allT v = true ∧ (vsz v : Int) ≤ zT t q.toNat := by
    intro q hq a v e sp hr
    obtain ⟨p, rfl, hp⟩ := h.kid hk hq
    rw [Int.toNat_natCast] at hr ⊢
    exact ih p hp P a v e sp hr
  have hz := zT_eq hk
  unfold sizN at hz
  rcases kind5 h hk with h0 | h1 | h2 | h3 | h4
  · rw [tA_leaf hk h0] at hrd
    simp only [rd, Res.ok.injEq] at hrd
    have := frsE_zero (h.own k hk) t[k].val (by unfold ownV; rw [if_pos h0]; simp)
    rw [if_pos h0] at hz
    obtain ⟨h1, h2, h3⟩ := valV_zero.1 this
    rw [← hrd.1, hz]
    exact ⟨h1, h2, Int.le_refl _⟩
  · rw [tA_rng hk h1] at hrd
    simp only [rd] at hrd
    obtain ⟨c, hc, hn, hv⟩ := pick_ok hrd
    simp only [Res.ok.injEq] at hv
    rw [if_neg (by omega), if_pos h1] at hz
    rw [← hv.1, hz]
    refine ⟨by rw [allF_eq]; simp [numV, fmd, allFs], by rw [allT_eq]; simp [numV, fts, allTs], by rw [vsz_eq]; simp [numV, vszs]⟩
  · rw [tA_cho h hk h2] at hrd
    simp only [rd] at hrd
    obtain ⟨c, hc, hn, hv⟩ := pick_ok hrd
    obtain ⟨hcl, hv⟩ := rdN_ok hv
    rw [kidsT_len] at hn
    simp only [kidsT, List.getElem_map] at hv
    obtain ⟨a1, a2, a3⟩ := hkid _ (List.getElem_mem hn) _ v e sp hv
    rw [if_neg (by omega), if_neg (by omega), if_neg (by omega)] at hz
    unfold mst at hz
    rw [if_pos h2, zT_map h hk (fun q hq => hq)] at hz
    have := maxI_ge (l := t[k].kids.map fun q => zT t q.toNat) (List.mem_map.2 ⟨_, List.getElem_mem hn, rfl⟩)
    exact ⟨a1, a2, by omega⟩
  · rw [tA_seq h hk h3] at hrd
    simp only [rd] at hrd
    rcases hq : rdS P a (kidsT t t[k].kids) a with ⟨vs, e1, sp1⟩ | _ | _
    · rw [hq] at hrd
      simp only [Res.bind_ok, Res.ok.injEq] at hrd
      obtain ⟨hlen, hvs⟩ := rdS_ok hq
      rw [kidsT_len] at hlen
      have hv : ∀ j (hj : j < t[k].kids.length) (hj' : j < vs.length), allF vs[j] = true ∧ allT vs[j] = true ∧ (vsz vs[j] : Int) ≤ zT t t[k].kids[j].toNat := fun j hj hj' => by
        obtain ⟨a', e', sp', hr⟩ := hvs j (by rw [kidsT_len]; exact hj) hj'
        simp only [kidsT, List.getElem_map] at hr
        exact hkid _ (by simp) a' _ e' sp' hr
      have hF : allFs vs = true := allFs_of fun v hv' => by
        obtain ⟨j, hj, rfl⟩ := List.mem_iff_getElem.1 hv'
        exact (hv j (by omega) hj).1
      have hT : allTs vs = true := allTs_of fun v hv' => by
        obtain ⟨j, hj, rfl⟩ := List.mem_iff_getElem.1 hv'
        exact (hv j (by omega) hj).2.1
      have hsz := vszs_le (l := vs) (zs := t[k].kids.map fun q => zT t q.toNat) (by simp [hlen]) (fun j hj hj' => by
        rw [List.getElem_map]; exact (hv j (by omega) hj).2.2)
      rw [if_neg (by omega), if_neg (by omega), if_pos h3, zT_map h hk (fun q hq => hq)] at hz
      have hsq := h.seq hk h3
      rw [← hrd.1]
      have hkv : (madeV t[k] vs).kids = vs := madeV_kids _ _
      refine ⟨?_, ?_, ?_⟩
      · rw [allF_eq, hkv, hF, Bool.and_true]
        unfold madeV
        split
        · simp [fmd]
        · rename_i hn
          rcases hsq.2 with h | h
          · exact absurd h hn
          · simp [fmd, h.1]
      · rw [allT_eq, hkv, hT, Bool.and_true]
        unfold madeV fts
        split
        · simp; omega
        · rename_i hn
          rcases hsq.2 with h | h
          · exact absurd h hn
          · simp; omega
      · rw [vsz_eq, hkv]; omega
    · rw [hq] at hrd; cases hrd
    · rw [hq] at hrd; cases hrd
  · rw [tA_bnd h hk h4] at hrd
    simp only [rd] at hrd
    rcases hq : rd P (tA t (t[k].kids.headD 0).toNat) a with ⟨v1, e1, sp1⟩ | _ | _
    · rw [hq] at hrd
      simp only [Res.bind_ok] at hrd
      rcases hq2 : rdN P (kidsT t t[k].kids.tail) (fndV t[k].vals v1).1 e1 with ⟨v2, e2, sp2⟩ | _ | _
      · rw [hq2] at hrd
        simp only [Res.bind_ok, Res.ok.injEq] at hrd
        obtain ⟨hcl, hv⟩ := rdN_ok hq2
        rw [kidsT_len] at hcl
        simp only [kidsT, List.getElem_map] at hv
        have hm : t[k].kids.tail[(fndV t[k].vals v1).1] ∈ t[k].kids.tail := List.getElem_mem _
        obtain ⟨a1, a2, a3⟩ := hkid _ (List.mem_of_mem_tail hm) _ v2 e2 sp2 hv
        rw [if_neg (by omega), if_neg (by omega), if_neg (by omega)] at hz
        unfold mst at hz
        rw [if_neg (by omega), zT_map h hk (fun q hq => hq), ← List.map_tail] at hz
        have := maxI_ge (l := t[k].kids.tail.map fun q => zT t q.toNat) (List.mem_map.2 ⟨_, hm, rfl⟩)
        rw [← hrd.1]
        exact ⟨a1, a2, by omega⟩
      · rw [hq2] at hrd; cases hrd
      · rw [hq2] at hrd; cases hrd
    · rw [hq] at hrd; cases hrd
    · rw [hq] at hrd; cases hrd

/-! ### how long fitted paths are -/
theorem fitS_len {raw : List Int} : ∀ (l : List Int) (p : List Int), (∀ k ∈ l, ∀ p : List Int, ((fit raw (tA t k.toNat) p).2.length : Int) ≤ p.length + lT t k.toNat) → ((fitS raw (kidsT t l) p).2.length : Int) ≤ p.length + sumI (l.map fun q => lT t q.toNat)
  | [], p, _ => by simp [kidsT, fitS, sumI]
  | k :: l, p, h => by
    have e : kidsT t (k :: l) = tA t k.toNat :: kidsT t l := rfl
    rw [e]
    simp only [fitS, List.map_cons, sumI]
    have h1 := h k (by simp) p
    have h2 := fitS_len (raw := raw) l (fit raw (tA t k.toNat) p).2 (fun k hk => h k (by simp [hk]))
    omega
theorem fit_len (h : VT t) (raw : List Int) : ∀ k, k < t.length → ∀ p : List Int, ((fit raw (tA t k) p).2.length : Int) ≤ p.length + lT t k := by
  refine vInd fun k hk ih p => ?_
  have hkid : ∀ q ∈ t[k].kids, ∀ p : List Int, ((fit raw (tA t q.toNat) p).2.length : Int) ≤ p.length + lT t q.toNat := by
    intro q hq p
    obtain ⟨j, rfl, hj⟩ := h.kid hk hq
    rw [Int.toNat_natCast]
    exact ih j hj p
  have hg := good h k hk
  rcases kind5 h hk with h0 | h1 | h2 | h3 | h4
  · rw [tA_leaf hk h0]; have := (h.l0 hk).1; simp only [fit]; omega
  · rw [tA_rng hk h1]
    have : lT t k = 1 := by rw [lT_eq hk]; unfold lenN; rw [if_neg (by omega), if_pos h1]
    simp only [fit, List.length_append, List.length_cons, List.length_nil]; omega
  · rw [tA_cho h hk h2] at hg ⊢
    cases hg with
    | cho hp _ =>
    simp only [fit]
    have hc := clp_lt (raw := raw) (k := p.length) hp
    rw [fitN_get _ _ _ _ hc]
    rw [kidsT_len] at hc
    simp only [kidsT, List.getElem_map]
    have hm := List.getElem_mem hc
    have h1 := hkid _ hm (p ++ [(clp raw p.length (List.map (fun q => tA t q.toNat) t[k].kids).length : Int)])
    have h2 := lT_cho h hk h2 _ hm
    simp only [List.length_map, List.length_append, List.length_cons, List.length_nil, kidsT_len] at h1 h2 ⊢
    omega
  · rw [tA_seq h hk h3]
    simp only [fit]
    rw [lT_seq h hk h3]
    exact fitS_len t[k].kids p hkid
  · obtain ⟨q, hq, hqe, hqs⟩ := h.first hk h4
    rw [tA_bnd h hk h4, hqe, Int.toNat_natCast] at hg ⊢
    cases hg with
    | bnd hgf hgk hgv =>
    simp only [fit]
    obtain ⟨sp, hr⟩ := fit_rd raw (tA t q) hgf p []
    have hl := hgv _ _ _ _ _ hr
    rw [fitN_get _ _ _ _ hl]
    rw [kidsT_len] at hl
    simp only [kidsT, List.getElem_map]
    have hm := List.getElem_mem hl
    have h1 := ih q hq p
    have h2 := hkid _ (List.mem_of_mem_tail hm) (fit raw (tA t q) p).2
    have h3 := lT_bnd h hk h4 _ hm
    rw [hqe, Int.toNat_natCast] at h3
    omega
end
end Go.Proofs.YtpochcchekoonaaGreat
