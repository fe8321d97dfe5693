/-
  The plain law of trimming trees: what is reached, the trimmed tree, that it is valid, has the same paths and values, and is trimmed already. Package tree: is, same (at four element types), sameNode, Equal. Package clone: Flat (at two types), Node, List of nodes, Tree; the reference's Has.
-/
import Derived.Test.YtpochcchekoonaaGreatY6
import Derived.Test.YtpochcchekoonaaGreatA8
import Derived.Test.YtpochcchekoonaaGreatAk
namespace Go.Proofs.YtpochcchekoonaaGreat
open Go.Rf Go.RowKit
set_option linter.unusedVariables false
set_option linter.unusedSimpArgs false
--BEGIN
/-! ### what the root reaches -/
def rchB (t : List Nd) (i : Nat) : Bool :=
  decide (i + 1 = t.length) || (List.range t.length).any fun j => if h : i < j ∧ j < t.length then rchB t j && decide ((i : Int) ∈ (t[j]'h.2).kids) else false
termination_by t.length - i
theorem rchB_iff {t : List Nd} {i : Nat} : rchB t i = true ↔ i + 1 = t.length ∨ ∃ j, ∃ h : j < t.length, i < j ∧ rchB t j = true ∧ (i : Int) ∈ t[j].kids := by
  rw [rchB]
  simp only [Bool.or_eq_true, decide_eq_true_eq, List.any_eq_true, List.mem_range]
  constructor
  · rintro (h | ⟨j, hj, h⟩)
    · exact .inl h
    · split at h
      · rename_i hh
        simp only [Bool.and_eq_true, decide_eq_true_eq] at h
        exact .inr ⟨j, hj, hh.1, h⟩
      · cases h
  · rintro (h | ⟨j, hj, hij, h⟩)
    · exact .inl h
    · refine .inr ⟨j, hj, ?_⟩
      rw [dif_pos ⟨hij, hj⟩]
      simpa using h

/-! ### the place of a node in a list -/
def posN : List Nd → Nd → Nat
  | [], _ => 0
  | y :: l, x => if sameN y x = true then 0 else posN l x + 1
theorem posN_le : ∀ (l : List Nd) (x : Nd), posN l x ≤ l.length
  | [], _ => Nat.le_refl _
  | y :: l, x => by
    rw [posN]
    split
    · exact Nat.zero_le _
    · have := posN_le l x; simp; omega
theorem posN_get : ∀ {l : List Nd} {x : Nd}, posN l x < l.length → l[posN l x]? = some x
  | [], _, h => by simp at h
  | y :: l, x, h => by
    rw [posN] at h ⊢
    split
    · rename_i hs; rw [sameN_iff.1 hs]; rfl
    · rename_i hs
      rw [if_neg hs] at h
      simpa using posN_get (l := l) (x := x) (by simpa using h)
theorem posN_mem : ∀ {l : List Nd} {x : Nd}, posN l x < l.length ↔ x ∈ l
  | [], _ => by simp
  | y :: l, x => by
    rw [posN]
    split
    · rename_i hs; rw [sameN_iff.1 hs]; simp
    · rename_i hs
      have : ¬ x = y := fun e => hs (sameN_iff.2 e.symm)
      simp only [List.length_cons, Nat.add_lt_add_iff_right, List.mem_cons, this, false_or]
      exact posN_mem
theorem posN_eq {l : List Nd} {x : Nd} {k : Nat} (hk : k < l.length) (hx : l[k] = x) (hn : ∀ j (h : j < k), l[j] ≠ x) : posN l x = k := by
  induction l generalizing k with
  | nil => simp at hk
  | cons y l ih =>
    rw [posN]
    cases k with
    | zero => rw [if_pos (sameN_iff.2 (by simpa using hx))]
    | succ k =>
      rw [if_neg (fun h => hn 0 (by omega) (by simpa using sameN_iff.1 h)), ih (by simpa using hk) (by simpa using hx) (fun j h => by simpa using hn (j + 1) (by omega))]

/-! ### the trimmed tree -/
def rplN (pl : List Nat) (x : Nd) : Nd := { x with kids := x.kids.map fun k => ((pl.getD k.toNat 0 : Nat) : Int) }
def trmS (t : List Nd) (st : List Nd × List Nat) (x : Nd) : List Nd × List Nat :=
  if rchB t st.2.length = true then
    (if posN st.1 (rplN st.2 x) < st.1.length then st.1 else st.1 ++ [rplN st.2 x], st.2 ++ [posN st.1 (rplN st.2 x)])
  else (st.1, st.2 ++ [0])
def trmG (t p : List Nd) : List Nd × List Nat := p.foldl (trmS t) ([], [])
theorem trmG_snoc (t p : List Nd) (x : Nd) : trmG t (p ++ [x]) = trmS t (trmG t p) x := by unfold trmG; rw [List.foldl_append]; rfl
theorem trmS_len (t : List Nd) (st : List Nd × List Nat) (x : Nd) : (trmS t st x).2.length = st.2.length + 1 := by
  unfold trmS; split <;> simp
theorem trmG_len (t p : List Nd) : (trmG t p).2.length = p.length := by
  refine snocInd (P := fun p => (trmG t p).2.length = p.length) rfl (fun p x ih => ?_) p
  rw [trmG_snoc, trmS_len, ih]; simp
theorem trmG_le (t p : List Nd) : (trmG t p).1.length ≤ p.length := by
  refine snocInd (P := fun p => (trmG t p).1.length ≤ p.length) (Nat.le_refl _) (fun p x ih => ?_) p
  rw [trmG_snoc, List.length_append]
  unfold trmS
  split
  · simp only; split
    · simp; omega
    · simp; omega
  · simp; omega
def trmT (t : List Nd) : List Nd := if validT t = 0 then (trmG t t).1 else t
structure Trm (t : List Nd) (n : Nat) (out : List Nd) (pl : List Nat) : Prop where
  len : pl.length = n
  nd : out.Nodup
  at_ : ∀ i (h : i < t.length), i < n → rchB t i = true → pl.getD i 0 < out.length ∧ out[pl.getD i 0]? = some (rplN pl t[i])
  all : ∀ a, a < out.length → ∃ i, i < n ∧ rchB t i = true ∧ pl.getD i 0 = a
  kid : ∀ a (h : a < out.length), ∀ k ∈ out[a].kids, 0 ≤ k ∧ k < a
theorem getD_left {l m : List Nat} {i : Nat} (h : i < l.length) : (l ++ m).getD i 0 = l.getD i 0 := by
  rw [List.getD_eq_getElem?_getD, List.getD_eq_getElem?_getD, List.getElem?_append_left h]
theorem getD_end {l : List Nat} {i a : Nat} (h : i = l.length) : (l ++ [a]).getD i 0 = a := by
  subst h; simp [List.getD_eq_getElem?_getD]
theorem rplN_left {pl m : List Nat} {x : Nd} (h : ∀ k ∈ x.kids, k.toNat < pl.length) : rplN (pl ++ m) x = rplN pl x := by
  unfold rplN
  have : x.kids.map (fun k => (((pl ++ m).getD k.toNat 0 : Nat) : Int)) = x.kids.map fun k => ((pl.getD k.toNat 0 : Nat) : Int) := List.map_congr_left fun k hk => by rw [getD_left (h k hk)]
  rw [this]
theorem trm (t : List Nd) (hv : VT t) : ∀ n, n ≤ t.length → Trm t n (trmG t (t.take n)).1 (trmG t (t.take n)).2 := by
  intro n
  induction n with
  | zero => intro _; exact ⟨rfl, List.nodup_nil, fun i h h' => by omega, fun a h => by simp [trmG] at h, fun a h => by simp [trmG] at h⟩
  | succ n ih =>
    intro hn
    have hlt : n < t.length := by omega
    obtain ⟨h1, h2, h3, h4, h5⟩ := ih (by omega)
    rw [List.take_succ_eq_append_getElem hlt, trmG_snoc]
    generalize hst : trmG t (t.take n) = st at h1 h2 h3 h4 h5 ⊢
    have hk : ∀ k ∈ t[n].kids, 0 ≤ k ∧ k < n := hv.kids hlt
    have hkl : ∀ i (hi : i < t.length), i ≤ n → ∀ k ∈ t[i].kids, k.toNat < st.2.length := fun i hi hin k hk' => by have := hv.kids hi k hk'; omega
    by_cases hr : rchB t n = true
    case neg =>
      unfold trmS
      rw [h1, if_neg hr]
      refine ⟨by simp [h1], h2, fun i hi hin hri => ?_, fun a ha => ?_, h5⟩
      · have hne : i ≠ n := fun e => by subst e; exact hr hri
        obtain ⟨q1, q2⟩ := h3 i hi (by omega) hri
        simp only
        rw [getD_left (by omega), rplN_left (hkl i hi (by omega))]
        exact ⟨q1, q2⟩
      · obtain ⟨i, q1, q2, q3⟩ := h4 a ha
        exact ⟨i, by omega, q2, by simp only; rw [getD_left (by omega)]; exact q3⟩
    have hxk : ∀ k ∈ (rplN st.2 t[n]).kids, 0 ≤ k ∧ k < st.1.length := fun k hk' => by
      unfold rplN at hk'
      simp only [List.mem_map] at hk'
      obtain ⟨q, hq, rfl⟩ := hk'
      have hqr := hk q hq
      have hrq : rchB t q.toNat = true := rchB_iff.2 (.inr ⟨n, hlt, by omega, hr, by rw [Int.toNat_of_nonneg hqr.1]; exact hq⟩)
      have := (h3 q.toNat (by omega) (by omega) hrq).1
      omega
    have hxr : ∀ m, rplN (st.2 ++ m) t[n] = rplN st.2 t[n] := fun m => rplN_left (hkl n hlt (Nat.le_refl _))
    unfold trmS
    rw [h1, if_pos hr]
    obtain ⟨x, hx⟩ : ∃ x, x = rplN st.2 t[n] := ⟨_, rfl⟩
    rw [← hx] at hxk ⊢
    by_cases hp : posN st.1 x < st.1.length
    · rw [if_pos hp]
      refine ⟨by simp [h1], h2, fun i hi hin hri => ?_, fun a ha => ?_, h5⟩
      · simp only
        by_cases hne : i = n
        · subst hne
          rw [getD_end h1.symm, hxr, ← hx]
          exact ⟨hp, posN_get hp⟩
        · obtain ⟨q1, q2⟩ := h3 i hi (by omega) hri
          rw [getD_left (by omega), rplN_left (hkl i hi (by omega))]
          exact ⟨q1, q2⟩
      · obtain ⟨i, q1, q2, q3⟩ := h4 a ha
        exact ⟨i, by omega, q2, by simp only; rw [getD_left (by omega)]; exact q3⟩
    · rw [if_neg hp]
      have hpe : posN st.1 x = st.1.length := by have := posN_le st.1 x; omega
      refine ⟨by simp [h1], ?_, fun i hi hin hri => ?_, fun a ha => ?_, fun a ha => ?_⟩
      · simp only
        rw [List.nodup_append]
        refine ⟨h2, by simp, fun a ha b hb => ?_⟩
        rw [List.mem_singleton] at hb
        subst hb
        intro e; subst e
        exact hp (posN_mem.2 ha)
      · simp only
        by_cases hne : i = n
        · subst hne
          rw [getD_end h1.symm, hxr, ← hx, hpe]
          exact ⟨by simp, by simp⟩
        · obtain ⟨q1, q2⟩ := h3 i hi (by omega) hri
          rw [getD_left (by omega), rplN_left (hkl i hi (by omega))]
          exact ⟨by simp only [List.length_append]; omega, by rw [List.getElem?_append_left q1]; exact q2⟩
      · simp only [List.length_append, List.length_cons, List.length_nil] at ha
        by_cases hal : a < st.1.length
        · obtain ⟨i, q1, q2, q3⟩ := h4 a hal
          exact ⟨i, by omega, q2, by simp only; rw [getD_left (by omega)]; exact q3⟩
        · exact ⟨n, by omega, hr, by simp only; rw [getD_end h1.symm]; omega⟩
      · simp only [List.length_append, List.length_cons, List.length_nil] at ha ⊢
        by_cases hal : a < st.1.length
        · rw [List.getElem_append_left hal]; exact h5 a hal
        · obtain rfl : a = st.1.length := by omega
          rw [List.getElem_concat_length rfl]
          exact hxk

/-! ### the trimmed tree, told by the places of the nodes -/
def mapK (P : Nat → Nat) (x : Nd) : Nd := { x with kids := x.kids.map fun k => (P k.toNat : Int) }
structure Plc (t y : List Nd) (P : Nat → Nat) : Prop where
  at_ : ∀ i (h : i < t.length), rchB t i = true → y[P i]? = some (mapK P t[i])
  all : ∀ a, a < y.length → ∃ i, i < t.length ∧ rchB t i = true ∧ P i = a
  kid : ∀ a (h : a < y.length), ∀ k ∈ y[a].kids, 0 ≤ k ∧ k < a
  nd : y.Nodup
theorem Plc.of {t : List Nd} (hv : VT t) : Plc t (trmG t t).1 (fun i => (trmG t t).2.getD i 0) := by
  have h := trm t hv t.length (Nat.le_refl _)
  rw [List.take_length] at h
  exact ⟨fun i hi hr => (h.at_ i hi hi hr).2, fun a ha => by obtain ⟨i, h1, h2, h3⟩ := h.all a ha; exact ⟨i, h1, h2, h3⟩, h.kid, h.nd⟩
theorem lenN_congr {ls ls' : List Int} {x x' : Nd} (hk : x.kind = x'.kind) (hm : x.kids.map (kd ls) = x'.kids.map (kd ls')) : lenN ls x = lenN ls' x' := by
  unfold lenN mst; rw [hk, hm]
theorem sizN_congr {ls ls' : List Int} {x x' : Nd} (hk : x.kind = x'.kind) (hv : x.val = x'.val) (hm : x.kids.map (kd ls) = x'.kids.map (kd ls')) : sizN ls x = sizN ls' x' := by
  unfold sizN mst; rw [hk, hv, hm]
theorem seqGo_congr {ls ls' : List (Option (List V))} : ∀ {ks ks' : List Int} {rows : List (List V)}, ks.map (lstAt ls) = ks'.map (lstAt ls') → seqGo ls ks rows = seqGo ls' ks' rows
  | [], [], rows, _ => rfl
  | [], k :: ks, rows, h => by simp at h
  | k :: ks, [], rows, h => by simp at h
  | k :: ks, k' :: ks', rows, h => by
    simp only [List.map_cons, List.cons.injEq] at h
    rw [seqGo, seqGo, h.1]
    split
    · rfl
    · rw [seqGo_congr h.2]
theorem uniGo_congr {ls ls' : List (Option (List V))} : ∀ {ks ks' : List Int} {out : List V} {m : Bool}, ks.map (lstAt ls) = ks'.map (lstAt ls') → uniGo ls ks out m = uniGo ls' ks' out m
  | [], [], out, m, _ => rfl
  | [], k :: ks, out, m, h => by simp at h
  | k :: ks, [], out, m, h => by simp at h
  | k :: ks, k' :: ks', out, m, h => by
    simp only [List.map_cons, List.cons.injEq] at h
    rw [uniGo, uniGo, h.1, uniGo_congr h.2]
theorem remK_zero (x : Nd) : remK x 0 = if x.kind = 4 then x.kids.drop 1 else x.kids := by
  unfold remK; simp
theorem setN_congr {ls ls' : List (Option (List V))} {P : Nat → Nat} {x : Nd} (hm : (mapK P x).kids.map (lstAt ls) = x.kids.map (lstAt ls')) : setN ls (mapK P x) = setN ls' x := by
  have hd : ((mapK P x).kids.drop 1).map (lstAt ls) = (x.kids.drop 1).map (lstAt ls') := by rw [List.map_drop, hm, List.map_drop]
  have hr : (remK (mapK P x) 0).map (lstAt ls) = (remK x 0).map (lstAt ls') := by
    rw [remK_zero, remK_zero]
    show (if x.kind = 4 then (mapK P x).kids.drop 1 else (mapK P x).kids).map (lstAt ls) = _
    split
    · exact hd
    · exact hm
  have hmd : madeV (mapK P x) = madeV x := rfl
  unfold setN uniN seqN
  rw [uniGo_congr hr, seqGo_congr hm, hmd]
  rfl
theorem kidsT_map {t y : List Nd} {raw : List Int} {P : Nat → Nat} : ∀ (l : List Int), (∀ k ∈ l, ∀ p, fit raw (tA y (P k.toNat)) p = fit raw (tA t k.toNat) p) →
    (∀ k p, fitN raw (kidsT y (l.map fun k => (P k.toNat : Int))) k p = fitN raw (kidsT t l) k p) ∧ (∀ p, fitS raw (kidsT y (l.map fun k => (P k.toNat : Int))) p = fitS raw (kidsT t l) p)
  | [], h => ⟨fun k p => rfl, fun p => rfl⟩
  | k0 :: l, h => by
    obtain ⟨h1, h2⟩ := kidsT_map l (fun k hk => h k (by simp [hk]))
    have h0 := h k0 (by simp)
    unfold kidsT at h1 h2 ⊢
    refine ⟨fun k p => ?_, fun p => ?_⟩
    · cases k with
      | zero => simp only [List.map_cons, fitN, Int.toNat_natCast]; exact h0 p
      | succ k => simp only [List.map_cons, fitN]; exact h1 k p
    · simp only [List.map_cons, fitS, Int.toNat_natCast]
      rw [h0, h2]
section
variable {t y : List Nd} {P : Nat → Nat}
theorem Plc.lt (h : Plc t y P) {i : Nat} (hi : i < t.length) (hr : rchB t i = true) : P i < y.length := (List.getElem?_eq_some_iff.1 (h.at_ i hi hr)).1
theorem Plc.get (h : Plc t y P) {i : Nat} (hi : i < t.length) (hr : rchB t i = true) : y[P i]'(h.lt hi hr) = mapK P t[i] := (List.getElem?_eq_some_iff.1 (h.at_ i hi hr)).2
theorem Plc.rkid (h : Plc t y P) (hv : VT t) {i : Nat} (hi : i < t.length) (hr : rchB t i = true) : ∀ k ∈ t[i].kids, ∃ q : Nat, k = (q : Int) ∧ q < i ∧ rchB t q = true ∧ P q < P i := by
  intro k hk
  obtain ⟨q, rfl, hq⟩ := hv.kid hi hk
  refine ⟨q, rfl, hq, rchB_iff.2 (.inr ⟨i, hi, hq, hr, hk⟩), ?_⟩
  have hg := h.get hi hr
  have := h.kid (P i) (h.lt hi hr) (P q : Nat) (by rw [hg]; exact List.mem_map.2 ⟨q, hk, by simp⟩)
  omega
theorem Plc.root (h : Plc t y P) (hv : VT t) (h0 : 0 < t.length) : P (t.length - 1) + 1 = y.length := by
  have hrr : rchB t (t.length - 1) = true := rchB_iff.2 (.inl (by omega))
  have key : ∀ m i, t.length - i = m → i < t.length → rchB t i = true → P i ≤ P (t.length - 1) := by
    intro m
    induction m using Nat.strongRecOn with
    | _ m ih =>
      intro i hm hi hr
      rcases rchB_iff.1 hr with he | ⟨j, hj, hij, hrj, hk⟩
      · obtain rfl : i = t.length - 1 := by omega
        exact Nat.le_refl _
      · have h1 := ih (t.length - j) (by omega) j rfl hj hrj
        obtain ⟨q, hq, _, _, hlt⟩ := h.rkid hv hj hrj _ hk
        obtain rfl : i = q := by omega
        omega
  have hlt := h.lt (i := t.length - 1) (by omega) hrr
  by_cases he : P (t.length - 1) + 1 < y.length
  · obtain ⟨i, hi, hr, hpi⟩ := h.all _ he
    have := key _ i rfl hi hr
    omega
  · omega
theorem Plc.same (h : Plc t y P) (hv : VT t) : ∀ i, (hi : i < t.length) → rchB t i = true → lT y (P i) = lT t i ∧ zT y (P i) = zT t i ∧ sT y (P i) = sT t i := by
  intro i
  induction i using Nat.strongRecOn with
  | _ i ih =>
    intro hi hr
    have hlt := h.lt hi hr
    have hg := h.get hi hr
    have hk := h.rkid hv hi hr
    have m1 : (mapK P t[i]).kids.map (kd (lensT (y.take (P i)))) = t[i].kids.map (kd (lensT (t.take i))) := by
      unfold mapK
      rw [List.map_map]
      refine List.map_congr_left fun k hkm => ?_
      obtain ⟨q, rfl, hq, hrq, hp⟩ := hk k hkm
      simp only [Function.comp_apply, Int.toNat_natCast]
      rw [lT_kd hp (by omega), lT_kd hq (by omega)]
      exact (ih q hq (by omega) hrq).1
    have m2 : (mapK P t[i]).kids.map (kd (sizsT (y.take (P i)))) = t[i].kids.map (kd (sizsT (t.take i))) := by
      unfold mapK
      rw [List.map_map]
      refine List.map_congr_left fun k hkm => ?_
      obtain ⟨q, rfl, hq, hrq, hp⟩ := hk k hkm
      simp only [Function.comp_apply, Int.toNat_natCast]
      rw [zT_kd hp (by omega), zT_kd hq (by omega)]
      exact (ih q hq (by omega) hrq).2.1
    have m3 : (mapK P t[i]).kids.map (lstAt (setsT (y.take (P i)))) = t[i].kids.map (lstAt (setsT (t.take i))) := by
      unfold mapK
      rw [List.map_map]
      refine List.map_congr_left fun k hkm => ?_
      obtain ⟨q, rfl, hq, hrq, hp⟩ := hk k hkm
      simp only [Function.comp_apply, Int.toNat_natCast]
      rw [lstAt_eq hp (by omega), lstAt_eq hq (by omega)]
      exact (ih q hq (by omega) hrq).2.2
    refine ⟨?_, ?_, ?_⟩
    · rw [lT_eq hlt, lT_eq hi, hg]
      exact lenN_congr rfl m1
    · rw [zT_eq hlt, zT_eq hi, hg]
      exact sizN_congr rfl rfl m2
    · rw [sT_eq hlt, sT_eq hi, hg]
      exact setN_congr m3
theorem valGo_zero : ∀ (m i : Nat), y.length - i = m → (∀ j (h : j < y.length), stepE (y.take j) y[j] = 0) → valGo (y.take i) (y.drop i) = 0
  | 0, i, hm, h => by rw [List.drop_eq_nil_of_le (by omega), valGo]
  | m + 1, i, hm, h => by
    have hi : i < y.length := by omega
    rw [valGo_drop hi, if_neg (by simpa using h i hi)]
    exact valGo_zero m (i + 1) (by omega) h
theorem form_map {i a : Nat} {x : Nd} (h : formN i x = true) (hk : ∀ k ∈ (mapK P x).kids, 0 ≤ k ∧ k < a) : formN a (mapK P x) = true := by
  have hl : (mapK P x).kids.length = x.kids.length := by simp [mapK]
  have ha : ((mapK P x).kids.all fun k => decide (0 ≤ k ∧ k < (a : Int))) = true := by
    rw [List.all_eq_true]
    exact fun k hk' => decide_eq_true (hk k hk')
  unfold formN unusedN at h ⊢
  simp only [Bool.and_eq_true] at h ⊢
  rw [hl]
  exact ⟨h.1, h.2.1, ha, h.2.2.2⟩
theorem Plc.valid (h : Plc t y P) (hv : VT t) (hle : y.length ≤ t.length) : validT y = 0 := by
  have hstep : ∀ j (hj : j < y.length), stepE (y.take j) y[j] = 0 := by
    intro j hj
    obtain ⟨i, hi, hr, rfl⟩ := h.all j hj
    have hg := h.get hi hr
    obtain ⟨s1, s2, s3⟩ := h.same hv i hi hr
    have hlp : (y.take (P i)).length = P i := by rw [List.length_take]; omega
    have hk := h.kid (P i) hj
    rw [hg] at hk
    have hnode : nodeE (P i) (mapK P t[i]) = 0 := by
      have hf := form_map (hv.form hi) hk
      unfold nodeE
      rw [if_neg (by simp [hf])]
      have h1 : frsE (ownV (mapK P t[i])) = 0 := hv.own i hi
      have h2 : numsN (mapK P t[i]) = true := hv.nums hi
      rw [if_neg (by simpa using h1), if_neg (by simp [h2])]
    have e1 := lT_eq hj
    have e2 := zT_eq hj
    rw [hg] at e1 e2 ⊢
    have b1 := hv.l0 hi
    have b2 := hv.z1 hi
    rw [step_rest (by rw [hlp]; exact hnode) (by omega)]
    split
    · rename_i h4
      have h4 : t[i].kind = 4 := h4
      have hb := hv.bnd i hi h4
      have hbl := hv.bind hi h4
      have h0 : 0 < t[i].kids.length := by omega
      obtain ⟨q, hq, hqi, hrq, hpq⟩ := h.rkid hv hi hr _ (List.getElem_mem h0)
      rw [headD_get h0, hq, Int.toNat_natCast] at hb
      have hh : (mapK P t[i]).kids.headD 0 = (P q : Nat) := by
        rw [headD_get (by simp [mapK]; omega)]
        simp only [mapK, List.getElem_map, hq, Int.toNat_natCast]
      rw [hh, lstAt_eq hpq (by omega), (h.same hv q (by omega) hrq).2.2, hb]
      show bndE (some t[i].vals) t[i].vals = 0
      unfold bndE
      simp only
      rw [if_pos (sameVs_iff.2 rfl)]
    · rfl
  unfold validT
  rw [if_neg (by have := hv.len; omega)]
  exact valGo_zero _ 0 rfl hstep
theorem Plc.fit (h : Plc t y P) (hv : VT t) (hy : VT y) (raw : List Int) : ∀ i, (hi : i < t.length) → rchB t i = true → ∀ p, fit raw (tA y (P i)) p = fit raw (tA t i) p := by
  intro i
  induction i using Nat.strongRecOn with
  | _ i ih =>
    intro hi hr p
    have hlt := h.lt hi hr
    have hg := h.get hi hr
    have hk := h.rkid hv hi hr
    have ek : (y[P i]'hlt).kind = t[i].kind := by rw [hg]; rfl
    have ekids : (y[P i]'hlt).kids = t[i].kids.map fun k => (P k.toNat : Int) := by rw [hg]; rfl
    have hfk : ∀ k ∈ t[i].kids, ∀ p, Go.Proofs.YtpochcchekoonaaGreat.fit raw (tA y (P k.toNat)) p = Go.Proofs.YtpochcchekoonaaGreat.fit raw (tA t k.toNat) p := by
      intro k hkm
      obtain ⟨q, rfl, hq, hrq, _⟩ := hk k hkm
      rw [Int.toNat_natCast]
      exact ih q hq (by omega) hrq
    rcases kind5 hv hi with h0 | h1 | h2 | h3 | h4
    · rw [tA_leaf hi h0, tA_leaf hlt (by rw [ek]; exact h0), hg]; rfl
    · rw [tA_rng hi h1, tA_rng hlt (by rw [ek]; exact h1), hg]
      simp only [Go.Proofs.YtpochcchekoonaaGreat.fit, mapK]
    · rw [tA_cho hv hi h2, tA_cho hy hlt (by rw [ek]; exact h2), ekids]
      simp only [Go.Proofs.YtpochcchekoonaaGreat.fit]
      rw [(kidsT_map t[i].kids hfk).1, kidsT_len, kidsT_len, List.length_map]
    · rw [tA_seq hv hi h3, tA_seq hy hlt (by rw [ek]; exact h3), ekids]
      simp only [Go.Proofs.YtpochcchekoonaaGreat.fit]
      rw [(kidsT_map t[i].kids hfk).2, hg]
      rfl
    · have h0 : 0 < t[i].kids.length := by have := (hv.bind hi h4).1; omega
      obtain ⟨q, hq, hqi, hrq, hpq⟩ := hk _ (List.getElem_mem h0)
      have hh : (t[i].kids.map fun k => (P k.toNat : Int)).headD 0 = (P q : Nat) := by
        rw [headD_get (by simpa using h0)]
        simp only [List.getElem_map, hq, Int.toNat_natCast]
      rw [tA_bnd hv hi h4, tA_bnd hy hlt (by rw [ek]; exact h4), ekids, hh, headD_get h0, hq, ← List.map_tail]
      simp only [Go.Proofs.YtpochcchekoonaaGreat.fit, Int.toNat_natCast]
      rw [(kidsT_map t[i].kids.tail (fun k hk' => hfk k (List.mem_of_mem_tail hk'))).1, ih q hqi (by omega) hrq, hg]
      rfl
theorem Plc.rch (h : Plc t y P) (hv : VT t) : ∀ a, a < y.length → rchB y a = true := by
  have key : ∀ m i, t.length - i = m → i < t.length → rchB t i = true → rchB y (P i) = true := by
    intro m
    induction m using Nat.strongRecOn with
    | _ m ih =>
      intro i hm hi hr
      rcases rchB_iff.1 hr with he | ⟨j, hj, hij, hrj, hk⟩
      · obtain rfl : i = t.length - 1 := by omega
        exact rchB_iff.2 (.inl (h.root hv (by omega)))
      · have h1 := ih (t.length - j) (by omega) j rfl hj hrj
        obtain ⟨q, hq, _, _, hlt⟩ := h.rkid hv hj hrj _ hk
        obtain rfl : i = q := by omega
        refine rchB_iff.2 (.inr ⟨P j, h.lt hj hrj, hlt, h1, ?_⟩)
        rw [h.get hj hrj]
        exact List.mem_map.2 ⟨i, hk, by simp⟩
  intro a ha
  obtain ⟨i, hi, hr, rfl⟩ := h.all a ha
  exact key _ i rfl hi hr
theorem range_getD {n k : Nat} (h : k < n) : (List.range n).getD k 0 = k := by
  rw [List.getD_eq_getElem?_getD, List.getElem?_range h]; rfl
theorem again_of (hr : ∀ a, a < y.length → rchB y a = true) (hk : ∀ a (h : a < y.length), ∀ k ∈ y[a].kids, 0 ≤ k ∧ k < a) (hn : y.Nodup) : ∀ n, n ≤ y.length → trmG y (y.take n) = (y.take n, List.range n) := by
  intro n
  induction n with
  | zero => intro _; rfl
  | succ n ih =>
    intro hn1
    have hlt : n < y.length := by omega
    rw [List.take_succ_eq_append_getElem hlt, trmG_snoc, ih (by omega)]
    have hx : rplN (List.range n) y[n] = y[n] := by
      unfold rplN
      have : y[n].kids.map (fun k => (((List.range n).getD k.toNat 0 : Nat) : Int)) = y[n].kids := by
        conv => rhs; rw [← List.map_id y[n].kids]
        refine List.map_congr_left fun k hkm => ?_
        have := hk n hlt k hkm
        rw [range_getD (by omega)]
        simp only [id]; omega
      rw [this]
    have hnm : ¬ posN (y.take n) y[n] < (y.take n).length := fun h => by
      have hm := posN_mem.1 h
      obtain ⟨j, hj, he⟩ := List.getElem_of_mem hm
      rw [List.getElem_take] at he
      have hjn : j < n := by rw [List.length_take] at hj; omega
      have := (List.nodup_iff_pairwise_ne.1 hn)
      rw [List.pairwise_iff_getElem] at this
      exact this j n (by omega) hlt hjn he
    unfold trmS
    simp only [List.length_range]
    rw [if_pos (hr n hlt), hx, if_neg hnm]
    have hp : posN (y.take n) y[n] = n := by have := posN_le (y.take n) y[n]; rw [List.length_take] at *; omega
    rw [hp, List.range_succ]
end
/-! ### what the law asks -/
theorem trmT_valid {t : List Nd} (h : validT t = 0) : validT (trmT t) = 0 := by
  have hv := VT.of h
  unfold trmT
  rw [if_pos h]
  exact (Plc.of hv).valid hv (trmG_le t t)
theorem trmT_again {t : List Nd} (h : validT t = 0) : trmT (trmT t) = trmT t := by
  have hv := VT.of h
  have h2 := trmT_valid h
  have hp := Plc.of hv
  have ht : trmT t = (trmG t t).1 := by unfold trmT; rw [if_pos h]
  rw [ht] at h2 ⊢
  unfold trmT
  rw [if_pos h2]
  have := again_of (hp.rch hv) hp.kid hp.nd (trmG t t).1.length (Nat.le_refl _)
  rw [List.take_length] at this
  rw [this]
theorem trmT_fit {t : List Nd} (h : validT t = 0) (raw : List Int) : fitT (trmT t) raw = fitT t raw ∧ valT (trmT t) (fitT t raw).1 = valT t (fitT t raw).1 := by
  have hv := VT.of h
  have h2 := trmT_valid h
  have hy := VT.of h2
  have hp := Plc.of hv
  have ht : trmT t = (trmG t t).1 := by unfold trmT; rw [if_pos h]
  rw [ht] at h2 hy ⊢
  by_cases h0 : 0 < t.length
  case neg =>
    obtain rfl : t = [] := List.length_eq_zero_iff.1 (by omega)
    exact ⟨rfl, rfl⟩
  have hr := hp.root hv h0
  have hy0 : 0 < (trmG t t).1.length := by omega
  have hrr : rchB t (t.length - 1) = true := rchB_iff.2 (.inl (by omega))
  have hf := hp.fit hv hy raw (t.length - 1) (by omega) hrr []
  rw [show (trmG t t).2.getD (t.length - 1) 0 = (trmG t t).1.length - 1 by omega] at hf
  have g1 := good hv (t.length - 1) (by omega)
  have g2 := good hy ((trmG t t).1.length - 1) (by omega)
  obtain ⟨sp1, r1⟩ := fit_rd raw _ g1 [] []
  obtain ⟨sp2, r2⟩ := fit_rd raw _ g2 [] []
  rw [List.append_nil] at r1 r2
  rw [hf] at r2
  have hft : fitT t raw = ((fit raw (tA t (t.length - 1)) []).2, 0) := by unfold fitT; rw [if_pos h, if_pos h0]
  have hfy : fitT (trmG t t).1 raw = ((fit raw (tA t (t.length - 1)) []).2, 0) := by unfold fitT; rw [if_pos h2, if_pos hy0, hf]
  rw [hft, hfy]
  refine ⟨rfl, ?_⟩
  simp only [List.length_nil] at r1 r2
  unfold valT fullT
  rw [if_pos ⟨h2, hy0⟩, if_pos ⟨h, h0⟩, r2, r1]
  simp
--END
end Go.Proofs.YtpochcchekoonaaGreat
namespace Go.Proofs.YtpochcchekoonaaGreat
open Go.Rf Go.RowKit
set_option linter.unusedVariables false
set_option linter.unusedSimpArgs false
attribute [local irreducible] Code.wp wpList Exit.then Exit.inBlock bodyPost A Calls execOp Addr.add
theorem is_int (x y : Int) (u : World) : Calls Tryz.prog 78 #[.int .i64 x, .int .i64 y] u fun e u' => ∃ p : Bool, e = .returned (.bool p) ∧ (p = true ↔ x = y) ∧ Fr [] u u' := by
  refine enter Tryz.func78 rfl Tryz.ntmps78 rfl ?_
  refine rx ?_
  refine s_eql rfl rfl (fun h => ?_) (fun h => ?_)
  · refine rx ?_
    (apply ret1; exact rfl; (conv => lhs; whnf))
    exact ⟨true, rfl, by simp [h], Fr.refl _ _⟩
  · refine rx ?_
    (apply ret1; exact rfl; (conv => lhs; whnf))
    exact ⟨false, rfl, by simp [h], Fr.refl _ _⟩
theorem is_str (x y : ByteArray) (u : World) : Calls Tryz.prog 80 #[.string x, .string y] u fun e u' => ∃ p : Bool, e = .returned (.bool p) ∧ (p = true ↔ x = y) ∧ Fr [] u u' := by
  refine enter Tryz.func80 rfl Tryz.ntmps80 rfl ?_
  refine rx ?_
  refine s_eqlE rfl rfl (fun h => ?_) (fun h => ?_)
  · refine rx ?_
    (apply ret1; exact rfl; (conv => lhs; whnf))
    exact ⟨true, rfl, by simp [h], Fr.refl _ _⟩
  · refine rx ?_
    (apply ret1; exact rfl; (conv => lhs; whnf))
    exact ⟨false, rfl, by simp [h], Fr.refl _ _⟩
set_option maxHeartbeats 4000000 in
theorem same_int (xs ys : List Int) (sx sy : Value) (u : World) (hx : IS u [] xs sx) (hy : IS u [] ys sy) (hl : xs.length ≤ 1000000000000) :
    Calls Tryz.prog 77 #[sx, sy, .func (.func 78) #[] #[]] u fun e u' => ∃ p : Bool, e = .returned (.bool p) ∧ (p = true ↔ xs = ys) ∧ Fr [] u u' := by
  obtain ⟨aa, ca, rfl, _⟩ := hx.slice
  obtain ⟨ab, cb, rfl, _⟩ := hy.slice
  refine enter Tryz.func77 rfl Tryz.ntmps77 rfl ?_
  by_cases hlen : xs.length = ys.length
  case neg =>
    refine rx ?_
    (apply ret1; exact rfl; (conv => lhs; whnf))
    exact ⟨false, rfl, by simp; intro e; exact hlen (by rw [e]), Fr.refl _ _⟩
  refine rx ?_
  refine c_loopK 8 [7] (σ := Nat) (fun i g z => g 14 = .int .i64 xs.length ∧ g 15 = .int .i64 (i : Nat) ∧ i ≤ xs.length ∧ xs.take i = ys.take i ∧ Fr [] u z) (fun i => xs.length - i) 0 ⟨rfl, rfl, Nat.zero_le _, rfl, Fr.refl _ _⟩ ?_
  rintro i g z ⟨h14, h15, hi, htk, hfz⟩
  rw [eq_upd h14, eq_upd h15]
  by_cases hlt : i < xs.length
  case neg =>
    refine rx ?_
    (apply ret1; exact rfl; (conv => lhs; whnf))
    have h1 : xs.take i = xs := List.take_of_length_le (by omega)
    have h2 : ys.take i = ys := List.take_of_length_le (by omega)
    exact ⟨true, rfl, by simp; rw [← h1, ← h2, htk], hfz⟩
  have hltb : i < ys.length := by omega
  obtain ⟨ad, rfl, hca⟩ := Ls.at hx hlt
  obtain ⟨bd, rfl, hcb⟩ := Ls.at hy hltb
  have hac : ∀ z', Fr [] z z' → z'.cell? (ad.add i) = some (.int .i64 xs[i]) := fun z' hz => by
    obtain ⟨ad', e, h⟩ := Ls.at (hx.tr0 (hfz.trans0 hz)) hlt
    cases e; exact h
  have hbc : ∀ z', Fr [] z z' → z'.cell? (bd.add i) = some (.int .i64 ys[i]) := fun z' hz => by
    obtain ⟨ad', e, h⟩ := Ls.at (hy.tr0 (hfz.trans0 hz)) hltb
    cases e; exact h
  refine rx ?_
  (refine d_begin (fun y => Fr [] z y) (by kernel_rfl) rfl ?_)
  have hS : Fr [] z z.drew := Fr.drew _ _
  ((first | refine d_tx 0 hS ?_ | refine d_ty 0 hS ?_ | refine d_tn 0 hS ?_); (first | refine d_tx 1 hS ?_ | refine d_ty 1 hS ?_ | refine d_tn 1 hS ?_); (first | refine d_tx 2 hS ?_ | refine d_ty 2 hS ?_ | refine d_tn 2 hS ?_))
  (apply d_take (i := 3); exact rfl; kernel_rfl; kernel_rfl; kernel_rfl; (intro u hu; exact r_index1 rfl rfl rfl hlt rfl); exact hS)
  (apply d_take (i := 4); exact rfl; kernel_rfl; kernel_rfl; kernel_rfl; (intro u hu; exact r_load rfl (hac _ hu)); exact hS)
  ((first | refine d_tx 5 hS ?_ | refine d_ty 5 hS ?_ | refine d_tn 5 hS ?_); (first | refine d_tx 6 hS ?_ | refine d_ty 6 hS ?_ | refine d_tn 6 hS ?_))
  (apply d_take (i := 7); exact rfl; kernel_rfl; kernel_rfl; kernel_rfl; (intro u hu; exact r_index1 rfl rfl rfl hltb rfl); exact hS)
  (apply d_take (i := 8); exact rfl; kernel_rfl; kernel_rfl; kernel_rfl; (intro u hu; exact r_load rfl (hbc _ hu)); exact hS)
  refine d_one (i := 9) rfl (by kernel_rfl) ?_
  refine s_callV (first := []) (cap := []) (is_int xs[i] ys[i] z.drew) rfl rfl rfl ?_
  rintro _ z1 ⟨p, rfl, hp, hf3⟩
  refine ⟨_, rfl, ?_⟩
  have hS1 := hS.trans0 hf3
  refine wpList_nil (q_held hS1 ?_)
  ((first | refine d_tx 10 hS1 ?_ | refine d_ty 10 hS1 ?_ | refine d_tn 10 hS1 ?_))
  (refine d_done (by kernel_rfl) ?_)
  cases p with
  | false =>
    refine rx ?_
    (apply ret1; exact rfl; (conv => lhs; whnf))
    refine ⟨false, rfl, ?_, hfz.trans0 hS1⟩
    simp only [Bool.false_eq_true, false_iff]
    intro e; subst e
    have := hp.2 rfl
    cases this
  | true =>
    refine rx ?_
    refine q_roundK (i + 1) (by (repeat (first | exact Keep.mrg _ _ _ _ | (refine Keep.hi rfl ?_) | (refine Keep.one rfl ?_) | exact Keep.all rfl | (refine Keep.inn rfl ?_) | (refine Keep.set rfl ?_)))) ⟨rfl, rfl, by omega, take_snocG htk hlt hltb (hp.1 rfl), hfz.trans0 hS1⟩ (by omega)
set_option maxHeartbeats 4000000 in
theorem same_str (xs ys : List ByteArray) (sx sy : Value) (u : World) (hx : TS u [] xs sx) (hy : TS u [] ys sy) (hl : xs.length ≤ 1000000000000) :
    Calls Tryz.prog 79 #[sx, sy, .func (.func 80) #[] #[]] u fun e u' => ∃ p : Bool, e = .returned (.bool p) ∧ (p = true ↔ xs = ys) ∧ Fr [] u u' := by
  obtain ⟨aa, ca, rfl, _⟩ := hx.slice
  obtain ⟨ab, cb, rfl, _⟩ := hy.slice
  refine enter Tryz.func79 rfl Tryz.ntmps79 rfl ?_
  by_cases hlen : xs.length = ys.length
  case neg =>
    refine rx ?_
    (apply ret1; exact rfl; (conv => lhs; whnf))
    exact ⟨false, rfl, by simp; intro e; exact hlen (by rw [e]), Fr.refl _ _⟩
  refine rx ?_
  refine c_loopK 8 [7] (σ := Nat) (fun i g z => g 14 = .int .i64 xs.length ∧ g 15 = .int .i64 (i : Nat) ∧ i ≤ xs.length ∧ xs.take i = ys.take i ∧ Fr [] u z) (fun i => xs.length - i) 0 ⟨rfl, rfl, Nat.zero_le _, rfl, Fr.refl _ _⟩ ?_
  rintro i g z ⟨h14, h15, hi, htk, hfz⟩
  rw [eq_upd h14, eq_upd h15]
  by_cases hlt : i < xs.length
  case neg =>
    refine rx ?_
    (apply ret1; exact rfl; (conv => lhs; whnf))
    have h1 : xs.take i = xs := List.take_of_length_le (by omega)
    have h2 : ys.take i = ys := List.take_of_length_le (by omega)
    exact ⟨true, rfl, by simp; rw [← h1, ← h2, htk], hfz⟩
  have hltb : i < ys.length := by omega
  obtain ⟨ad, rfl, hca⟩ := Ls.at hx hlt
  obtain ⟨bd, rfl, hcb⟩ := Ls.at hy hltb
  have hac : ∀ z', Fr [] z z' → z'.cell? (ad.add i) = some (.string xs[i]) := fun z' hz => by
    obtain ⟨ad', e, h⟩ := Ls.at (hx.tr0 (hfz.trans0 hz)) hlt
    cases e; exact h
  have hbc : ∀ z', Fr [] z z' → z'.cell? (bd.add i) = some (.string ys[i]) := fun z' hz => by
    obtain ⟨ad', e, h⟩ := Ls.at (hy.tr0 (hfz.trans0 hz)) hltb
    cases e; exact h
  refine rx ?_
  (refine d_begin (fun y => Fr [] z y) (by kernel_rfl) rfl ?_)
  have hS : Fr [] z z.drew := Fr.drew _ _
  ((first | refine d_tx 0 hS ?_ | refine d_ty 0 hS ?_ | refine d_tn 0 hS ?_); (first | refine d_tx 1 hS ?_ | refine d_ty 1 hS ?_ | refine d_tn 1 hS ?_); (first | refine d_tx 2 hS ?_ | refine d_ty 2 hS ?_ | refine d_tn 2 hS ?_))
  (apply d_take (i := 3); exact rfl; kernel_rfl; kernel_rfl; kernel_rfl; (intro u hu; exact r_index1 rfl rfl rfl hlt rfl); exact hS)
  (apply d_take (i := 4); exact rfl; kernel_rfl; kernel_rfl; kernel_rfl; (intro u hu; exact r_load rfl (hac _ hu)); exact hS)
  ((first | refine d_tx 5 hS ?_ | refine d_ty 5 hS ?_ | refine d_tn 5 hS ?_); (first | refine d_tx 6 hS ?_ | refine d_ty 6 hS ?_ | refine d_tn 6 hS ?_))
  (apply d_take (i := 7); exact rfl; kernel_rfl; kernel_rfl; kernel_rfl; (intro u hu; exact r_index1 rfl rfl rfl hltb rfl); exact hS)
  (apply d_take (i := 8); exact rfl; kernel_rfl; kernel_rfl; kernel_rfl; (intro u hu; exact r_load rfl (hbc _ hu)); exact hS)
  refine d_one (i := 9) rfl (by kernel_rfl) ?_
  refine s_callV (first := []) (cap := []) (is_str xs[i] ys[i] z.drew) rfl rfl rfl ?_
  rintro _ z1 ⟨p, rfl, hp, hf3⟩
  refine ⟨_, rfl, ?_⟩
  have hS1 := hS.trans0 hf3
  refine wpList_nil (q_held hS1 ?_)
  ((first | refine d_tx 10 hS1 ?_ | refine d_ty 10 hS1 ?_ | refine d_tn 10 hS1 ?_))
  (refine d_done (by kernel_rfl) ?_)
  cases p with
  | false =>
    refine rx ?_
    (apply ret1; exact rfl; (conv => lhs; whnf))
    refine ⟨false, rfl, ?_, hfz.trans0 hS1⟩
    simp only [Bool.false_eq_true, false_iff]
    intro e; subst e
    have := hp.2 rfl
    cases this
  | true =>
    refine rx ?_
    refine q_roundK (i + 1) (by (repeat (first | exact Keep.mrg _ _ _ _ | (refine Keep.hi rfl ?_) | (refine Keep.one rfl ?_) | exact Keep.all rfl | (refine Keep.inn rfl ?_) | (refine Keep.set rfl ?_)))) ⟨rfl, rfl, by omega, take_snocG htk hlt hltb (hp.1 rfl), hfz.trans0 hS1⟩ (by omega)
theorem is_val (x y : V) (sx sy : Value) (u : World) (hx : VS u [] x.kids sx) (hy : VS u [] y.kids sy) : Calls Tryz.prog 75 #[.agg (vc x sx).toArray, .agg (vc y sy).toArray] u fun e u' => ∃ p : Bool, e = .returned (.bool p) ∧ (p = true ↔ x = y) ∧ Fr [] u u' := by
  refine enter Tryz.func75 rfl Tryz.ntmps75 rfl ?_
  refine rx ?_
  refine s_box rfl rfl (fun u1 hb1 hf1 hs1 => ?_)
  refine s_box rfl rfl (fun u2 hb2 hf2 hs2 => ?_)
  have hb1 : Blk u1 u.heap.size (vc x sx) 33 := hb1
  have hb2 : Blk u2 u1.heap.size (vc y sy) 33 := hb2
  have hb12 := hb1.tr0 hf2
  have hF2 := hf1.trans0 hf2
  refine rx ?_
  refine s_call (compareV x y sx sy u2 (hx.tr0 hF2) (hy.tr0 hF2)) rfl ?_
  rintro _ u3 ⟨rfl, hf3⟩
  refine ⟨_, rfl, ?_⟩
  refine rx ?_
  refine s_eql rfl rfl (fun h => ?_) (fun h => ?_)
  · refine rx ?_
    (apply ret1; exact rfl; (conv => lhs; whnf))
    exact ⟨true, rfl, by simp [cmpV_iff.1 h], hF2.trans0 hf3⟩
  · refine rx ?_
    (apply ret1; exact rfl; (conv => lhs; whnf))
    exact ⟨false, rfl, by simp; intro e; exact h (cmpV_iff.2 e), hF2.trans0 hf3⟩
set_option maxHeartbeats 4000000 in
theorem same_val (xs ys : List V) (sx sy : Value) (u : World) (hx : VS u [] xs sx) (hy : VS u [] ys sy) (hl : xs.length ≤ 1000000000000) :
    Calls Tryz.prog 81 #[sx, sy, .func (.func 75) #[] #[]] u fun e u' => ∃ p : Bool, e = .returned (.bool p) ∧ (p = true ↔ xs = ys) ∧ Fr [] u u' := by
  obtain ⟨aa, ca, rfl, _⟩ := hx.slice
  obtain ⟨ab, cb, rfl, _⟩ := hy.slice
  refine enter Tryz.func81 rfl Tryz.ntmps81 rfl ?_
  by_cases hlen : xs.length = ys.length
  case neg =>
    refine rx ?_
    (apply ret1; exact rfl; (conv => lhs; whnf))
    exact ⟨false, rfl, by simp; intro e; exact hlen (by rw [e]), Fr.refl _ _⟩
  refine rx ?_
  refine c_loopK 8 [7] (σ := Nat) (fun i g z => g 14 = .int .i64 xs.length ∧ g 15 = .int .i64 (i : Nat) ∧ i ≤ xs.length ∧ xs.take i = ys.take i ∧ Fr [] u z) (fun i => xs.length - i) 0 ⟨rfl, rfl, Nat.zero_le _, rfl, Fr.refl _ _⟩ ?_
  rintro i g z ⟨h14, h15, hi, htk, hfz⟩
  rw [eq_upd h14, eq_upd h15]
  by_cases hlt : i < xs.length
  case neg =>
    refine rx ?_
    (apply ret1; exact rfl; (conv => lhs; whnf))
    have h1 : xs.take i = xs := List.take_of_length_le (by omega)
    have h2 : ys.take i = ys := List.take_of_length_le (by omega)
    exact ⟨true, rfl, by simp; rw [← h1, ← h2, htk], hfz⟩
  have hltb : i < ys.length := by omega
  have hvx := (hx.tr0 hfz)
  have hvy := (hy.tr0 hfz)
  obtain ⟨ad, ccs, rfl, ⟨sx, rfl, hx'⟩, hcx⟩ := hvx.sl.at VR.len hlt
  obtain ⟨bd, dcs, rfl, ⟨sy, rfl, hy'⟩, hcy⟩ := hvy.sl.at VR.len hltb
  have hcl : (vc xs[i] sx).length = 4 := rfl
  have hdl : (vc ys[i] sy).length = 4 := rfl
  refine rx ?_
  (refine d_begin (fun y => Fr [] z y) (by kernel_rfl) rfl ?_)
  have hS : Fr [] z z.drew := Fr.drew _ _
  ((first | refine d_tx 0 hS ?_ | refine d_ty 0 hS ?_ | refine d_tn 0 hS ?_); (first | refine d_tx 1 hS ?_ | refine d_ty 1 hS ?_ | refine d_tn 1 hS ?_); (first | refine d_tx 2 hS ?_ | refine d_ty 2 hS ?_ | refine d_tn 2 hS ?_); (first | refine d_tx 3 hS ?_ | refine d_ty 3 hS ?_ | refine d_tn 3 hS ?_))
  (apply d_take (i := 4); exact rfl; kernel_rfl; kernel_rfl; kernel_rfl; (intro u hu; exact (r_loadAgg _ rfl hcl (hcx.tr0 hu))); exact hS)
  ((first | refine d_tx 5 hS ?_ | refine d_ty 5 hS ?_ | refine d_tn 5 hS ?_); (first | refine d_tx 6 hS ?_ | refine d_ty 6 hS ?_ | refine d_tn 6 hS ?_); (first | refine d_tx 7 hS ?_ | refine d_ty 7 hS ?_ | refine d_tn 7 hS ?_))
  (apply d_take (i := 8); exact rfl; kernel_rfl; kernel_rfl; kernel_rfl; (intro u hu; exact (r_loadAgg _ rfl hdl (hcy.tr0 hu))); exact hS)
  refine d_one (i := 9) rfl (by kernel_rfl) ?_
  refine s_callV (first := []) (cap := []) (is_val xs[i] ys[i] sx sy z.drew (hx'.tr0 hS) (hy'.tr0 hS)) rfl rfl rfl ?_
  rintro _ z1 ⟨p, rfl, hp, hf3⟩
  refine ⟨_, rfl, ?_⟩
  have hS1 := hS.trans0 hf3
  refine wpList_nil (q_held hS1 ?_)
  ((first | refine d_tx 10 hS1 ?_ | refine d_ty 10 hS1 ?_ | refine d_tn 10 hS1 ?_))
  (refine d_done (by kernel_rfl) ?_)
  cases p with
  | false =>
    refine rx ?_
    (apply ret1; exact rfl; (conv => lhs; whnf))
    refine ⟨false, rfl, ?_, hfz.trans0 hS1⟩
    simp only [Bool.false_eq_true, false_iff]
    intro e; subst e
    have := hp.2 rfl
    cases this
  | true =>
    refine rx ?_
    refine q_roundK (i + 1) (by (repeat (first | exact Keep.mrg _ _ _ _ | (refine Keep.hi rfl ?_) | (refine Keep.one rfl ?_) | exact Keep.all rfl | (refine Keep.inn rfl ?_) | (refine Keep.set rfl ?_)))) ⟨rfl, rfl, by omega, take_snocG htk hlt hltb (hp.1 rfl), hfz.trans0 hS1⟩ (by omega)
set_option maxHeartbeats 16000000 in
theorem is_node (x y : Nd) (cx cy : List Value) (u : World) (hx : NdR u [] x cx) (hy : NdR u [] y cy) (hlw : x.ws.length ≤ 1000000000000) (hll : x.labs.length ≤ 1000000000000) (hlk : x.kids.length ≤ 1000000000000) (hlv : x.vals.length ≤ 1000000000000) :
    Calls Tryz.prog 38 #[.agg cx.toArray, .agg cy.toArray] u fun e u' => ∃ p : Bool, e = .returned (.bool p) ∧ (p = true ↔ x = y) ∧ Fr [] u u' := by
  obtain ⟨sw, sl, sv, sk, sx, rfl, h1, h2, h3, h4, h5⟩ := hx
  obtain ⟨sw', sl', sv', sk', sx', rfl, k1, k2, k3, k4, k5⟩ := hy
  have hno : ∀ (z : World), Fr [] u z → ¬ x = y → ∃ p : Bool, Ending.returned (.bool false) = .returned (.bool p) ∧ (p = true ↔ x = y) ∧ Fr [] u z := fun z hz hne => ⟨false, rfl, by simp [hne], hz⟩
  have hxe : x = y ↔ x.kind = y.kind ∧ x.name = y.name ∧ x.lo = y.lo ∧ x.hi = y.hi ∧ x.ws = y.ws ∧ x.labs = y.labs ∧ x.vals = y.vals ∧ x.kids = y.kids ∧ x.val = y.val := by
    cases x; cases y; simp [Nd.mk.injEq]
  refine enter Tryz.func38 rfl Tryz.ntmps38 rfl ?_
  refine rx ?_
  refine s_box (l := nc x sw sl sv sk sx) rfl rfl (fun u1 hb1 hf1 hs1 => ?_)
  refine s_box (l := nc y sw' sl' sv' sk' sx') rfl rfl (fun u2 hb2 hf2 hs2 => ?_)
  have hF2 := hf1.trans0 hf2
  have hb12 := hb1.tr0 hf2
  clear hb1
  by_cases e1 : x.kind = y.kind
  case neg =>
    refine rx ?_
    (apply ret1; exact rfl; (conv => lhs; whnf))
    exact hno _ hF2 (fun e => e1 (hxe.1 e).1)
  by_cases e2 : x.name = y.name
  case neg =>
    refine rx ?_
    (apply ret1; exact rfl; (conv => lhs; whnf))
    exact hno _ hF2 (fun e => e2 (hxe.1 e).2.1)
  by_cases e3 : x.lo = y.lo
  case neg =>
    refine rx ?_
    (apply ret1; exact rfl; (conv => lhs; whnf))
    exact hno _ hF2 (fun e => e3 (hxe.1 e).2.2.1)
  by_cases e4 : x.hi = y.hi
  case neg =>
    refine rx ?_
    (apply ret1; exact rfl; (conv => lhs; whnf))
    exact hno _ hF2 (fun e => e4 (hxe.1 e).2.2.2.1)
  refine rx ?_
  refine s_call (same_int x.ws y.ws sw sw' u2 (h1.tr0 hF2) (k1.tr0 hF2) hlw) rfl ?_
  rintro _ u3 ⟨p3, rfl, hp3, hf3⟩
  refine ⟨_, rfl, ?_⟩
  have hF3 := hF2.trans0 hf3
  have hb3 := hb12.tr0 hf3
  have hc3 := hb2.tr0 hf3
  clear hb12 hb2
  cases p3 with
  | false =>
    refine rx ?_
    (apply ret1; exact rfl; (conv => lhs; whnf))
    exact hno _ hF3 (fun e => by have := hp3.2 (hxe.1 e).2.2.2.2.1; cases this)
  | true =>
  refine rx ?_
  refine s_call (same_str x.labs y.labs sl sl' u3 (h2.tr0 hF3) (k2.tr0 hF3) hll) rfl ?_
  rintro _ u4 ⟨p4, rfl, hp4, hf4⟩
  refine ⟨_, rfl, ?_⟩
  have hF4 := hF3.trans0 hf4
  have hb4 := hb3.tr0 hf4
  have hc4 := hc3.tr0 hf4
  clear hb3 hc3
  cases p4 with
  | false =>
    refine rx ?_
    (apply ret1; exact rfl; (conv => lhs; whnf))
    exact hno _ hF4 (fun e => by have := hp4.2 (hxe.1 e).2.2.2.2.2.1; cases this)
  | true =>
  refine rx ?_
  refine s_call (same_val x.vals y.vals sv sv' u4 (h3.tr0 hF4) (k3.tr0 hF4) hlv) rfl ?_
  rintro _ u5 ⟨p5, rfl, hp5, hf5⟩
  refine ⟨_, rfl, ?_⟩
  have hF5 := hF4.trans0 hf5
  have hb5 := hb4.tr0 hf5
  have hc5 := hc4.tr0 hf5
  clear hb4 hc4
  cases p5 with
  | false =>
    refine rx ?_
    (apply ret1; exact rfl; (conv => lhs; whnf))
    exact hno _ hF5 (fun e => by have := hp5.2 (hxe.1 e).2.2.2.2.2.2.1; cases this)
  | true =>
  refine rx ?_
  refine s_call (same_int x.kids y.kids sk sk' u5 (h4.tr0 hF5) (k4.tr0 hF5) hlk) rfl ?_
  rintro _ u6 ⟨p6, rfl, hp6, hf6⟩
  refine ⟨_, rfl, ?_⟩
  have hF6 := hF5.trans0 hf6
  have hb6 := hb5.tr0 hf6
  have hc6 := hc5.tr0 hf6
  clear hb5 hc5
  cases p6 with
  | false =>
    refine rx ?_
    (apply ret1; exact rfl; (conv => lhs; whnf))
    exact hno _ hF6 (fun e => by have := hp6.2 (hxe.1 e).2.2.2.2.2.2.2.1; cases this)
  | true =>
  refine rx ?_
  refine s_callV (first := []) (cap := []) (is_val x.val y.val sx sx' u6 (h5.tr0 hF6) (k5.tr0 hF6)) rfl rfl rfl ?_
  rintro _ u7 ⟨p7, rfl, hp7, hf7⟩
  refine ⟨_, rfl, ?_⟩
  refine rx ?_
  (apply ret1; exact rfl; (conv => lhs; whnf))
  refine ⟨p7, rfl, ?_, hF6.trans0 hf7⟩
  rw [hp7, hxe]
  simp [e1, e2, e3, e4, hp3.1 rfl, hp4.1 rfl, hp5.1 rfl, hp6.1 rfl]
set_option maxHeartbeats 4000000 in
theorem same_node (xs ys : List Nd) (sx sy : Value) (u : World) (hx : NS u [] xs sx) (hy : NS u [] ys sy) (hl : xs.length ≤ 1000000000000) (hb : ∀ x ∈ xs, x.ws.length ≤ 1000000000000 ∧ x.labs.length ≤ 1000000000000 ∧ x.kids.length ≤ 1000000000000 ∧ x.vals.length ≤ 1000000000000) :
    Calls Tryz.prog 37 #[sx, sy, .func (.func 38) #[] #[]] u fun e u' => ∃ p : Bool, e = .returned (.bool p) ∧ (p = true ↔ xs = ys) ∧ Fr [] u u' := by
  obtain ⟨aa, ca, rfl, _⟩ := hx.slice
  obtain ⟨ab, cb, rfl, _⟩ := hy.slice
  refine enter Tryz.func37 rfl Tryz.ntmps37 rfl ?_
  by_cases hlen : xs.length = ys.length
  case neg =>
    refine rx ?_
    (apply ret1; exact rfl; (conv => lhs; whnf))
    exact ⟨false, rfl, by simp; intro e; exact hlen (by rw [e]), Fr.refl _ _⟩
  refine rx ?_
  refine c_loopK 8 [7] (σ := Nat) (fun i g z => g 14 = .int .i64 xs.length ∧ g 15 = .int .i64 (i : Nat) ∧ i ≤ xs.length ∧ xs.take i = ys.take i ∧ Fr [] u z) (fun i => xs.length - i) 0 ⟨rfl, rfl, Nat.zero_le _, rfl, Fr.refl _ _⟩ ?_
  rintro i g z ⟨h14, h15, hi, htk, hfz⟩
  rw [eq_upd h14, eq_upd h15]
  by_cases hlt : i < xs.length
  case neg =>
    refine rx ?_
    (apply ret1; exact rfl; (conv => lhs; whnf))
    have h1 : xs.take i = xs := List.take_of_length_le (by omega)
    have h2 : ys.take i = ys := List.take_of_length_le (by omega)
    exact ⟨true, rfl, by simp; rw [← h1, ← h2, htk], hfz⟩
  have hltb : i < ys.length := by omega
  have hna := (hx.tr0 hfz)
  have hnb := (hy.tr0 hfz)
  obtain ⟨ad, ccs, rfl, hx', hcx⟩ := Sl.at hna ndLen hlt
  obtain ⟨bd, dcs, rfl, hy', hcy⟩ := Sl.at hnb ndLen hltb
  have hcl := ndLen _ _ hx'
  have hdl := ndLen _ _ hy'
  have hbi := hb _ (List.getElem_mem hlt)
  refine rx ?_
  (refine d_begin (fun y => Fr [] z y) (by kernel_rfl) rfl ?_)
  have hS : Fr [] z z.drew := Fr.drew _ _
  ((first | refine d_tx 0 hS ?_ | refine d_ty 0 hS ?_ | refine d_tn 0 hS ?_); (first | refine d_tx 1 hS ?_ | refine d_ty 1 hS ?_ | refine d_tn 1 hS ?_); (first | refine d_tx 2 hS ?_ | refine d_ty 2 hS ?_ | refine d_tn 2 hS ?_); (first | refine d_tx 3 hS ?_ | refine d_ty 3 hS ?_ | refine d_tn 3 hS ?_))
  (apply d_take (i := 4); exact rfl; kernel_rfl; kernel_rfl; kernel_rfl; (intro u hu; exact (r_loadAgg _ rfl hcl (hcx.tr0 hu))); exact hS)
  ((first | refine d_tx 5 hS ?_ | refine d_ty 5 hS ?_ | refine d_tn 5 hS ?_); (first | refine d_tx 6 hS ?_ | refine d_ty 6 hS ?_ | refine d_tn 6 hS ?_); (first | refine d_tx 7 hS ?_ | refine d_ty 7 hS ?_ | refine d_tn 7 hS ?_))
  (apply d_take (i := 8); exact rfl; kernel_rfl; kernel_rfl; kernel_rfl; (intro u hu; exact (r_loadAgg _ rfl hdl (hcy.tr0 hu))); exact hS)
  refine d_one (i := 9) rfl (by kernel_rfl) ?_
  refine s_callV (first := []) (cap := []) (is_node xs[i] ys[i] ccs dcs z.drew (ndStab.old hx' hS (by simp)) (ndStab.old hy' hS (by simp)) hbi.1 hbi.2.1 hbi.2.2.1 hbi.2.2.2) rfl rfl rfl ?_
  rintro _ z1 ⟨p, rfl, hp, hf3⟩
  refine ⟨_, rfl, ?_⟩
  have hS1 := hS.trans0 hf3
  refine wpList_nil (q_held hS1 ?_)
  ((first | refine d_tx 10 hS1 ?_ | refine d_ty 10 hS1 ?_ | refine d_tn 10 hS1 ?_))
  (refine d_done (by kernel_rfl) ?_)
  cases p with
  | false =>
    refine rx ?_
    (apply ret1; exact rfl; (conv => lhs; whnf))
    refine ⟨false, rfl, ?_, hfz.trans0 hS1⟩
    simp only [Bool.false_eq_true, false_iff]
    intro e; subst e
    have := hp.2 rfl
    cases this
  | true =>
    refine rx ?_
    refine q_roundK (i + 1) (by (repeat (first | exact Keep.mrg _ _ _ _ | (refine Keep.hi rfl ?_) | (refine Keep.one rfl ?_) | exact Keep.all rfl | (refine Keep.inn rfl ?_) | (refine Keep.set rfl ?_)))) ⟨rfl, rfl, by omega, take_snocG htk hlt hltb (hp.1 rfl), hfz.trans0 hS1⟩ (by omega)
theorem treeEqual (a b : List Nd) (sa sb : Value) (u : World) (ha : NS u [] a sa) (hb : NS u [] b sb) (hl : a.length ≤ 1000000000000) (hbd : ∀ x ∈ a, x.ws.length ≤ 1000000000000 ∧ x.labs.length ≤ 1000000000000 ∧ x.kids.length ≤ 1000000000000 ∧ x.vals.length ≤ 1000000000000) :
    Calls Tryz.prog 10 #[.agg #[sa], .agg #[sb]] u fun e u' => ∃ p : Bool, e = .returned (.bool p) ∧ (p = true ↔ a = b) ∧ Fr [] u u' := by
  obtain ⟨aa, ca, rfl, _⟩ := ha.slice
  obtain ⟨ab, cb, rfl, _⟩ := hb.slice
  refine enter Tryz.func10 rfl Tryz.ntmps10 rfl ?_
  refine rx ?_
  refine s_box (l := [.slice aa a.length ca]) rfl rfl (fun u1 hb1 hf1 hs1 => ?_)
  refine s_box (l := [.slice ab b.length cb]) rfl rfl (fun u2 hb2 hf2 hs2 => ?_)
  have hF2 := hf1.trans0 hf2
  have hb12 := hb1.tr0 hf2
  refine rx ?_
  refine s_call (same_node a b _ _ u2 (ha.tr0 hF2) (hb.tr0 hF2) hl hbd) rfl ?_
  rintro _ u3 ⟨p, rfl, hp, hf3⟩
  refine ⟨_, rfl, ?_⟩
  refine rx ?_
  (apply ret1; exact rfl; (conv => lhs; whnf))
  exact ⟨p, rfl, hp, hF2.trans0 hf3⟩
end Go.Proofs.YtpochcchekoonaaGreat
namespace Go.Proofs.YtpochcchekoonaaGreat
open Go.Rf Go.RowKit
set_option linter.unusedVariables false
set_option linter.unusedSimpArgs false
attribute [local irreducible] Code.wp wpList Exit.then Exit.inBlock bodyPost A Calls execOp Addr.add
theorem own_ls {α : Type} {c : α → Value} {w : World} {e : Nat} {S : List Nat} {l : List α} {v : Value} (h : Own w e 1 v l.length (l.map c)) (hS : ∀ b ∈ blks v, b ∉ S) : Ls c w S l v := by
  refine ⟨h.src, fun ad n k he hp hk => ?_⟩
  rcases h.2 with ⟨hv, h0⟩ | ⟨g, cap, cur, hv, _⟩
  · rw [hv] at he; cases he
  · subst hv
    simp only [Value.slice.injEq, Option.some.injEq] at he
    refine hS ad.block ?_ hk
    rw [← he.1]; simp [blks, Value.ownBlock]
theorem map_one {α : Type} {c : α → Value} (hc : ∀ a, (c a).oneCell' = true) (l : List α) : ∀ u ∈ l.map c, u.oneCell' = true := fun u hu => by
  obtain ⟨x, _, rfl⟩ := List.mem_map.1 hu; exact hc x
set_option maxHeartbeats 4000000 in
theorem flat_int (l : List Int) (s : Value) (u : World) (h : IS u [] l s) (hl : l.length ≤ 1000000) :
    Calls Tryz.prog 70 #[s] u fun e u' => ∃ s', e = .returned s' ∧ Own u' 3 1 s' l.length (l.map (.int .i64)) ∧ (∀ b ∈ blks s', u.heap.size ≤ b) ∧ Fr [] u u' := by
  obtain ⟨ao, c, rfl, _⟩ := h.slice
  refine enter Tryz.func70 rfl Tryz.ntmps70 rfl ?_
  by_cases h0 : l.length = 0
  · refine rx ?_
    (apply ret1; exact rfl; (conv => lhs; whnf))
    have : l = [] := List.eq_nil_of_length_eq_zero h0
    subst this
    exact ⟨_, rfl, Own.nil _ _ _, by simp [blks, Value.ownBlock], Fr.refl _ _⟩
  refine rx ?_
  refine s_build0 (fun u1 ho1 hf1 hs1 => ?_)
  refine rx ?_
  refine s_append ho1 rfl (h.tr0 hf1).1 rfl (by simp) (map_one (fun _ => rfl) _) (by unfold maxLen; omega) (by omega) (fun v u2 ho2 hf2 hk2 _ => ?_)
  rw [Nat.zero_add, List.nil_append] at ho2
  refine rx ?_
  (apply ret1; exact rfl; (conv => lhs; whnf))
  refine ⟨_, rfl, ho2, fun b hb => ?_, hf1.trans hf2 (by simp [blks, Value.ownBlock])⟩
  rcases hk2 b hb with h | h
  · simp [blks, Value.ownBlock] at h; omega
  · have := hf1.size; omega
set_option maxHeartbeats 4000000 in
theorem flat_str (l : List ByteArray) (s : Value) (u : World) (h : TS u [] l s) (hl : l.length ≤ 1000000) :
    Calls Tryz.prog 71 #[s] u fun e u' => ∃ s', e = .returned s' ∧ Own u' 9 1 s' l.length (l.map .string) ∧ (∀ b ∈ blks s', u.heap.size ≤ b) ∧ Fr [] u u' := by
  obtain ⟨ao, c, rfl, _⟩ := h.slice
  refine enter Tryz.func71 rfl Tryz.ntmps71 rfl ?_
  by_cases h0 : l.length = 0
  · refine rx ?_
    (apply ret1; exact rfl; (conv => lhs; whnf))
    have : l = [] := List.eq_nil_of_length_eq_zero h0
    subst this
    exact ⟨_, rfl, Own.nil _ _ _, by simp [blks, Value.ownBlock], Fr.refl _ _⟩
  refine rx ?_
  refine s_build0 (fun u1 ho1 hf1 hs1 => ?_)
  refine rx ?_
  refine s_append ho1 rfl (h.tr0 hf1).1 rfl (by simp) (map_one (fun _ => rfl) _) (by unfold maxLen; omega) (by omega) (fun v u2 ho2 hf2 hk2 _ => ?_)
  rw [Nat.zero_add, List.nil_append] at ho2
  refine rx ?_
  (apply ret1; exact rfl; (conv => lhs; whnf))
  refine ⟨_, rfl, ho2, fun b hb => ?_, hf1.trans hf2 (by simp [blks, Value.ownBlock])⟩
  rcases hk2 b hb with h | h
  · simp [blks, Value.ownBlock] at h; omega
  · have := hf1.size; omega
set_option maxHeartbeats 8000000 in
theorem cloneNode (x : Nd) (hok : NdOk x) (cs : List Value) (u : World) (hx : NdR u [] x cs) :
    Calls Tryz.prog 33 #[.agg cs.toArray] u fun e u' => ∃ sw sl sv sk sx, e = .returned (.agg (nc x sw sl sv sk sx).toArray) ∧ Own u' 3 1 sk x.kids.length (x.kids.map (.int .i64)) ∧ (∀ b ∈ blks sk, u.heap.size ≤ b) ∧ Fr [] u u' ∧
      ∀ S, (∀ k ∈ S, k < u.heap.size) → IS u' (blks sk ++ S) x.ws sw ∧ TS u' (blks sk ++ S) x.labs sl ∧ VS u' (blks sk ++ S) x.vals sv ∧ VS u' (blks sk ++ S) x.val.kids sx := by
  obtain ⟨sw, sl, sv, sk, sx, rfl, h1, h2, h3, h4, h5⟩ := hx
  have hlw := hok.lw
  have hll := hok.ll
  have hlk := hok.lk
  refine enter Tryz.func33 rfl Tryz.ntmps33 rfl ?_
  refine rx ?_
  refine s_box (l := nc x sw sl sv sk sx) rfl rfl (fun u1 hb1 hf1 hs1 => ?_)
  refine s_alloc rfl (fun u2 hb2 hf2 hs2 => ?_)
  have hF2 := hf1.trans0 hf2
  obtain ⟨p, hp⟩ : ∃ p, p = u.heap.size := ⟨_, rfl⟩
  obtain ⟨q, hq⟩ : ∃ q, q = u1.heap.size := ⟨_, rfl⟩
  have hbp : Blk u2 p (nc x sw sl sv sk sx) 36 := by rw [hp]; exact hb1.tr0 hf2
  rw [← hp, ← hq]
  rw [← hq] at hb2
  clear hb1
  refine rx ?_
  refine s_call (flat_int x.ws sw u2 (h1.tr0 hF2) hlw) rfl ?_
  rintro _ u3 ⟨sw', rfl, how, hkw, hf3⟩
  refine ⟨_, rfl, ?_⟩
  have hb3 := hbp.tr0 hf3
  refine rx ?_
  ((with_reducible apply s_storeB); exact rfl; (conv => lhs; whnf); exact how.one; exact hb3; exact rfl)
  intro u4 hb4 hf4 hs4
  replace hb4 : Blk u4 p (nc x sw' sl sv sk sx) 36 := hb4
  have hF4 : Fr [] u u4 := (hF2.trans0 hf3).trans hf4 (by simp; omega)
  refine rx ?_
  refine s_call (flat_str x.labs sl u4 (h2.tr0 hF4) hll) rfl ?_
  rintro _ u5 ⟨sl', rfl, hol, hkl, hf5⟩
  refine ⟨_, rfl, ?_⟩
  have hb5 := hb4.tr0 hf5
  refine rx ?_
  ((with_reducible apply s_storeB); exact rfl; (conv => lhs; whnf); exact hol.one; exact hb5; exact rfl)
  intro u6 hb6 hf6 hs6
  replace hb6 : Blk u6 p (nc x sw' sl' sv sk sx) 36 := hb6
  have hF46 : Fr [p] u4 u6 := (hf5.mono (by simp)).trans hf6 (by simp)
  have hF6 : Fr [] u u6 := hF4.trans hF46 (by simp; omega)
  refine rx ?_
  refine s_call (cloneValues x.vals sv u6 (h3.tr0 hF6)) rfl ?_
  rintro _ u7 ⟨sv', rfl, hvs, hf7⟩
  refine ⟨_, rfl, ?_⟩
  have hb7 := hb6.tr0 hf7
  have hvo := (hvs [] (by simp)).one
  refine rx ?_
  ((with_reducible apply s_storeB); exact rfl; (conv => lhs; whnf); exact hvo; exact hb7; exact rfl)
  intro u8 hb8 hf8 hs8
  replace hb8 : Blk u8 p (nc x sw' sl' sv' sk sx) 36 := hb8
  have hF68 : Fr [p] u6 u8 := (hf7.mono (by simp)).trans hf8 (by simp)
  have hF8 : Fr [] u u8 := hF6.trans hF68 (by simp; omega)
  refine rx ?_
  refine s_call (flat_int x.kids sk u8 (h4.tr0 hF8) hlk) rfl ?_
  rintro _ u9 ⟨sk', rfl, hok', hkk, hf9⟩
  refine ⟨_, rfl, ?_⟩
  have hb9 := hb8.tr0 hf9
  refine rx ?_
  ((with_reducible apply s_storeB); exact rfl; (conv => lhs; whnf); exact hok'.one; exact hb9; exact rfl)
  intro u10 hb10 hf10 hs10
  replace hb10 : Blk u10 p (nc x sw' sl' sv' sk' sx) 36 := hb10
  have hF810 : Fr [p] u8 u10 := (hf9.mono (by simp)).trans hf10 (by simp)
  have hF10 : Fr [] u u10 := hF8.trans hF810 (by simp; omega)
  refine rx ?_
  refine s_call (cloneValue x.val sx u10 (h5.tr0 hF10)) rfl ?_
  rintro _ u11 ⟨sx', rfl, hxs, hf11⟩
  refine ⟨_, rfl, ?_⟩
  have hb11 := hb10.tr0 hf11
  have hxo := (hxs [] (by simp)).one
  refine rx ?_
  refine s_storeSubB (o := 8) (cs := vc x.val sx') rfl rfl hb11 (VR.mem1 x.val _ ⟨sx', rfl, hxs [] (by simp)⟩) (by simp [nc, vc]) rfl (fun u12 hb12 hf12 hs12 => ?_)
  replace hb12 : Blk u12 p (nc x sw' sl' sv' sk' sx') 36 := hb12
  have hF1012 : Fr [p] u10 u12 := (hf11.mono (by simp)).trans hf12 (by simp)
  have hF212 : Fr [p] u2 u12 := ((((hf3.mono (by simp)).trans hf4 (by simp)).trans hF46 (by simp)).trans hF68 (by simp)).trans (hF810.trans hF1012 (by simp)) (by simp)
  have hbq : Blk u12 q (nc ⟨0, .empty, 0, 0, [], [], [], [], ⟨0, 0, .empty, []⟩⟩ (.slice none 0 0) (.slice none 0 0) (.slice none 0 0) (.slice none 0 0) (.slice none 0 0)) 36 := hb2.tr hF212 (by simp; omega)
  have h1c : ∀ v ∈ nc x sw' sl' sv' sk' sx', v.oneCell' = true := by
    intro v hv
    simp only [nc, List.mem_cons, List.not_mem_nil, or_false] at hv
    rcases hv with rfl | rfl | rfl | rfl | rfl | rfl | rfl | rfl | rfl | rfl | rfl | rfl
    all_goals first | rfl | exact how.one | exact hol.one | exact hvo | exact hok'.one | exact hxo
  refine rx ?_
  refine s_storeAggB (cs := nc x sw' sl' sv' sk' sx') rfl rfl hbq h1c rfl rfl (fun u13 hb13 hf13 hs13 => ?_)
  refine rx ?_
  have z2 := hF2.size
  have z3 := hf3.size
  have z5 := hf5.size
  have z7 := hf7.size
  have z9 := hf9.size
  have z11 := hf11.size
  have hpk : ∀ b ∈ blks sk', b ≠ p ∧ b ≠ q := fun b hb => by have := hkk b hb; omega
  refine retc rfl rfl (AggT.load _ (nc x sw' sl' sv' sk' sx') rfl (fun j v hv => by rw [add_lit]; exact hb13.cell (by simpa using hv))) ⟨_, _, _, _, _, rfl, ?_, fun b hb => by have := hkk b hb; omega, ?_, fun S hS => ?_⟩
  · exact ((hok'.tr hf10 (fun b hb hm => (hpk b hb).1 (by simpa using hm))).tr hF1012 (fun b hb hm => (hpk b hb).1 (by simpa using hm))).tr hf13 (fun b hb hm => (hpk b hb).2 (by simpa using hm))
  · exact (hF2.trans hF212 (by simp; omega)).trans hf13 (by simp; omega)
  · have hko : ∀ b ∈ blks sk', b ∉ S := fun b hb hm => by have := hkk b hb; have := hS b hm; omega
    have dis : ∀ (T : List Nat), (∀ b ∈ T, u.heap.size + 2 ≤ b ∧ b < u8.heap.size) → ∀ b ∈ T, b ∉ p :: q :: (blks sk' ++ S) := fun T hT b hb hm => by
      have h1 := hT b hb
      simp only [List.mem_cons, List.mem_append] at hm
      rcases hm with h | h | h | h
      · omega
      · omega
      · have := hkk b h; omega
      · have := hS b h; omega
    have f4 : Fr [p, q] u4 u13 := (((hF46.trans hF68 (by simp)).trans (hF810.trans hF1012 (by simp)) (by simp)).mono (T := [p, q]) (by simp)).trans hf13 (by simp)
    refine ⟨?_, ?_, ?_, ?_⟩
    · have hl4 := how.lt
      have := own_ls (S := p :: q :: (blks sk' ++ S)) how (dis _ (fun b hb => by have := hkw b hb; have := hl4 b hb; have := hF46.size; have := hF68.size; omega))
      exact ((this.tr (hf4.mono (by simp))).tr (f4.mono (fun b hb => .inl (by simp only [List.mem_cons, List.not_mem_nil, or_false] at hb; rcases hb with rfl | rfl <;> simp)))).mono (fun b hb => .inl (List.mem_cons_of_mem _ (List.mem_cons_of_mem _ hb)))
    · have hl4 := hol.lt
      have := own_ls (S := p :: q :: (blks sk' ++ S)) hol (dis _ (fun b hb => by have := hkl b hb; have := hl4 b hb; have := hF68.size; omega))
      have f6 : Fr [p, q] u6 u13 := ((hF68.trans (hF810.trans hF1012 (by simp)) (by simp)).mono (T := [p, q]) (by simp)).trans hf13 (by simp)
      exact ((this.tr (hf6.mono (by simp))).tr (f6.mono (fun b hb => .inl (by simp only [List.mem_cons, List.not_mem_nil, or_false] at hb; rcases hb with rfl | rfl <;> simp)))).mono (fun b hb => .inl (List.mem_cons_of_mem _ (List.mem_cons_of_mem _ hb)))
    · have h := hvs (p :: q :: S) (fun b hb => by
        simp only [List.mem_cons] at hb
        rcases hb with rfl | rfl | hb
        · omega
        · omega
        · have := hS b hb; omega)
      have h8 : VS u8 (p :: q :: (blks sk' ++ S)) x.vals sv' := (h.tr (hf8.mono (by simp))).mono (fun b hb => by
        simp only [List.mem_cons, List.mem_append] at hb ⊢
        rcases hb with hb | hb | hb | hb
        · exact .inl (.inl hb)
        · exact .inl (.inr (.inl hb))
        · exact .inr (hkk b hb)
        · exact .inl (.inr (.inr hb)))
      have f8 : Fr [p, q] u8 u13 := ((hF810.trans hF1012 (by simp)).mono (T := [p, q]) (by simp)).trans hf13 (by simp)
      exact (h8.tr (f8.mono (fun b hb => .inl (by simp only [List.mem_cons, List.not_mem_nil, or_false] at hb; rcases hb with rfl | rfl <;> simp)))).mono (fun b hb => .inl (List.mem_cons_of_mem _ (List.mem_cons_of_mem _ hb)))
    · have hl9 := hok'.lt
      have h := hxs (p :: q :: (blks sk' ++ S)) (fun b hb => by
        simp only [List.mem_cons, List.mem_append] at hb
        rcases hb with rfl | rfl | hb | hb
        · omega
        · omega
        · have := hl9 b hb; omega
        · have := hS b hb; omega)
      have f11 : Fr [p, q] u11 u13 := (hf12.mono (T := [p, q]) (by simp)).trans hf13 (by simp)
      exact (h.tr (f11.mono (fun b hb => .inl (by simp only [List.mem_cons, List.not_mem_nil, or_false] at hb; rcases hb with rfl | rfl <;> simp)))).mono (fun b hb => .inl (List.mem_cons_of_mem _ (List.mem_cons_of_mem _ hb)))
set_option maxHeartbeats 4000000 in
theorem cloneNodes (l : List Nd) (hok : ∀ x ∈ l, NdOk x) (hbd : l.length ≤ 1000000) (sl : Value) (w : World) (hl : NS w [] l sl) :
    Calls Tryz.prog 69 #[sl, .func (.func 33) #[] #[]] w fun e w' => ∃ sl', e = .returned sl' ∧ (∀ S, (∀ k ∈ S, k < w.heap.size) → NS w' S l sl') ∧ Fr [] w w' := by
  obtain ⟨ao, c, rfl, hc⟩ := hl.slice
  refine enter Tryz.func69 rfl Tryz.ntmps69 rfl ?_
  by_cases h0 : l.length = 0
  · refine rx ?_
    (apply ret1; exact rfl; (conv => lhs; whnf))
    have : l = [] := List.eq_nil_of_length_eq_zero h0
    subst this
    exact ⟨_, rfl, fun S _ => Sl.nil, Fr.refl _ _⟩
  refine rx ?_
  refine s_makeS (k := l.length) rfl rfl (by omega) (by unfold maxLen; omega) (fun w1 ho1 hf1 hs1 => ?_)
  refine rx ?_
  obtain ⟨N, hN⟩ : ∃ N, w.heap.size = N := ⟨_, rfl⟩
  rw [hN] at ho1 hs1 ⊢
  refine c_loopK 7 [6] (σ := Nat × List Value) (fun st g u => g 13 = .slice ao l.length c ∧ g 14 = .int .i64 l.length ∧ g 15 = .int .i64 st.1 ∧ st.1 ≤ l.length ∧ st.2.length = st.1 * 12 ∧
      Own u 36 12 (.slice (some ⟨N, 0, none⟩) l.length l.length) l.length (st.2 ++ zeros (nc ⟨0, .empty, 0, 0, [], [], [], [], ⟨0, 0, .empty, []⟩⟩ (.slice none 0 0) (.slice none 0 0) (.slice none 0 0) (.slice none 0 0) (.slice none 0 0)) (l.length - st.1)) ∧ (∀ S, (∀ k ∈ S, k < N) → Rws (NdR u (N :: S)) (l.take st.1) st.2) ∧ Fr [N] w1 u)
    (fun st => l.length - st.1) (0, []) ⟨rfl, rfl, rfl, Nat.zero_le _, rfl, ho1, fun S _ => by simpa using Rws.nil, Fr.refl _ _⟩ ?_
  rintro ⟨i, ys⟩ g u ⟨h13, h14, h15, hi, hys, hou, hru, hfu⟩
  simp only at h15 hi hys hou hru
  rw [eq_upd h13, eq_upd h14, eq_upd h15]
  have hF : Fr [] w u := hf1.trans hfu (by simp; omega)
  by_cases hlt : i < l.length
  case neg =>
    refine rx ?_
    (apply ret1; exact rfl; (conv => lhs; whnf))
    have ei : i = l.length := by omega
    subst ei
    rw [Nat.sub_self, show zeros (nc ⟨0, .empty, 0, 0, [], [], [], [], ⟨0, 0, .empty, []⟩⟩ (.slice none 0 0) (.slice none 0 0) (.slice none 0 0) (.slice none 0 0) (.slice none 0 0)) 0 = [] from rfl, List.append_nil] at hou
    refine ⟨_, rfl, fun S hS => ⟨ys, hou.src, fun ad n c e hp hk => ?_, ?_⟩, hF⟩
    · simp only [Value.slice.injEq, Option.some.injEq] at e
      have hb := congrArg Addr.block e.1
      have := hS _ hk
      simp only at hb
      omega
    · have := hru S hS
      rw [List.take_length] at this
      exact this.imp (fun x cs _ h => ndStab.mono h (fun k hk => .inl (by simp [hk])))
  obtain ⟨ad, cs, rfl, ⟨tw, tl, tv, tk, tx, rfl, q1, q2, q3, q4, q5⟩, hcx⟩ := Sl.at (hl.tr0 hF) ndLen hlt
  refine rx ?_
  refine s_callV (first := []) (cap := []) (cloneNode l[i] (hok _ (List.getElem_mem hlt)) (nc l[i] tw tl tv tk tx) u ⟨_, _, _, _, _, rfl, q1, q2, q3, q4, q5⟩) rfl rfl rfl ?_
  rintro _ u1 ⟨sw, sl, sv, sk, sx, rfl, hk', hkk, hf1', hx'⟩
  refine ⟨_, rfl, ?_⟩
  have hou1 := hou.tr0 hf1'
  have hszu := hfu.size
  have hxn : ∀ S, (∀ k ∈ S, k < u.heap.size) → NdR u1 S l[i] (nc l[i] sw sl sv sk sx) := fun S hS => by
    obtain ⟨g1, g2, g3, g4⟩ := hx' S hS
    exact ⟨_, _, _, _, _, rfl, g1.mono (fun b hb => .inl (by simp [hb])), g2.mono (fun b hb => .inl (by simp [hb])), g3.mono (fun b hb => .inl (by simp [hb])), own_ls hk' (fun b hb hm => by have := hkk b hb; have := hS b hm; omega), g4.mono (fun b hb => .inl (by simp [hb]))⟩
  have hx0 := hxn [] (by simp)
  refine rx ?_
  refine s_storeRowA (q := i * 12) (m := 12) (cs := nc l[i] sw sl sv sk sx) hou1 rfl rfl rfl rfl rfl (ndStab.one hx0) (by omega) (fun u2 hou2 hf2 hs2 => ?_)
  rw [fill_next hys rfl hlt] at hou2
  have hblk : blks (.slice (some ⟨N, 0, none⟩) l.length l.length) = [N] := rfl
  rw [hblk] at hf2
  refine rx ?_
  refine q_roundK (i + 1, ys ++ nc l[i] sw sl sv sk sx) (by (repeat (first | exact Keep.mrg _ _ _ _ | (refine Keep.hi rfl ?_) | (refine Keep.one rfl ?_) | exact Keep.all rfl | (refine Keep.inn rfl ?_) | (refine Keep.set rfl ?_)))) ⟨rfl, rfl, rfl, by simp only; omega, by simp [hys, nc]; omega, hou2, fun S hS => ?_, (hfu.trans0 hf1').trans hf2 (by simp)⟩ (by simp only; omega)
  simp only
  rw [List.take_succ_eq_append_getElem hlt]
  refine Rws.app ((hru S hS).imp (fun x cs _ h => ndStab.tr (ndStab.old h hf1' (by simp)) (hf2.mono (by simp)))) (Rws.one ?_)
  refine ndStab.tr (hxn (N :: S) ?_) (hf2.mono (by simp))
  intro k hk
  rcases List.mem_cons.1 hk with rfl | hk
  · omega
  · have := hS k hk; omega
set_option maxHeartbeats 4000000 in
theorem cloneTree (l : List Nd) (hok : ∀ x ∈ l, NdOk x) (hbd : l.length ≤ 1000000) (sl : Value) (u : World) (hl : NS u [] l sl) :
    Calls Tryz.prog 32 #[.agg #[sl]] u fun e u' => ∃ sl', e = .returned (.agg #[sl']) ∧ (∀ S, (∀ k ∈ S, k < u.heap.size) → NS u' S l sl') ∧ Fr [] u u' := by
  obtain ⟨ao, c, rfl, _⟩ := hl.slice
  refine enter Tryz.func32 rfl Tryz.ntmps32 rfl ?_
  refine rx ?_
  refine s_box (l := [.slice ao l.length c]) rfl rfl (fun u1 hb1 hf1 hs1 => ?_)
  refine s_alloc rfl (fun u2 hb2 hf2 hs2 => ?_)
  have hb12 := hb1.tr0 hf2
  have hF2 := hf1.trans0 hf2
  obtain ⟨q, hq⟩ : ∃ q, q = u1.heap.size := ⟨_, rfl⟩
  rw [← hq] at hb2 ⊢
  refine rx ?_
  refine s_call (cloneNodes l hok hbd _ u2 (hl.tr0 hF2)) rfl ?_
  rintro _ u3 ⟨sl', rfl, hsl, hf3⟩
  refine ⟨_, rfl, ?_⟩
  have hs3 := hsl [q] (by simp; omega)
  obtain ⟨ao', c', rfl, _⟩ := hs3.slice
  have hb3 := hb2.tr0 hf3
  refine rx ?_
  refine s_build [.slice ao' l.length c'] rfl ?_
  refine s_storeAggB (cs := [.slice ao' l.length c']) rfl rfl hb3 (by simp [Value.oneCell']) rfl rfl (fun u4 hb4 hf4 hs4 => ?_)
  refine rx ?_
  refine retc rfl rfl (AggT.load _ [.slice ao' l.length c'] rfl (fun j v hv => by rw [add_lit]; exact hb4.cell (by simpa using hv))) ⟨_, rfl, fun S hS => ((hsl (q :: S) (fun k hk => by
    rcases List.mem_cons.1 hk with rfl | hk
    · omega
    · have := hS k hk; omega)).tr (hf4.mono (by simp))).mono (fun k hk => .inl (by simp [hk])), (hF2.trans0 hf3).trans hf4 (by simp; omega)⟩
set_option maxHeartbeats 4000000 in
theorem leafT (v : V) (s : Value) (u : World) (hv : VS u [] v.kids s) :
    Calls Tryz.prog 11 #[.agg (vc v s).toArray] u fun e u' => ∃ sn, e = .returned (.agg #[sn]) ∧ NS u' [] [⟨0, ⟨#[]⟩, 0, 0, [], [], [], [], v⟩] sn ∧ Fr [] u u' := by
  refine enter Tryz.func11 rfl Tryz.ntmps11 rfl ?_
  refine rx ?_
  refine s_box (l := vc v s) rfl rfl (fun u1 hb1 hf1 hs1 => ?_)
  refine s_alloc rfl (fun u2 hb2 hf2 hs2 => ?_)
  have hb12 : Blk u2 u.heap.size (vc v s) 33 := hb1.tr0 hf2
  have hF2 := hf1.trans0 hf2
  obtain ⟨q, hq⟩ : ∃ q, q = u1.heap.size := ⟨_, rfl⟩
  rw [← hq] at hb2 ⊢
  refine rx ?_
  refine s_call (cloneValue v s u2 (hv.tr0 hF2)) rfl ?_
  rintro _ u3 ⟨s', rfl, hs', hf3⟩
  refine ⟨_, rfl, ?_⟩
  have hv3 := hs' [q] (by simp; omega)
  have hb3 := hb2.tr0 hf3
  obtain ⟨av, cv, rfl, _⟩ := hv3.slice
  refine rx ?_
  refine s_build (nc ⟨0, ⟨#[]⟩, 0, 0, [], [], [], [], v⟩ (.slice none 0 0) (.slice none 0 0) (.slice none 0 0) (.slice none 0 0) (.slice av v.kids.length cv)) rfl ?_
  refine s_buildS (nc ⟨0, ⟨#[]⟩, 0, 0, [], [], [], [], v⟩ (.slice none 0 0) (.slice none 0 0) (.slice none 0 0) (.slice none 0 0) (.slice av v.kids.length cv)) rfl rfl rfl rfl (fun u4 ho4 hf4 hs4 => ?_)
  refine s_build [.slice (some ⟨u3.heap.size, 0, none⟩) 1 1] rfl ?_
  refine s_storeAggB (cs := [.slice (some ⟨u3.heap.size, 0, none⟩) 1 1]) rfl rfl (hb3.tr0 hf4) (by simp [Value.oneCell']) rfl rfl (fun u5 hb5 hf5 hs5 => ?_)
  refine rx ?_
  have ho5 := ho4.tr hf5 (by simp [blks, Value.ownBlock]; have := hf3.size; omega)
  have hv5 : VS u5 [] v.kids (.slice av v.kids.length cv) := ((hv3.tr0 hf4).tr hf5).mono (by simp)
  refine retc rfl rfl (AggT.load _ [.slice (some ⟨u3.heap.size, 0, none⟩) 1 1] rfl (fun j x hx => by rw [add_lit]; exact hb5.cell (by simpa using hx))) ⟨_, rfl, ?_, ((hF2.trans0 hf3).trans0 hf4).trans hf5 (by simp; omega)⟩
  exact ⟨_, ho5.src, fun _ _ _ _ _ => by simp, Rws.one ⟨_, _, _, _, _, rfl, Ls.nil, Ls.nil, VS.nil _ _, Ls.nil, hv5⟩⟩
set_option maxHeartbeats 4000000 in
theorem hasP (l : List Int) (k : Int) (s : Value) (u : World) (h : IS u [] l s) (hl : l.length ≤ 1000000000) :
    Calls Tryz.prog 36 #[s, .int .i64 k] u fun e u' => e = .returned (.bool (decide (k ∈ l))) ∧ u = u' := by
  obtain ⟨ao, c, rfl, _⟩ := h.slice
  refine enter Tryz.func36 rfl Tryz.ntmps36 rfl ?_
  refine rx ?_
  refine c_loopK 6 [5] (σ := Nat) (fun i g z => g 5 = .int .i64 (i : Nat) ∧ i ≤ l.length ∧ k ∉ l.take i ∧ u = z) (fun i => l.length - i) 0 ⟨rfl, Nat.zero_le _, by simp, rfl⟩ ?_
  rintro i g z ⟨h5, hi, hn, rfl⟩
  rw [eq_upd h5]
  by_cases hlt : i < l.length
  case neg =>
    refine rx ?_
    (apply ret1; exact rfl; (conv => lhs; whnf))
    rw [List.take_of_length_le (by omega)] at hn
    exact ⟨by rw [decide_eq_false hn], rfl⟩
  obtain ⟨ad, rfl, hca⟩ := Ls.at h hlt
  have hca' : u.cell? (ad.add (i * 1)) = some (.int .i64 l[i]) := by rw [Nat.mul_one]; exact hca
  refine rx ?_
  refine s_load rfl hca' ?_
  refine rx ?_
  refine s_eql rfl rfl (fun h => ?_) (fun h => ?_)
  · refine rx ?_
    (apply ret1; exact rfl; (conv => lhs; whnf))
    exact ⟨by rw [decide_eq_true]; rw [← h]; exact List.getElem_mem hlt, rfl⟩
  · refine rx ?_
    refine q_roundK (i + 1) (by (repeat (first | exact Keep.mrg _ _ _ _ | (refine Keep.hi rfl ?_) | (refine Keep.one rfl ?_) | exact Keep.all rfl | (refine Keep.inn rfl ?_) | (refine Keep.set rfl ?_)))) ⟨rfl, by omega, ?_, rfl⟩ (by omega)
    rw [List.take_succ_eq_append_getElem hlt]
    simp only [List.mem_append, List.mem_singleton, not_or]
    exact ⟨hn, fun e => h e.symm⟩
end Go.Proofs.YtpochcchekoonaaGreat
