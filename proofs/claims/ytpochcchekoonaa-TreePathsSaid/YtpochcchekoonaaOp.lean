/-
  The plain law of TreeParts and TreePaths: fitting, reading, options.
-/
import Derived.Test.YtpochcchekoonaaOk
namespace Go.Proofs.Ytpochcchekoonaa
open Go.Rf Go.RowKit
set_option linter.unusedVariables false
set_option linter.unusedSimpArgs false
section
variable {t : List Nd}
theorem fitT_val (hz : validT t = 0) (h0 : 0 < t.length) (raw : List Int) : ∃ v sp, rd (fitT t raw).1 (tA t (t.length - 1)) 0 = .ok v (fitT t raw).1.length sp ∧ (fitT t raw).2 = 0 := by
  have hv := VT.of hz
  obtain ⟨sp, h1⟩ := fit_rd raw (tA t (t.length - 1)) (good hv _ (by omega)) [] []
  simp only [List.append_nil, List.length_nil] at h1
  refine ⟨(fit raw (tA t (t.length - 1)) []).1, sp, ?_, ?_⟩
  · unfold fitT
    rw [if_pos hz, if_pos h0]
    exact h1
  · unfold fitT
    rw [if_pos hz, if_pos h0]
theorem valT_fit (hz : validT t = 0) (h0 : 0 < t.length) (raw : List Int) : (valT t (fitT t raw).1).2 = 0 := by
  obtain ⟨v, sp, h1, _⟩ := fitT_val hz h0 raw
  unfold valT fullT
  rw [if_pos ⟨hz, h0⟩, h1]
  simp only [if_pos]
theorem spanT_fit (hz : validT t = 0) (h0 : 0 < t.length) (raw : List Int) : (spanT t (fitT t raw).1).2 = 0 ∧ ∀ x ∈ (spanT t (fitT t raw).1).1, x.1 ≤ x.2.1 ∧ x.2.1 ≤ x.2.2 ∧ x.2.2 ≤ (fitT t raw).1.length := by
  obtain ⟨v, sp, h1, _⟩ := fitT_val hz h0 raw
  have h2 := rd_sp _ _ _ h1
  unfold spanT fullT
  rw [if_pos ⟨hz, h0⟩, h1]
  simp only [if_pos]
  exact ⟨trivial, h2⟩
theorem fitT_nil (ht : t = []) (raw : List Int) : (fitT t raw).2 ≠ 0 ∧ (validT t = 0 → (fitT t raw).2 = 10) := by
  subst ht
  unfold fitT
  by_cases hz : validT [] = 0
  · rw [if_pos hz]; simp
  · rw [if_neg hz]; exact ⟨hz, fun h => absurd h hz⟩
/-- fitting a path leaves it -/
theorem fitT_same (hz : validT t = 0) (h0 : 0 < t.length) (raw : List Int) : fitT t (fitT t raw).1 = (fitT t raw) := by
  obtain ⟨v, sp, h1, h2⟩ := fitT_val hz h0 raw
  have h3 := rd_fit (fitT t raw).1 (tA t (t.length - 1)) 0 (Nat.zero_le _)
  rw [h1] at h3
  simp only [Fits, List.take_zero, List.take_length] at h3
  have h4 : ∀ Q, fitT t Q = ((fit Q (tA t (t.length - 1)) []).2, 0) := fun Q => by
    unfold fitT
    rw [if_pos hz, if_pos h0]
  rw [h4, h3, ← h2]
theorem valT_ok (hz : validT t = 0) (h0 : 0 < t.length) (raw : List Int) : valV (valT t (fitT t raw).1).1 = 0 := by
  have hv := VT.of hz
  obtain ⟨v, sp, h1, _⟩ := fitT_val hz h0 raw
  have h2 := rd_valid hv _ (by omega) _ _ _ _ _ h1
  have h3 := hv.z1 (show t.length - 1 < t.length by omega)
  unfold valT fullT
  rw [if_pos ⟨hz, h0⟩, h1]
  simp only [if_pos]
  exact valV_zero.2 ⟨h2.1, h2.2.1, by have := h2.2.2; omega⟩
/-- behind a beginning there are options, and the path's own number is one of them -/
theorem opt_take (hz : validT t = 0) (h0 : 0 < t.length) (raw : List Int) {i : Nat} (hi : i < (fitT t raw).1.length) :
    ∃ (k n c : Nat), rd ((fitT t raw).1.take i) (tA t (t.length - 1)) 0 = .stop k n ∧ optT t ((fitT t raw).1.take i) = ((n : Int), 0) ∧ (fitT t raw).1[i]? = some (c : Int) ∧ c < n := by
  have hv := VT.of hz
  have he : fitT t raw = ((fit raw (tA t (t.length - 1)) []).2, 0) := by
    unfold fitT
    rw [if_pos hz, if_pos h0]
  rw [he] at hi ⊢
  obtain ⟨k, n, h1, h2⟩ := fit_take raw (tA t (t.length - 1)) (good hv _ (by omega)) [] i (Nat.zero_le _) hi
  simp only [List.length_nil] at h1
  obtain ⟨hk, h3, h4, _⟩ := stops hv _ (by omega) _ _ _ _ h1
  have hn : 0 < n := by
    rw [h4]
    unfold optN
    rcases h3 with h | h
    · rw [if_pos h]; have := hv.rng hk; omega
    · rw [if_neg (by omega)]; have := hv.cho hk h; omega
  refine ⟨k, n, clp raw i n, h1, ?_, h2, clp_lt hn⟩
  have hat : atT t ((fit raw (tA t (t.length - 1)) []).2.take i) = ((k : Int), 0) := by
    unfold atT
    rw [if_pos hz, if_pos h0, h1]
  unfold optT
  rw [hat]
  simp only
  rw [if_neg (by omega), Int.toNat_natCast, List.getD_eq_getElem?_getD, List.getElem?_map, List.getElem?_eq_getElem hk, h4]; rfl
/-- each option continues the beginning to the beginning of a path, which fitting completes -/
theorem opt_more (hz : validT t = 0) (h0 : 0 < t.length) {Q : List Int} {k n c : Nat} (h : rd Q (tA t (t.length - 1)) 0 = .stop k n) (hc : c < n) :
    (optT t (Q ++ [(c : Int)])).2 = 0 ∧ ∃ q, (fitT t (Q ++ [(c : Int)])).1 = (Q ++ [(c : Int)]) ++ q := by
  have hv := VT.of hz
  have hg := good hv (t.length - 1) (by omega)
  have h1 := rd_more Q c (tA t (t.length - 1)) hg 0 (Nat.zero_le _) h (by omega) (by omega)
  have h2 := rd_fit (Q ++ [(c : Int)]) (tA t (t.length - 1)) 0 (Nat.zero_le _)
  have he : (fitT t (Q ++ [(c : Int)])).1 = (fit (Q ++ [(c : Int)]) (tA t (t.length - 1)) []).2 := by
    unfold fitT
    rw [if_pos hz, if_pos h0]
  rw [he]
  rcases hr : rd (Q ++ [(c : Int)]) (tA t (t.length - 1)) 0 with ⟨v, e, sp⟩ | ⟨i, m⟩ | _
  · have h3 := rd_used Q c _ 0 (Nat.zero_le _) h hr
    rw [hr] at h2
    simp only [Fits, List.take_zero] at h2
    refine ⟨?_, [], ?_⟩
    · have hat : atT t (Q ++ [(c : Int)]) = (-1, 0) := by
        unfold atT
        rw [if_pos hz, if_pos h0, hr]
        simp only
        rw [if_pos h3]
      unfold optT
      rw [hat]
      simp
    · rw [h2, h3, List.take_length, List.append_nil]
  · rw [hr] at h2
    simp only [Fits, List.take_zero] at h2
    refine ⟨?_, h2⟩
    have hat : atT t (Q ++ [(c : Int)]) = ((i : Int), 0) := by
      unfold atT
      rw [if_pos hz, if_pos h0, hr]
    unfold optT
    rw [hat]
    simp only
    rw [if_neg (by omega)]
  · exact absurd hr h1
/-- behind a path there are none -/
theorem opt_end (hz : validT t = 0) (h0 : 0 < t.length) (raw : List Int) : optT t (fitT t raw).1 = (0, 0) ∧ (valT t ((fitT t raw).1 ++ [0])).2 = 11 := by
  obtain ⟨v, sp, h1, _⟩ := fitT_val hz h0 raw
  have hat : atT t (fitT t raw).1 = (-1, 0) := by
    unfold atT
    rw [if_pos hz, if_pos h0, h1]
    simp only [if_pos]
  refine ⟨by unfold optT; rw [hat]; rfl, ?_⟩
  have h2 := rd_app _ [0] _ _ h1
  unfold valT fullT errT
  rw [if_pos ⟨hz, h0⟩, h2]
  simp only
  rw [if_neg (by simp)]
  simp only
  rw [if_pos hz]
end
end Go.Proofs.Ytpochcchekoonaa
namespace Go.Rf
open Go.RowKit
theorem Blk.cellA {w : World} {b t j : Nat} {l : List Value} {u : Value} (h : Blk w b l t) (e : l[j]? = some u) : w.cell? ((⟨b, 0, none⟩ : Addr).add (j * 1)) = some u := by
  rw [Nat.mul_one, add_lit, Nat.zero_add]; exact h.cell e
section
variable {P : Program} {n : Nat} {f : Env} {w : World} {d : Nat} {ty : TypeId} {ps : String} {af : Array Edge} {gd : Option (Nat × Bool)} {x o o2 : Operand} {t : Nat}
theorem r_sliceFT {ao : Option Addr} {l c e size by_ j k : Nat} {kk kk2 : IntKind} [R : RowT P t e size by_] (hx : ev n f x = .slice ao l c) (ho : ev n f o = .int kk (j : Int)) (ho2 : ev n f o2 = .int kk2 (k : Int)) (hj : j ≤ k) (hk : k ≤ l) (hl : l ≤ c) :
    (execOp (ev n f) ⟨some d, .slice t x (some o) (some o2) none, ty, ps, af, gd⟩).run P w = .ok (.value (.slice (if c = j then ao else ao.map (·.add (j * size))) (k - j) (c - j))) w := by
  obtain ⟨i0, z, hi0, hz, hs, hb, hzs⟩ := R.inf
  have h1 : k ≤ c := by omega
  simp [execOp, hx, ho, ho2, Instr.sliceAt, Instr.slice, run_underlying R.und, Instr.sliceBounds, Instr.sliceBound, asIntOf, sizeOf, typeInfo, hi0, hs, hj, h1]
end
/-- a part of a slice of numbers -/
theorem Src.part {w : World} {ao : Option Addr} {m c j k : Nat} {l : List Int} (h : Src w (.slice ao m c) m (l.map (.int .i64))) (hl : l.length = m) (hj : j ≤ k) (hk : k ≤ m) :
    Src w (.slice (if c = j then ao else ao.map (·.add (j * 1))) (k - j) (c - j)) ((l.take k).drop j).length (((l.take k).drop j).map (.int .i64)) := by
  have h1 := h.cut (size := 1) (by simp [hl]) hj hk
  have e : ((l.take k).drop j).length = k - j := by simp; omega
  rw [e, List.map_drop, List.map_take]
  simpa using h1
end Go.Rf
