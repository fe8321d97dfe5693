/-
  values.Decode; the closures of history.Decode. The closures of history.Decode.
-/
import Derived.Test.YtcogpedfnnfnaaaBi
import Derived.Test.YtcogpedfnnfnaaaB3
import Derived.Test.YtcogpedfnnfnaaaHm
namespace Go.Proofs.Ytcogpedfnnfnaaa
open Go.Rf Go.RowKit
set_option linter.unusedVariables false
set_option maxHeartbeats 8000000
attribute [local irreducible] Code.wp wpList Exit.then Exit.inBlock bodyPost A Calls execOp Addr.add

set_option maxRecDepth 4000 in
theorem decodeV (x : Value) (bs : List Int) (w : World) (hx : Src w x bs.length (bs.map (.int .u8))) (hB : Bys bs) (hl : bs.length ≤ 1000000000) :
    Calls Try.prog 71 #[x] w fun r w' => ∃ sl, r = .returned (.tuple #[.agg (vc (decV bs).1 sl).toArray, .int .i64 (decV bs).2]) ∧ (∀ S, (∀ k ∈ S, k < w.heap.size) → VS w' S (decV bs).1.kids sl) ∧ Fr [] w w' := by
  refine enter Try.func71 rfl Try.ntmps71 rfl ?_
  refine rx ?_
  refine s_alloc rfl (fun w1 hb1 hf1 hs1 => ?_)
  obtain ⟨B2, hB2⟩ : ∃ B2, w.heap.size = B2 := ⟨_, rfl⟩
  have hb1 : Blk w1 w.heap.size [.int .i64 0, .int .i64 0, .string ⟨#[]⟩, .slice none 0 0] 44 := hb1
  rw [hB2] at hb1 ⊢
  refine rx ?_
  refine s_call (wRead x bs w1 (hx.tr0 hf1) hB (by omega)) rfl ?_
  rintro _ w2 ⟨p, v2, rfl, hr2, hf2, hp2, hk2, hown2⟩
  refine ⟨_, rfl, ?_⟩
  have hb2 := hb1.tr0 hf2
  have hp2l := hr2.1.lt
  clear hb1
  refine rx ?_
  refine s_build [.pointer (some ⟨p, 0, none⟩), .int .i64 0] rfl ?_
  refine s_box rfl rfl (fun w3 hb3 hf3 hs3 => ?_)
  obtain ⟨q, hq⟩ : ∃ q, w2.heap.size = q := ⟨_, rfl⟩
  have hb3 : Blk w3 w2.heap.size [.pointer (some ⟨p, 0, none⟩), .int .i64 (1024 - ((1024 : Nat) : Int))] 136 := hb3
  rw [hq] at hb3 ⊢
  have hF3 : Fr [] w w3 := (hf1.trans0 hf2).trans0 hf3
  have hd3 : IsD w3 p q v2 bs 0 (1024 - ((1024 : Nat) : Int)) := ⟨⟨hr2.1.tr0 hf3, hr2.2.1.tr0 hf3, hr2.2.2⟩, hb3, by omega, fun ad n c e hp hm => by
    simp only [List.mem_cons, List.not_mem_nil, or_false] at hm
    rcases hm with h | h
    · exact hr2.2.2.1 ad n c e hp (by simp [h])
    · have := hr2.2.1.off (S := [q]) (by simp; omega)
      exact this ad n c e hp (by simp [h])⟩
  have hb23 := hb2.tr0 hf3
  have hwp : w.heap.size ≤ p ∧ w.heap.size ≤ q := by
    have := hf1.size
    have := hf2.size
    omega
  clear hb2
  refine rx ?_
  refine s_call (dvC 1025 1024 bs 0 p q v2 w3 (by omega) (by omega) hd3 hl) rfl ?_
  rintro _ w4 ⟨cs, rfl, hE⟩
  refine ⟨_, rfl, ?_⟩
  obtain ⟨v4, zz, hd4, hsub4, _⟩ := hE.st
  have hf4 := hE.fr
  have hb24 := hb23.tr hf4 (by simp; omega)
  have hF4 : Fr [] w w4 := hF3.trans hf4 (by simp; omega)
  have hRok := dV_ok 1025 1024 bs 0 hB hl
  have hdec : decV bs = if (dV 1025 1024 bs 0).2.1 = true ∧ rdEnd (dV 1025 1024 bs 0).2.2.2.1 (dV 1025 1024 bs 0).2.2.2.2 = 0 ∧ valV (dV 1025 1024 bs 0).1 = 0 then ((dV 1025 1024 bs 0).1, 0) else (V0, 2) := rfl
  generalize dV 1025 1024 bs 0 = R at hE hd4 hRok hdec ⊢
  have hs4 := hf4.size
  clear hb23
  refine rx ?_
  refine s_alloc rfl (fun w5 hb5 hf5 hs5 => ?_)
  obtain ⟨B5, hB5⟩ : ∃ B5, w4.heap.size = B5 := ⟨_, rfl⟩
  refine s_storeAggB rfl rfl hb5 hE.one rfl hE.len (fun w6 hb6 hf6 hs6 => ?_)
  rw [hB5] at hb6 ⊢
  have hF46 : Fr [] w4 w6 := hf5.trans hf6 (by simp)
  have hd6 := hd4.old hF46 (by simp)
  have hb26 := hb24.tr0 hF46
  have hF6 := hF4.trans0 hF46
  have hq6 := hd6.b
  clear hb24 hb5
  have hone0 : ∀ u ∈ vc V0 (.slice none 0 0), u.oneCell' = true := by intro u hu; simp only [vc, List.mem_cons, List.not_mem_nil, or_false] at hu; rcases hu with rfl | rfl | rfl | rfl <;> rfl
  have bad : ∀ (u : World), Blk u B2 (vc V0 (.slice none 0 0)) 44 → (loadVar 44 ⟨B2, 0, none⟩).run Try.prog u = .ok (.agg (vc V0 (.slice none 0 0)).toArray) u := fun u hb =>
    AggT.load _ _ rfl (fun j x hx => by rw [add_lit]; exact hb.cell (by simpa using hx))
  cases hbb : R.2.1
  case false =>
    rw [if_neg (by rw [hbb]; simp)] at hdec
    refine rx ?_
    refine s_build (vc V0 (.slice none 0 0)) rfl ?_
    refine s_storeAggB rfl rfl hb26 hone0 rfl rfl (fun w7 hb7 hf7 hs7 => ?_)
    refine rx ?_
    refine retc2 rfl rfl (bad w7 hb7) rfl ?_
    rw [hdec]
    exact ⟨_, rfl, fun S _ => VS.nil _ _, hF6.trans hf7 (by simp; omega)⟩
  obtain ⟨sx, hcs, hvs⟩ := hE.val hbb
  subst hcs
  have hb6 : Blk w6 B5 (vc R.1 sx) 44 := hb6
  refine rx ?_
  refine s_call (rEnd p v4 _ _ w6 hd6.r) rfl ?_
  rintro _ _ ⟨rfl, rfl⟩
  refine ⟨_, rfl, ?_⟩
  by_cases he : rdEnd R.2.2.2.1 R.2.2.2.2 = 0
  case neg =>
    rw [if_neg (fun h => he h.2.1)] at hdec
    refine rx ?_
    refine s_build (vc V0 (.slice none 0 0)) rfl ?_
    refine s_storeAggB rfl rfl hb26 hone0 rfl rfl (fun w7 hb7 hf7 hs7 => ?_)
    refine rx ?_
    refine retc2 rfl rfl (bad w7 hb7) rfl ?_
    rw [hdec]
    exact ⟨_, rfl, fun S _ => VS.nil _ _, hF6.trans hf7 (by simp; omega)⟩
  obtain ⟨g1, g2, g3⟩ := hRok.val hbb
  refine rx ?_
  have hvs0 : VS w6 [] R.1.kids sx := (hvs [] (by simp)).tr0 hF46
  refine s_call (validP R.1 sx w6 hvs0 g2 (by omega)) rfl ?_
  rintro _ w8 ⟨rfl, hf8⟩
  refine ⟨_, rfl, ?_⟩
  have hb28 := hb26.tr0 hf8
  have hb68 := hb6.tr0 hf8
  clear hb26 hb6
  by_cases hv : valV R.1 = 0
  case neg =>
    rw [if_neg (fun h => hv h.2.2)] at hdec
    refine rx ?_
    refine s_build (vc V0 (.slice none 0 0)) rfl ?_
    refine s_storeAggB rfl rfl hb28 hone0 rfl rfl (fun w7 hb7 hf7 hs7 => ?_)
    refine rx ?_
    refine retc2 rfl rfl (bad w7 hb7) rfl ?_
    rw [hdec]
    exact ⟨_, rfl, fun S _ => VS.nil _ _, (hF6.trans0 hf8).trans hf7 (by simp; omega)⟩
  rw [if_pos ⟨hbb, he, hv⟩] at hdec
  refine rx ?_
  refine s_storeAggB rfl rfl hb28 hE.one rfl rfl (fun w9 hb9 hf9 hs9 => ?_)
  have hb9 : Blk w9 B2 (vc R.1 sx) 44 := hb9
  refine rx ?_
  refine retc2 rfl rfl (AggT.load _ (vc R.1 sx) rfl (fun j x hx => by rw [add_lit]; exact hb9.cell (by simpa using hx))) rfl ?_
  rw [hdec]
  refine ⟨sx, rfl, fun S hS => ?_, (hF6.trans0 hf8).trans hf9 (by simp; omega)⟩
  have hsw3 := hF3.size
  have h1 := hvs (S ++ [B2]) (fun k hk => by
    rcases List.mem_append.1 hk with h | h
    · have := hS k h; omega
    · simp at h; have := hf1.size; have := hf2.size; have := hf3.size; omega)
  exact (((h1.tr0 hF46).tr0 hf8).tr (hf9.mono (by simp))).mono (fun k hk => .inl (by simp [hk]))
end Go.Proofs.Ytcogpedfnnfnaaa
namespace Go.Rf
open Go.RowKit
/-- rows whose parts lie in blocks that are new since N -/
def newR {α : Type} (R : World → List Nat → α → List Value → Prop) (N : Nat) : World → List Nat → α → List Value → Prop := fun w S x cs => ∀ T, (∀ k ∈ T, k < N) → R w (T ++ S) x cs
theorem newStab {α : Type} {R : World → List Nat → α → List Value → Prop} {k : Nat} (h : Stab R k) (N : Nat) : Stab (newR R N) k where
  tr := fun hr hf T hT => h.tr (hr T hT) (hf.mono (fun b hb => .inl (by simp [hb])))
  mono := fun hr hS T hT => h.mono (hr T hT) (fun b hb => by
    rcases List.mem_append.1 hb with h1 | h1
    · exact .inl (by simp [h1])
    · rcases hS b h1 with h2 | h2
      · exact .inl (by simp [h2])
      · exact .inr h2)
  len := fun hr => h.len (hr [] (by simp))
  one := fun hr => h.one (hr [] (by simp))
theorem ownNew_tr {α : Type} {R : World → List Nat → α → List Value → Prop} {n : Nat} (hs : Stab R n) {z z' : World} {e N : Nat} {l : List α} {v : Value} {W : List Nat} (h : OwnR z e n (newR R N) l v) (hf : Fr W z z') (hW : ∀ k ∈ W, k < N) (hv : ∀ k ∈ blks v, N ≤ k) : OwnR z' e n (newR R N) l v := by
  obtain ⟨ys, h1, h2⟩ := h
  refine ⟨ys, h1.tr hf (fun k hk hm => by have := hv k hk; have := hW k hm; omega), h2.imp (fun x cs _ hr => ?_)⟩
  intro T hT
  have h3 : R z ((T ++ W) ++ blks v) x cs := hr (T ++ W) (fun k hk => by
    rcases List.mem_append.1 hk with h | h
    · exact hT k h
    · exact hW k h)
  exact hs.mono (hs.tr h3 (hf.mono (fun b hb => .inl (by simp [hb])))) (fun b hb => .inl (by
    rcases List.mem_append.1 hb with h | h
    · simp [h]
    · simp [h]))
end Go.Rf
namespace Go.Proofs.Ytcogpedfnnfnaaa
open Go.Rf Go.RowKit
set_option linter.unusedVariables false
set_option maxHeartbeats 8000000
attribute [local irreducible] Code.wp wpList Exit.then Exit.inBlock bodyPost A Calls execOp Addr.add

structure HC (w1 : World) (p b4 b5 : Nat) (v0 : Value) (bs0 : List Int) : Prop where
  src : Src w1 v0 bs0.length (bs0.map (.int .u8))
  off : Off v0 (bs0.map (.int .u8)) [p, b4, b5]
  lp : p < w1.heap.size
  l4 : b4 < w1.heap.size
  l5 : b5 < w1.heap.size
  n1 : p ≠ b4
  n2 : p ≠ b5
  n3 : b4 ≠ b5
  len : bs0.length ≤ 1000000000
structure HD (w1 z : World) (p b4 b5 : Nat) (v0 : Value) (bs0 : List Int) (v : Value) (st : HS) : Prop where
  r : IsR z p v st.1 st.2.1
  k4 : Blk z b4 [.pointer (some ⟨p, 0, none⟩)] 78
  k5 : Blk z b5 [.bool st.2.2] 4
  sub : Sub v0 v
  len : st.1.length ≤ bs0.length
  fr : Fr [p, b5] w1 z
section
variable {w1 z z' : World} {p b4 b5 : Nat} {v0 v : Value} {bs0 : List Int} {st : HS}
theorem HD.rstep (c : HC w1 p b4 b5 v0 bs0) (h : HD w1 z p b4 b5 v0 bs0 v st) {bs' : List Int} {e' : Int} (hst : RStep p z v bs' e' z') (hl : bs'.length ≤ st.1.length) : ∃ v', HD w1 z' p b4 b5 v0 bs0 v' (bs', e', st.2.2) ∧ Fr [p] z z' := by
  obtain ⟨v', h1, h2, h3⟩ := hst
  have := h.len
  exact ⟨v', ⟨h1, h.k4.tr h2 (by simp; exact fun e => c.n1 e.symm), h.k5.tr h2 (by simp; exact fun e => c.n2 e.symm), h.sub.trans h3, by simp only; omega, h.fr.trans h2 (by simp)⟩, h2⟩
theorem HD.new (c : HC w1 p b4 b5 v0 bs0) (h : HD w1 z p b4 b5 v0 bs0 v st) {S : List Nat} (hf : Fr S z z') (hS : ∀ k ∈ S, w1.heap.size ≤ k) : HD w1 z' p b4 b5 v0 bs0 v st := by
  have hl := h.len
  have ho : Off v (st.1.map (.int .u8)) S := h.sub.off (ys := bs0.map (.int .u8)) (by simp; omega) (c.src.off hS)
  have hp := c.lp
  have hb4 := c.l4
  have hb5 := c.l5
  exact ⟨⟨h.r.1.tr hf (fun hm => by have := hS _ hm; omega), h.r.2.1.tr hf ho, h.r.2.2⟩, h.k4.tr hf (fun hm => by have := hS _ hm; omega), h.k5.tr hf (fun hm => by have := hS _ hm; omega), h.sub, h.len, h.fr.trans hf (fun k hk => .inr (hS k hk))⟩
theorem HD.setBad (c : HC w1 p b4 b5 v0 bs0) (h : HD w1 z p b4 b5 v0 bs0 v st) {b : Bool} (hb : Blk z' b5 [.bool b] 4) (hf : Fr [b5] z z') : HD w1 z' p b4 b5 v0 bs0 v (st.1, st.2.1, b) := by
  have hl := h.len
  have ho : Off v (st.1.map (.int .u8)) [b5] := h.sub.off (ys := bs0.map (.int .u8)) (by simp; omega) (fun ad n c' e hp hm => c.off ad n c' e hp (by simp at hm; simp [hm]))
  exact ⟨⟨h.r.1.tr hf (by simp; exact c.n2), h.r.2.1.tr hf ho, h.r.2.2⟩, h.k4.tr hf (by simp; exact c.n3), hb, h.sub, h.len, h.fr.trans hf (by simp)⟩
end

theorem cntC {w1 : World} {p b4 b5 : Nat} {v0 : Value} {bs0 : List Int} (c : HC w1 p b4 b5 v0 bs0) (most : Nat) (hm : most ≤ 1000000) (v : Value) (st : HS) (w : World) (h : HD w1 w p b4 b5 v0 bs0 v st) :
    Calls Try.prog 69 #[.int .i64 most, .pointer (some ⟨b4, 0, none⟩), .pointer (some ⟨b5, 0, none⟩)] w fun r w' => r = .returned (.int .i64 (hCnt most st).1) ∧ ∃ v', HD w1 w' p b4 b5 v0 bs0 v' (hCnt most st).2 ∧ Fr [p, b5] w w' := by
  have hb4 := h.k4
  have hby := rdI_bys (e := st.2.1) h.r.2.2.2
  have hn := back_range (rdU_ok (e := st.2.1) h.r.2.2.2).1
  refine enter Try.func69 rfl Try.ntmps69 rfl ?_
  refine rx ?_
  refine s_call (rInt p v _ _ w h.r) rfl ?_
  rintro _ w2 ⟨rfl, hst⟩
  refine ⟨_, rfl, ?_⟩
  obtain ⟨v2, h2, hf2⟩ := h.rstep c hst hby.2
  have hb5 := h2.k5
  unfold hCnt
  have hn : -9223372036854775808 ≤ (rdI st.1 st.2.1).1 ∧ (rdI st.1 st.2.1).1 ≤ 9223372036854775807 := hn
  clear hb4
  generalize (rdI st.1 st.2.1).1 = n at hn ⊢
  generalize (rdI st.1 st.2.1).2.1 = bs2 at h2 ⊢
  generalize (rdI st.1 st.2.1).2.2 = e2 at h2 ⊢
  by_cases hbad : n < 0 ∨ (most : Int) < n
  · rw [if_pos hbad]
    by_cases hn0 : n < 0
    all_goals
      refine rx ?_
      ((with_reducible apply s_storeB); exact rfl; (conv => lhs; whnf); exact rfl; exact hb5; exact rfl)
      intro w3 hb3 hf3 hs3
      refine rx ?_
      (apply ret1; exact rfl; (conv => lhs; whnf))
      exact ⟨rfl, v2, h2.setBad c hb3 hf3, (hf2.mono (by simp)).trans hf3 (by simp)⟩
  · rw [if_neg hbad]
    refine rx ?_
    (apply ret1; exact rfl; (conv => lhs; whnf))
    refine ⟨?_, v2, h2, hf2.mono (by simp)⟩
    simp only
    congr 2
    omega

set_option maxRecDepth 4000 in
theorem valC {w1 : World} {p b4 b5 : Nat} {v0 : Value} {bs0 : List Int} (c : HC w1 p b4 b5 v0 bs0) (v : Value) (st : HS) (w : World) (h : HD w1 w p b4 b5 v0 bs0 v st) :
    Calls Try.prog 70 #[.pointer (some ⟨b4, 0, none⟩), .pointer (some ⟨b5, 0, none⟩)] w fun r w' => ∃ sl, r = .returned (.agg (vc (hVal st).1 sl).toArray) ∧ (∀ S, (∀ k ∈ S, k < w.heap.size) → VS w' S (hVal st).1.kids sl) ∧ ∃ v', HD w1 w' p b4 b5 v0 bs0 v' (hVal st).2 ∧ Fr [p, b5] w w' := by
  have hby := rdR_bys (e := st.2.1) h.r.2.2.2
  have hlen := h.len
  have hcl := c.len
  have hw1 := h.fr.size
  have hcp := c.lp
  have hcb4 := c.l4
  have hcb5 := c.l5
  refine enter Try.func70 rfl Try.ntmps70 rfl ?_
  refine rx ?_
  refine s_alloc rfl (fun u1 hb1 hf1 hs1 => ?_)
  obtain ⟨B2, hB2⟩ : ∃ B2, w.heap.size = B2 := ⟨_, rfl⟩
  have hb1 : Blk u1 w.heap.size [.int .i64 0, .int .i64 0, .string ⟨#[]⟩, .slice none 0 0] 44 := hb1
  rw [hB2] at hb1 ⊢
  have h1 := h.new c hf1 (by simp)
  have hb4 := h1.k4
  refine rx ?_
  refine s_call (rRaw p v _ _ u1 h1.r (by omega)) rfl ?_
  rintro _ u2 ⟨x2, rfl, ho2, hk2, hst⟩
  refine ⟨_, rfl, ?_⟩
  obtain ⟨v2, h2, hf2⟩ := h1.rstep c hst hby.2.1
  have hb12 := hb1.tr hf2 (by simp; omega)
  clear hb4 hb1
  refine s_call (decodeV x2 _ u2 ho2.src hby.2.2.1 (by omega)) rfl ?_
  rintro _ u3 ⟨sx, rfl, hvs, hf3⟩
  refine ⟨_, rfl, ?_⟩
  have h3 := h2.new c hf3 (by simp)
  have hb13 := hb12.tr0 hf3
  have hs2 := hf2.size
  have hs3 := hf3.size
  clear hb12
  have hV : hVal st = ((decV (rdR st.1 st.2.1).1).1, (rdR st.1 st.2.1).2.1, (rdR st.1 st.2.1).2.2, st.2.2 || decide ((decV (rdR st.1 st.2.1).1).2 ≠ 0)) := rfl
  rw [hV]
  generalize (rdR st.1 st.2.1).2.1 = bs2 at h3 ⊢
  generalize (rdR st.1 st.2.1).2.2 = e2 at h3 ⊢
  generalize hD : decV (rdR st.1 st.2.1).1 = D at hvs ⊢
  have hone : ∀ u ∈ vc D.1 sx, u.oneCell' = true := VR.mem1 (w := u3) (S := []) D.1 _ ⟨sx, rfl, hvs [] (by simp)⟩
  refine rx ?_
  refine s_alloc rfl (fun u4 hb4 hf4 hs4 => ?_)
  obtain ⟨B3, hB3⟩ : ∃ B3, u3.heap.size = B3 := ⟨_, rfl⟩
  refine s_storeAggB rfl rfl hb4 hone rfl rfl (fun u5 hb5 hf5 hs5 => ?_)
  rw [hB3] at hb5 ⊢
  have hb5 : Blk u5 B3 (vc D.1 sx) 44 := hb5
  have hF35 : Fr [] u3 u5 := hf4.trans hf5 (by simp)
  have h5 := h3.new c hF35 (by simp)
  have hb15 := hb13.tr0 hF35
  have hb55 := h5.k5
  simp only at hb55
  clear hb13 hb4
  have hbv : ∀ (u : World) , Blk u B2 (vc D.1 sx) 44 → (loadVar 44 ⟨B2, 0, none⟩).run Try.prog u = .ok (.agg (vc D.1 sx).toArray) u := fun u hb => AggT.load _ _ rfl (fun j x hx => by rw [add_lit]; exact hb.cell (by simpa using hx))
  have hend : ∀ (u6 u7 : World) (b : Bool), Blk u6 b5 [.bool b] 4 → Fr [b5] u5 u6 → Blk u7 B2 (vc D.1 sx) 44 → Fr [B2] u6 u7 → (∀ S, (∀ k ∈ S, k < w.heap.size) → VS u7 S D.1.kids sx) ∧ ∃ v', HD w1 u7 p b4 b5 v0 bs0 v' (bs2, e2, b) ∧ Fr [p, b5] w u7 := by
    intro u6 u7 b q1 q2 q3 q4
    have h6 := h5.setBad c q1 q2
    have h7 := h6.new c q4 (by simp; omega)
    refine ⟨fun S hS => ?_, v2, h7, ((((hf1.mono (by simp)).trans hf2 (by simp)).trans0 hf3).trans0 hF35).trans q2 (by simp) |>.trans q4 (by simp; omega)⟩
    have g1 := hvs (S ++ [b5, B2]) (fun k hk => by
      rcases List.mem_append.1 hk with h | h
      · have := hS k h; omega
      · simp at h; omega)
    exact ((((g1.tr0 hF35).tr (q2.mono (by simp))).tr (q4.mono (by simp)))).mono (fun k hk => .inl (by simp [hk]))
  have hb1b : ∀ {u6 : World}, Fr [b5] u5 u6 → Blk u6 B2 [.int .i64 0, .int .i64 0, .string ⟨#[]⟩, .slice none 0 0] 44 := fun q => hb15.tr q (by simp; omega)
  have hb5b : ∀ {u6 : World}, Fr [b5] u5 u6 → Blk u6 B3 (vc D.1 sx) 44 := fun q => hb5.tr q (by simp; omega)
  cases hbd : st.2.2
  case true =>
    rw [hbd] at hb55
    refine rx ?_
    ((with_reducible apply s_storeB); exact rfl; (conv => lhs; whnf); exact rfl; exact hb55; exact rfl)
    intro u6 q1 q2 _
    have hq3 := hb5b q2
    clear hb5 hb55
    refine rx ?_
    refine s_storeAggB rfl rfl (hb1b q2) hone rfl rfl (fun u7 q3 q4 _ => ?_)
    obtain ⟨g1, g2⟩ := hend u6 u7 true q1 q2 q3 q4
    refine rx ?_
    exact retc rfl rfl (hbv u7 q3) ⟨sx, rfl, fun S hS => g1 S (by rw [hB2]; exact hS), by simpa using g2⟩
  case false =>
    rw [hbd] at hb55
    by_cases hz : D.2 = 0
    · refine rx ?_
      ((with_reducible apply s_storeB); exact rfl; (conv => lhs; whnf); exact rfl; exact hb55; exact rfl)
      intro u6 q1 q2 _
      have hq3 := hb5b q2
      clear hb5 hb55
      refine rx ?_
      refine s_storeAggB rfl rfl (hb1b q2) hone rfl rfl (fun u7 q3 q4 _ => ?_)
      obtain ⟨g1, g2⟩ := hend u6 u7 false q1 q2 q3 q4
      refine rx ?_
      exact retc rfl rfl (hbv u7 q3) ⟨sx, rfl, fun S hS => g1 S (by rw [hB2]; exact hS), by simpa [hz] using g2⟩
    · refine rx ?_
      ((with_reducible apply s_storeB); exact rfl; (conv => lhs; whnf); exact rfl; exact hb55; exact rfl)
      intro u6 q1 q2 _
      have hq3 := hb5b q2
      clear hb5 hb55
      refine rx ?_
      refine s_storeAggB rfl rfl (hb1b q2) hone rfl rfl (fun u7 q3 q4 _ => ?_)
      obtain ⟨g1, g2⟩ := hend u6 u7 true q1 q2 q3 q4
      refine rx ?_
      exact retc rfl rfl (hbv u7 q3) ⟨sx, rfl, fun S hS => g1 S (by rw [hB2]; exact hS), by simpa [hz] using g2⟩
end Go.Proofs.Ytcogpedfnnfnaaa
