/-
  The decoder of package values.
-/
import Derived.Test.YtcogpedfnnfnaaaB1
import Derived.Test.YtcogpedfnnfnaaaPu
namespace Go.Rf
open Go.RowKit
theorem retc2 {P : Program} {fn : Func} {R : Ending → World → Prop} {n : Nat} {f : Env} {w : World} {t ty u : Nat} {v x : Value} {a : Addr} (hr : fn.results = #[.cell t ty, .tmp u]) (hv : ev n f (.tmp t) = .pointer (some a)) (hl : (loadVar ty a).run P w = .ok v w) (hx : ev n f (.tmp u) = x)
    (h : R (.returned (.tuple #[v, x])) w) : bodyPost P fn R .ret (A n f) w :=
  ⟨rfl, .tuple #[v, x], by
    have e : (A n f).tmps.getD t undef = .pointer (some a) := by rw [A_getD]; exact hv
    have e2 : (A n f).tmps.getD u undef = x := by rw [A_getD]; exact hx
    rw [Array.getD_eq_getD_getElem?] at e e2
    simp [results, hr, e, e2, asAddr, hl], h⟩
/-- a value whose parts lie in blocks that are new since N -/
def NR (N : Nat) : World → List Nat → V → List Value → Prop := fun w S x cs => ∀ T, (∀ k ∈ T, k < N) → VR w (T ++ S) x cs
theorem nrStab (N : Nat) : Stab (NR N) 4 where
  tr := fun hr hf T hT => (hr T hT).tr (hf.mono (fun b hb => .inl (by simp [hb])))
  mono := fun hr hS T hT => (hr T hT).mono (fun b hb => by
    rcases List.mem_append.1 hb with h1 | h1
    · exact .inl (by simp [h1])
    · rcases hS b h1 with h2 | h2
      · exact .inl (by simp [h2])
      · exact .inr h2)
  len := fun hr => VR.len _ _ (hr [] (by simp))
  one := fun hr => VR.mem1 _ _ (hr [] (by simp))
theorem ownNR_tr {z z' : World} {e N : Nat} {l : List V} {v : Value} {W : List Nat} (h : OwnR z e 4 (NR N) l v) (hf : Fr W z z') (hW : ∀ k ∈ W, k < N) (hv : ∀ k ∈ blks v, N ≤ k) : OwnR z' e 4 (NR N) l v := by
  obtain ⟨ys, h1, h2⟩ := h
  refine ⟨ys, h1.tr hf (fun k hk hm => by have := hv k hk; have := hW k hm; omega), h2.imp (fun x cs _ hr => ?_)⟩
  intro T hT
  have h3 : VR z ((T ++ W) ++ blks v) x cs := hr (T ++ W) (fun k hk => by
    rcases List.mem_append.1 hk with h | h
    · exact hT k h
    · exact hW k h)
  exact (h3.tr (hf.mono (fun b hb => .inl (by simp [hb])))).mono (fun b hb => .inl (by
    rcases List.mem_append.1 hb with h | h
    · simp [h]
    · simp [h]))
theorem ownNR_vs {z : World} {e N : Nat} {l : List V} {v : Value} (h : OwnR z e 4 (NR N) l v) (hv : ∀ k ∈ blks v, N ≤ k) (hl : l.length ≤ 1000000000000) {S : List Nat} (hS : ∀ k ∈ S, k < N) : VS z S l v := by
  obtain ⟨ys, h1, h2⟩ := h
  refine VS.of hl h1.src (fun ad n c e hp hm => ?_) (h2.imp (fun x cs _ hr => (hr S hS).mono (fun b hb => .inl (by simp [hb]))))
  have := hv ad.block (by rw [e]; simp [blks, Value.ownBlock])
  have := hS _ hm
  omega
end Go.Rf
namespace Go.Proofs.Ytcogpedfnnfnaaa
open Go.Rf Go.RowKit
set_option linter.unusedVariables false
set_option maxHeartbeats 8000000
attribute [local irreducible] Code.wp wpList Exit.then Exit.inBlock bodyPost A Calls execOp Addr.add

structure IsD (w : World) (p q : Nat) (v : Value) (bs : List Int) (e z : Int) : Prop where
  r : IsR w p v bs e
  b : Blk w q [.pointer (some ⟨p, 0, none⟩), .int .i64 z] 136
  ne : p ≠ q
  off : Off v (bs.map (.int .u8)) [p, q]
theorem IsD.step {w w' : World} {p q : Nat} {v : Value} {bs bs' : List Int} {e e' z : Int} (h : IsD w p q v bs e z) (hst : RStep p w v bs' e' w') (hl : bs'.length ≤ bs.length) : ∃ v', IsD w' p q v' bs' e' z ∧ Fr [p] w w' ∧ Sub v v' := by
  obtain ⟨v', h1, h2, h3⟩ := hst
  exact ⟨v', ⟨h1, h.b.tr h2 (by simp; exact fun hh => h.ne hh.symm), h.ne, h3.off (ys := bs.map (.int .u8)) (by simp; omega) h.off⟩, h2, h3⟩
theorem IsD.old {w w' : World} {p q : Nat} {v : Value} {bs : List Int} {e z : Int} {S : List Nat} (h : IsD w p q v bs e z) (hf : Fr S w w') (hS : ∀ k ∈ S, w.heap.size ≤ k) : IsD w' p q v bs e z :=
  ⟨⟨h.r.1.old hf hS, h.r.2.1.old hf hS, h.r.2.2⟩, h.b.old hf hS, h.ne, h.off⟩
theorem IsD.setz {w w' : World} {p q : Nat} {v : Value} {bs : List Int} {e z z' : Int} (h : IsD w p q v bs e z) (hb : Blk w' q [.pointer (some ⟨p, 0, none⟩), .int .i64 z'] 136) (hf : Fr [q] w w') : IsD w' p q v bs e z' :=
  ⟨⟨h.r.1.tr hf (by simp; exact h.ne), h.r.2.1.tr hf (fun ad n c e hp hm => h.off ad n c e hp (by simp at hm; simp [hm])), h.r.2.2⟩, hb, h.ne, h.off⟩
/-- a write to a block that is neither the reader's nor the decoder's, and newer -/
theorem IsD.new {w0 w w' : World} {p q B : Nat} {v v0 : Value} {bs bs0 : List Int} {e z : Int} (h : IsD w p q v bs e z) (h0 : Src w0 v0 bs0.length (bs0.map (.int .u8))) (hs : Sub v0 v) (hl : bs.length ≤ bs0.length) (hB : w0.heap.size ≤ B) (hp : p < w0.heap.size) (hq : q < w0.heap.size) (hf : Fr [B] w w') : IsD w' p q v bs e z := by
  have ho : Off v (bs.map (.int .u8)) [B] := hs.off (ys := bs0.map (.int .u8)) (by simp; omega) (h0.off (by simp; exact hB))
  exact ⟨⟨h.r.1.tr hf (by simp; omega), h.r.2.1.tr hf ho, h.r.2.2⟩, h.b.tr hf (by simp; omega), h.ne, h.off⟩
theorem IsD.newS {w0 w w' : World} {p q : Nat} {S : List Nat} {v v0 : Value} {bs bs0 : List Int} {e z : Int} (h : IsD w p q v bs e z) (h0 : Src w0 v0 bs0.length (bs0.map (.int .u8))) (hs : Sub v0 v) (hl : bs.length ≤ bs0.length) (hB : ∀ k ∈ S, w0.heap.size ≤ k) (hp : p < w0.heap.size) (hq : q < w0.heap.size) (hf : Fr S w w') : IsD w' p q v bs e z := by
  have ho : Off v (bs.map (.int .u8)) S := hs.off (ys := bs0.map (.int .u8)) (by simp; omega) (h0.off hB)
  exact ⟨⟨h.r.1.tr hf (fun hm => by have := hB _ hm; omega), h.r.2.1.tr hf ho, h.r.2.2⟩, h.b.tr hf (fun hm => by have := hB _ hm; omega), h.ne, h.off⟩
structure LSt where
  i : Nat
  vk : Value
  kids : List V
  fi : Nat
  bi : List Int
  ei : Int
  vi : Value
structure DLoop (d m f0 N1 B2 B4 p q : Nat) (k : Int) (s : ByteArray) (bs bs2 : List Int) (e2 : Int) (v : Value) (u z : World) (st : LSt) : Prop where
  i : st.i ≤ m
  isd : IsD z p q st.vi st.bi st.ei (1024 - (st.fi : Int))
  b4 : Blk z B4 [.int .i64 k, .int .i64 0, .string s, st.vk] 44
  b2 : Blk z B2 [.int .i64 0, .int .i64 0, .string ⟨#[]⟩, .slice none 0 0] 44
  own : OwnR z 44 4 (NR N1) st.kids st.vk
  new : ∀ b ∈ blks st.vk, N1 ≤ b
  eq : dK (dV d) m f0 bs2 e2 = (st.kids ++ (dK (dV d) (m - st.i) st.fi st.bi st.ei).1, (dK (dV d) (m - st.i) st.fi st.bi st.ei).2)
  fr : Fr [p, q, B4] u z
  sub : Sub v st.vi
  fi : st.fi ≤ f0
  bl : st.bi.length ≤ bs.length
  kl : st.kids.length = st.i
structure DEnd (w w' : World) (p q : Nat) (v : Value) (R : V × Bool × Nat × List Int × Int) (cs : List Value) : Prop where
  len : cs.length = 4
  one : ∀ u ∈ cs, u.oneCell' = true
  val : R.2.1 = true → ∃ sl, cs = vc R.1 sl ∧ ∀ S, (∀ k ∈ S, k < w.heap.size) → VS w' S R.1.kids sl
  st : ∃ v' z, IsD w' p q v' R.2.2.2.1 R.2.2.2.2 z ∧ Sub v v' ∧ (R.2.1 = true → z = 1024 - (R.2.2.1 : Int))
  fr : Fr [p, q] w w'

set_option maxRecDepth 4000 in
theorem dvStep (d : Nat) (IH : ∀ (f : Nat) (bs : List Int) (e : Int) (p q : Nat) (v : Value) (w : World), f < d → f ≤ 1024 → IsD w p q v bs e (1024 - f) → bs.length ≤ 1000000000 →
      Calls Try.prog 88 #[.pointer (some ⟨q, 0, none⟩)] w fun r w' => ∃ cs, r = .returned (.tuple #[.agg cs.toArray, .bool (dV d f bs e).2.1]) ∧ DEnd w w' p q v (dV d f bs e) cs)
    (f : Nat) (bs : List Int) (e : Int) (p q : Nat) (v : Value) (w : World) (hfd : f < d + 1) (hf24 : f ≤ 1024) (hd : IsD w p q v bs e (1024 - f)) (hbl : bs.length ≤ 1000000000) :
    Calls Try.prog 88 #[.pointer (some ⟨q, 0, none⟩)] w fun r w' => ∃ cs, r = .returned (.tuple #[.agg cs.toArray, .bool (dV (d + 1) f bs e).2.1]) ∧ DEnd w w' p q v (dV (d + 1) f bs e) cs := by
  have hpl := hd.r.1.lt
  have hql := hd.b.lt
  have hne := hd.ne
  refine enter Try.func88 rfl Try.ntmps88 rfl ?_
  refine rx ?_
  refine s_alloc rfl (fun w1 hb1 hf1 hs1 => ?_)
  obtain ⟨B2, hB2⟩ : ∃ B2, w.heap.size = B2 := ⟨_, rfl⟩
  have hb1 : Blk w1 w.heap.size [.int .i64 0, .int .i64 0, .string ⟨#[]⟩, .slice none 0 0] 44 := hb1
  rw [hB2] at hb1 ⊢
  have hd1 := hd.old hf1 (by simp)
  have hdb := hd1.b
  refine rx ?_
  ((with_reducible apply s_storeB); exact rfl; (conv => lhs; whnf); exact rfl; exact hdb; exact rfl)
  intro w2 hbq2 hfq2 hsq2
  have hbq2 : Blk w2 q [.pointer (some ⟨p, 0, none⟩), .int .i64 (1024 - (f : Int) + 1)] 136 := hbq2
  have hd2 := hd1.setz hbq2 hfq2
  have hb2 := hb1.tr hfq2 (by simp; omega)
  clear hdb hb1
  have hdb2 := hd2.b
  have hF2 : Fr [p, q] w w2 := (hf1.mono (by simp)).trans hfq2 (by simp)
  -- how it ends
  have fin : ∀ (u : World) (cs : List Value) (R : V × Bool × Nat × List Int × Int), Blk u B2 cs 44 → dV (d + 1) f bs e = R → DEnd w u p q v R cs → (loadVar 44 ⟨B2, 0, none⟩).run Try.prog u = .ok (.agg cs.toArray) u := fun u cs R hb _ hD =>
    AggT.load _ cs hD.len (fun j x hx => by rw [add_lit]; exact hb.cell (by simpa using hx))
  by_cases hf0 : f = 0
  · have hR : dV (d + 1) f bs e = (V0, false, 0, bs, e) := by rw [dV, if_pos hf0]
    refine rx ?_
    refine s_build (vc V0 (.slice none 0 0)) rfl ?_
    refine s_storeAggB rfl rfl hb2 (by intro u hu; simp only [vc, List.mem_cons, List.not_mem_nil, or_false] at hu; rcases hu with rfl | rfl | rfl | rfl <;> rfl) rfl rfl (fun w3 hb3 hf3 hs3 => ?_)
    have hD : DEnd w w3 p q v (V0, false, 0, bs, e) (vc V0 (.slice none 0 0)) :=
      ⟨rfl, by intro u hu; simp only [vc, List.mem_cons, List.not_mem_nil, or_false] at hu; rcases hu with rfl | rfl | rfl | rfl <;> rfl, fun h => by simp at h, ⟨v, _, hd2.new hd.r.src (Sub.refl v) (Nat.le_refl _) (by omega) hpl hql hf3, Sub.refl v, fun h => by simp at h⟩, hF2.trans hf3 (by simp; omega)⟩
    refine rx ?_
    refine retc2 rfl rfl (fin w3 _ _ hb3 hR hD) rfl ?_
    rw [hR]
    exact ⟨_, rfl, hD⟩
  have hRf : dV (d + 1) f bs e = if (rdI bs e).1 = 0 then (⟨0, (rdI (rdI bs e).2.1 (rdI bs e).2.2).1, ⟨#[]⟩, []⟩, true, f - 1, (rdI (rdI bs e).2.1 (rdI bs e).2.2).2)
    else if (rdI bs e).1 = 1 then (⟨1, if (rdB (rdI bs e).2.1 (rdI bs e).2.2).1 = true then 1 else 0, ⟨#[]⟩, []⟩, true, f - 1, (rdB (rdI bs e).2.1 (rdI bs e).2.2).2)
    else if (rdI bs e).1 = 2 then dN (dV d) 2 ⟨#[]⟩ (f - 1) (rdI bs e).2.1 (rdI bs e).2.2
    else if (rdI bs e).1 = 3 then dN (dV d) 3 (strOf (rdR (rdI bs e).2.1 (rdI bs e).2.2).1) (f - 1) (rdR (rdI bs e).2.1 (rdI bs e).2.2).2.1 (rdR (rdI bs e).2.1 (rdI bs e).2.2).2.2
    else (V0, false, f - 1, (rdI bs e).2.1, (rdI bs e).2.2) := by rw [dV, if_neg hf0]
  have hzf : (1024 - (f : Int) + 1) = 1024 - ((f - 1 : Nat) : Int) := by omega
  have hbys := rdI_bys (e := e) hd.r.2.2.2
  refine rx ?_
  refine s_call (rInt p v bs e w2 hd2.r) rfl ?_
  rintro _ w3 ⟨rfl, hst⟩
  refine ⟨_, rfl, ?_⟩
  obtain ⟨v3, hd3, hf3, hsub3⟩ := hd2.step hst hbys.2
  have hb3 := hb2.tr hf3 (by simp; omega)
  have hkI := back_range (rdU_ok (e := e) hd.r.2.2.2).1
  have hF3 : Fr [p, q] w w3 := hF2.trans hf3 (by simp)
  clear hdb2 hb2
  generalize (rdI bs e).1 = k at hRf ⊢
  generalize (rdI bs e).2.1 = bs1 at hd3 hRf hbys
  generalize (rdI bs e).2.2 = e1 at hd3 hRf
  refine rx ?_
  refine s_build (vc ⟨k, 0, ⟨#[]⟩, []⟩ (.slice none 0 0)) rfl ?_
  refine s_alloc rfl (fun w4 hb4 hf4 hs4 => ?_)
  obtain ⟨B4, hB4⟩ : ∃ B4, w3.heap.size = B4 := ⟨_, rfl⟩
  have hb4 : Blk w4 w3.heap.size [.int .i64 0, .int .i64 0, .string ⟨#[]⟩, .slice none 0 0] 44 := hb4
  rw [hB4] at hb4 ⊢
  have hsz3 := hF3.size
  have hone4 : ∀ u ∈ vc ⟨k, 0, ⟨#[]⟩, []⟩ (.slice none 0 0), u.oneCell' = true := by intro u hu; simp only [vc, List.mem_cons, List.not_mem_nil, or_false] at hu; rcases hu with rfl | rfl | rfl | rfl <;> rfl
  refine s_storeAggB rfl rfl hb4 hone4 rfl rfl (fun w5 hb5 hf5 hs5 => ?_)
  have hF35 : Fr [] w3 w5 := hf4.trans hf5 (by simp; omega)
  have hb5 : Blk w5 B4 [.int .i64 k, .int .i64 0, .string ⟨#[]⟩, .slice none 0 0] 44 := hb5
  have hd5 := hd3.old hF35 (by simp)
  have hb25 := hb3.tr0 hF35
  have hF5 : Fr [p, q] w w5 := hF3.trans0 hF35
  have hdb5 := hd5.b
  have hB24 : B2 ≠ B4 := by have := hb3.lt; omega
  clear hb3 hb4
  have hB2w : w.heap.size ≤ B2 := by omega
  have hB4w : w.heap.size ≤ B4 := by omega
  by_cases k0 : k = 0
  · rw [if_pos k0] at hRf
    have hby2 := rdI_bys (e := e1) hbys.1
    refine rx ?_
    refine s_call (rInt p v3 bs1 e1 w5 hd5.r) rfl ?_
    rintro _ w6 ⟨rfl, hst⟩
    refine ⟨_, rfl, ?_⟩
    obtain ⟨v6, hd6, hf6, hsub6⟩ := hd5.step hst hby2.2
    have hb6 := hb5.tr hf6 (by simp; omega)
    have hb26 := hb25.tr hf6 (by simp; omega)
    clear hb5 hb25 hdb5
    refine rx ?_
    ((with_reducible apply s_storeB); exact rfl; (conv => lhs; whnf); exact rfl; exact hb6; exact rfl)
    intro w7 hb7 hf7 hs7
    have hb27 := hb26.tr hf7 (by simp; exact hB24)
    clear hb6
    refine rx ?_
    subst k0
    generalize (rdI bs1 e1).1 = n at hRf hb7 ⊢
    refine s_storeAggB (cs := vc ⟨0, n, ⟨#[]⟩, []⟩ (.slice none 0 0)) rfl rfl hb27 (by intro u hu; simp only [vc, List.mem_cons, List.not_mem_nil, or_false] at hu; rcases hu with rfl | rfl | rfl | rfl <;> rfl) rfl rfl (fun w8 hb8 hf8 hs8 => ?_)
    have hsubv := hsub3.trans hsub6
    have hd7 := hd6.new hd.r.src hsubv (by omega) hB4w hpl hql hf7
    have hd8 := hd7.new hd.r.src hsubv (by omega) hB2w hpl hql hf8
    have hD : DEnd w w8 p q v (⟨0, n, ⟨#[]⟩, []⟩, true, f - 1, (rdI bs1 e1).2) (vc ⟨0, n, ⟨#[]⟩, []⟩ (.slice none 0 0)) :=
      ⟨rfl, by intro u hu; simp only [vc, List.mem_cons, List.not_mem_nil, or_false] at hu; rcases hu with rfl | rfl | rfl | rfl <;> rfl, fun _ => ⟨_, rfl, fun S _ => VS.nil _ _⟩, ⟨v6, _, hd8, hsubv, fun _ => hzf⟩, (((hF5.trans hf6 (by simp)).trans hf7 (by simp; omega)).trans hf8 (by simp; omega))⟩
    refine rx ?_
    refine retc2 rfl rfl (fin w8 _ _ hb8 hRf hD) rfl ?_
    rw [hRf]
    exact ⟨_, rfl, hD⟩
  rw [if_neg k0] at hRf
  by_cases k1 : k = 1
  · rw [if_pos k1] at hRf
    have hby2 := rdB_bys (e := e1) hbys.1
    refine rx ?_
    refine s_call (rBool p v3 bs1 e1 w5 hd5.r (by omega)) rfl ?_
    rintro _ w6 ⟨rfl, hst⟩
    refine ⟨_, rfl, ?_⟩
    obtain ⟨v6, hd6, hf6, hsub6⟩ := hd5.step hst hby2.2
    have hb6 := hb5.tr hf6 (by simp; omega)
    have hb26 := hb25.tr hf6 (by simp; omega)
    clear hb5 hb25 hdb5
    subst k1
    have hsubv := hsub3.trans hsub6
    have hF6 : Fr [p, q] w w6 := hF5.trans hf6 (by simp)
    cases hbb : (rdB bs1 e1).1
    case true =>
      rw [hbb, if_pos rfl] at hRf
      refine rx ?_
      ((with_reducible apply s_storeB); exact rfl; (conv => lhs; whnf); exact rfl; exact hb6; exact rfl)
      intro w7 hb7 hf7 hs7
      have hb27 := hb26.tr hf7 (by simp; exact hB24)
      clear hb6
      refine rx ?_
      refine s_storeAggB (cs := vc ⟨1, 1, ⟨#[]⟩, []⟩ (.slice none 0 0)) rfl rfl hb27 (by intro u hu; simp only [vc, List.mem_cons, List.not_mem_nil, or_false] at hu; rcases hu with rfl | rfl | rfl | rfl <;> rfl) rfl rfl (fun w8 hb8 hf8 hs8 => ?_)
      have hd7 := hd6.new hd.r.src hsubv (by omega) hB4w hpl hql hf7
      have hd8 := hd7.new hd.r.src hsubv (by omega) hB2w hpl hql hf8
      have hD : DEnd w w8 p q v (⟨1, 1, ⟨#[]⟩, []⟩, true, f - 1, (rdB bs1 e1).2) (vc ⟨1, 1, ⟨#[]⟩, []⟩ (.slice none 0 0)) :=
        ⟨rfl, by intro u hu; simp only [vc, List.mem_cons, List.not_mem_nil, or_false] at hu; rcases hu with rfl | rfl | rfl | rfl <;> rfl, fun _ => ⟨_, rfl, fun S _ => VS.nil _ _⟩, ⟨v6, _, hd8, hsubv, fun _ => hzf⟩, ((hF6.trans hf7 (by simp; omega)).trans hf8 (by simp; omega))⟩
      refine rx ?_
      refine retc2 rfl rfl (fin w8 _ _ hb8 hRf hD) rfl ?_
      rw [hRf]
      exact ⟨_, rfl, hD⟩
    case false =>
      rw [hbb, if_neg (by simp)] at hRf
      refine rx ?_
      refine s_storeAggB (cs := vc ⟨1, 0, ⟨#[]⟩, []⟩ (.slice none 0 0)) rfl rfl hb26 (by intro u hu; simp only [vc, List.mem_cons, List.not_mem_nil, or_false] at hu; rcases hu with rfl | rfl | rfl | rfl <;> rfl) rfl rfl (fun w8 hb8 hf8 hs8 => ?_)
      have hd8 := hd6.new hd.r.src hsubv (by omega) hB2w hpl hql hf8
      have hD : DEnd w w8 p q v (⟨1, 0, ⟨#[]⟩, []⟩, true, f - 1, (rdB bs1 e1).2) (vc ⟨1, 0, ⟨#[]⟩, []⟩ (.slice none 0 0)) :=
        ⟨rfl, by intro u hu; simp only [vc, List.mem_cons, List.not_mem_nil, or_false] at hu; rcases hu with rfl | rfl | rfl | rfl <;> rfl, fun _ => ⟨_, rfl, fun S _ => VS.nil _ _⟩, ⟨v6, _, hd8, hsubv, fun _ => hzf⟩, (hF6.trans hf8 (by simp; omega))⟩
      refine rx ?_
      refine retc2 rfl rfl (fin w8 _ _ hb8 hRf hD) rfl ?_
      rw [hRf]
      exact ⟨_, rfl, hD⟩
  rw [if_neg k1] at hRf
  by_cases k23 : k = 2 ∨ k = 3
  case neg =>
    rw [if_neg (fun h => k23 (.inl h)), if_neg (fun h => k23 (.inr h))] at hRf
    refine rx ?_
    refine s_storeAggB (cs := vc ⟨k, 0, ⟨#[]⟩, []⟩ (.slice none 0 0)) rfl rfl hb25 hone4 rfl rfl (fun w8 hb8 hf8 hs8 => ?_)
    have hd8 := hd5.new hd.r.src hsub3 (by omega) hB2w hpl hql hf8
    have hD : DEnd w w8 p q v (V0, false, f - 1, bs1, e1) (vc ⟨k, 0, ⟨#[]⟩, []⟩ (.slice none 0 0)) :=
      ⟨rfl, hone4, fun h => by simp at h, ⟨v3, _, hd8, hsub3, fun h => by simp at h⟩, (hF5.trans hf8 (by simp; omega))⟩
    refine rx ?_
    refine retc2 rfl rfl (fin w8 _ _ hb8 hRf hD) rfl ?_
    rw [hRf]
    exact ⟨_, rfl, hD⟩
  by_cases k2 : k = 2
  case' pos =>
    rw [if_pos k2] at hRf
    refine rx ?_
    obtain ⟨s, hs⟩ : ∃ s : ByteArray, (⟨#[]⟩ : ByteArray) = s := ⟨_, rfl⟩
    have hbz : Blk w5 B4 [.int .i64 k, .int .i64 0, .string s, .slice none 0 0] 44 := by rw [← hs]; exact hb5
    have hb2z := hb25
    have hdz := hd5
    have hsubz := hsub3
    have hblz : bs1.length ≤ bs.length := hbys.2
    have hByz : Bys bs1 := hbys.1
    have hFz := hF5
    rw [hs] at hRf
    have hRf : dV (d + 1) f bs e = dN (dV d) k s (f - 1) bs1 e1 := by rw [hRf, k2]
    clear hb5 hb25 hd5 hsub3 hF5 hdb5 hone4 hd3 hF35 hbys hs
    generalize w5 = wz at hbz hb2z hdz hFz ⊢
    generalize v3 = vz at hdz hsubz
    generalize bs1 = bz at hdz hblz hByz hRf
    generalize e1 = ez at hdz hRf
  case' neg =>
    have k3 : k = 3 := by omega
    rw [if_neg k2, if_pos k3] at hRf
    have hby2 := rdR_bys (e := e1) hbys.1
    refine rx ?_
    refine s_call (rText p v3 bs1 e1 w5 hd5.r (by omega)) rfl ?_
    rintro _ w6 ⟨rfl, hst⟩
    refine ⟨_, rfl, ?_⟩
    obtain ⟨v6, hd6, hf6, hsub6⟩ := hd5.step hst hby2.2.1
    have hb6 := hb5.tr hf6 (by simp; omega)
    have hb26 := hb25.tr hf6 (by simp; omega)
    clear hb5 hb25 hdb5
    refine rx ?_
    ((with_reducible apply s_storeB); exact rfl; (conv => lhs; whnf); exact rfl; exact hb6; exact rfl)
    intro w7 hb7 hf7 hs7
    have hbz : Blk w7 B4 [.int .i64 k, .int .i64 0, .string (strOf (rdR bs1 e1).1), .slice none 0 0] 44 := hb7
    have hb2z := hb26.tr hf7 (by simp; exact hB24)
    have hsubz := hsub3.trans hsub6
    have hdz := hd6.new hd.r.src hsubz (by omega) hB4w hpl hql hf7
    have hblz : (rdR bs1 e1).2.1.length ≤ bs.length := by omega
    have hByz : Bys (rdR bs1 e1).2.1 := hby2.1
    have hFz : Fr [p, q] w w7 := (hF5.trans hf6 (by simp)).trans hf7 (by simp; omega)
    have hRf : dV (d + 1) f bs e = dN (dV d) k (strOf (rdR bs1 e1).1) (f - 1) (rdR bs1 e1).2.1 (rdR bs1 e1).2.2 := by rw [hRf, k3]
    clear hb6 hb26 hd5 hsub3 hF5 hone4 hd3 hF35 hbys hb7 hby2
    have hdbz := hdz.b
    refine rx ?_
    clear hdbz
    generalize strOf (rdR bs1 e1).1 = s at hbz hRf ⊢
    generalize w7 = wz at hbz hb2z hdz hFz ⊢
    generalize v6 = vz at hdz hsubz
    generalize (rdR bs1 e1).2.1 = bz at hdz hblz hByz hRf
    generalize (rdR bs1 e1).2.2 = ez at hdz hRf
  all_goals
    have hbyn := rdI_bys (e := ez) hByz
    refine s_call (rInt p vz bz ez wz hdz.r) rfl ?_
    rintro _ u6 ⟨rfl, hst⟩
    refine ⟨_, rfl, ?_⟩
    obtain ⟨v6, hd6, hf6, hsub6⟩ := hdz.step hst hbyn.2
    have hb6 := hbz.tr hf6 (by simp; omega)
    have hb26 := hb2z.tr hf6 (by simp; omega)
    have hF6 : Fr [p, q] w u6 := hFz.trans hf6 (by simp)
    have hsubv := hsubz.trans hsub6
    unfold dN at hRf
    have hRf : dV (d + 1) f bs e = if (rdI bz ez).1 < 0 ∨ 256 < (rdI bz ez).1 then (V0, false, f - 1, (rdI bz ez).2.1, (rdI bz ez).2.2) else (⟨k, 0, s, (dK (dV d) (rdI bz ez).1.toNat (f - 1) (rdI bz ez).2.1 (rdI bz ez).2.2).1⟩, (dK (dV d) (rdI bz ez).1.toNat (f - 1) (rdI bz ez).2.1 (rdI bz ez).2.2).2) := hRf
    have hnI := back_range (rdU_ok (e := ez) hByz).1
    have hnI : -9223372036854775808 ≤ (rdI bz ez).1 ∧ (rdI bz ez).1 ≤ 9223372036854775807 := hnI
    generalize (rdI bz ez).1 = n at hRf hnI ⊢
    generalize (rdI bz ez).2.1 = bs2 at hd6 hRf hbyn
    generalize (rdI bz ez).2.2 = e2 at hd6 hRf
    clear hbz hb2z
    have hs6 := hF6.size
    by_cases hbad : n < 0 ∨ 256 < n
    · rw [if_pos hbad] at hRf
      have hone6 : ∀ u ∈ [Value.int .i64 k, .int .i64 0, .string s, .slice none 0 0], u.oneCell' = true := by intro u hu; simp only [List.mem_cons, List.not_mem_nil, or_false] at hu; rcases hu with rfl | rfl | rfl | rfl <;> rfl
      by_cases hn0 : n < 0
      all_goals
        refine rx ?_
        refine s_storeAggB (cs := [Value.int .i64 k, .int .i64 0, .string s, .slice none 0 0]) rfl rfl hb26 hone6 rfl rfl (fun w8 hb8 hf8 hs8 => ?_)
        have hd8 := hd6.new hd.r.src hsubv (by omega) hB2w hpl hql hf8
        have hD : DEnd w w8 p q v (V0, false, f - 1, bs2, e2) [Value.int .i64 k, .int .i64 0, .string s, .slice none 0 0] :=
          ⟨rfl, hone6, fun h => by simp at h, ⟨v6, _, hd8, hsubv, fun h => by simp at h⟩, (hF6.trans hf8 (by simp; omega))⟩
        refine rx ?_
        refine retc2 rfl rfl (fin w8 _ _ hb8 hRf hD) rfl ?_
        rw [hRf]
        exact ⟨_, rfl, hD⟩
    rw [if_neg hbad] at hRf
    obtain ⟨m, rfl⟩ : ∃ m : Nat, n = m := ⟨n.toNat, by omega⟩
    rw [Int.toNat_natCast] at hRf
    obtain ⟨N1, hN1⟩ : ∃ N1, u6.heap.size = N1 := ⟨_, rfl⟩
    have hB4N : B4 < N1 := by have := hb6.lt; omega
    have hB2N : B2 < N1 := by have := hb26.lt; omega
    rw [hzf] at hd6
    refine rx ?_
    refine c_loopK 71 [6, 7] (σ := LSt) (fun st g z => g 71 = .int .i64 st.i ∧ DLoop d m (f - 1) N1 B2 B4 p q k s bs bs2 e2 v u6 z st) (fun st => m - st.i) ⟨0, .slice none 0 0, [], f - 1, bs2, e2, v6⟩
      ⟨rfl, ⟨Nat.zero_le _, hd6, hb6, hb26, OwnR.nil _ _ _ _, by simp [blks, Value.ownBlock], by simp, Fr.refl _ _, hsubv, Nat.le_refl _, by simp only; omega, rfl⟩⟩ ?_
    rintro ⟨i, vk, kids, fi, bi, ei, vi⟩ g z ⟨h71, hi, hdz', hb4z, hb2z, hoz, hkz, heq, hfz, hsz, hfi, hbi, hkl⟩
    simp only at h71 hi hdz' hb4z hoz hkz heq hsz hfi hbi hkl
    rw [eq_upd h71]
    have hzN := hfz.size
    have hFwz : Fr [p, q] w z := hF6.trans hfz (fun x hx => by
      simp at hx
      rcases hx with rfl | rfl | rfl
      · exact .inl (by simp)
      · exact .inl (by simp)
      · exact .inr hB4w)
    have hone : ∀ (sv : Value), sv.oneCell' = true → ∀ u ∈ [Value.int .i64 k, .int .i64 0, .string s, sv], u.oneCell' = true := by
      intro sv hsv u hu
      simp only [List.mem_cons, List.not_mem_nil, or_false] at hu
      rcases hu with rfl | rfl | rfl | rfl
      · rfl
      · rfl
      · rfl
      · exact hsv
    have hvk := hoz.one
    by_cases him : i < m
    case neg =>
      have him' : m - i = 0 := by omega
      rw [him', dK, List.append_nil] at heq
      rw [heq] at hRf
      refine rx ?_
      refine s_storeAggB (cs := [Value.int .i64 k, .int .i64 0, .string s, vk]) rfl rfl hb2z (hone vk hvk) rfl rfl (fun w8 hb8 hf8 hs8 => ?_)
      have hd8 := hdz'.new hd.r.src hsz (by omega) hB2w hpl hql hf8
      have ho8 := ownNR_tr hoz hf8 (by simp; exact hB2N) hkz
      have hD : DEnd w w8 p q v (⟨k, 0, s, kids⟩, true, fi, bi, ei) [Value.int .i64 k, .int .i64 0, .string s, vk] :=
        ⟨rfl, hone vk hvk, fun _ => ⟨vk, rfl, fun S hS => ownNR_vs ho8 hkz (by omega) (fun k hk => by have := hS k hk; omega)⟩, ⟨vi, _, hd8, hsz, fun _ => rfl⟩, (hFwz.trans hf8 (by simp; omega))⟩
      refine rx ?_
      refine retc2 rfl rfl (fin w8 _ _ hb8 hRf hD) rfl ?_
      rw [hRf]
      exact ⟨_, rfl, hD⟩
    have hmi : m - i = (m - (i + 1)) + 1 := by omega
    rw [hmi, dK] at heq
    refine rx ?_
    refine s_call (IH fi bi ei p q vi z (by omega) (by omega) hdz' (by omega)) rfl ?_
    rintro _ z1 ⟨cs, rfl, hE⟩
    refine ⟨_, rfl, ?_⟩
    have hRok := dV_ok d fi bi ei hdz'.r.2.2.2 (by omega)
    generalize dV d fi bi ei = R at hE heq hRok ⊢
    obtain ⟨v1, zz, hd1, hsub1, hz1⟩ := hE.st
    have hfz1 := hE.fr
    have hRl := hRok.len
    have hRfu := hRok.fuel
    have hb4z1 := hb4z.tr hfz1 (by simp; omega)
    have hb2z1 := hb2z.tr hfz1 (by simp; omega)
    have hoz1 := ownNR_tr hoz hfz1 (by simp; omega) hkz
    have hlt0 := hoz.lt
    clear hb4z hb2z
    refine rx ?_
    refine s_alloc rfl (fun z2 hbz2 hfz2 hsz2 => ?_)
    refine s_storeAggB rfl rfl hbz2 hE.one rfl hE.len (fun z3 hbz3 hfz3 hsz3 => ?_)
    have hF13 : Fr [] z1 z3 := hfz2.trans hfz3 (by simp)
    have hb4z3 := hb4z1.tr0 hF13
    have hb2z3 := hb2z1.tr0 hF13
    have hoz3 := hoz1.tr0 (nrStab N1) hF13
    have hsub' := hsz.trans hsub1
    have hd3' := hd1.old hF13 (by simp)
    have hFwz1 : Fr [p, q] w z1 := hFwz.trans hfz1 (fun x hx => .inl hx)
    have hFwz3 : Fr [p, q] w z3 := hFwz1.trans0 hF13
    have hsz1 := hfz1.size
    have hsw1 := hFwz1.size
    clear hb4z1 hb2z1 hbz2
    obtain ⟨bb, hbb⟩ : ∃ bb, R.2.1 = bb := ⟨_, rfl⟩
    cases bb
    case false =>
      rw [if_neg (by rw [hbb]; simp)] at heq
      simp only [List.append_nil] at heq
      rw [heq] at hRf
      rw [hbb]
      refine rx ?_
      refine s_storeAggB (cs := [Value.int .i64 k, .int .i64 0, .string s, vk]) rfl rfl hb2z3 (hone vk hvk) rfl rfl (fun w8 hb8 hf8 hs8 => ?_)
      have hd8 := hd3'.new hd.r.src hsub' (by omega) hB2w hpl hql hf8
      have hD : DEnd w w8 p q v (⟨k, 0, s, kids⟩, false, R.2.2) [Value.int .i64 k, .int .i64 0, .string s, vk] :=
        ⟨rfl, hone vk hvk, fun h => by simp at h, ⟨v1, _, hd8, hsub', fun h => by simp at h⟩, (hFwz3.trans hf8 (by simp; omega))⟩
      refine rx ?_
      refine retc2 rfl rfl (fin w8 _ _ hb8 hRf hD) rfl ?_
      rw [hRf]
      exact ⟨_, rfl, hD⟩
    case true =>
      obtain ⟨sx, hcs, hvs⟩ := hE.val hbb
      subst hcs
      rw [if_pos hbb] at heq
      rw [hbb]
      have hbz3 : Blk z3 z1.heap.size (vc R.1 sx) 44 := hbz3
      have hNR : NR N1 z3 (blks vk) R.1 (vc R.1 sx) := by
        intro T hT
        have h1 := hvs (T ++ blks vk) (fun j hj => by
          rcases List.mem_append.1 hj with h | h
          · have := hT j h; omega
          · exact hlt0 j h)
        exact ⟨sx, rfl, h1.tr0 hF13⟩
      refine rx ?_
      refine s_pushA (R := NR N1) (a := R.1) (cs := vc R.1 sx) hoz3 (nrStab N1) rfl rfl rfl hNR rfl rfl rfl (by unfold maxLen; omega) (by omega) (fun v' z4 ho4 hf4 hk4 => ?_)
      have hb4z4 := hb4z3.tr hf4 (fun hm => by have := hkz _ hm; omega)
      have hb2z4 := hb2z3.tr hf4 (fun hm => by have := hkz _ hm; omega)
      clear hb4z3 hb2z3
      have hk4' : ∀ b ∈ blks v', N1 ≤ b := fun b hb => by
        rcases hk4 b hb with h | h
        · exact hkz b h
        · have := hF13.size; omega
      refine rx ?_
      ((with_reducible apply s_storeB); exact rfl; (conv => lhs; whnf); exact ho4.one; exact hb4z4; exact rfl)
      intro z5 hbz5 hfz5 hsz5
      have hbz5 : Blk z5 B4 [.int .i64 k, .int .i64 0, .string s, v'] 44 := hbz5
      have hb2z5 := hb2z4.tr hfz5 (by simp; exact hB24)
      have ho5 := ownNR_tr ho4 hfz5 (by simp; exact hB4N) hk4'
      have hd4 := hd3'.newS hd.r.src hsub' (by omega) (fun b hb => by have := hkz b hb; omega) hpl hql hf4
      have hd5 := hd4.new hd.r.src hsub' (by omega) hB4w hpl hql hfz5
      rw [hz1 hbb] at hd5
      refine rx ?_
      refine q_roundK ⟨i + 1, v', kids ++ [R.1], R.2.2.1, R.2.2.2.1, R.2.2.2.2, v1⟩ (by (repeat (first | exact Keep.mrg _ _ _ _ | (refine Keep.hi rfl ?_) | (refine Keep.one rfl ?_) | exact Keep.all rfl | (refine Keep.inn rfl ?_) | (refine Keep.set rfl ?_)))) ⟨rfl, ⟨by simp only; omega, hd5, hbz5, hb2z5, ho5, hk4', ?_, ?_, hsub', by simp only; omega, by simp only; omega, by simp [hkl]⟩⟩ (by simp only; omega)
      · simp only
        rw [heq]
        simp
      · refine (((hfz.trans hfz1 (fun x hx => .inl (by simp at hx ⊢; omega))).trans0 hF13).trans hf4 (fun b hb => .inr (by have := hkz b hb; omega))).trans hfz5 (by simp)
theorem dvC : ∀ (d f : Nat) (bs : List Int) (e : Int) (p q : Nat) (v : Value) (w : World), f < d → f ≤ 1024 → IsD w p q v bs e (1024 - f) → bs.length ≤ 1000000000 →
      Calls Try.prog 88 #[.pointer (some ⟨q, 0, none⟩)] w fun r w' => ∃ cs, r = .returned (.tuple #[.agg cs.toArray, .bool (dV d f bs e).2.1]) ∧ DEnd w w' p q v (dV d f bs e) cs := by
  intro d
  induction d with
  | zero => intro f bs e p q v w h; omega
  | succ d ih => intro f bs e p q v w h1 h2 h3 h4; exact dvStep d ih f bs e p q v w h1 h2 h3 h4
end Go.Proofs.Ytcogpedfnnfnaaa
