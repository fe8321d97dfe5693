/-
  read of the law package, Same of the reference.
-/
import Derived.Test.YtinafhpbhajdpaaVals
namespace Go.Proofs.Ytinafhpbhajdpaa
set_option linter.unusedVariables false
open Go.Rf Go.RowKit
attribute [local irreducible] Code.wp wpList Exit.then Exit.inBlock bodyPost A Calls

/-- what reading a value of a kind gives -/
def rdV (k : Int) (bs : List Int) (e : Int) : Val × List Int × Int :=
  if k = 0 then (⟨k, (rdU bs e).1, 0, [], []⟩, (rdU bs e).2) else
  if k = 1 then (⟨k, 0, (rdI bs e).1, [], []⟩, (rdI bs e).2) else
  if k = 2 then (⟨k, 0, if (rdB bs e).1 then 1 else 0, [], []⟩, (rdB bs e).2) else
  if k = 3 ∨ k = 4 then (⟨k, 0, 0, (rdR bs e).1, []⟩, (rdR bs e).2) else (⟨k, 0, 0, [], (rdIs bs e).1⟩, (rdIs bs e).2)

/-- a value whose bytes and list lie in blocks from N on -/
structure NewVal (N : Nat) (w : World) (v : Val) (vb vl : Value) : Prop where
  b : Src w vb v.b.length (v.b.map (.int .u8))
  l : Src w vl v.l.length (v.l.map (.int .i64))
  ob : ∀ S, (∀ k ∈ S, k < N) → Off vb (v.b.map (.int .u8)) S
  ol : ∀ S, (∀ k ∈ S, k < N) → Off vl (v.l.map (.int .i64)) S
theorem NewVal.tr {N : Nat} {S : List Nat} {w w' : World} {v : Val} {vb vl : Value} (h : NewVal N w v vb vl) (hf : Fr S w w') (hS : ∀ k ∈ S, k < N) : NewVal N w' v vb vl :=
  ⟨h.b.tr hf (h.ob S hS), h.l.tr hf (h.ol S hS), h.ob, h.ol⟩
theorem NewVal.mono {N M : Nat} {w : World} {v : Val} {vb vl : Value} (h : NewVal N w v vb vl) (hM : M ≤ N) : NewVal M w v vb vl :=
  ⟨h.b, h.l, fun S hS => h.ob S (fun k hk => by have := hS k hk; omega), fun S hS => h.ol S (fun k hk => by have := hS k hk; omega)⟩
theorem NewVal.is {N : Nat} {S : List Nat} {w : World} {v : Val} {vb vl : Value} (h : NewVal N w v vb vl) (hv : v.Ok) (hS : ∀ k ∈ S, k < N) : IsVal w S v vb vl := ⟨hv, h.b, h.l, h.ob S hS, h.ol S hS⟩
theorem off_new {N : Nat} {v : Value} {ys : List Value} (h : ∀ k ∈ blks v, N ≤ k) : ∀ S, (∀ k ∈ S, k < N) → Off v ys S := by
  intro S hS ad n c e _ hm
  have h1 := h ad.block (by rw [e]; simp [blks, Value.ownBlock])
  have h2 := hS _ hm
  omega
theorem IsR.fresh {w w' : World} {p : Nat} {v : Value} {bs : List Int} {e : Int} {S : List Nat} (h : IsR w p v bs e) (hf : Fr S w w') (hS : ∀ k ∈ S, w.heap.size ≤ k) : IsR w' p v bs e :=
  ⟨h.1.old hf hS, h.2.1.old hf hS, h.2.2⟩

theorem rdMany_ok : ∀ (k : Nat) (bs : List Int) (e : Int), Bys bs → (rdMany k bs e).1.length ≤ k ∧ (∀ n ∈ (rdMany k bs e).1, InI64 n) ∧ (rdMany k bs e).2.1.length ≤ bs.length ∧ Bys (rdMany k bs e).2.1
  | 0, bs, e, hB => ⟨by simp [rdMany], by simp [rdMany], Nat.le_refl _, hB⟩
  | k + 1, bs, e, hB => by
    unfold rdMany
    split
    · exact ⟨by simp, by simp, Nat.le_refl _, hB⟩
    · have hu := rdU_ok (e := e) hB
      have ih := rdMany_ok k (rdI bs e).2.1 (rdI bs e).2.2 (rdU_bys hB)
      refine ⟨by simp only [List.length_cons]; omega, ?_, ?_, ih.2.2.2⟩
      · intro n hn
        rcases List.mem_cons.1 hn with rfl | h
        · exact back_range hu.1
        · exact ih.2.1 n h
      · have : (rdI bs e).2.1.length ≤ bs.length := hu.2.1
        simp only; omega
theorem rdN_bys {bs : List Int} {e : Int} (hB : Bys bs) : Bys (rdN bs e).2.1 := by
  obtain ⟨_, _, ⟨k, h⟩, _⟩ := rdN_ok (e := e) hB
  rw [h]; exact hB.drop k
theorem rdIs_ok {bs : List Int} {e : Int} (hB : Bys bs) : (rdIs bs e).1.length ≤ bs.length ∧ (∀ n ∈ (rdIs bs e).1, InI64 n) ∧ (rdIs bs e).2.1.length ≤ bs.length ∧ Bys (rdIs bs e).2.1 := by
  have h1 := rdN_ok (e := e) hB
  have h2 := rdMany_ok (rdN bs e).1 (rdN bs e).2.1 (rdN bs e).2.2 (rdN_bys hB)
  unfold rdIs
  refine ⟨?_, ?_, by simp only; omega, h2.2.2.2⟩
  · simp only; split
    · simp
    · omega
  · simp only; split
    · simp
    · exact h2.2.1
theorem rdB_ok {bs : List Int} {e : Int} (hB : Bys bs) : (rdB bs e).2.1.length ≤ bs.length ∧ Bys (rdB bs e).2.1 := by
  unfold rdB
  split
  · exact ⟨Nat.le_refl _, hB⟩
  · cases bs with
    | nil => exact ⟨Nat.le_refl _, hB⟩
    | cons b l =>
      simp only; split
      · exact ⟨Nat.le_refl _, hB⟩
      · exact ⟨by simp, fun x hx => hB x (by simp [hx])⟩
theorem rdV_ok {k : Int} {bs : List Int} {e : Int} (hB : Bys bs) (hk0 : 0 ≤ k) (hk6 : k < 6) (hl : bs.length ≤ 1000000) : (rdV k bs e).1.Ok ∧ (rdV k bs e).1.kind = k ∧ (rdV k bs e).2.1.length ≤ bs.length ∧ Bys (rdV k bs e).2.1 := by
  have hu := rdU_ok (e := e) hB
  have hbk := back_range hu.1
  have hn := rdN_ok (e := e) hB
  have hi := rdIs_ok (e := e) hB
  have hb := rdB_ok (e := e) hB
  have hki : InI64 k := ⟨by omega, by omega⟩
  have h0 : InI64 0 := ⟨by simp, by simp⟩
  unfold rdV
  split
  · exact ⟨⟨hki, hu.1, h0, by simp [Bys], by simp, by simp, by simp⟩, rfl, hu.2.1, rdU_bys hB⟩
  split
  · exact ⟨⟨hki, by simp, hbk, by simp [Bys], by simp, by simp, by simp⟩, rfl, hu.2.1, rdU_bys hB⟩
  split
  · refine ⟨⟨hki, by simp, ?_, by simp [Bys], by simp, by simp, by simp⟩, rfl, hb.1, hb.2⟩
    · simp only; split
      · exact ⟨by omega, by omega⟩
      · exact h0
  split
  · refine ⟨⟨hki, by simp, h0, ?_, by simp, ?_, by simp⟩, rfl, ?_, ?_⟩
    · exact (rdN_bys hB).take _
    · simp only [rdR, List.length_take]; omega
    · simp only [rdR, List.length_drop]; omega
    · exact (rdN_bys hB).drop _
  · exact ⟨⟨hki, by simp, h0, by simp [Bys], hi.2.1, by simp, by simp only; omega⟩, rfl, hi.2.2.1, hi.2.2.2⟩

theorem sb_strOf_data (bs : List Int) (h : Bys bs) : (strOf bs).data.toList.map (fun b => Value.int .u8 b.toNat) = bs.map (.int .u8) := by
  have := strOf_sb h
  unfold sb at this
  conv => rhs; rw [← this]
  simp

set_option maxHeartbeats 4000000 in
theorem lawRead (p : Nat) (k : Int) (v : Value) (bs : List Int) (e : Int) (w : World) (hr : IsR w p v bs e) (hk0 : 0 ≤ k) (hk6 : k < 6) (hl : bs.length ≤ 1000000) :
    Calls Try.prog 32 #[.pointer (some ⟨p, 0, none⟩), .int .i64 k] w fun r w' =>
      ∃ vb vl, r = .returned (.agg (vcells (rdV k bs e).1 vb vl).toArray) ∧ NewVal w.heap.size w' (rdV k bs e).1 vb vl ∧ RStep p w v (rdV k bs e).2.1 (rdV k bs e).2.2 w' := by
  have hp : p < w.heap.size := hr.1.lt
  refine enter Try.func32 rfl Try.ntmps32 rfl ?_
  refine rn ?_
  refine s_alloc rfl (fun w1 hb1 hf1 hs1 => ?_)
  obtain ⟨N, hN⟩ : ∃ N, w.heap.size = N := ⟨_, rfl⟩
  rw [hN] at hb1 hs1 hp ⊢
  refine rn ?_
  refine s_build [.int .i64 k, .int .u64 0, .int .i64 0, .slice none 0 0, .slice none 0 0] rfl ?_
  refine s_alloc rfl (fun w2 hb2 hf2 hs2 => ?_)
  rw [hs1] at hb2 hs2 ⊢
  refine s_storeAggB rfl rfl hb2 (by simp [Value.oneCell']) rfl rfl (fun u hbu hfu hsu => ?_)
  have hF : Fr [] w u := (hf1.trans0 hf2).trans hfu (by simp; omega)
  have hb4 := (hb1.tr0 hf2).tr hfu (by simp)
  have hru : IsR u p v bs e := hr.fresh hF (by simp)
  have szu : u.heap.size = N + 2 := by omega
  have hoffv : ∀ v' (bs' : List Int), Sub v v' → bs'.length ≤ bs.length → ∀ S, (∀ x ∈ S, N ≤ x) → Off v' (bs'.map (.int .u8)) S := by
    intro v' bs' hs hle S hS
    refine hs.off (ys := bs.map (.int .u8)) (by simp; omega) (hr.2.1.off (fun x hx => by have := hS x hx; omega))
  refine wpList_nil ?_
  refine q_then ?_
  refine wp_seq ?_
  -- the end of every case
  have fin : ∀ (X : Val) (L : List Int) (E : Int) (xb xl : Value) (u1 u2 : World) (v1 : Value) (l : List Value), IsR u1 p v1 L E → Fr [p] u u1 → Sub v v1 → L.length ≤ bs.length →
      Blk u2 (N + 1) l 37 → Fr [N + 1] u1 u2 → NewVal (N + 2) u1 X xb xl → l = vcells X xb xl →
      Blk u2 (N + 1) (vcells X xb xl) 37 ∧ Blk u2 N [.int .i64 0, .int .u64 0, .int .i64 0, .slice none 0 0, .slice none 0 0] 37 ∧ NewVal (N + 2) u2 X xb xl ∧ RStep p w v L E u2 := by
    intro X L E xb xl u1 u2 v1 l hr1 hf1' hsub hL hb hf2' hnv hl'
    subst hl'
    refine ⟨hb, (hb4.tr hf1' (by simp; omega)).tr hf2' (by simp), hnv.tr hf2' (by simp), v1, ⟨hr1.1.tr hf2' (by simp; omega), hr1.2.1.tr hf2' (hoffv v1 L hsub hL _ (by simp)), hr1.2.2⟩, ?_, hsub⟩
    exact ((hF.mono (by simp)).trans hf1' (by simp)).trans hf2' (by simp; omega)
  refine c_cut (fun g' u' => ∃ xb xl, g' 4 = .pointer (some ⟨N, 0, none⟩) ∧ g' 5 = .pointer (some ⟨N + 1, 0, none⟩) ∧ Blk u' (N + 1) (vcells (rdV k bs e).1 xb xl) 37 ∧ Blk u' N [.int .i64 0, .int .u64 0, .int .i64 0, .slice none 0 0, .slice none 0 0] 37 ∧
    NewVal (N + 2) u' (rdV k bs e).1 xb xl ∧ RStep p w v (rdV k bs e).2.1 (rdV k bs e).2.2 u') ?_ ?_
  · have hok := rdV_ok (e := e) hr.2.2.2 hk0 hk6 hl
    have hlen := hok.2.2.1
    have nil2 : ∀ (u' : World) (X : Val), X.b = [] → X.l = [] → NewVal (N + 2) u' X (.slice none 0 0) (.slice none 0 0) := fun u' X h1 h2 =>
      ⟨by rw [h1]; exact Src.nil _, by rw [h2]; exact Src.nil _, fun S _ _ _ _ e => (by cases e), fun S _ _ _ _ e => (by cases e)⟩
    by_cases k0 : k = 0
    · have hX : rdV k bs e = (⟨k, (rdU bs e).1, 0, [], []⟩, (rdU bs e).2) := if_pos k0
      rw [hX] at hlen ⊢
      refine rn ?_
      refine s_call (rUint p v bs e u hru) rfl ?_
      rintro _ u1 ⟨rfl, v1, hr1, hf1', hsub1⟩
      refine ⟨_, rfl, ?_⟩
      have hb5 := hbu.tr hf1' (by simp; omega)
      refine rn ?_
      ((with_reducible apply s_storeB); exact rfl; (conv => lhs; whnf); exact rfl; exact hb5; exact rfl)
      intro u2 hb2' hf2' _
      refine rn ?_
      exact q_cut ⟨_, _, rfl, rfl, fin _ _ _ _ _ u1 u2 v1 _ hr1 hf1' hsub1 hlen hb2' hf2' (nil2 _ _ rfl rfl) rfl⟩
    by_cases k1 : k = 1
    · have hX : rdV k bs e = (⟨k, 0, (rdI bs e).1, [], []⟩, (rdI bs e).2) := by rw [rdV, if_neg k0, if_pos k1]
      rw [hX] at hlen ⊢
      refine rn ?_
      refine s_call (rInt p v bs e u hru) rfl ?_
      rintro _ u1 ⟨rfl, v1, hr1, hf1', hsub1⟩
      refine ⟨_, rfl, ?_⟩
      have hb5 := hbu.tr hf1' (by simp; omega)
      refine rn ?_
      ((with_reducible apply s_storeB); exact rfl; (conv => lhs; whnf); exact rfl; exact hb5; exact rfl)
      intro u2 hb2' hf2' _
      refine rn ?_
      exact q_cut ⟨_, _, rfl, rfl, fin _ _ _ _ _ u1 u2 v1 _ hr1 hf1' hsub1 hlen hb2' hf2' (nil2 _ _ rfl rfl) rfl⟩
    by_cases k2 : k = 2
    · have hX : rdV k bs e = (⟨k, 0, if (rdB bs e).1 then 1 else 0, [], []⟩, (rdB bs e).2) := by rw [rdV, if_neg k0, if_neg k1, if_pos k2]
      rw [hX] at hlen ⊢
      refine rn ?_
      refine s_call (rBool p v bs e u hru (by omega)) rfl ?_
      rintro _ u1 ⟨rfl, v1, hr1, hf1', hsub1⟩
      refine ⟨_, rfl, ?_⟩
      have hb5 := hbu.tr hf1' (by simp; omega)
      rcases hq : (rdB bs e).1 with _ | _
      · refine rn ?_
        exact q_cut ⟨_, _, rfl, rfl, fin _ _ _ _ _ u1 u1 v1 _ hr1 hf1' hsub1 hlen hb5 (Fr.refl _ _) (nil2 _ _ rfl rfl) rfl⟩
      · refine rn ?_
        ((with_reducible apply s_storeB); exact rfl; (conv => lhs; whnf); exact rfl; exact hb5; exact rfl)
        intro u2 hb2' hf2' _
        refine rn ?_
        exact q_cut ⟨_, _, rfl, rfl, fin _ _ _ _ _ u1 u2 v1 _ hr1 hf1' hsub1 hlen hb2' hf2' (nil2 _ _ rfl rfl) rfl⟩
    by_cases k3 : k = 3
    · have hX : rdV k bs e = (⟨k, 0, 0, (rdR bs e).1, []⟩, (rdR bs e).2) := by rw [rdV, if_neg k0, if_neg k1, if_neg k2, if_pos (.inl k3)]
      rw [hX] at hlen hok ⊢
      refine rn ?_
      refine s_call (rText p v bs e u hru (by omega)) rfl ?_
      rintro _ u1 ⟨rfl, v1, hr1, hf1', hsub1⟩
      refine ⟨_, rfl, ?_⟩
      refine s_fromStr rfl (fun c u2 hc hs2 hf2' => ?_)
      rw [strOf_size, sb_strOf_data _ hok.1.b] at hs2
      have z1 := hf1'.size
      have hb5 := (hbu.tr hf1' (by simp; omega)).tr0 hf2'
      rw [strOf_size]
      refine rn ?_
      ((with_reducible apply s_storeB); exact rfl; (conv => lhs; whnf); exact rfl; exact hb5; exact rfl)
      intro u3 hb2' hf3' _
      refine rn ?_
      refine q_cut ⟨_, _, rfl, rfl, fin _ _ _ _ _ u2 u3 v1 _ (hr1.fresh hf2' (by simp)) (hf1'.trans0 hf2') hsub1 hlen hb2' hf3' ⟨hs2, Src.nil _, off_new (by simp [blks, Value.ownBlock]; omega), fun S _ _ _ _ e => (by cases e)⟩ rfl⟩
    by_cases k4 : k = 4
    · have hX : rdV k bs e = (⟨k, 0, 0, (rdR bs e).1, []⟩, (rdR bs e).2) := by rw [rdV, if_neg k0, if_neg k1, if_neg k2, if_pos (.inr k4)]
      rw [hX] at hlen ⊢
      refine rn ?_
      refine s_call (rRaw p v bs e u hru (by omega)) rfl ?_
      rintro _ u1 ⟨vr, rfl, ho1, hk1, v1, hr1, hf1', hsub1⟩
      refine ⟨_, rfl, ?_⟩
      have hb5 := hbu.tr hf1' (by simp; omega)
      refine rn ?_
      ((with_reducible apply s_storeB); exact rfl; (conv => lhs; whnf); exact ho1.one; exact hb5; exact rfl)
      intro u2 hb2' hf2' _
      refine rn ?_
      exact q_cut ⟨_, _, rfl, rfl, fin _ _ _ _ _ u1 u2 v1 _ hr1 hf1' hsub1 hlen hb2' hf2' ⟨ho1.src, Src.nil _, off_new (by rw [← szu]; exact hk1), fun S _ _ _ _ e => (by cases e)⟩ rfl⟩
    · have hX : rdV k bs e = (⟨k, 0, 0, [], (rdIs bs e).1⟩, (rdIs bs e).2) := by rw [rdV, if_neg k0, if_neg k1, if_neg k2, if_neg (by omega)]
      rw [hX] at hlen ⊢
      refine rn ?_
      refine s_call (rInts p v bs e u hru (by omega)) rfl ?_
      rintro _ u1 ⟨vr, rfl, ho1, hk1, v1, hr1, hf1', hsub1⟩
      refine ⟨_, rfl, ?_⟩
      have hb5 := hbu.tr hf1' (by simp; omega)
      refine rn ?_
      ((with_reducible apply s_storeB); exact rfl; (conv => lhs; whnf); exact ho1.one; exact hb5; exact rfl)
      intro u2 hb2' hf2' _
      refine rn ?_
      exact q_cut ⟨_, _, rfl, rfl, fin _ _ _ _ _ u1 u2 v1 _ hr1 hf1' hsub1 hlen hb2' hf2' ⟨Src.nil _, ho1.src, fun S _ _ _ _ e => (by cases e), off_new (by rw [← szu]; exact hk1)⟩ rfl⟩
  · rintro g' u' ⟨xb, xl, h4, h5, hb5, hb4', hnv, v1, hr1, hf', hsub⟩
    rw [eq_upd h4, eq_upd h5]
    refine rn ?_
    refine s_loadAggB rfl hb5 rfl ?_
    have hone : ∀ c ∈ vcells (rdV k bs e).1 xb xl, c.oneCell' = true := by
      intro c hc
      simp only [vcells, List.mem_cons, List.not_mem_nil, or_false] at hc
      rcases hc with rfl | rfl | rfl | rfl | rfl
      · rfl
      · rfl
      · rfl
      · exact hnv.b.one
      · exact hnv.l.one
    refine s_storeAggB rfl rfl hb4' hone rfl rfl (fun u2 hb6 hf6 _ => ?_)
    refine rn ?_
    refine retc rfl rfl (AggT.load _ (vcells (rdV k bs e).1 xb xl) rfl (fun j x hx => by rw [add_lit]; exact hb6.cell (by simpa using hx))) ⟨xb, xl, rfl, (hnv.tr hf6 (by simp)).mono (by omega), v1, ⟨hr1.1.tr hf6 (by simp; omega), hr1.2.1.tr hf6 ?_, hr1.2.2⟩, hf'.trans hf6 (by simp; omega), hsub⟩
    exact hoffv v1 _ hsub (rdV_ok (e := e) hr.2.2.2 hk0 hk6 hl).2.2.1 _ (by simp)

def Val.same (a b : Val) : Bool := decide (a.kind = b.kind ∧ (a.u : Int) = b.u ∧ a.n = b.n ∧ a.b = b.b ∧ a.l = b.l)
theorem Val.same_iff {a b : Val} : a.same b = true ↔ a = b := by
  cases a; cases b
  simp [Val.same]; omega
theorem same_refl (a : Val) : a.same a = true := Val.same_iff.2 rfl

theorem refSame (a b : Val) (ab al bb bl : Value) (w : World) (ha : IsVal w [] a ab al) (hb : IsVal w [] b bb bl) :
    Calls Try.prog 31 #[.agg (vcells a ab al).toArray, .agg (vcells b bb bl).toArray] w fun r w' => r = .returned (.bool (a.same b)) ∧ Fr [] w w' := by
  have la := ha.ok.bl
  have ll := ha.ok.ll
  refine enter Try.func31 rfl Try.ntmps31 rfl ?_
  refine rn ?_
  refine s_box rfl rfl (fun w1 hb1 hf1 hs1 => ?_)
  refine rn ?_
  refine s_box rfl rfl (fun w2 hb2 hf2 hs2 => ?_)
  have hF2 := hf1.trans0 hf2
  replace hb1 := hb1.tr0 hf2
  refine rn ?_
  refine s_call (sameBytes ab bb a.b b.b w2 (ha.b.tr0 hF2) (hb.b.tr0 hF2) (by omega)) rfl ?_
  rintro _ w3 ⟨rfl, hf3⟩
  refine ⟨_, rfl, ?_⟩
  have hF3 := hF2.trans0 hf3
  replace hb1 := hb1.tr0 hf3
  replace hb2 := hb2.tr0 hf3
  refine rn ?_
  refine s_call (sameInts al bl a.l b.l w3 (ha.l.tr0 hF3) (hb.l.tr0 hF3) (by omega)) rfl ?_
  rintro _ w4 ⟨rfl, hf4⟩
  refine ⟨_, rfl, ?_⟩
  have hF4 := hF3.trans0 hf4
  replace hb1 := hb1.tr0 hf4
  replace hb2 := hb2.tr0 hf4
  refine rn ?_
  by_cases q1 : a.kind = b.kind
  case neg =>
    refine rn ?_
    (apply ret1; exact rfl; (conv => lhs; whnf))
    exact ⟨by simp [Val.same, q1], hF4⟩
  by_cases q2 : (a.u : Int) = b.u
  case neg =>
    refine rn ?_
    (apply ret1; exact rfl; (conv => lhs; whnf))
    exact ⟨by simp [Val.same]; omega, hF4⟩
  by_cases q3 : a.n = b.n
  case neg =>
    refine rn ?_
    (apply ret1; exact rfl; (conv => lhs; whnf))
    exact ⟨by simp [Val.same, q3], hF4⟩
  have e4 : a.same b = (decide (a.b = b.b) && decide (a.l = b.l)) := by simp [Val.same, q1, q2, q3]
  rw [e4]
  rcases q4 : decide (a.b = b.b) with _ | _
  · refine rn ?_
    (apply ret1; exact rfl; (conv => lhs; whnf))
    exact ⟨rfl, hF4⟩
  · refine rn ?_
    (apply ret1; exact rfl; (conv => lhs; whnf))
    exact ⟨rfl, hF4⟩
end Go.Proofs.Ytinafhpbhajdpaa
