/-
  history.Decode. An append that tells that what was there can still be read; the law HistoryBytes, its plain parts.
-/
import Derived.Test.YtcogpedfnnfnaaaB5
import Derived.Test.YtcogpedfnnfnaaaHv
import Derived.Test.YtcogpedfnnfnaaaB4
import Derived.Test.YtcogpedfnnfnaaaM3
namespace Go.Proofs.Ytcogpedfnnfnaaa
open Go.Rf Go.RowKit
set_option linter.unusedVariables false
set_option maxHeartbeats 16000000
attribute [local irreducible] Code.wp wpList Exit.then Exit.inBlock bodyPost A Calls execOp Addr.add

structure OSt where
  n : Nat
  vl : Value
  l : List Ev
  st : HS
  v : Value
structure OInv (w1 z : World) (p b4 b5 : Nat) (v0 : Value) (bs0 : List Int) (N0 : Nat) (st0 : HS) (o : OSt) : Prop where
  hd : HD w1 z p b4 b5 v0 bs0 o.v o.st
  eq : hEvs N0 st0 = (o.l ++ (hEvs o.n o.st).1, (hEvs o.n o.st).2)
  own : OwnR z 61 8 (newR EvR w1.heap.size) o.l o.vl
  new : ∀ k ∈ blks o.vl, w1.heap.size ≤ k
  len : o.l.length + o.n ≤ 64
structure ASt where
  n : Nat
  va : Value
  args : List V
  st : HS
  v : Value
structure AInv (w1 z u : World) (p b4 b5 b10 N2 : Nat) (v0 : Value) (bs0 : List Int) (K C : Int) (NM : ByteArray) (M : Nat) (stA : HS) (a : ASt) : Prop where
  hd : HD w1 u p b4 b5 v0 bs0 a.v a.st
  eq : hArgs M stA = (a.args ++ (hArgs a.n a.st).1, (hArgs a.n a.st).2)
  b10 : Blk u b10 [.int .i64 K, .int .i64 C, .string NM, a.va, .int .i64 0, .int .i64 0, .string ⟨#[]⟩, .slice none 0 0] 61
  own : OwnR u 44 4 (NR N2) a.args a.va
  new : ∀ k ∈ blks a.va, N2 ≤ k
  len : a.args.length + a.n ≤ 16
  fr : Fr [p, b5] z u
  sz : N2 ≤ u.heap.size

set_option maxRecDepth 8000 in
theorem decodeHC (x : Value) (bs : List Int) (w : World) (hx : Src w x bs.length (bs.map (.int .u8))) (hB : Bys bs) (hl : bs.length ≤ 1000000000) :
    Calls Try.prog 37 #[x] w fun r w' => ∃ v', r = .returned (.tuple #[v', .int .i64 (decH bs).2]) ∧ OwnR w' 61 8 EvR (decH bs).1 v' ∧ (∀ k ∈ blks v', w.heap.size ≤ k) ∧ Fr [] w w' := by
  refine enter Try.func37 rfl Try.ntmps37 rfl ?_
  refine rx ?_
  refine s_call (wRead x bs w hx hB (by omega)) rfl ?_
  rintro _ u1 ⟨p, v0, rfl, hr1, hf1, hp1, hk1, hown1⟩
  refine ⟨_, rfl, ?_⟩
  have hpl := hr1.1.lt
  refine s_alloc rfl (fun u2 hb2 hf2 hs2 => ?_)
  obtain ⟨b4, hb4⟩ : ∃ b4, u1.heap.size = b4 := ⟨_, rfl⟩
  rw [hb4] at hb2 ⊢
  ((with_reducible apply s_storeB); exact rfl; (conv => lhs; whnf); exact rfl; exact hb2; exact rfl)
  intro u3 hb3 hf3 hs3
  have hb3 : Blk u3 b4 [.pointer (some ⟨p, 0, none⟩)] 78 := hb3
  refine rx ?_
  refine s_alloc rfl (fun u4 hb4' hf4 hs4 => ?_)
  obtain ⟨b5, hb5⟩ : ∃ b5, u3.heap.size = b5 := ⟨_, rfl⟩
  rw [hb5] at hb4' ⊢
  ((with_reducible apply s_storeB); exact rfl; (conv => lhs; whnf); exact rfl; exact hb4'; exact rfl)
  intro w1 hb6 hf6 hs6
  have hb6 : Blk w1 b5 [.bool false] 4 := hb6
  have hF13 : Fr [] u1 u3 := hf2.trans hf3 (by simp; omega)
  have hF3w : Fr [] u3 w1 := hf4.trans hf6 (by simp; omega)
  have hF1w : Fr [] u1 w1 := hF13.trans0 hF3w
  have hFw : Fr [] w w1 := hf1.trans0 hF1w
  have hs1 := hf1.size
  have c : HC w1 p b4 b5 v0 bs := ⟨hr1.2.1.tr0 hF1w, fun ad n c' e hp hm => by
    simp only [List.mem_cons, List.not_mem_nil, or_false] at hm
    rcases hm with h | h | h
    · exact hr1.2.2.1 ad n c' e hp (by simp [h])
    · exact hr1.2.1.off (S := [b4]) (by simp; omega) ad n c' e hp (by simp [h])
    · exact hr1.2.1.off (S := [b5]) (by simp; omega) ad n c' e hp (by simp [h]), by omega, by omega, by omega, by omega, by omega, by omega, hl⟩
  have hD1 : HD w1 w1 p b4 b5 v0 bs v0 (bs, 0, false) := ⟨⟨hr1.1.tr0 hF1w, hr1.2.1.tr0 hF1w, hr1.2.2⟩, hb3.tr0 hF3w, hb6, Sub.refl v0, Nat.le_refl _, Fr.refl _ _⟩
  have hpw : w.heap.size ≤ p ∧ w.heap.size ≤ b5 := by omega
  have hcp := c.lp
  have hc4 := c.l4
  have hc5 := c.l5
  have hn1 := c.n1
  have hn2 := c.n2
  have hn3 := c.n3
  clear hb3 hb6 hb2 hb4'
  refine rx ?_
  refine s_makeFunc (a := []) (b := [.pointer (some ⟨b4, 0, none⟩), .pointer (some ⟨b5, 0, none⟩)]) rfl rfl ?_
  refine rx ?_
  refine s_makeFunc (a := []) (b := [.pointer (some ⟨b4, 0, none⟩), .pointer (some ⟨b5, 0, none⟩)]) rfl rfl ?_
  refine rx ?_
  refine s_callV (first := []) (cap := [.pointer (some ⟨b4, 0, none⟩), .pointer (some ⟨b5, 0, none⟩)]) (cntC c 64 (by omega) v0 (bs, 0, false) w1 hD1) rfl rfl rfl ?_
  rintro _ w2 ⟨rfl, v2, hD2, hfr2⟩
  refine ⟨_, rfl, ?_⟩
  have hN0 := hCnt_le (st := (bs, 0, false)) (most := 64)
  have hgd := hCnt_good (st := (bs, 0, false)) (n := bs.length) (most := 64) ⟨hB, Nat.le_refl _⟩
  have hgE := (hEvs_good hl (hCnt 64 (bs, 0, false)).1 (hCnt 64 (bs, 0, false)).2 hgd)
  have hdec : decH bs = if (hEvs (hCnt 64 (bs, 0, false)).1 (hCnt 64 (bs, 0, false)).2).2.2.2 = true ∨ rdEnd (hEvs (hCnt 64 (bs, 0, false)).1 (hCnt 64 (bs, 0, false)).2).2.1 (hEvs (hCnt 64 (bs, 0, false)).1 (hCnt 64 (bs, 0, false)).2).2.2.1 ≠ 0 ∨ validH (hEvs (hCnt 64 (bs, 0, false)).1 (hCnt 64 (bs, 0, false)).2).1 ≠ 0 then ([], 2) else ((hEvs (hCnt 64 (bs, 0, false)).1 (hCnt 64 (bs, 0, false)).2).1, 0) := rfl
  generalize (hCnt 64 (bs, 0, false)).1 = N0 at hN0 hgE hdec ⊢
  generalize (hCnt 64 (bs, 0, false)).2 = st0 at hD2 hgE hdec
  refine rx ?_
  refine c_loop (σ := OSt) (fun o g z => g 4 = .pointer (some ⟨b4, 0, none⟩) ∧ g 5 = .pointer (some ⟨b5, 0, none⟩) ∧ g 6 = .func (.func 69) #[] #[.pointer (some ⟨b4, 0, none⟩), .pointer (some ⟨b5, 0, none⟩)] ∧ g 7 = .func (.func 70) #[] #[.pointer (some ⟨b4, 0, none⟩), .pointer (some ⟨b5, 0, none⟩)] ∧ g 8 = o.vl ∧ g 9 = .int .i64 o.n ∧ OInv w1 z p b4 b5 v0 bs N0 st0 o) (fun o => o.n) ⟨N0, .slice none 0 0, [], st0, v2⟩
    ⟨rfl, rfl, rfl, rfl, rfl, rfl, ⟨hD2, by simp, OwnR.nil _ _ _ _, by simp [blks, Value.ownBlock], by simpa using hN0⟩⟩ ?_
  rintro ⟨n, vl, l, st, v⟩ g z ⟨h4, h5, h6, h7, h8, h9, hD, heq, hown, hnew, hlen⟩
  simp only at h8 h9 hD heq hown hnew hlen
  rw [eq_upd h4, eq_upd h5, eq_upd h6, eq_upd h7, eq_upd h8, eq_upd h9]
  have hk5 := hD.k5
  have hk4 := hD.k4
  have hwz := hD.fr.size
  have hFwz : Fr [] w z := hFw.trans hD.fr (by simp; omega)
  have hend : (n = 0 ∨ st.2.2 = true) → hEvs N0 st0 = (l, st) := by
    intro h
    have : hEvs n st = ([], st) := by
      cases n with
      | zero => rfl
      | succ n =>
        rw [hEvs, if_pos]
        rcases h with h | h
        · omega
        · exact h
    rw [heq, this]; simp
  by_cases hgo : 0 < n ∧ st.2.2 = false
  case neg =>
    have hE := hend (by cases hst : st.2.2; exact .inl (by simp [hst] at hgo; omega); exact .inr rfl)
    rw [hE] at hdec hgE
    simp only at hdec hgE
    obtain ⟨hg1, hg2, hg3⟩ := hgE
    have hvok : ∀ e ∈ l, EvOk e := fun e he => ⟨fun v hv => ((hg2 e he).args v hv).ok, (hg2 e he).res.ok⟩
    have hle : l.length ≤ 64 := by omega
    have hsl : EvS z l vl := (hown.sl (newStab evStab _)).imp (fun x cs _ hr => by simpa using hr [] (by simp))
    have hownE : OwnR z 61 8 EvR l vl := by
      obtain ⟨ys, g1, g2⟩ := hown
      exact ⟨ys, g1, g2.imp (fun x cs _ hr => by simpa using hr [] (by simp))⟩
    have hnb : st.2.2 = false → n = 0 := fun h => by simp [h] at hgo; omega
    clear hgo
    have fin0 : ∀ (u : World), Fr [] z u → (decH bs = ([], 2)) → ∃ v', Ending.returned (.tuple #[.slice none 0 0, .int .i64 2]) = .returned (.tuple #[v', .int .i64 (decH bs).2]) ∧ OwnR u 61 8 EvR (decH bs).1 v' ∧ (∀ k ∈ blks v', w.heap.size ≤ k) ∧ Fr [] w u := fun u hf hd => ⟨_, by rw [hd], by rw [hd]; exact OwnR.nil _ _ _ _, by simp [blks, Value.ownBlock], hFwz.trans0 hf⟩
    cases hbd : st.2.2
    case true =>
      rw [if_pos (.inl hbd)] at hdec
      rw [hbd] at hk5
      by_cases hn0 : n = 0
      all_goals
        refine rx ?_
        (apply ret2; exact rfl; (conv => lhs; whnf); (conv => lhs; whnf))
        exact fin0 z (Fr.refl _ _) hdec
    case false =>
      have hn0 := hnb hbd
      rw [hbd] at hk5
      refine rx ?_
      refine s_call (rEnd p v _ _ z hD.r) rfl ?_
      rintro _ _ ⟨rfl, rfl⟩
      refine ⟨_, rfl, ?_⟩
      by_cases he : rdEnd st.1 st.2.1 = 0
      case neg =>
        rw [if_pos (.inr (.inl he))] at hdec
        refine rx ?_
        (apply ret2; exact rfl; (conv => lhs; whnf); (conv => lhs; whnf))
        exact fin0 z (Fr.refl _ _) hdec
      refine rx ?_
      refine s_call (validHC l vl z hsl hvok (by omega)) rfl ?_
      rintro _ z2 ⟨rfl, hfz2⟩
      refine ⟨_, rfl, ?_⟩
      by_cases hv : validH l = 0
      case neg =>
        rw [if_pos (.inr (.inr hv))] at hdec
        refine rx ?_
        (apply ret2; exact rfl; (conv => lhs; whnf); (conv => lhs; whnf))
        exact fin0 z2 hfz2 hdec
      rw [if_neg (by rw [hbd]; simp [he, hv])] at hdec
      refine rx ?_
      (apply ret2; exact rfl; (conv => lhs; whnf); (conv => lhs; whnf))
      rw [hdec]
      exact ⟨_, rfl, hownE.tr0 evStab hfz2, fun k hk => by have := hnew k hk; have := hFw.size; omega, hFwz.trans0 hfz2⟩
  obtain ⟨hn0, hbd⟩ := hgo
  obtain ⟨n', rfl⟩ : ∃ n', n = n' + 1 := ⟨n - 1, by omega⟩
  have hsn' : ((n' + 1 : Nat) : Int) - 1 = (n' : Int) := by omega
  rw [hbd] at hk5
  rw [hEvs, if_neg (by rw [hbd]; simp)] at heq
  have hby1 := rdI_bys (e := st.2.1) hD.r.2.2.2
  have hby2 := rdI_bys (e := (rdI st.1 st.2.1).2.2) hby1.1
  have hby3 := rdR_bys (e := (rdI (rdI st.1 st.2.1).2.1 (rdI st.1 st.2.1).2.2).2.2) hby2.1
  have hlenD := hD.len
  have hl12 : (rdI (rdI st.1 st.2.1).2.1 (rdI st.1 st.2.1).2.2).2.1.length ≤ 1000000000000 := by omega
  have hone8 : ∀ u ∈ ec ⟨(rdI st.1 st.2.1).1, (rdI (rdI st.1 st.2.1).2.1 (rdI st.1 st.2.1).2.2).1, (strOf (rdR (rdI (rdI st.1 st.2.1).2.1 (rdI st.1 st.2.1).2.2).2.1 (rdI (rdI st.1 st.2.1).2.1 (rdI st.1 st.2.1).2.2).2.2).1), [], V0⟩ (.slice none 0 0) (.slice none 0 0), u.oneCell' = true := evStab.one (w := w) (S := []) (ec_row ⟨(rdI st.1 st.2.1).1, (rdI (rdI st.1 st.2.1).2.1 (rdI st.1 st.2.1).2.2).1, (strOf (rdR (rdI (rdI st.1 st.2.1).2.1 (rdI st.1 st.2.1).2.2).2.1 (rdI (rdI st.1 st.2.1).2.1 (rdI st.1 st.2.1).2.2).2.2).1), [], V0⟩ (VS.nil _ _) (VS.nil _ _))
  refine rx ?_
  clear hk5
  refine c_cut (fun g u => g 4 = .pointer (some ⟨b4, 0, none⟩) ∧ g 5 = .pointer (some ⟨b5, 0, none⟩) ∧ g 6 = .func (.func 69) #[] #[.pointer (some ⟨b4, 0, none⟩), .pointer (some ⟨b5, 0, none⟩)] ∧ g 7 = .func (.func 70) #[] #[.pointer (some ⟨b4, 0, none⟩), .pointer (some ⟨b5, 0, none⟩)] ∧ g 8 = vl ∧ g 9 = .int .i64 ((n' + 1 : Nat) : Int) ∧ ∃ b10, g 10 = .pointer (some ⟨b10, 0, none⟩) ∧ ∃ r, HD w1 u p b4 b5 v0 bs r (hHd st) ∧ Blk u b10 (ec ⟨(rdI st.1 st.2.1).1, (rdI (rdI st.1 st.2.1).2.1 (rdI st.1 st.2.1).2.2).1, (strOf (rdR (rdI (rdI st.1 st.2.1).2.1 (rdI st.1 st.2.1).2.2).2.1 (rdI (rdI st.1 st.2.1).2.1 (rdI st.1 st.2.1).2.2).2.2).1), [], V0⟩ (.slice none 0 0) (.slice none 0 0)) 61 ∧ z.heap.size ≤ b10 ∧ Fr [p] z u) ?_ ?_
  · (refine d_begin (fun q => True ∧ Blk q b4 [.pointer (some ⟨p, 0, none⟩)] 78) (by kernel_rfl) rfl ?_)
    have hD0 := hD.new c (Fr.drew [] z) (by simp)
    have hG0 : Fr [p] z z.drew := Fr.drew _ _
    have hS : True ∧ Blk z.drew b4 [.pointer (some ⟨p, 0, none⟩)] 78 := ⟨trivial, hD0.k4⟩
    ((first | refine d_tx 0 hS ?_ | refine d_ty 0 hS ?_ | refine d_tn 0 hS ?_); (first | refine d_tx 2 hS ?_ | refine d_ty 2 hS ?_ | refine d_tn 2 hS ?_); (first | refine d_tx 4 hS ?_ | refine d_ty 4 hS ?_ | refine d_tn 4 hS ?_))
    refine d_two (i := 1) (j := 7) rfl rfl (by kernel_rfl) ?_ ?_
    · skip
      refine s_call (rInt p v _ _ z.drew hD0.r) rfl ?_
      rintro _ y1 ⟨rfl, hst⟩
      refine ⟨_, rfl, ?_⟩
      obtain ⟨r1, hY1, hfr1⟩ := hD0.rstep c hst hby1.2
      clear hst
      have hG1 : Fr [p] z y1 := hG0.trans hfr1 (by simp)
      refine wpList_nil (q_held ⟨trivial, hY1.k4⟩ ?_)
      refine d_two (i := 3) (j := 7) rfl rfl (by kernel_rfl) ?_ ?_
      · skip
        refine s_call (rInt p r1 _ _ y1 hY1.r) rfl ?_
        rintro _ y2 ⟨rfl, hst⟩
        refine ⟨_, rfl, ?_⟩
        obtain ⟨r2, hY2, hfr2⟩ := hY1.rstep c hst hby2.2
        clear hst
        have hG2 : Fr [p] z y2 := hG1.trans hfr2 (by simp)
        refine wpList_nil (q_held ⟨trivial, hY2.k4⟩ ?_)
        refine d_two (i := 5) (j := 7) rfl rfl (by kernel_rfl) ?_ ?_
        · skip
          refine s_call (rText p r2 _ _ y2 hY2.r hl12) rfl ?_
          rintro _ y3 ⟨rfl, hst⟩
          refine ⟨_, rfl, ?_⟩
          obtain ⟨r3, hY3, hfr3⟩ := hY2.rstep c hst hby3.2.1
          clear hst
          have hG3 : Fr [p] z y3 := hG2.trans hfr3 (by simp)
          refine wpList_nil (q_held ⟨trivial, hY3.k4⟩ ?_)
          (apply d_take (i := 6) (v := .agg (ec ⟨(rdI st.1 st.2.1).1, (rdI (rdI st.1 st.2.1).2.1 (rdI st.1 st.2.1).2.2).1, (strOf (rdR (rdI (rdI st.1 st.2.1).2.1 (rdI st.1 st.2.1).2.2).2.1 (rdI (rdI st.1 st.2.1).2.1 (rdI st.1 st.2.1).2.2).2.2).1), [], V0⟩ (.slice none 0 0) (.slice none 0 0)).toArray); exact rfl; kernel_rfl; kernel_rfl; kernel_rfl; (intro u hu; exact r_build (ec ⟨(rdI st.1 st.2.1).1, (rdI (rdI st.1 st.2.1).2.1 (rdI st.1 st.2.1).2.2).1, (strOf (rdR (rdI (rdI st.1 st.2.1).2.1 (rdI st.1 st.2.1).2.2).2.1 (rdI (rdI st.1 st.2.1).2.1 (rdI st.1 st.2.1).2.2).2.2).1), [], V0⟩ (.slice none 0 0) (.slice none 0 0)) (by rfl)); exact ⟨trivial, hY3.k4⟩)
          refine d_one (i := 7) rfl (by kernel_rfl) ?_
          refine s_alloc rfl (fun y4 hA4 hfr4 hsr4 => ?_)
          have hY4 := hY3.new c hfr4 (by simp)
          have hG4 : Fr [p] z y4 := hG3.trans0 hfr4
          have hsw4 := hG3.size
          obtain ⟨b10, hb10⟩ : ∃ b10, y3.heap.size = b10 := ⟨_, rfl⟩
          have hzb : z.heap.size ≤ b10 := by omega
          rw [hb10] at hA4 ⊢
          refine wpList_nil (q_held ⟨trivial, hY4.k4⟩ ?_)
          refine d_one (i := 8) rfl (by kernel_rfl) ?_
          refine s_storeAggB rfl rfl hA4 hone8 rfl rfl (fun y5 hB5 hfr5 hsr5 => ?_)
          have hY5 := hY4.new c hfr5 (by simp; omega)
          refine wpList_nil (q_held ⟨trivial, hY5.k4⟩ ?_)
          (refine d_done (by kernel_rfl) ?_)
          exact q_cut ⟨rfl, rfl, rfl, rfl, rfl, rfl, b10, rfl, r3, hY5, hB5, hzb, hG4.trans hfr5 (by simp; omega)⟩
        · skip
          refine s_alloc rfl (fun y6 hA6 hfr6 hsr6 => ?_)
          have hY6 := hY2.new c hfr6 (by simp)
          have hG6 : Fr [p] z y6 := hG2.trans0 hfr6
          have hsw6 := hG2.size
          obtain ⟨b10, hb10⟩ : ∃ b10, y2.heap.size = b10 := ⟨_, rfl⟩
          have hzb : z.heap.size ≤ b10 := by omega
          rw [hb10] at hA6 ⊢
          refine wpList_nil (q_held ⟨trivial, hY6.k4⟩ ?_)
          refine d_one (i := 5) rfl (by kernel_rfl) ?_
          refine s_call (rText p r2 _ _ y6 hY6.r hl12) rfl ?_
          rintro _ y7 ⟨rfl, hst⟩
          refine ⟨_, rfl, ?_⟩
          obtain ⟨r7, hY7, hfr7⟩ := hY6.rstep c hst hby3.2.1
          clear hst
          have hG7 : Fr [p] z y7 := hG6.trans hfr7 (by simp)
          have hA7 := hA6.tr hfr7 (by simp; omega)
          refine wpList_nil (q_held ⟨trivial, hY7.k4⟩ ?_)
          (apply d_take (i := 6) (v := .agg (ec ⟨(rdI st.1 st.2.1).1, (rdI (rdI st.1 st.2.1).2.1 (rdI st.1 st.2.1).2.2).1, (strOf (rdR (rdI (rdI st.1 st.2.1).2.1 (rdI st.1 st.2.1).2.2).2.1 (rdI (rdI st.1 st.2.1).2.1 (rdI st.1 st.2.1).2.2).2.2).1), [], V0⟩ (.slice none 0 0) (.slice none 0 0)).toArray); exact rfl; kernel_rfl; kernel_rfl; kernel_rfl; (intro u hu; exact r_build (ec ⟨(rdI st.1 st.2.1).1, (rdI (rdI st.1 st.2.1).2.1 (rdI st.1 st.2.1).2.2).1, (strOf (rdR (rdI (rdI st.1 st.2.1).2.1 (rdI st.1 st.2.1).2.2).2.1 (rdI (rdI st.1 st.2.1).2.1 (rdI st.1 st.2.1).2.2).2.2).1), [], V0⟩ (.slice none 0 0) (.slice none 0 0)) (by rfl)); exact ⟨trivial, hY7.k4⟩)
          refine d_one (i := 8) rfl (by kernel_rfl) ?_
          refine s_storeAggB rfl rfl hA7 hone8 rfl rfl (fun y8 hB8 hfr8 hsr8 => ?_)
          have hY8 := hY7.new c hfr8 (by simp; omega)
          refine wpList_nil (q_held ⟨trivial, hY8.k4⟩ ?_)
          (refine d_done (by kernel_rfl) ?_)
          exact q_cut ⟨rfl, rfl, rfl, rfl, rfl, rfl, b10, rfl, r7, hY8, hB8, hzb, hG7.trans hfr8 (by simp; omega)⟩
      · skip
        refine s_alloc rfl (fun y9 hA9 hfr9 hsr9 => ?_)
        have hY9 := hY1.new c hfr9 (by simp)
        have hG9 : Fr [p] z y9 := hG1.trans0 hfr9
        have hsw9 := hG1.size
        obtain ⟨b10, hb10⟩ : ∃ b10, y1.heap.size = b10 := ⟨_, rfl⟩
        have hzb : z.heap.size ≤ b10 := by omega
        rw [hb10] at hA9 ⊢
        refine wpList_nil (q_held ⟨trivial, hY9.k4⟩ ?_)
        refine d_one (i := 3) rfl (by kernel_rfl) ?_
        refine s_call (rInt p r1 _ _ y9 hY9.r) rfl ?_
        rintro _ y10 ⟨rfl, hst⟩
        refine ⟨_, rfl, ?_⟩
        obtain ⟨r10, hY10, hfr10⟩ := hY9.rstep c hst hby2.2
        clear hst
        have hG10 : Fr [p] z y10 := hG9.trans hfr10 (by simp)
        have hA10 := hA9.tr hfr10 (by simp; omega)
        refine wpList_nil (q_held ⟨trivial, hY10.k4⟩ ?_)
        refine d_one (i := 5) rfl (by kernel_rfl) ?_
        refine s_call (rText p r10 _ _ y10 hY10.r hl12) rfl ?_
        rintro _ y11 ⟨rfl, hst⟩
        refine ⟨_, rfl, ?_⟩
        obtain ⟨r11, hY11, hfr11⟩ := hY10.rstep c hst hby3.2.1
        clear hst
        have hG11 : Fr [p] z y11 := hG10.trans hfr11 (by simp)
        have hA11 := hA10.tr hfr11 (by simp; omega)
        refine wpList_nil (q_held ⟨trivial, hY11.k4⟩ ?_)
        (apply d_take (i := 6) (v := .agg (ec ⟨(rdI st.1 st.2.1).1, (rdI (rdI st.1 st.2.1).2.1 (rdI st.1 st.2.1).2.2).1, (strOf (rdR (rdI (rdI st.1 st.2.1).2.1 (rdI st.1 st.2.1).2.2).2.1 (rdI (rdI st.1 st.2.1).2.1 (rdI st.1 st.2.1).2.2).2.2).1), [], V0⟩ (.slice none 0 0) (.slice none 0 0)).toArray); exact rfl; kernel_rfl; kernel_rfl; kernel_rfl; (intro u hu; exact r_build (ec ⟨(rdI st.1 st.2.1).1, (rdI (rdI st.1 st.2.1).2.1 (rdI st.1 st.2.1).2.2).1, (strOf (rdR (rdI (rdI st.1 st.2.1).2.1 (rdI st.1 st.2.1).2.2).2.1 (rdI (rdI st.1 st.2.1).2.1 (rdI st.1 st.2.1).2.2).2.2).1), [], V0⟩ (.slice none 0 0) (.slice none 0 0)) (by rfl)); exact ⟨trivial, hY11.k4⟩)
        refine d_one (i := 8) rfl (by kernel_rfl) ?_
        refine s_storeAggB rfl rfl hA11 hone8 rfl rfl (fun y12 hB12 hfr12 hsr12 => ?_)
        have hY12 := hY11.new c hfr12 (by simp; omega)
        refine wpList_nil (q_held ⟨trivial, hY12.k4⟩ ?_)
        (refine d_done (by kernel_rfl) ?_)
        exact q_cut ⟨rfl, rfl, rfl, rfl, rfl, rfl, b10, rfl, r11, hY12, hB12, hzb, hG11.trans hfr12 (by simp; omega)⟩
    · skip
      refine s_alloc rfl (fun y13 hA13 hfr13 hsr13 => ?_)
      have hY13 := hD0.new c hfr13 (by simp)
      have hG13 : Fr [p] z y13 := hG0.trans0 hfr13
      have hsw13 := hG0.size
      obtain ⟨b10, hb10⟩ : ∃ b10, z.drew.heap.size = b10 := ⟨_, rfl⟩
      have hzb : z.heap.size ≤ b10 := by rw [← hb10]; exact Nat.le_refl _
      rw [hb10] at hA13 ⊢
      refine wpList_nil (q_held ⟨trivial, hY13.k4⟩ ?_)
      refine d_one (i := 1) rfl (by kernel_rfl) ?_
      refine s_call (rInt p v _ _ y13 hY13.r) rfl ?_
      rintro _ y14 ⟨rfl, hst⟩
      refine ⟨_, rfl, ?_⟩
      obtain ⟨r14, hY14, hfr14⟩ := hY13.rstep c hst hby1.2
      clear hst
      have hG14 : Fr [p] z y14 := hG13.trans hfr14 (by simp)
      have hA14 := hA13.tr hfr14 (by simp; omega)
      refine wpList_nil (q_held ⟨trivial, hY14.k4⟩ ?_)
      refine d_one (i := 3) rfl (by kernel_rfl) ?_
      refine s_call (rInt p r14 _ _ y14 hY14.r) rfl ?_
      rintro _ y15 ⟨rfl, hst⟩
      refine ⟨_, rfl, ?_⟩
      obtain ⟨r15, hY15, hfr15⟩ := hY14.rstep c hst hby2.2
      clear hst
      have hG15 : Fr [p] z y15 := hG14.trans hfr15 (by simp)
      have hA15 := hA14.tr hfr15 (by simp; omega)
      refine wpList_nil (q_held ⟨trivial, hY15.k4⟩ ?_)
      refine d_one (i := 5) rfl (by kernel_rfl) ?_
      refine s_call (rText p r15 _ _ y15 hY15.r hl12) rfl ?_
      rintro _ y16 ⟨rfl, hst⟩
      refine ⟨_, rfl, ?_⟩
      obtain ⟨r16, hY16, hfr16⟩ := hY15.rstep c hst hby3.2.1
      clear hst
      have hG16 : Fr [p] z y16 := hG15.trans hfr16 (by simp)
      have hA16 := hA15.tr hfr16 (by simp; omega)
      refine wpList_nil (q_held ⟨trivial, hY16.k4⟩ ?_)
      (apply d_take (i := 6) (v := .agg (ec ⟨(rdI st.1 st.2.1).1, (rdI (rdI st.1 st.2.1).2.1 (rdI st.1 st.2.1).2.2).1, (strOf (rdR (rdI (rdI st.1 st.2.1).2.1 (rdI st.1 st.2.1).2.2).2.1 (rdI (rdI st.1 st.2.1).2.1 (rdI st.1 st.2.1).2.2).2.2).1), [], V0⟩ (.slice none 0 0) (.slice none 0 0)).toArray); exact rfl; kernel_rfl; kernel_rfl; kernel_rfl; (intro u hu; exact r_build (ec ⟨(rdI st.1 st.2.1).1, (rdI (rdI st.1 st.2.1).2.1 (rdI st.1 st.2.1).2.2).1, (strOf (rdR (rdI (rdI st.1 st.2.1).2.1 (rdI st.1 st.2.1).2.2).2.1 (rdI (rdI st.1 st.2.1).2.1 (rdI st.1 st.2.1).2.2).2.2).1), [], V0⟩ (.slice none 0 0) (.slice none 0 0)) (by rfl)); exact ⟨trivial, hY16.k4⟩)
      refine d_one (i := 8) rfl (by kernel_rfl) ?_
      refine s_storeAggB rfl rfl hA16 hone8 rfl rfl (fun y17 hB17 hfr17 hsr17 => ?_)
      have hY17 := hY16.new c hfr17 (by simp; omega)
      refine wpList_nil (q_held ⟨trivial, hY17.k4⟩ ?_)
      (refine d_done (by kernel_rfl) ?_)
      exact q_cut ⟨rfl, rfl, rfl, rfl, rfl, rfl, b10, rfl, r16, hY17, hB17, hzb, hG16.trans hfr17 (by simp; omega)⟩
  rintro g u ⟨h4, h5, h6, h7, h8, h9, b10, h10, r, hDu, hb10u, hzb, hfu⟩
  rw [eq_upd h4, eq_upd h5, eq_upd h6, eq_upd h7, eq_upd h8, eq_upd h9, eq_upd h10]
  have hEvst : hEv st = (⟨(rdI st.1 st.2.1).1, (rdI (rdI st.1 st.2.1).2.1 (rdI st.1 st.2.1).2.2).1, (strOf (rdR (rdI (rdI st.1 st.2.1).2.1 (rdI st.1 st.2.1).2.2).2.1 (rdI (rdI st.1 st.2.1).2.1 (rdI st.1 st.2.1).2.2).2.2).1), (hArgs (hCnt 16 (hHd st)).1 (hCnt 16 (hHd st)).2).1, (hVal (hArgs (hCnt 16 (hHd st)).1 (hCnt 16 (hHd st)).2).2).1⟩, (hVal (hArgs (hCnt 16 (hHd st)).1 (hCnt 16 (hHd st)).2).2).2) := rfl
  generalize (rdI st.1 st.2.1).1 = K at hb10u hEvst
  generalize (rdI (rdI st.1 st.2.1).2.1 (rdI st.1 st.2.1).2.2).1 = C at hb10u hEvst
  generalize (strOf (rdR (rdI (rdI st.1 st.2.1).2.1 (rdI st.1 st.2.1).2.2).2.1 (rdI (rdI st.1 st.2.1).2.1 (rdI st.1 st.2.1).2.2).2.2).1) = NM at hb10u hEvst
  have hb10u : Blk u b10 [.int .i64 K, .int .i64 C, .string NM, .slice none 0 0, .int .i64 0, .int .i64 0, .string ⟨#[]⟩, .slice none 0 0] 61 := hb10u
  clear hone8 hk4
  refine rx ?_
  refine s_callV (first := []) (cap := [.pointer (some ⟨b4, 0, none⟩), .pointer (some ⟨b5, 0, none⟩)]) (cntC c 16 (by omega) r (hHd st) u hDu) rfl rfl rfl ?_
  rintro _ u2 ⟨rfl, r2, hDu2, hfu2⟩
  refine ⟨_, rfl, ?_⟩
  have hM16 := hCnt_le (st := hHd st) (most := 16)
  have hzu := hfu.size
  have hb10u2 := hb10u.tr hfu2 (by simp; omega)
  have hblt := hb10u2.lt
  obtain ⟨N2, hN2⟩ : ∃ N2, u2.heap.size = N2 := ⟨_, rfl⟩
  have hbN2 : b10 < N2 := by omega
  have hfzu2 : Fr [p, b5] z u2 := (hfu.mono (by simp)).trans hfu2 (fun x hx => .inl hx)
  have hzN2 := hfzu2.size
  generalize (hCnt 16 (hHd st)).1 = M at hM16 hEvst ⊢
  generalize (hCnt 16 (hHd st)).2 = stA at hDu2 hEvst
  clear hb10u
  refine rx ?_
  refine c_loop (σ := ASt) (fun a g y => g 4 = .pointer (some ⟨b4, 0, none⟩) ∧ g 5 = .pointer (some ⟨b5, 0, none⟩) ∧ g 6 = .func (.func 69) #[] #[.pointer (some ⟨b4, 0, none⟩), .pointer (some ⟨b5, 0, none⟩)] ∧ g 7 = .func (.func 70) #[] #[.pointer (some ⟨b4, 0, none⟩), .pointer (some ⟨b5, 0, none⟩)] ∧ g 8 = vl ∧ g 9 = .int .i64 ((n' + 1 : Nat) : Int) ∧ g 10 = .pointer (some ⟨b10, 0, none⟩) ∧ g 11 = .int .i64 a.n ∧ AInv w1 z y p b4 b5 b10 N2 v0 bs K C NM M stA a) (fun a => a.n) ⟨M, .slice none 0 0, [], stA, r2⟩
    ⟨rfl, rfl, rfl, rfl, rfl, rfl, rfl, rfl, ⟨hDu2, by simp, hb10u2, OwnR.nil _ _ _ _, by simp [blks, Value.ownBlock], by simpa using hM16, hfzu2, by omega⟩⟩ ?_
  rintro ⟨an, va, aargs, ast, va_v⟩ g y ⟨h4, h5, h6, h7, h8, h9, h10, h11, hDy, haeq, hb10y, hoy, hnva, halen, hfy, hszy⟩
  simp only at h11 hDy haeq hb10y hoy hnva halen
  rw [eq_upd h4, eq_upd h5, eq_upd h6, eq_upd h7, eq_upd h8, eq_upd h9, eq_upd h10, eq_upd h11]
  have hk5y := hDy.k5
  by_cases hgo : 0 < an ∧ ast.2.2 = false
  case pos =>
    obtain ⟨han0, habd⟩ := hgo
    obtain ⟨an, rfl⟩ : ∃ an', an = an' + 1 := ⟨an - 1, by omega⟩
    have hsan : ((an + 1 : Nat) : Int) - 1 = (an : Int) := by omega
    rw [habd] at hk5y
    rw [hArgs, if_neg (by rw [habd]; simp)] at haeq
    refine rx ?_
    clear hk5y
    (refine d_begin (fun _ => True) (by kernel_rfl) rfl ?_)
    have hT0 : True := trivial
    have hDy0 := hDy.new c (Fr.drew [] y) (by simp)
    have hb10y0 := hb10y.tr0 (Fr.drew [] y)
    have hoy0 := hoy.tr0 (nrStab N2) (Fr.drew [] y)
    ((first | refine d_tx 0 hT0 ?_ | refine d_ty 0 hT0 ?_ | refine d_tn 0 hT0 ?_); (first | refine d_tx 2 hT0 ?_ | refine d_ty 2 hT0 ?_ | refine d_tn 2 hT0 ?_))
    refine d_two (i := 1) (j := 3) rfl rfl (by kernel_rfl) ?_ ?_
    · skip
      refine s_loadB rfl hb10y0 rfl ?_
      refine wpList_nil (q_held trivial ?_)
      refine d_one (i := 3) rfl (by kernel_rfl) ?_
      refine s_callV (first := []) (cap := [.pointer (some ⟨b4, 0, none⟩), .pointer (some ⟨b5, 0, none⟩)]) (valC c va_v ast y.drew hDy0) rfl rfl rfl ?_
      rintro _ y1 ⟨sx, rfl, hvs, r1, hD1', hfy1⟩
      refine ⟨_, rfl, ?_⟩
      have hb1 := hb10y0.tr hfy1 (by simp; omega)
      have hoy1 := ownNR_tr hoy0 hfy1 (by simp; omega) hnva
      refine wpList_nil (q_held trivial ?_)
      refine d_one (i := 4) rfl (by kernel_rfl) ?_
      refine s_buildS (vc (hVal ast).1 sx) rfl rfl rfl rfl (fun y2 ho2 hf2 hs2 => ?_)
      refine wpList_nil (q_held trivial ?_)
      refine d_one (i := 5) rfl (by kernel_rfl) ?_
      have hNR : NR N2 y2 (blks va) (hVal ast).1 (vc (hVal ast).1 sx) := by
        intro T hT
        have g1 := hvs (T ++ blks va) (fun j hj => by
          rcases List.mem_append.1 hj with h | h
          · have := hT j h; have e1 : y.drew.heap.size = y.heap.size := rfl; omega
          · exact hoy0.lt j h)
        exact ⟨sx, rfl, g1.tr0 hf2⟩
      refine s_appR (R := NR N2) (al := [(hVal ast).1]) (hoy1.tr0 (nrStab N2) hf2) (nrStab N2) rfl rfl ho2.src (Rws.one hNR) rfl (by unfold maxLen; omega) (by omega) (fun va' y3 ho3 hf3 hk3 _ => ?_)
      refine wpList_nil (q_held trivial ?_)
      ((first | refine d_tx 6 hT0 ?_ | refine d_ty 6 hT0 ?_ | refine d_tn 6 hT0 ?_))
      refine d_one (i := 7) rfl (by kernel_rfl) ?_
      have hb3 := (hb1.tr0 hf2).tr hf3 (fun hm => by have := hnva _ hm; omega)
      have hk3' : ∀ k ∈ blks va', N2 ≤ k := fun k hk => by
        rcases hk3 k hk with h | h
        · exact hnva k h
        · have := hfy1.size; have := hf2.size; have e1 : y.drew.heap.size = y.heap.size := rfl; omega
      ((with_reducible apply s_storeB); exact rfl; (conv => lhs; whnf); exact ho3.one; exact hb3; exact rfl)
      intro y4 hb4y hf4y hs4y
      refine wpList_nil (q_held trivial ?_)
      (refine d_done (by kernel_rfl) ?_)
      have hD2' := (hD1'.new c hf2 (by simp)).new c hf3 (fun k hk => by have := hnva k hk; omega)
      have hD3' := hD2'.new c hf4y (by simp; omega)
      have ho4 := ownNR_tr ho3 hf4y (by simp; exact hbN2) hk3'
      have hfz4 : Fr [p, b5] z y4 := ((((hfy.trans0 (Fr.drew _ _)).trans hfy1 (fun q hq => .inl hq)).trans0 hf2).trans hf3 (fun q hq => .inr (by have := hnva q hq; omega))).trans hf4y (by simp; omega)
      have hsz4 : N2 ≤ y4.heap.size := by have := hfy1.size; have := hf2.size; have := hf3.size; have e1 : y.drew.heap.size = y.heap.size := rfl; omega
      refine rx ?_
      refine q_round ⟨an, va', aargs ++ [(hVal ast).1], (hVal ast).2, r1⟩ ⟨rfl, rfl, rfl, rfl, rfl, rfl, rfl, congrArg (Value.int .i64) hsan, ⟨hD3', by simp only; rw [haeq]; simp, hb4y, ho4, hk3', by simp only [List.length_append, List.length_singleton]; omega, hfz4, hsz4⟩⟩ (by simp only; omega)
    · skip
      refine s_callV (first := []) (cap := [.pointer (some ⟨b4, 0, none⟩), .pointer (some ⟨b5, 0, none⟩)]) (valC c va_v ast y.drew hDy0) rfl rfl rfl ?_
      rintro _ y1 ⟨sx, rfl, hvs, r1, hD1', hfy1⟩
      refine ⟨_, rfl, ?_⟩
      have hb1 := hb10y0.tr hfy1 (by simp; omega)
      have hoy1 := ownNR_tr hoy0 hfy1 (by simp; omega) hnva
      refine wpList_nil (q_held trivial ?_)
      refine d_two (i := 1) (j := 4) rfl rfl (by kernel_rfl) ?_ ?_
      · skip
        refine s_loadB rfl hb1 rfl ?_
        refine wpList_nil (q_held trivial ?_)
        refine d_one (i := 4) rfl (by kernel_rfl) ?_
        refine s_buildS (vc (hVal ast).1 sx) rfl rfl rfl rfl (fun y2 ho2 hf2 hs2 => ?_)
        refine wpList_nil (q_held trivial ?_)
        refine d_one (i := 5) rfl (by kernel_rfl) ?_
        have hNR : NR N2 y2 (blks va) (hVal ast).1 (vc (hVal ast).1 sx) := by
          intro T hT
          have g1 := hvs (T ++ blks va) (fun j hj => by
            rcases List.mem_append.1 hj with h | h
            · have := hT j h; have e1 : y.drew.heap.size = y.heap.size := rfl; omega
            · exact hoy0.lt j h)
          exact ⟨sx, rfl, g1.tr0 hf2⟩
        refine s_appR (R := NR N2) (al := [(hVal ast).1]) (hoy1.tr0 (nrStab N2) hf2) (nrStab N2) rfl rfl ho2.src (Rws.one hNR) rfl (by unfold maxLen; omega) (by omega) (fun va' y3 ho3 hf3 hk3 _ => ?_)
        refine wpList_nil (q_held trivial ?_)
        ((first | refine d_tx 6 hT0 ?_ | refine d_ty 6 hT0 ?_ | refine d_tn 6 hT0 ?_))
        refine d_one (i := 7) rfl (by kernel_rfl) ?_
        have hb3 := (hb1.tr0 hf2).tr hf3 (fun hm => by have := hnva _ hm; omega)
        have hk3' : ∀ k ∈ blks va', N2 ≤ k := fun k hk => by
          rcases hk3 k hk with h | h
          · exact hnva k h
          · have := hfy1.size; have := hf2.size; have e1 : y.drew.heap.size = y.heap.size := rfl; omega
        ((with_reducible apply s_storeB); exact rfl; (conv => lhs; whnf); exact ho3.one; exact hb3; exact rfl)
        intro y4 hb4y hf4y hs4y
        refine wpList_nil (q_held trivial ?_)
        (refine d_done (by kernel_rfl) ?_)
        have hD2' := (hD1'.new c hf2 (by simp)).new c hf3 (fun k hk => by have := hnva k hk; omega)
        have hD3' := hD2'.new c hf4y (by simp; omega)
        have ho4 := ownNR_tr ho3 hf4y (by simp; exact hbN2) hk3'
        have hfz4 : Fr [p, b5] z y4 := ((((hfy.trans0 (Fr.drew _ _)).trans hfy1 (fun q hq => .inl hq)).trans0 hf2).trans hf3 (fun q hq => .inr (by have := hnva q hq; omega))).trans hf4y (by simp; omega)
        have hsz4 : N2 ≤ y4.heap.size := by have := hfy1.size; have := hf2.size; have := hf3.size; have e1 : y.drew.heap.size = y.heap.size := rfl; omega
        refine rx ?_
        refine q_round ⟨an, va', aargs ++ [(hVal ast).1], (hVal ast).2, r1⟩ ⟨rfl, rfl, rfl, rfl, rfl, rfl, rfl, congrArg (Value.int .i64) hsan, ⟨hD3', by simp only; rw [haeq]; simp, hb4y, ho4, hk3', by simp only [List.length_append, List.length_singleton]; omega, hfz4, hsz4⟩⟩ (by simp only; omega)
      · skip
        refine s_buildS (vc (hVal ast).1 sx) rfl rfl rfl rfl (fun y2 ho2 hf2 hs2 => ?_)
        refine wpList_nil (q_held trivial ?_)
        refine d_one (i := 1) rfl (by kernel_rfl) ?_
        refine s_loadB rfl (hb1.tr0 hf2) rfl ?_
        refine wpList_nil (q_held trivial ?_)
        refine d_one (i := 5) rfl (by kernel_rfl) ?_
        have hNR : NR N2 y2 (blks va) (hVal ast).1 (vc (hVal ast).1 sx) := by
          intro T hT
          have g1 := hvs (T ++ blks va) (fun j hj => by
            rcases List.mem_append.1 hj with h | h
            · have := hT j h; have e1 : y.drew.heap.size = y.heap.size := rfl; omega
            · exact hoy0.lt j h)
          exact ⟨sx, rfl, g1.tr0 hf2⟩
        refine s_appR (R := NR N2) (al := [(hVal ast).1]) (hoy1.tr0 (nrStab N2) hf2) (nrStab N2) rfl rfl ho2.src (Rws.one hNR) rfl (by unfold maxLen; omega) (by omega) (fun va' y3 ho3 hf3 hk3 _ => ?_)
        refine wpList_nil (q_held trivial ?_)
        ((first | refine d_tx 6 hT0 ?_ | refine d_ty 6 hT0 ?_ | refine d_tn 6 hT0 ?_))
        refine d_one (i := 7) rfl (by kernel_rfl) ?_
        have hb3 := (hb1.tr0 hf2).tr hf3 (fun hm => by have := hnva _ hm; omega)
        have hk3' : ∀ k ∈ blks va', N2 ≤ k := fun k hk => by
          rcases hk3 k hk with h | h
          · exact hnva k h
          · have := hfy1.size; have := hf2.size; have e1 : y.drew.heap.size = y.heap.size := rfl; omega
        ((with_reducible apply s_storeB); exact rfl; (conv => lhs; whnf); exact ho3.one; exact hb3; exact rfl)
        intro y4 hb4y hf4y hs4y
        refine wpList_nil (q_held trivial ?_)
        (refine d_done (by kernel_rfl) ?_)
        have hD2' := (hD1'.new c hf2 (by simp)).new c hf3 (fun k hk => by have := hnva k hk; omega)
        have hD3' := hD2'.new c hf4y (by simp; omega)
        have ho4 := ownNR_tr ho3 hf4y (by simp; exact hbN2) hk3'
        have hfz4 : Fr [p, b5] z y4 := ((((hfy.trans0 (Fr.drew _ _)).trans hfy1 (fun q hq => .inl hq)).trans0 hf2).trans hf3 (fun q hq => .inr (by have := hnva q hq; omega))).trans hf4y (by simp; omega)
        have hsz4 : N2 ≤ y4.heap.size := by have := hfy1.size; have := hf2.size; have := hf3.size; have e1 : y.drew.heap.size = y.heap.size := rfl; omega
        refine rx ?_
        refine q_round ⟨an, va', aargs ++ [(hVal ast).1], (hVal ast).2, r1⟩ ⟨rfl, rfl, rfl, rfl, rfl, rfl, rfl, congrArg (Value.int .i64) hsan, ⟨hD3', by simp only; rw [haeq]; simp, hb4y, ho4, hk3', by simp only [List.length_append, List.length_singleton]; omega, hfz4, hsz4⟩⟩ (by simp only; omega)
  have haE : hArgs M stA = (aargs, ast) := by
    have : hArgs an ast = ([], ast) := by
      cases an with
      | zero => rfl
      | succ an =>
        rw [hArgs, if_pos]
        cases hb : ast.2.2
        · exact absurd ⟨by omega, hb⟩ hgo
        · rfl
    rw [haeq, this]; simp
  rw [haE] at hEvst
  simp only at hEvst
  have hexit : an = 0 ∨ ast.2.2 = true := by
    cases hb : ast.2.2
    · left
      rcases Nat.eq_zero_or_pos an with h | h
      · exact h
      · exact absurd ⟨h, hb⟩ hgo
    · exact .inr rfl
  have hlvl := hown.lt
  rcases hexit with hx0 | hx1
  case' inr => rw [hx1] at hk5y
  case' inr => by_cases hx0 : an = 0
  all_goals
    refine rx ?_
    refine s_callV (first := []) (cap := [.pointer (some ⟨b4, 0, none⟩), .pointer (some ⟨b5, 0, none⟩)]) (valC c va_v ast y hDy) rfl rfl rfl ?_
    rintro _ y1 ⟨sx, rfl, hvs, r1, hD1', hfy1⟩
    refine ⟨_, rfl, ?_⟩
    have hb1 := hb10y.tr hfy1 (by simp; omega)
    have hoy1 := ownNR_tr hoy hfy1 (by simp; omega) hnva
    have hsy1 := hfy1.size
    refine rx ?_
    refine s_storeSubB rfl rfl hb1 (VR.mem1 (w := y1) (S := []) (hVal ast).1 _ ⟨sx, rfl, hvs [] (by simp)⟩) (by show 4 + 4 ≤ 8; omega) rfl (fun y2 hb2 hf2 hs2 => ?_)
    have hb2 : Blk y2 b10 (ec ⟨K, C, NM, aargs, (hVal ast).1⟩ va sx) 61 := hb2
    have hoy2 := ownNR_tr hoy1 hf2 (by simp; exact hbN2) hnva
    have hD2' := hD1'.new c hf2 (by simp; omega)
    have hfz2 : Fr [p, b5] z y2 := (hfy.trans hfy1 (fun q hq => .inl hq)).trans hf2 (by simp; omega)
    have hownz2 := ownNew_tr evStab hown hfz2 (by simp; omega) hnew
    have hrow : newR EvR w1.heap.size y2 (blks vl) (hEv st).1 (ec ⟨K, C, NM, aargs, (hVal ast).1⟩ va sx) := by
      rw [hEvst]
      intro T hT
      refine ⟨va, sx, rfl, ownNR_vs hoy2 hnva (by omega) (fun k hk => ?_), ?_⟩
      · rcases List.mem_append.1 hk with h | h
        · have := hT k h; omega
        · have := hlvl k h; omega
      · have g1 := hvs (T ++ blks vl ++ [b10]) (fun k hk => by
          rcases List.mem_append.1 hk with h | h
          · rcases List.mem_append.1 h with h | h
            · have := hT k h; omega
            · have := hlvl k h; omega
          · simp at h; omega)
        exact (g1.tr (hf2.mono (by simp))).mono (fun k hk => .inl (List.mem_append.2 (.inl hk)))
    clear hb1
    refine rx ?_
    refine s_pushA (R := newR EvR w1.heap.size) (a := (hEv st).1) (cs := ec ⟨K, C, NM, aargs, (hVal ast).1⟩ va sx) hownz2 (newStab evStab _) rfl rfl rfl hrow rfl rfl rfl (by unfold maxLen; omega) (by omega) (fun vl' y3 ho3 hf3 hk3 => ?_)
    have hD3' := hD2'.new c hf3 hnew
    have hs2y := hfz2.size
    refine rx ?_
    refine q_round ⟨n', vl', l ++ [(hEv st).1], (hEv st).2, r1⟩ ⟨rfl, rfl, rfl, rfl, rfl, congrArg (Value.int .i64) hsn', ⟨by rw [hEvst]; exact hD3', by simp only; rw [heq]; simp, ho3, fun k hk => ?_, by simp only [List.length_append, List.length_singleton]; omega⟩⟩ (by simp only; omega)
    rcases hk3 k hk with h | h
    · exact hnew k h
    · omega
end Go.Proofs.Ytcogpedfnnfnaaa
namespace Go.Rf
open Go.RowKit
theorem run_appK {P : Program} {t xt ty e size bytes : Nat} [R : RowT P t e size bytes] {w : World} {v x : Value} {n m : Nat} {xs ys : List Value}
    (hxt : (∃ e', P.underlying xt = some (.slice e')) ∨ P.underlying xt = some .string) (hown : Own w e size v n xs) (hx : Gives P w size x m ys) (h63 : n + m ≤ maxLen) (hb : (n + m) * bytes ≤ 140737488355328) :
    ∃ v' w', (Builtin.append_ #[t, xt] ty #[v, x]).run P w = .ok v' w' ∧ Own w' e size v' (n + m) (xs ++ ys) ∧ Fr (blks v) w w' ∧ (∀ k ∈ blks v', k ∈ blks v ∨ w.heap.size ≤ k) ∧
      (v' = .slice none 0 0 ↔ v = .slice none 0 0 ∧ m = 0) ∧ Src w' v n xs := by
  obtain ⟨i, z, hi, hz, rfl, rfl, hzs⟩ := R.inf
  have ht := R.und
  have hsmall : n + m ≤ 9223372036854775807 := by simp only [maxLen] at h63; omega
  have hlen : (xs ++ ys).length = (n + m) * i.size := by rw [List.length_append, hown.1, hx.len, Nat.add_mul]
  have hm0 : m = 0 → ys = [] := fun e => List.eq_nil_of_length_eq_zero (by rw [hx.len, e]; simp)
  have h63' : ¬ (9223372036854775807 < ((n : Int) + (m : Int))) := by omega
  have grown : ∀ (old : Nat),
      Own (w.drew.alloc (.cells (xs.toArray ++ ys.toArray ++ Builtin.zeroCells z.cells (grownCap w (n + m) old e - (n + m))) e)) e i.size
        (.slice (some ⟨w.heap.size, 0, none⟩) (n + m) (grownCap w (n + m) old e)) (n + m) (xs ++ ys) ∧
      Fr (blks v) w (w.drew.alloc (.cells (xs.toArray ++ ys.toArray ++ Builtin.zeroCells z.cells (grownCap w (n + m) old e - (n + m))) e)) := by
    intro old
    have hge := grownCap_ge w (n + m) old e
    have hcm : grownCap w (n + m) old e ≤ maxLen := grownCap_le_maxLen w (n + m) old e h63
    refine ⟨⟨hlen, .inr ⟨w.heap.size, _, _, rfl, Nat.zero_le _, heap_alloc_new w.drew _, hge, hcm, ?_, ?_⟩⟩, (Fr.drew _ w).trans0 (Fr.alloc [] _ _)⟩
    · simp only [Array.size_append, List.size_toArray, size_zeroCells, hzs, hown.1, hx.len, ← Nat.add_mul]
      congr 1
      omega
    · simp only [Array.toList_append, List.append_assoc]
      rw [← List.append_assoc, ← hlen]
      exact List.take_left
  have hfx := hx.cells w (fun _ => rfl)
  have hfd := hx.cells w.drew (fun _ => rfl)
  have hlx := hx.lenOf w
  rcases hown.2 with ⟨rfl, rfl⟩ | ⟨g, cap, cur, rfl, hbg, hg, hnc, hcm, hcs, htake⟩
  · have hxs : xs = [] := List.eq_nil_of_length_eq_zero (by simpa using hown.1)
    subst hxs
    by_cases hm : m = 0
    · have hys := hm0 hm
      subst hm; subst hys
      refine ⟨.slice none 0 0, w, ?_, Own.nil w e i.size, Fr.refl _ _, fun k hk => by simp [blks, Value.ownBlock] at hk, by simp, Src.nil _⟩
      rcases hxt with ⟨e', hd⟩ | hd <;> simp [Builtin.append_, run_underlying ht, run_underlying hd, sizeOf, typeInfo, hi, hlx, hfx]
    · have h48' : ¬ (281474976710656 < Builtin.nextslicecap m 0 * i.bytes) := by
        have := growslice_fits (bytes := i.bytes) (show 0 < m by omega) (by simpa using hb); omega
      have hgr := grown 0
      simp only [Nat.zero_add, List.nil_append, Array.empty_append] at hgr h63' ⊢
      refine ⟨_, _, ?_, hgr.1, hgr.2, fun k hk => by simp [blks, Value.ownBlock] at hk; omega, by simp [hm], Src.nil _⟩
      have h63'' : ¬ (9223372036854775807 < (m : Int)) := by omega
      rcases hxt with ⟨e', hd⟩ | hd <;> simp [Builtin.append_, run_underlying ht, run_underlying hd, sizeOf, typeInfo, zeroValue, hi, hz, hlx, hfd, hm, h63'', h48', Question.forced, run_firstCells_none, newRow, grownCap]
  · by_cases hroom : n + m ≤ cap
    · have hfit : n * i.size + ys.length ≤ cur.size := by rw [hx.len, hcs, ← Nat.add_mul]; exact Nat.mul_le_mul_right _ hroom
      have hst := run_storeCells_at P g (n * i.size) e ys 0 cur w hg (by simpa using hfit) hx.one
      simp only [Nat.add_zero] at hst
      have hr : (Builtin.append_ #[t, xt] ty #[.slice (some ⟨g, 0, none⟩) n cap, x]).run P w = .ok (.slice (some ⟨g, 0, none⟩) (n + m) cap) (w.setRow g (cur.toList.take (n * i.size) ++ ys ++ cur.toList.drop (n * i.size + ys.length)).toArray) := by
        rcases hxt with ⟨e', hd⟩ | hd <;> simp [Builtin.append_, run_underlying ht, run_underlying hd, sizeOf, typeInfo, hi, hlx, hroom, hfx, Addr.add_lit, hst]
      have hO : Own (w.setRow g (cur.toList.take (n * i.size) ++ ys ++ cur.toList.drop (n * i.size + ys.length)).toArray) e i.size (.slice (some ⟨g, 0, none⟩) (n + m) cap) (n + m) (xs ++ ys) := by
        refine ⟨hlen, .inr ⟨g, cap, _, rfl, hbg, setRow_heap w g cur _ e _ hg, hroom, hcm, ?_, ?_⟩⟩
        · simp only [List.size_toArray, List.length_append, List.length_take, List.length_drop, Array.length_toList]
          omega
        · rw [htake, ← hlen]
          exact List.take_left
      refine ⟨_, _, hr, hO, ⟨rfl, rfl, rfl, by simp, fun k _ hk => setRow_other w g k _ (fun e => hk (by simp [blks, Value.ownBlock, e]))⟩, fun k hk => .inl hk, by simp, ⟨_, cap, rfl, by omega, by simp, fun ad ha j u hu => ?_⟩⟩
      obtain ⟨ao', c', e', _, _, hc'⟩ := hO.src
      simp only [Value.slice.injEq] at e'
      exact hc' ad (e'.1 ▸ ha) j u (by rw [List.getElem?_append_left (List.getElem?_eq_some_iff.1 hu).1]; exact hu)
    · have holds : ∀ j u, xs[j]? = some u → w.cell? ((⟨g, 0, none⟩ : Addr).add j) = some u := World.ownsRow.cells hown (g := g) rfl
      have hfo := run_firstCells_some (P := P) w.drew i.size n ⟨g, 0, none⟩ n cap xs hown.1 (by simpa using holds)
      have h48' : ¬ (281474976710656 < Builtin.nextslicecap (n + m) cap * i.bytes) := by
        have := growslice_fits (bytes := i.bytes) (show cap < n + m by omega) hb; omega
      have hgr := grown cap
      refine ⟨_, _, ?_, hgr.1, hgr.2, fun k hk => by simp [blks, Value.ownBlock] at hk; exact .inr (by omega), by simp, hown.src.tr0 ((Fr.drew [] w).trans0 (Fr.alloc [] _ _))⟩
      rcases hxt with ⟨e', hd⟩ | hd <;> simp [Builtin.append_, run_underlying ht, run_underlying hd, sizeOf, typeInfo, zeroValue, hi, hz, hlx, hroom, h63', h48', Question.forced, hfd, hfo, newRow, grownCap] <;> rw [← List.append_toArray, Array.append_assoc]

section
variable {P : Program} {ops : Array Oper} {Q : Exit → Act → World → Prop} {rest : List Oper} {n : Nat} {f : Env} {w : World}
variable {d : Nat} {ty : TypeId} {ps : String} {af : Array Edge} {x y : Operand} {t : Nat} {gd : Option (Nat × Bool)}
theorem s_appendK {s : Operand} {e size by_ : Nat} {v xv : Value} {k m : Nat} {xs ys : List Value} [R : RowT P t e size by_] (hown : Own w e size v k xs) (hs : ev n f s = v) (hsrc : Src w xv m ys) (hx : ev n f x = xv) (hl : ys.length = m * size) (h1 : ∀ u ∈ ys, u.oneCell' = true)
    (h63 : k + m ≤ maxLen) (hb : (k + m) * by_ ≤ 140737488355328)
    (h : ∀ v' w', Own w' e size v' (k + m) (xs ++ ys) → Fr (blks v) w w' → (∀ b ∈ blks v', b ∈ blks v ∨ w.heap.size ≤ b) → Src w' v k xs → wpList P ops Q rest (A n (upd f d v')) w') :
    wpList P ops Q (⟨some d, .call { callee := .builtin .append, args := #[s, x], argTypes := #[t, t] }, ty, ps, af, none⟩ :: rest) (A n f) w := by
  obtain ⟨v', w', hr, a1, a2, a3, a4, a5⟩ := run_appK (P := P) (t := t) (xt := t) (ty := ty) (.inl ⟨e, R.und⟩) hown (hsrc.gives (P := P) hl h1) h63 hb
  exact s_run (by simp [execOp, resolve, invoke, builtin, hs, hx, hr]) (h v' w' a1 a2 a3 a5)
end
end Go.Rf
namespace Go.Proofs.Ytcogpedfnnfnaaa
open Go.Rf Go.RowKit
set_option linter.unusedVariables false
set_option maxHeartbeats 4000000

theorem encVs_bys {l : List V} (H : ∀ x ∈ l, Bys (encV x)) : Bys (encVs l) := by
  induction l with
  | nil => intro b hb; simp [encVs] at hb
  | cons v l ih => exact (H v (by simp)).append (ih (fun x hx => H x (by simp [hx])))
theorem encV_bys (v : V) : Bys (encV v) := by
  have H : ∀ x ∈ v.kids, Bys (encV x) := fun x hx => encV_bys x
  have h1 := encVs_bys H
  rw [encV_eq]
  refine (iv_bys _).append ?_
  split
  · exact iv_bys _
  split
  · intro b hb
    simp at hb
    split at hb <;> omega
  · refine Bys.append ?_ ((iv_bys _).append h1)
    split
    · exact raw_bys (sb_bys _)
    · intro b hb; cases hb
termination_by SizeOf.sizeOf v
decreasing_by
  have h1 := List.sizeOf_lt_of_mem hx
  have h2 : SizeOf.sizeOf v.kids < SizeOf.sizeOf v := by cases v; simp; omega
  omega
theorem rawVs_bys (l : List V) : Bys (rawVs l) := by
  induction l with
  | nil => intro b hb; simp [rawVs] at hb
  | cons v l ih => exact (raw_bys (encV_bys v)).append ih
theorem encE_bys (x : Ev) : Bys (encE x) := (iv_bys _).append ((iv_bys _).append ((raw_bys (sb_bys _)).append ((iv_bys _).append ((rawVs_bys _).append (raw_bys (encV_bys _))))))
theorem encEs_bys (l : List Ev) : Bys (encEs l) := by
  induction l with
  | nil => intro b hb; simp [encEs] at hb
  | cons v l ih => exact (encE_bys v).append ih
theorem encH_bys (l : List Ev) : Bys (encH l) := (iv_bys _).append (encEs_bys l)
theorem encH_pos (l : List Ev) : 0 < (encH l).length := by
  have := uv_pos (zz (l.length : Int))
  unfold encH iv
  rw [List.length_append]; omega
theorem decH_enc {l : List Ev} (hv : validH l = 0) (hI : ∀ e ∈ l, InE e) : decH (encH l) = (l, 0) := by
  obtain ⟨h64, hfm⟩ := valid_fmd hv
  have h1 := hCnt_enc (m := l.length) (most := 64) h64 (by omega) (encEs l ++ [])
  have h2 := hEvs_enc l (fun x hx => by
    have hg := fmd_good (hfm x hx)
    have hi := hI x hx
    have a1 := hg.nm
    have a2 := enc_short hg.res hi.res
    exact ⟨hi, by omega, hg.al, fun v hv => ⟨hg.args v hv, by have := enc_short (hg.args v hv) (hi.args v hv); omega⟩, hg.res, by omega⟩) []
  unfold decH encH
  rw [List.append_nil] at h1
  rw [h1]
  simp only
  rw [List.append_nil] at h2
  rw [h2, if_neg (by simp [rdEnd, hv])]
theorem decH_two (bs : List Int) : (decH bs).2 = 0 ∨ ((decH bs).2 = 2 ∧ (decH bs).1 = []) := by
  unfold decH
  simp only
  split
  · exact .inr ⟨rfl, rfl⟩
  · exact .inl rfl
theorem decH_inE {bs : List Int} (hB : Bys bs) (hl : bs.length ≤ 1000000000) : (∀ e ∈ (decH bs).1, EvOk e) ∧ (∀ e ∈ (decH bs).1, InE e) ∧ (decH bs).1.length ≤ 64 := by
  rcases decH_two bs with h | ⟨_, h⟩
  · obtain ⟨h1, h2, h3⟩ := decH_inv hB hl h
    obtain ⟨h64, hfm⟩ := valid_fmd h2
    refine ⟨fun e he => ⟨fun v hv => ((h3 e he).args v hv).ok, (h3 e he).res.ok⟩, fun e he => ?_, h64⟩
    have := fmd_ok (hfm e he)
    exact ⟨⟨by omega, by omega⟩, ⟨by omega, by omega⟩, fun v hv => ((h3 e he).args v hv).int, (h3 e he).res.int⟩
  · rw [h]; exact ⟨by simp, by simp, by simp⟩
theorem leafInt {k n : Int} {s : ByteArray} (h : InI64 n) : IntV ⟨k, n, s, []⟩ := .mk h (by simp)
theorem smallI {n : Int} (h : 0 ≤ n ∧ n ≤ 1000) : InI64 n := ⟨by omega, by omega⟩
theorem gen_inE (l : List Int) (m : Nat) : ∀ e ∈ (genN l m).1, InE e := by
  induction m with
  | zero => intro e he; simp [genN] at he
  | succ i ih =>
    intro e he
    have hp := pk_range (l := l) (i := (i : Int)) (m := 1000000) (by omega)
    simp only [genN, genStep] at he
    generalize pk l i 1000000 = k at he hp
    split at he
    · rcases List.mem_append.1 he with h | h
      · exact ih e h
      · simp at h; subst h
        exact ⟨smallI (by simp [evCrash]), smallI (by simp [evCrash]), fun v hv => (by cases hv), intV0⟩
    · split at he
      · rcases List.mem_append.1 he with h | h
        · exact ih e h
        · simp at h; subst h
          exact ⟨smallI (by simp [evEnd]), smallI (by simp only [evEnd]; omega), fun v hv => (by cases hv), leafInt (smallI (by omega))⟩
      · split at he
        · rcases List.mem_append.1 he with h | h
          · exact ih e h
          · simp at h; subst h
            refine ⟨smallI (by simp [evBeg]), smallI (by simp only [evBeg]; omega), fun v hv => ?_, intV0⟩
            unfold evBeg at hv
            simp only at hv
            split at hv
            · simp at hv; subst hv; exact leafInt (smallI (by omega))
            · cases hv
        · exact ih e he
theorem spoilt_inE {l : List Ev} {a b c : Int} (hc : InI64 c) (h : ∀ e ∈ l, InE e) : ∀ e ∈ spoilt l a b c, InE e := by
  intro e he
  unfold spoilt at he
  split at he
  · cases he
  · rename_i x hx
    have hxm : x ∈ l := List.mem_of_getElem? hx
    have hi := h x hxm
    split at he
    · rcases List.mem_or_eq_of_mem_set he with h1 | h1
      · exact h e h1
      · subst h1
        unfold spEv
        split
        · exact ⟨hc, hi.c, hi.args, hi.res⟩
        split
        · exact ⟨hi.k, hc, hi.args, hi.res⟩
        split
        · exact ⟨hi.k, hi.c, hi.args, hi.res⟩
        split
        · exact ⟨hi.k, hi.c, hi.args, leafInt hc⟩
        · refine ⟨hi.k, hi.c, fun v hv => ?_, hi.res⟩
          rcases List.mem_append.1 hv with h2 | h2
          · exact hi.args v h2
          · simp at h2; subst h2; exact leafInt hc
    · split at he
      · rcases List.mem_append.1 he with h1 | h1
        · exact h e h1
        · simp at h1; subst h1; exact h _ hxm
      · rcases List.mem_append.1 he with h1 | h1
        · exact h e (List.mem_of_mem_take h1)
        · exact h e (List.mem_of_mem_drop h1)
end Go.Proofs.Ytcogpedfnnfnaaa
