/-
  The Writer that is part of a coder of package values. The coder of package values, and values.Encode.
-/
import Derived.Test.YtcogpedfnnfnaaaB1
namespace Go.Proofs.Ytcogpedfnnfnaaa
open Go.Rf Go.RowKit
set_option linter.unusedVariables false
attribute [local irreducible] Code.wp wpList Exit.then Exit.inBlock bodyPost A Calls execOp Addr.add

def IsWC (w : World) (p : Nat) (v : Value) (bs : List Int) : Prop := Blk w p [v] 129 ∧ Own w 5 1 v bs.length (bs.map (.int .u8))
/-- a step of a writer: it holds bs'; nothing else has changed -/
def WStepC (p : Nat) (w : World) (v : Value) (bs' : List Int) (w' : World) : Prop :=
  ∃ v', IsWC w' p v' bs' ∧ Fr (p :: blks v) w w' ∧ ∀ k ∈ blks v', k ∈ blks v ∨ w.heap.size ≤ k
theorem WStepC.refl {p : Nat} {w : World} {v : Value} {bs : List Int} (h : IsWC w p v bs) : WStepC p w v bs w := ⟨v, h, Fr.refl _ _, fun _ hk => .inl hk⟩
theorem WStepC.trans {p : Nat} {w w1 w2 : World} {v v1 : Value} {bs2 : List Int} (hf : Fr (p :: blks v) w w1) (hk : ∀ k ∈ blks v1, k ∈ blks v ∨ w.heap.size ≤ k) (h : WStepC p w1 v1 bs2 w2) : WStepC p w v bs2 w2 := by
  obtain ⟨v2, h1, h2, h3⟩ := h
  refine ⟨v2, h1, hf.trans h2 ?_, ?_⟩
  · intro x hx
    rcases List.mem_cons.1 hx with rfl | hx
    · exact .inl (by simp)
    · rcases hk x hx with h | h
      · exact .inl (by simp [h])
      · exact .inr h
  · intro k hk2
    rcases h3 k hk2 with h | h
    · exact hk k h
    · exact .inr (Nat.le_trans hf.size h)
theorem IsWC.one {w : World} {p : Nat} {v : Value} {bs : List Int} (h : IsWC w p v bs) : v.oneCell' = true := h.2.one

/-- 'w.buf = append(w.buf, cs...)' -/
theorem IsWC.push {w w1 w2 : World} {p : Nat} {v v' : Value} {bs cs : List Int} (h : IsWC w p v bs) (hf1 : Fr [] w w1) (ho : Own w2 5 1 v' (bs.length + cs.length) (bs.map (.int .u8) ++ cs.map (.int .u8))) (hf2 : Fr (blks v) w1 w2)
    (hk : ∀ b ∈ blks v', b ∈ blks v ∨ w1.heap.size ≤ b) {w3 : World} (hb : Blk w3 p [v'] 129) (hf3 : Fr [p] w2 w3) : WStepC p w v (bs ++ cs) w3 := by
  have hne := Own.ne ho ((h.1.tr0 hf1).tr hf2 (fun hp => (h.2.ne h.1 (by decide)) p hp rfl)) (by decide)
  refine ⟨v', ⟨hb, ?_⟩, ?_, ?_⟩
  · have := ho.tr hf3 (fun k hk => by simp; exact hne k hk)
    simpa using this
  · refine (hf1.mono (fun x hx => by cases hx)).trans (hf2.mono (T := p :: blks v) (fun x hx => .inl (by simp [hx]))) (fun x hx => .inl hx) |>.trans hf3 (fun x hx => .inl (by simp at hx; simp [hx]))
  · intro k hk'
    rcases hk k hk' with h | h
    · exact .inl h
    · exact .inr (Nat.le_trans hf1.size h)

theorem wUintC (p : Nat) (v : Value) (bs : List Int) (n : Nat) (w : World) (hn : n < 18446744073709551616) (hw : IsWC w p v bs) (hl : bs.length ≤ 1000000000000) :
    Calls Try.prog 85 #[.pointer (some ⟨p, 0, none⟩), .int .u64 n] w fun e w' => e = .returned (.tuple #[]) ∧ WStepC p w v (bs ++ uv n) w' := by
  refine enter Try.func85 rfl Try.ntmps85 rfl ?_
  refine rn ?_
  have hul := uv_len n hn
  refine c_loop (σ := Nat × Value × List Int) (fun s g u => g 0 = .pointer (some ⟨p, 0, none⟩) ∧ g 1 = .int .u64 s.1 ∧ s.1 < 18446744073709551616 ∧ bs ++ uv n = s.2.2 ++ uv s.1 ∧ IsWC u p s.2.1 s.2.2 ∧ Fr (p :: blks v) w u ∧ ∀ k ∈ blks s.2.1, k ∈ blks v ∨ w.heap.size ≤ k)
    (fun s => s.1) (n, v, bs) ⟨rfl, rfl, hn, rfl, hw, Fr.refl _ _, fun _ hk => .inl hk⟩ ?_
  rintro ⟨m, vr, br⟩ g u ⟨h0, h1, hm, hbs, hwr, hfr, hkr⟩
  simp only at h0 h1 hm hbs hwr hkr
  rw [eq_upd h0, eq_upd h1]
  have hlen : br.length ≤ 1000000000010 := by
    have := congrArg List.length hbs
    simp only [List.length_append] at this
    omega
  refine rn ?_
  have hne := hwr.2.ne hwr.1 (by decide)
  refine s_geq rfl rfl (fun h => ?_) (fun h => ?_)
  · refine rn ?_
    refine s_loadB rfl hwr.1 rfl ?_
    refine rn ?_
    refine s_conv rfl (u8_wrap _) ?_
    refine s_or rfl rfl (or128 m) ?_
    ((with_reducible apply s_build1); (conv => lhs; whnf); exact rfl)
    intro w1 ho1 hf1 hs1
    refine s_append (hwr.2.tr0 hf1) rfl ho1.src rfl rfl (by simp [Value.oneCell']) (by unfold maxLen; omega) (by omega) (fun v2 w2 ho2 hf2 hk2 _ => ?_)
    refine rn ?_
    have hb2 := (hwr.1.tr0 hf1).tr hf2 (fun hp => hne p hp rfl)
    ((with_reducible apply s_storeB); exact rfl; (conv => lhs; whnf); exact ho2.one; exact hb2; exact rfl)
    intro w3 hb3 hf3 hs3
    refine rn ?_
    refine s_shr rfl rfl (by omega) (shr7 m) ?_
    refine rn ?_
    obtain ⟨v3, hw3, hfr3, hk3⟩ := WStepC.trans hfr hkr (hwr.push (cs := [_]) hf1 ho2 hf2 hk2 hb3 hf3)
    refine q_round (m / 128, v3, br ++ [((m % 128 + 128 : Nat) : Int)]) ⟨rfl, rfl, by simp only; omega, ?_, hw3, hfr3, hk3⟩ (by simp only; omega)
    simp only
    rw [hbs, uv_ge (by omega)]
    simp
  · refine rn ?_
    refine s_loadB rfl hwr.1 rfl ?_
    refine rn ?_
    ((with_reducible apply s_build1); (conv => lhs; whnf); exact rfl)
    intro w1 ho1 hf1 hs1
    refine s_append (hwr.2.tr0 hf1) rfl ho1.src rfl rfl (by simp [Value.oneCell']) (by unfold maxLen; omega) (by omega) (fun v2 w2 ho2 hf2 hk2 _ => ?_)
    refine rn ?_
    have hb2 := (hwr.1.tr0 hf1).tr hf2 (fun hp => hne p hp rfl)
    ((with_reducible apply s_storeB); exact rfl; (conv => lhs; whnf); exact ho2.one; exact hb2; exact rfl)
    intro w3 hb3 hf3 hs3
    refine rn ?_
    refine end0 rfl ⟨rfl, ?_⟩
    rw [hbs, uv_lt (by omega)]
    exact WStepC.trans hfr hkr (hwr.push (cs := [_]) hf1 ho2 hf2 hk2 hb3 hf3)

theorem wIntC (p : Nat) (v : Value) (bs : List Int) (n : Int) (w : World) (h1 : -9223372036854775808 ≤ n) (h2 : n ≤ 9223372036854775807) (hw : IsWC w p v bs) (hl : bs.length ≤ 1000000000000) :
    Calls Try.prog 63 #[.pointer (some ⟨p, 0, none⟩), .int .i64 n] w fun e w' => e = .returned (.tuple #[]) ∧ WStepC p w v (bs ++ iv n) w' := by
  refine enter Try.func63 rfl Try.ntmps63 rfl ?_
  refine rnc ?_
  by_cases hn : n < 0
  · refine s_conv rfl (show _ = n + 18446744073709551616 by rw [u64_wrap]; omega) ?_
    refine s_shl rfl rfl (by omega) (show _ = 2 * n + 18446744073709551616 by rw [u64_wrap]; show (n + 18446744073709551616) * 2 % 18446744073709551616 = _; omega) ?_
    refine rnc ?_
    refine s_shr rfl rfl (by omega) (show _ = -1 by show n.fdiv 9223372036854775808 = -1; rw [Int.fdiv_eq_ediv_of_nonneg _ (by omega)]; omega) ?_
    refine s_conv rfl (show _ = 18446744073709551615 by decide) ?_
    refine s_xor rfl rfl (xor1 _ (by omega) (by omega)) ?_
    have e : (18446744073709551615 - (2 * n + 18446744073709551616) : Int) = ((zz n : Nat) : Int) := by unfold zz; rw [if_pos hn]; omega
    rw [e]
    refine s_call (wUintC p v bs (zz n) w (zz_lt h1 h2) hw hl) rfl ?_
    rintro _ w' ⟨rfl, hs⟩
    refine ⟨_, rfl, ?_⟩
    refine rn ?_
    exact end0 rfl ⟨rfl, hs⟩
  · refine s_conv rfl (IntWalk.u64_in _ (by omega)) ?_
    refine s_shl rfl rfl (by omega) (show _ = 2 * n by rw [u64_wrap]; show n * 2 % 18446744073709551616 = _; omega) ?_
    refine rnc ?_
    refine s_shr rfl rfl (by omega) (show _ = 0 by show n.fdiv 9223372036854775808 = 0; rw [Int.fdiv_eq_ediv_of_nonneg _ (by omega)]; omega) ?_
    refine s_conv rfl (show _ = 0 by decide) ?_
    refine s_xor rfl rfl (xor0 _ (by omega) (by omega)) ?_
    have e : (2 * n : Int) = ((zz n : Nat) : Int) := by unfold zz; rw [if_neg hn]; omega
    rw [e]
    refine s_call (wUintC p v bs (zz n) w (zz_lt h1 h2) hw hl) rfl ?_
    rintro _ w' ⟨rfl, hs⟩
    refine ⟨_, rfl, ?_⟩
    refine rn ?_
    exact end0 rfl ⟨rfl, hs⟩

theorem wBoolC (p : Nat) (v : Value) (bs : List Int) (b : Bool) (w : World) (hw : IsWC w p v bs) (hl : bs.length ≤ 1000000000000) :
    Calls Try.prog 109 #[.pointer (some ⟨p, 0, none⟩), .bool b] w fun e w' => e = .returned (.tuple #[]) ∧ WStepC p w v (bs ++ [if b then 1 else 0]) w' := by
  refine enter Try.func109 rfl Try.ntmps109 rfl ?_
  have hne := hw.2.ne hw.1 (by decide)
  cases b
  all_goals
    refine rn ?_
    refine s_loadB rfl hw.1 rfl ?_
    ((with_reducible apply s_build1); (conv => lhs; whnf); exact rfl)
    intro w1 ho1 hf1 hs1
    refine s_append (hw.2.tr0 hf1) rfl ho1.src rfl rfl (by simp [Value.oneCell']) (by unfold maxLen; omega) (by omega) (fun v2 w2 ho2 hf2 hk2 _ => ?_)
    refine rn ?_
    have hb2 := (hw.1.tr0 hf1).tr hf2 (fun hp => hne p hp rfl)
    ((with_reducible apply s_storeB); exact rfl; (conv => lhs; whnf); exact ho2.one; exact hb2; exact rfl)
    intro w3 hb3 hf3 hs3
    refine rn ?_
    exact end0 rfl ⟨rfl, hw.push (cs := [_]) hf1 ho2 hf2 hk2 hb3 hf3⟩

theorem wTextC (p : Nat) (v : Value) (bs : List Int) (s : ByteArray) (w : World) (hw : IsWC w p v bs) (hl : bs.length ≤ 100000000000) (hc : s.size ≤ 100000000000) :
    Calls Try.prog 64 #[.pointer (some ⟨p, 0, none⟩), .string s] w fun e w' => e = .returned (.tuple #[]) ∧ WStepC p w v (bs ++ raw (sb s)) w' := by
  refine enter Try.func64 rfl Try.ntmps64 rfl ?_
  refine rn ?_
  refine s_call (wUintC p v bs s.size w (by omega) hw (by omega)) rfl ?_
  rintro _ w1 ⟨rfl, v1, hw1, hf1, hk1⟩
  refine ⟨_, rfl, ?_⟩
  have hul := uv_len s.size (by omega)
  have hne := hw1.2.ne hw1.1 (by decide)
  refine rn ?_
  refine s_loadB rfl hw1.1 rfl ?_
  refine rn ?_
  refine s_appendS hw1.2 rfl rfl (by unfold maxLen; simp; omega) (by simp; omega) (fun v2 w2 ho2 hf2 hk2 _ => ?_)
  refine rn ?_
  have hb2 := hw1.1.tr hf2 (fun hp => hne p hp rfl)
  ((with_reducible apply s_storeB); exact rfl; (conv => lhs; whnf); exact ho2.one; exact hb2; exact rfl)
  intro w3 hb3 hf3 hs3
  refine rn ?_
  refine end0 rfl ⟨rfl, ?_⟩
  have hcs : s.data.toList.map (fun c => Value.int .u8 (c.toNat : Int)) = (sb s).map (.int .u8) := by simp [sb]
  have ho3 : Own w2 5 1 v2 ((bs ++ uv s.size).length + (sb s).length) ((bs ++ uv s.size).map (.int .u8) ++ (sb s).map (.int .u8)) := by rw [sb_len, ← hcs]; exact ho2
  have := WStepC.trans hf1 hk1 (hw1.push (Fr.refl _ _) ho3 hf2 hk2 hb3 hf3)
  simpa [raw, sb_len] using this

theorem wDoneC (p : Nat) (v : Value) (bs : List Int) (w : World) (hw : IsWC w p v bs) (hl : bs.length ≤ 1000000000000) :
    Calls Try.prog 65 #[.pointer (some ⟨p, 0, none⟩)] w fun e w' => ∃ v', e = .returned v' ∧ Own w' 5 1 v' bs.length (bs.map (.int .u8)) ∧ Fr [] w w' ∧ (∀ k ∈ blks v', w.heap.size ≤ k) ∧ v' ≠ .slice none 0 0 := by
  refine enter Try.func65 rfl Try.ntmps65 rfl ?_
  refine rn ?_
  refine s_build0 (fun w1 ho1 hf1 hs1 => ?_)
  refine rn ?_
  refine s_loadB rfl (hw.1.tr0 hf1) rfl ?_
  refine s_append ho1 rfl (hw.2.src.tr0 hf1) rfl (by simp) (ints_one _ _) (by unfold maxLen; omega) (by omega) (fun v2 w2 ho2 hf2 hk2 hn2 => ?_)
  refine rn ?_
  (apply ret1; exact rfl; (conv => lhs; whnf))
  refine ⟨v2, rfl, by simpa using ho2, ?_, ?_, ?_⟩
  · exact hf1.trans hf2 (fun x hx => by simp [blks, Value.ownBlock] at hx; exact .inr (by omega))
  · intro k hk
    rcases hk2 k hk with h | h
    · simp [blks, Value.ownBlock] at h; omega
    · omega
  · intro e; simpa using hn2.1 e

end Go.Proofs.Ytcogpedfnnfnaaa
namespace Go.Proofs.Ytcogpedfnnfnaaa
open Go.Rf Go.RowKit
set_option linter.unusedVariables false
set_option maxHeartbeats 4000000
attribute [local irreducible] Code.wp wpList Exit.then Exit.inBlock bodyPost A Calls execOp Addr.add

def meth (g p : Nat) : Value := .func (.func g) #[.pointer (some ⟨p, 0, none⟩)] #[]
def kindFs (p : Nat) : List Value := [meth 104 p, meth 105 p, meth 106 p, meth 107 p]
theorem allFs_mem {l : List V} (h : allFs l = true) {x : V} (hx : x ∈ l) : allF x = true := by
  induction l with
  | nil => cases hx
  | cons a l ih =>
    simp only [allFs, Bool.and_eq_true] at h
    rcases List.mem_cons.1 hx with rfl | hx
    · exact h.1
    · exact ih h.2 hx
theorem allTs_mem {l : List V} (h : allTs l = true) {x : V} (hx : x ∈ l) : allT x = true := by
  induction l with
  | nil => cases hx
  | cons a l ih =>
    simp only [allTs, Bool.and_eq_true] at h
    rcases List.mem_cons.1 hx with rfl | hx
    · exact h.1
    · exact ih h.2 hx
theorem kindsC (p : Nat) (w : World) : Calls Try.prog 99 #[.pointer (some ⟨p, 0, none⟩)] w fun r w' => r = .returned (.agg (kindFs p).toArray) ∧ Fr [] w w' := by
  refine enter Try.func99 rfl Try.ntmps99 rfl ?_
  refine rx ?_
  refine s_alloc rfl (fun w1 hb1 hf1 hs1 => ?_)
  refine rx ?_
  refine s_makeFunc (a := [.pointer (some ⟨p, 0, none⟩)]) (b := []) rfl rfl ?_
  refine rx ?_
  refine s_makeFunc (a := [.pointer (some ⟨p, 0, none⟩)]) (b := []) rfl rfl ?_
  refine rx ?_
  refine s_makeFunc (a := [.pointer (some ⟨p, 0, none⟩)]) (b := []) rfl rfl ?_
  refine rx ?_
  refine s_makeFunc (a := [.pointer (some ⟨p, 0, none⟩)]) (b := []) rfl rfl ?_
  refine s_buildA (kindFs p) rfl ?_
  refine s_storeAggB rfl rfl hb1 (by intro u hu; simp only [kindFs, List.mem_cons, List.not_mem_nil, or_false] at hu; rcases hu with rfl | rfl | rfl | rfl <;> rfl) rfl rfl (fun w2 hb2 hf2 hs2 => ?_)
  refine rx ?_
  have hb2' : Blk w2 w.heap.size (kindFs p) 144 := hb2
  exact retc rfl rfl (AggT.load _ (kindFs p) rfl (fun j x hx => by rw [add_lit]; exact hb2'.cell (by simpa using hx))) ⟨rfl, hf1.trans hf2 (by simp)⟩

theorem blk_ne {w : World} {p : Nat} {v : Value} {bs : List Int} (hw : IsWC w p v bs) : w.heap.size ∉ p :: blks v := by
  intro h
  rcases List.mem_cons.1 h with h | h
  · have := hw.1.lt; omega
  · have := hw.2.lt _ h; omega
theorem IsWC.tr0 {w w' : World} {p : Nat} {v : Value} {bs : List Int} (h : IsWC w p v bs) (hf : Fr [] w w') : IsWC w' p v bs := ⟨h.1.tr0 hf, h.2.tr0 hf⟩
theorem WStepC.from0 {p : Nat} {w w1 w2 : World} {v : Value} {bs2 : List Int} (hf : Fr [] w w1) (h : WStepC p w1 v bs2 w2) : WStepC p w v bs2 w2 :=
  WStepC.trans (hf.mono (by simp)) (fun k hk => .inl hk) h

theorem cNumber (p : Nat) (vw : Value) (bs : List Int) (v : V) (sl : Value) (w : World) (hw : IsWC w p vw bs) (hsl : sl.oneCell' = true) (hn : InI64 v.n) (hl : bs.length ≤ 100000000000) :
    Calls Try.prog 104 #[.pointer (some ⟨p, 0, none⟩), .agg (vc v sl).toArray] w fun e w' => e = .returned (.tuple #[]) ∧ WStepC p w vw (bs ++ iv v.n) w' := by
  refine enter Try.func104 rfl Try.ntmps104 rfl ?_
  refine rx ?_
  refine s_box rfl rfl (fun w1 hb1 hf1 hs1 => ?_)
  have hb1 : Blk w1 w.heap.size (vc v sl) 44 := hb1
  refine rx ?_
  (refine d_begin (fun q => True ∧ Blk q w.heap.size (vc v sl) 44) (by kernel_rfl) rfl ?_)
  have hS : True ∧ Blk w1.drew w.heap.size (vc v sl) 44 := ⟨trivial, hb1.tr0 (Fr.drew _ _)⟩
  ((first | refine d_tx 0 hS ?_ | refine d_ty 0 hS ?_ | refine d_tn 0 hS ?_); (first | refine d_tx 1 hS ?_ | refine d_ty 1 hS ?_ | refine d_tn 1 hS ?_); (first | refine d_tx 2 hS ?_ | refine d_ty 2 hS ?_ | refine d_tn 2 hS ?_); (first | refine d_tx 3 hS ?_ | refine d_ty 3 hS ?_ | refine d_tn 3 hS ?_); (first | refine d_tx 4 hS ?_ | refine d_ty 4 hS ?_ | refine d_tn 4 hS ?_))
  refine d_one (i := 5) rfl (by kernel_rfl) ?_
  have hF : Fr [] w w1.drew := hf1.trans0 (Fr.drew _ _)
  refine s_call (wIntC p vw bs v.n w1.drew hn.1 hn.2 (hw.tr0 hF) (by omega)) rfl ?_
  rintro _ w2 ⟨rfl, hst⟩
  refine ⟨_, rfl, ?_⟩
  have hst' := WStepC.from0 hF hst
  obtain ⟨v2, h1, h2, h3⟩ := id hst
  refine wpList_nil (q_held ⟨trivial, hS.2.tr h2 (blk_ne hw)⟩ ?_)
  (refine d_done (by kernel_rfl) ?_)
  refine rx ?_
  exact end0 rfl ⟨rfl, hst'⟩
theorem cTruth (p : Nat) (vw : Value) (bs : List Int) (v : V) (sl : Value) (w : World) (hw : IsWC w p vw bs) (hsl : sl.oneCell' = true) (hl : bs.length ≤ 100000000000) :
    Calls Try.prog 105 #[.pointer (some ⟨p, 0, none⟩), .agg (vc v sl).toArray] w fun e w' => e = .returned (.tuple #[]) ∧ WStepC p w vw (bs ++ [if v.n = 1 then 1 else 0]) w' := by
  refine enter Try.func105 rfl Try.ntmps105 rfl ?_
  refine rx ?_
  refine s_box rfl rfl (fun w1 hb1 hf1 hs1 => ?_)
  have hb1 : Blk w1 w.heap.size (vc v sl) 44 := hb1
  refine rx ?_
  (refine d_begin (fun q => True ∧ Blk q w.heap.size (vc v sl) 44) (by kernel_rfl) rfl ?_)
  have hS : True ∧ Blk w1.drew w.heap.size (vc v sl) 44 := ⟨trivial, hb1.tr0 (Fr.drew _ _)⟩
  ((first | refine d_tx 0 hS ?_ | refine d_ty 0 hS ?_ | refine d_tn 0 hS ?_); (first | refine d_tx 1 hS ?_ | refine d_ty 1 hS ?_ | refine d_tn 1 hS ?_); (first | refine d_tx 2 hS ?_ | refine d_ty 2 hS ?_ | refine d_tn 2 hS ?_); (first | refine d_tx 3 hS ?_ | refine d_ty 3 hS ?_ | refine d_tn 3 hS ?_); (first | refine d_tx 4 hS ?_ | refine d_ty 4 hS ?_ | refine d_tn 4 hS ?_))
  (apply d_take (i := 5); exact rfl; kernel_rfl; kernel_rfl; kernel_rfl; (intro u hu; exact (r_eql rfl rfl rfl)); exact hS)
  refine d_one (i := 6) rfl (by kernel_rfl) ?_
  have hF : Fr [] w w1.drew := hf1.trans0 (Fr.drew _ _)
  refine s_call (wBoolC p vw bs (decide (v.n = 1)) w1.drew (hw.tr0 hF) (by omega)) rfl ?_
  rintro _ w2 ⟨rfl, hst⟩
  refine ⟨_, rfl, ?_⟩
  have hst' := WStepC.from0 hF hst
  have e0 : (if decide (v.n = 1) = true then (1 : Int) else 0) = if v.n = 1 then 1 else 0 := by simp
  rw [e0] at hst'
  obtain ⟨v2, h1, h2, h3⟩ := id hst
  refine wpList_nil (q_held ⟨trivial, hS.2.tr h2 (blk_ne hw)⟩ ?_)
  (refine d_done (by kernel_rfl) ?_)
  refine rx ?_
  exact end0 rfl ⟨rfl, hst'⟩

theorem encVs_len_take (l : List V) (i : Nat) : (encVs (l.take i)).length ≤ (encVs l).length := by
  conv => rhs; rw [← List.take_append_drop i l, encVs_append, List.length_append]
  omega
theorem cList (p : Nat) (vw : Value) (bs : List Int) (v : V) (sl : Value) (w : World) (hw : IsWC w p vw bs) (hv : VS w (p :: blks vw) v.kids sl) (hk : v.kids.length ≤ 256) (hl : bs.length + ((iv (v.kids.length : Int)).length + (encVs v.kids).length) ≤ 90000000000)
    (H : ∀ x ∈ v.kids, ∀ (p : Nat) (vw : Value) (bs : List Int) (sx : Value) (u : World), IsWC u p vw bs → VS u (p :: blks vw) x.kids sx → bs.length + (encV x).length ≤ 90000000000 →
      Calls Try.prog 84 #[.pointer (some ⟨p, 0, none⟩), .agg (vc x sx).toArray] u fun e u' => e = .returned (.tuple #[]) ∧ WStepC p u vw (bs ++ encV x) u') :
    Calls Try.prog 106 #[.pointer (some ⟨p, 0, none⟩), .agg (vc v sl).toArray] w fun e w' => e = .returned (.tuple #[]) ∧ WStepC p w vw (bs ++ (iv v.kids.length ++ encVs v.kids)) w' := by
  obtain ⟨ao, c, rfl, hc⟩ := hv.slice
  refine enter Try.func106 rfl Try.ntmps106 rfl ?_
  refine rx ?_
  refine s_box rfl rfl (fun w1 hb1 hf1 hs1 => ?_)
  have hb1 : Blk w1 w.heap.size (vc v (.slice ao v.kids.length c)) 44 := hb1
  refine rx ?_
  (refine d_begin (fun q => True ∧ Blk q w.heap.size (vc v (.slice ao v.kids.length c)) 44) (by kernel_rfl) rfl ?_)
  have hS : True ∧ Blk w1.drew w.heap.size (vc v (.slice ao v.kids.length c)) 44 := ⟨trivial, hb1.tr0 (Fr.drew _ _)⟩
  ((first | refine d_tx 0 hS ?_ | refine d_ty 0 hS ?_ | refine d_tn 0 hS ?_); (first | refine d_tx 1 hS ?_ | refine d_ty 1 hS ?_ | refine d_tn 1 hS ?_); (first | refine d_tx 2 hS ?_ | refine d_ty 2 hS ?_ | refine d_tn 2 hS ?_); (first | refine d_tx 3 hS ?_ | refine d_ty 3 hS ?_ | refine d_tn 3 hS ?_); (first | refine d_tx 4 hS ?_ | refine d_ty 4 hS ?_ | refine d_tn 4 hS ?_); (first | refine d_tx 5 hS ?_ | refine d_ty 5 hS ?_ | refine d_tn 5 hS ?_))
  refine d_one (i := 6) rfl (by kernel_rfl) ?_
  have hF : Fr [] w w1.drew := hf1.trans0 (Fr.drew _ _)
  have hivl := iv_len (n := (v.kids.length : Int)) (by omega) (by omega)
  refine s_call (wIntC p vw bs v.kids.length w1.drew (by omega) (by omega) (hw.tr0 hF) (by omega)) rfl ?_
  rintro _ w2 ⟨rfl, v2, hw2, hf2, hk2⟩
  refine ⟨_, rfl, ?_⟩
  have hb2 := hS.2.tr hf2 (blk_ne hw)
  refine wpList_nil (q_held ⟨trivial, hb2⟩ ?_)
  (refine d_done (by kernel_rfl) ?_)
  have hF2 : Fr (p :: blks vw) w w2 := (hF.mono (by simp)).trans hf2 (fun x hx => .inl hx)
  have hk2' : ∀ k ∈ blks v2, k ∈ blks vw ∨ w.heap.size ≤ k := fun k hk' => by
    rcases hk2 k hk' with h | h
    · exact .inl h
    · right; have := hF.size; omega
  clear hb1 hS
  refine rx ?_
  refine c_loopK 16 [5] (σ := Nat × Value) (fun st g z => g 16 = .int .i64 st.1 ∧ st.1 ≤ v.kids.length ∧ IsWC z p st.2 (bs ++ (iv v.kids.length ++ encVs (v.kids.take st.1))) ∧ Fr (p :: blks vw) w z ∧ (∀ k ∈ blks st.2, k ∈ blks vw ∨ w.heap.size ≤ k)) (fun st => v.kids.length - st.1) (0, v2)
    ⟨rfl, Nat.zero_le _, by simpa [encVs] using hw2, hF2, hk2'⟩ ?_
  rintro ⟨i, vi⟩ g z ⟨h16, hi, hwi, hfz, hki⟩
  simp only at h16 hi hwi hki
  rw [eq_upd h16]
  by_cases hlt : i < v.kids.length
  case neg =>
    refine rx ?_
    rw [List.take_of_length_le (by omega)] at hwi
    exact end0 rfl ⟨rfl, vi, hwi, hfz, hki⟩
  have hvz : VS z (p :: blks vi) v.kids (.slice ao v.kids.length c) := hv.turn hfz (fun k hk' => by
    rcases List.mem_cons.1 hk' with rfl | hk'
    · exact .inl (by simp)
    · rcases hki k hk' with h | h
      · exact .inl (by simp [h])
      · exact .inr h)
  obtain ⟨ad, cs, rfl, ⟨sx, rfl, hx⟩, hcx⟩ := hvz.sl.at VR.len hlt
  refine rx ?_
  refine s_alloc rfl (fun z1 hbz1 hfz1 hsz1 => ?_)
  refine s_storeAggB rfl rfl hbz1 (VR.mem1 (w := z) (S := []) v.kids[i] _ ⟨sx, rfl, hx.mono (by simp)⟩) rfl rfl (fun z2 hbz2 hfz2 hsz2 => ?_)
  have hFz2 : Fr [] z z2 := hfz1.trans hfz2 (by simp)
  have hbz2 : Blk z2 z.heap.size (vc v.kids[i] sx) 44 := hbz2
  have hstep : encVs (v.kids.take (i + 1)) = encVs (v.kids.take i) ++ encV v.kids[i] := by rw [List.take_succ_eq_append_getElem hlt, encVs_append]; simp [encVs]
  have hle1 := encVs_len_take v.kids (i + 1)
  rw [hstep, List.length_append] at hle1
  refine rx ?_
  refine s_call (H v.kids[i] (by simp) p vi _ sx z2 (hwi.tr0 hFz2) (hx.tr0 hFz2) (by simp only [List.length_append]; omega)) rfl ?_
  rintro _ z3 ⟨rfl, v3, hw3, hf3, hk3⟩
  refine ⟨_, rfl, ?_⟩
  have hzs := hfz.size
  have hzs2 := hFz2.size
  refine rx ?_
  refine q_roundK (i + 1, v3) (by (repeat (first | exact Keep.mrg _ _ _ _ | (refine Keep.hi rfl ?_) | (refine Keep.one rfl ?_) | exact Keep.all rfl | (refine Keep.inn rfl ?_) | (refine Keep.set rfl ?_)))) ⟨rfl, by simp only; omega, by simp only [hstep]; simpa using hw3, ?_, fun k hk' => ?_⟩ (by simp only; omega)
  · refine (hfz.trans0 hFz2).trans hf3 (fun k hk' => ?_)
    rcases List.mem_cons.1 hk' with rfl | hk'
    · exact .inl (by simp)
    · rcases hki k hk' with h | h
      · exact .inl (by simp [h])
      · exact .inr h
  · rcases hk3 k hk' with h | h
    · exact hki k h
    · right; omega

theorem cMade (p : Nat) (vw : Value) (bs : List Int) (v : V) (sl : Value) (w : World) (hw : IsWC w p vw bs) (hv : VS w (p :: blks vw) v.kids sl) (hk : v.kids.length ≤ 256) (hs : v.s.size ≤ 1000) (hl : bs.length + ((raw (sb v.s)).length + ((iv (v.kids.length : Int)).length + (encVs v.kids).length)) ≤ 90000000000)
    (H : ∀ x ∈ v.kids, ∀ (p : Nat) (vw : Value) (bs : List Int) (sx : Value) (u : World), IsWC u p vw bs → VS u (p :: blks vw) x.kids sx → bs.length + (encV x).length ≤ 90000000000 →
      Calls Try.prog 84 #[.pointer (some ⟨p, 0, none⟩), .agg (vc x sx).toArray] u fun e u' => e = .returned (.tuple #[]) ∧ WStepC p u vw (bs ++ encV x) u') :
    Calls Try.prog 107 #[.pointer (some ⟨p, 0, none⟩), .agg (vc v sl).toArray] w fun e w' => e = .returned (.tuple #[]) ∧ WStepC p w vw (bs ++ (raw (sb v.s) ++ (iv v.kids.length ++ encVs v.kids))) w' := by
  obtain ⟨ao, c, rfl, hc⟩ := hv.slice
  refine enter Try.func107 rfl Try.ntmps107 rfl ?_
  refine rx ?_
  refine s_box rfl rfl (fun w1 hb1 hf1 hs1 => ?_)
  have hb1 : Blk w1 w.heap.size (vc v (.slice ao v.kids.length c)) 44 := hb1
  refine rx ?_
  (refine d_begin (fun q => True ∧ Blk q w.heap.size (vc v (.slice ao v.kids.length c)) 44) (by kernel_rfl) rfl ?_)
  have hS : True ∧ Blk w1.drew w.heap.size (vc v (.slice ao v.kids.length c)) 44 := ⟨trivial, hb1.tr0 (Fr.drew _ _)⟩
  ((first | refine d_tx 0 hS ?_ | refine d_ty 0 hS ?_ | refine d_tn 0 hS ?_); (first | refine d_tx 1 hS ?_ | refine d_ty 1 hS ?_ | refine d_tn 1 hS ?_); (first | refine d_tx 2 hS ?_ | refine d_ty 2 hS ?_ | refine d_tn 2 hS ?_); (first | refine d_tx 3 hS ?_ | refine d_ty 3 hS ?_ | refine d_tn 3 hS ?_); (first | refine d_tx 4 hS ?_ | refine d_ty 4 hS ?_ | refine d_tn 4 hS ?_))
  refine d_one (i := 5) rfl (by kernel_rfl) ?_
  have hF : Fr [] w w1.drew := hf1.trans0 (Fr.drew _ _)
  refine s_call (wTextC p vw bs v.s w1.drew (hw.tr0 hF) (by omega) (by omega)) rfl ?_
  rintro _ w2 ⟨rfl, v2, hw2, hf2, hk2⟩
  refine ⟨_, rfl, ?_⟩
  have hb2 := hS.2.tr hf2 (blk_ne hw)
  refine wpList_nil (q_held ⟨trivial, hb2⟩ ?_)
  (refine d_done (by kernel_rfl) ?_)
  have hF2 : Fr (p :: blks vw) w w2 := (hF.mono (by simp)).trans hf2 (fun x hx => .inl hx)
  have hk2' : ∀ k ∈ blks v2, k ∈ blks vw ∨ w.heap.size ≤ k := fun k hk' => by
    rcases hk2 k hk' with h | h
    · exact .inl h
    · right; have := hF.size; omega
  have hrl : (raw (sb v.s)).length ≤ 1010 := by
    unfold raw
    have h1 := sb_len v.s
    have h2 := uv_len (sb v.s).length (by omega)
    rw [List.length_append]; omega
  clear hb1 hS
  refine rx ?_
  have hv2 : VS w2 (p :: blks v2) v.kids (.slice ao v.kids.length c) := hv.turn hF2 (fun k hk' => by
    rcases List.mem_cons.1 hk' with rfl | hk'
    · exact .inl (by simp)
    · rcases hk2' k hk' with h | h
      · exact .inl (by simp [h])
      · exact .inr h)
  refine s_call (cList p v2 _ v _ w2 hw2 hv2 hk (by simp only [List.length_append]; omega) H) rfl ?_
  rintro _ w3 ⟨rfl, hst⟩
  refine ⟨_, rfl, ?_⟩
  refine rx ?_
  refine end0 rfl ⟨rfl, ?_⟩
  have := WStepC.trans hF2 hk2' hst
  simpa using this

theorem cValue (v : V) (hF : allF v = true) (hT : allT v = true) (hI : IntV v) (p : Nat) (vw : Value) (bs : List Int) (sl : Value) (w : World) (hw : IsWC w p vw bs) (hv : VS w (p :: blks vw) v.kids sl) (hl : bs.length + (encV v).length ≤ 90000000000) :
    Calls Try.prog 84 #[.pointer (some ⟨p, 0, none⟩), .agg (vc v sl).toArray] w fun e w' => e = .returned (.tuple #[]) ∧ WStepC p w vw (bs ++ encV v) w' := by
  have hfm : fmd v = true ∧ allFs v.kids = true := by rw [allF_eq, Bool.and_eq_true] at hF; exact hF
  have hft : fts v = true ∧ allTs v.kids = true := by rw [allT_eq, Bool.and_eq_true] at hT; exact hT
  have hk256 : v.kids.length ≤ 256 := by
    have := hft.1
    simp only [fts, decide_eq_true_eq] at this
    exact this.1
  have H : ∀ x ∈ v.kids, ∀ (p : Nat) (vw : Value) (bs : List Int) (sx : Value) (u : World), IsWC u p vw bs → VS u (p :: blks vw) x.kids sx → bs.length + (encV x).length ≤ 90000000000 →
      Calls Try.prog 84 #[.pointer (some ⟨p, 0, none⟩), .agg (vc x sx).toArray] u fun e u' => e = .returned (.tuple #[]) ∧ WStepC p u vw (bs ++ encV x) u' := fun x hx p vw bs sx u h1 h2 h3 => cValue x (allFs_mem hfm.2 hx) (allTs_mem hft.2 hx) (hI.kids x hx) p vw bs sx u h1 h2 h3
  have hkr : v.kind = 0 ∨ v.kind = 1 ∨ v.kind = 2 ∨ v.kind = 3 := by
    have := hfm.1
    unfold fmd at this
    by_cases k0 : v.kind = 0
    · exact .inl k0
    · by_cases k1 : v.kind = 1
      · exact .inr (.inl k1)
      · by_cases k2 : v.kind = 2
        · exact .inr (.inr (.inl k2))
        · by_cases k3 : v.kind = 3
          · exact .inr (.inr (.inr k3))
          · rw [if_neg k0, if_neg k1, if_neg k2, if_neg k3] at this; cases this
  have hs16 : v.kind = 3 → v.s.size ≤ 16 := fun k3 => by
    have := hfm.1
    unfold fmd at this
    rw [if_neg (by omega), if_neg (by omega), if_neg (by omega), if_pos k3, Bool.and_eq_true] at this
    have h1 := capB_len this.2
    have e : v.s.size = v.s.data.toList.length := rfl
    omega
  have hE := encV_eq v
  obtain ⟨ao, c, rfl, hc⟩ := hv.slice
  refine enter Try.func84 rfl Try.ntmps84 rfl ?_
  refine rx ?_
  refine s_box rfl rfl (fun w1 hb1 hf1 hs1 => ?_)
  have hb1 : Blk w1 w.heap.size (vc v (.slice ao v.kids.length c)) 44 := hb1
  refine rx ?_
  (refine d_begin (fun q => True ∧ Blk q w.heap.size (vc v (.slice ao v.kids.length c)) 44) (by kernel_rfl) rfl ?_)
  have hS : True ∧ Blk w1.drew w.heap.size (vc v (.slice ao v.kids.length c)) 44 := ⟨trivial, hb1.tr0 (Fr.drew _ _)⟩
  ((first | refine d_tx 0 hS ?_ | refine d_ty 0 hS ?_ | refine d_tn 0 hS ?_); (first | refine d_tx 1 hS ?_ | refine d_ty 1 hS ?_ | refine d_tn 1 hS ?_); (first | refine d_tx 2 hS ?_ | refine d_ty 2 hS ?_ | refine d_tn 2 hS ?_); (first | refine d_tx 3 hS ?_ | refine d_ty 3 hS ?_ | refine d_tn 3 hS ?_); (first | refine d_tx 4 hS ?_ | refine d_ty 4 hS ?_ | refine d_tn 4 hS ?_))
  refine d_one (i := 5) rfl (by kernel_rfl) ?_
  have hF1 : Fr [] w w1.drew := hf1.trans0 (Fr.drew _ _)
  have hivl := iv_len (n := v.kind) (by omega) (by omega)
  refine s_call (wIntC p vw bs v.kind w1.drew (by omega) (by omega) (hw.tr0 hF1) (by omega)) rfl ?_
  rintro _ w2 ⟨rfl, v2, hw2, hf2, hk2⟩
  refine ⟨_, rfl, ?_⟩
  have hb2 := hS.2.tr hf2 (blk_ne hw)
  refine wpList_nil (q_held ⟨trivial, hb2⟩ ?_)
  (refine d_done (by kernel_rfl) ?_)
  have hF2 : Fr (p :: blks vw) w w2 := (hF1.mono (by simp)).trans hf2 (fun x hx => .inl hx)
  have hk2' : ∀ k ∈ blks v2, k ∈ blks vw ∨ w.heap.size ≤ k := fun k hk' => by
    rcases hk2 k hk' with h | h
    · exact .inl h
    · right; have := hF1.size; omega
  have hv2 : VS w2 (p :: blks v2) v.kids (.slice ao v.kids.length c) := hv.turn hF2 (fun k hk' => by
    rcases List.mem_cons.1 hk' with rfl | hk'
    · exact .inl (by simp)
    · rcases hk2' k hk' with h | h
      · exact .inl (by simp [h])
      · exact .inr h)
  have hNB : w.heap.size ∉ p :: blks v2 := fun h => by
    have hlt := hf1.size
    rcases List.mem_cons.1 h with h | h
    · have := hw.1.lt; omega
    · rcases hk2 _ h with h' | h'
      · have := hw.2.lt _ h'; omega
      · have e1 : w1.drew.heap.size = w1.heap.size := rfl
        omega
  have hfin : ∀ {w3 : World} {xs : List Int}, encV v = iv v.kind ++ xs → WStepC p w2 v2 (bs ++ iv v.kind ++ xs) w3 → WStepC p w vw (bs ++ encV v) w3 := fun he hst => by
    have := WStepC.trans hF2 hk2' hst
    rw [he, ← List.append_assoc]; exact this
  clear hb1 hS
  refine rx ?_
  (refine d_begin (fun q => True ∧ Blk q w.heap.size (vc v (.slice ao v.kids.length c)) 44) (by kernel_rfl) rfl ?_)
  have hT2 : True ∧ Blk w2.drew w.heap.size (vc v (.slice ao v.kids.length c)) 44 := ⟨trivial, hb2.tr0 (Fr.drew _ _)⟩
  ((first | refine d_tx 0 hT2 ?_ | refine d_ty 0 hT2 ?_ | refine d_tn 0 hT2 ?_); (first | refine d_tx 2 hT2 ?_ | refine d_ty 2 hT2 ?_ | refine d_tn 2 hT2 ?_); (first | refine d_tx 3 hT2 ?_ | refine d_ty 3 hT2 ?_ | refine d_tn 3 hT2 ?_); (first | refine d_tx 5 hT2 ?_ | refine d_ty 5 hT2 ?_ | refine d_tn 5 hT2 ?_))
  refine d_one (i := 1) rfl (by kernel_rfl) ?_
  refine s_call (kindsC p w2.drew) rfl ?_
  rintro _ w3 ⟨rfl, hf3⟩
  refine ⟨_, rfl, ?_⟩
  have hF3 : Fr [] w2 w3 := (Fr.drew _ _).trans0 hf3
  have hT3 : True ∧ Blk w3 w.heap.size (vc v (.slice ao v.kids.length c)) 44 := ⟨trivial, hb2.tr0 hF3⟩
  refine wpList_nil (q_held hT3 ?_)
  have hw3 := hw2.tr0 hF3
  have hv3 := hv2.tr0 hF3
  have hlen2 : (bs ++ iv v.kind).length = bs.length + (iv v.kind).length := List.length_append
  rcases hkr with k | k | k | k
  · (apply d_take (i := 4); exact rfl; kernel_rfl; kernel_rfl; kernel_rfl; (intro u hu; exact (r_indexArr (cs := kindFs p) (j := 0) rfl (congrArg (Value.int .i64) k) (by decide) rfl)); exact hT3)
    refine d_one (i := 6) rfl (by kernel_rfl) ?_
    refine s_callV (first := [.pointer (some ⟨p, 0, none⟩)]) (cap := []) (cNumber p v2 _ v (.slice ao v.kids.length c) w3 hw3 rfl hI.n (by omega)) rfl rfl rfl ?_
    rintro _ w4 ⟨rfl, hst⟩
    refine ⟨_, rfl, ?_⟩
    obtain ⟨v4, q1, q2, q3⟩ := id hst
    refine wpList_nil (q_held ⟨trivial, hT3.2.tr q2 hNB⟩ ?_)
    (refine d_done (by kernel_rfl) ?_)
    refine rx ?_
    rw [if_pos k] at hE
    exact end0 rfl ⟨rfl, hfin hE (WStepC.from0 hF3 hst)⟩
  · (apply d_take (i := 4); exact rfl; kernel_rfl; kernel_rfl; kernel_rfl; (intro u hu; exact (r_indexArr (cs := kindFs p) (j := 1) rfl (congrArg (Value.int .i64) k) (by decide) rfl)); exact hT3)
    refine d_one (i := 6) rfl (by kernel_rfl) ?_
    refine s_callV (first := [.pointer (some ⟨p, 0, none⟩)]) (cap := []) (cTruth p v2 _ v (.slice ao v.kids.length c) w3 hw3 rfl (by omega)) rfl rfl rfl ?_
    rintro _ w4 ⟨rfl, hst⟩
    refine ⟨_, rfl, ?_⟩
    obtain ⟨v4, q1, q2, q3⟩ := id hst
    refine wpList_nil (q_held ⟨trivial, hT3.2.tr q2 hNB⟩ ?_)
    (refine d_done (by kernel_rfl) ?_)
    refine rx ?_
    rw [if_neg (by omega), if_pos k] at hE
    exact end0 rfl ⟨rfl, hfin hE (WStepC.from0 hF3 hst)⟩
  · rw [if_neg (by omega), if_neg (by omega), if_neg (by omega), List.nil_append] at hE
    have hEl : (encV v).length = (iv v.kind).length + ((iv (v.kids.length : Int)).length + (encVs v.kids).length) := by rw [hE]; simp
    (apply d_take (i := 4); exact rfl; kernel_rfl; kernel_rfl; kernel_rfl; (intro u hu; exact (r_indexArr (cs := kindFs p) (j := 2) rfl (congrArg (Value.int .i64) k) (by decide) rfl)); exact hT3)
    refine d_one (i := 6) rfl (by kernel_rfl) ?_
    refine s_callV (first := [.pointer (some ⟨p, 0, none⟩)]) (cap := []) (cList p v2 _ v (.slice ao v.kids.length c) w3 hw3 hv3 hk256 (by omega) H) rfl rfl rfl ?_
    rintro _ w4 ⟨rfl, hst⟩
    refine ⟨_, rfl, ?_⟩
    obtain ⟨v4, q1, q2, q3⟩ := id hst
    refine wpList_nil (q_held ⟨trivial, hT3.2.tr q2 hNB⟩ ?_)
    (refine d_done (by kernel_rfl) ?_)
    refine rx ?_
    exact end0 rfl ⟨rfl, hfin hE (WStepC.from0 hF3 hst)⟩
  · rw [if_neg (by omega), if_neg (by omega), if_pos k] at hE
    have hEl : (encV v).length = (iv v.kind).length + ((raw (sb v.s)).length + ((iv (v.kids.length : Int)).length + (encVs v.kids).length)) := by rw [hE]; simp
    (apply d_take (i := 4); exact rfl; kernel_rfl; kernel_rfl; kernel_rfl; (intro u hu; exact (r_indexArr (cs := kindFs p) (j := 3) rfl (congrArg (Value.int .i64) k) (by decide) rfl)); exact hT3)
    refine d_one (i := 6) rfl (by kernel_rfl) ?_
    have h16 := hs16 k
    refine s_callV (first := [.pointer (some ⟨p, 0, none⟩)]) (cap := []) (cMade p v2 _ v (.slice ao v.kids.length c) w3 hw3 hv3 hk256 (by omega) (by omega) H) rfl rfl rfl ?_
    rintro _ w4 ⟨rfl, hst⟩
    refine ⟨_, rfl, ?_⟩
    obtain ⟨v4, q1, q2, q3⟩ := id hst
    refine wpList_nil (q_held ⟨trivial, hT3.2.tr q2 hNB⟩ ?_)
    (refine d_done (by kernel_rfl) ?_)
    refine rx ?_
    exact end0 rfl ⟨rfl, hfin hE (WStepC.from0 hF3 hst)⟩
termination_by SizeOf.sizeOf v
decreasing_by
  have h1 := List.sizeOf_lt_of_mem hx
  have h2 : SizeOf.sizeOf v.kids < SizeOf.sizeOf v := by cases v; simp; omega
  omega
end Go.Proofs.Ytcogpedfnnfnaaa
