/-
  Contracts of package wire's Writer.
-/
import Derived.Test.YtpochcchekoonaaGreatPlain
import Derived.Test.YtpochcchekoonaaGreatInst
namespace Go.Proofs.YtpochcchekoonaaGreat
open Go.Rf Go.RowKit
attribute [local irreducible] Code.wp wpList Exit.then Exit.inBlock bodyPost A Calls execOp Addr.add

theorem around (a b : Int) (w : World) (ha : -9223372036854775808 ≤ a) (ha2 : a ≤ 9223372036854775807) (hb : 0 < b) :
    Calls Tryz.prog 25 #[.int .i64 a, .int .i64 b] w fun e w' => e = .returned (.int .i64 (arnd a b)) ∧ w = w' := by
  refine enter Tryz.func25 rfl Tryz.ntmps25 rfl ?_
  refine rn ?_
  refine s_lss rfl rfl (fun h => ?_) (fun h => ?_)
  · refine rn ?_
    (apply ret1; exact rfl; (conv => lhs; whnf))
    exact ⟨by rw [arnd, if_pos h, Int.zero_sub], rfl⟩
  · refine rn ?_
    (apply ret1; exact rfl; (conv => lhs; whnf))
    exact ⟨by rw [arnd, if_neg h], rfl⟩

def IsW (w : World) (p : Nat) (v : Value) (bs : List Int) : Prop := Blk w p [v] 95 ∧ Own w 5 1 v bs.length (bs.map (.int .u8))
/-- a step of a writer: it holds bs'; nothing else has changed -/
def WStep (p : Nat) (w : World) (v : Value) (bs' : List Int) (w' : World) : Prop :=
  ∃ v', IsW w' p v' bs' ∧ Fr (p :: blks v) w w' ∧ ∀ k ∈ blks v', k ∈ blks v ∨ w.heap.size ≤ k
theorem WStep.refl {p : Nat} {w : World} {v : Value} {bs : List Int} (h : IsW w p v bs) : WStep p w v bs w := ⟨v, h, Fr.refl _ _, fun _ hk => .inl hk⟩
theorem WStep.trans {p : Nat} {w w1 w2 : World} {v v1 : Value} {bs2 : List Int} (hf : Fr (p :: blks v) w w1) (hk : ∀ k ∈ blks v1, k ∈ blks v ∨ w.heap.size ≤ k) (h : WStep p w1 v1 bs2 w2) : WStep p w v bs2 w2 := by
  obtain ⟨v2, h1, h2, h3⟩ := h
  refine ⟨v2, h1, hf.trans h2 ?_, ?_⟩
  · intro x hx
    rcases List.mem_cons.1 hx with rfl | hx
    · exact .inl (by simp)
    · rcases hk x hx with h | h
      · exact .inl (by simp [h])
      · exact .inr h
  · intro k hk2
    rcases h3 k hk2 with h | h
    · exact hk k h
    · exact .inr (Nat.le_trans hf.size h)
theorem IsW.one {w : World} {p : Nat} {v : Value} {bs : List Int} (h : IsW w p v bs) : v.oneCell' = true := h.2.one

/-- 'w.buf = append(w.buf, cs...)' -/
theorem IsW.push {w w1 w2 : World} {p : Nat} {v v' : Value} {bs cs : List Int} (h : IsW w p v bs) (hf1 : Fr [] w w1) (ho : Own w2 5 1 v' (bs.length + cs.length) (bs.map (.int .u8) ++ cs.map (.int .u8))) (hf2 : Fr (blks v) w1 w2)
    (hk : ∀ b ∈ blks v', b ∈ blks v ∨ w1.heap.size ≤ b) {w3 : World} (hb : Blk w3 p [v'] 95) (hf3 : Fr [p] w2 w3) : WStep p w v (bs ++ cs) w3 := by
  have hne := Own.ne ho ((h.1.tr0 hf1).tr hf2 (fun hp => (h.2.ne h.1 (by decide)) p hp rfl)) (by decide)
  refine ⟨v', ⟨hb, ?_⟩, ?_, ?_⟩
  · have := ho.tr hf3 (fun k hk => by simp; exact hne k hk)
    simpa using this
  · refine (hf1.mono (fun x hx => by cases hx)).trans (hf2.mono (T := p :: blks v) (fun x hx => .inl (by simp [hx]))) (fun x hx => .inl hx) |>.trans hf3 (fun x hx => .inl (by simp at hx; simp [hx]))
  · intro k hk'
    rcases hk k hk' with h | h
    · exact .inl h
    · exact .inr (Nat.le_trans hf1.size h)

theorem wUint (p : Nat) (v : Value) (bs : List Int) (n : Nat) (w : World) (hn : n < 18446744073709551616) (hw : IsW w p v bs) (hl : bs.length ≤ 1000000000000) :
    Calls Tryz.prog 94 #[.pointer (some ⟨p, 0, none⟩), .int .u64 n] w fun e w' => e = .returned (.tuple #[]) ∧ WStep p w v (bs ++ uv n) w' := by
  refine enter Tryz.func94 rfl Tryz.ntmps94 rfl ?_
  refine rn ?_
  have hul := uv_len n hn
  refine c_loop (σ := Nat × Value × List Int) (fun s g u => g 0 = .pointer (some ⟨p, 0, none⟩) ∧ g 1 = .int .u64 s.1 ∧ s.1 < 18446744073709551616 ∧ bs ++ uv n = s.2.2 ++ uv s.1 ∧ IsW u p s.2.1 s.2.2 ∧ Fr (p :: blks v) w u ∧ ∀ k ∈ blks s.2.1, k ∈ blks v ∨ w.heap.size ≤ k)
    (fun s => s.1) (n, v, bs) ⟨rfl, rfl, hn, rfl, hw, Fr.refl _ _, fun _ hk => .inl hk⟩ ?_
  rintro ⟨m, vr, br⟩ g u ⟨h0, h1, hm, hbs, hwr, hfr, hkr⟩
  simp only at h0 h1 hm hbs hwr hkr
  rw [eq_upd h0, eq_upd h1]
  have hlen : br.length ≤ 1000000000010 := by
    have := congrArg List.length hbs
    simp only [List.length_append] at this
    omega
  refine rn ?_
  have hne := hwr.2.ne hwr.1 (by decide)
  refine s_geq rfl rfl (fun h => ?_) (fun h => ?_)
  · refine rn ?_
    refine s_loadB rfl hwr.1 rfl ?_
    refine rn ?_
    refine s_conv rfl (u8_wrap _) ?_
    refine s_or rfl rfl (or128 m) ?_
    ((with_reducible apply s_build1); (conv => lhs; whnf); exact rfl)
    intro w1 ho1 hf1 hs1
    refine s_append (hwr.2.tr0 hf1) rfl ho1.src rfl rfl (by simp [Value.oneCell']) (by unfold maxLen; omega) (by omega) (fun v2 w2 ho2 hf2 hk2 _ => ?_)
    refine rn ?_
    have hb2 := (hwr.1.tr0 hf1).tr hf2 (fun hp => hne p hp rfl)
    ((with_reducible apply s_storeB); exact rfl; (conv => lhs; whnf); exact ho2.one; exact hb2; exact rfl)
    intro w3 hb3 hf3 hs3
    refine rn ?_
    refine s_shr rfl rfl (by omega) (shr7 m) ?_
    refine rn ?_
    obtain ⟨v3, hw3, hfr3, hk3⟩ := WStep.trans hfr hkr (hwr.push (cs := [_]) hf1 ho2 hf2 hk2 hb3 hf3)
    refine q_round (m / 128, v3, br ++ [((m % 128 + 128 : Nat) : Int)]) ⟨rfl, rfl, by simp only; omega, ?_, hw3, hfr3, hk3⟩ (by simp only; omega)
    simp only
    rw [hbs, uv_ge (by omega)]
    simp
  · refine rn ?_
    refine s_loadB rfl hwr.1 rfl ?_
    refine rn ?_
    ((with_reducible apply s_build1); (conv => lhs; whnf); exact rfl)
    intro w1 ho1 hf1 hs1
    refine s_append (hwr.2.tr0 hf1) rfl ho1.src rfl rfl (by simp [Value.oneCell']) (by unfold maxLen; omega) (by omega) (fun v2 w2 ho2 hf2 hk2 _ => ?_)
    refine rn ?_
    have hb2 := (hwr.1.tr0 hf1).tr hf2 (fun hp => hne p hp rfl)
    ((with_reducible apply s_storeB); exact rfl; (conv => lhs; whnf); exact ho2.one; exact hb2; exact rfl)
    intro w3 hb3 hf3 hs3
    refine rn ?_
    refine end0 rfl ⟨rfl, ?_⟩
    rw [hbs, uv_lt (by omega)]
    exact WStep.trans hfr hkr (hwr.push (cs := [_]) hf1 ho2 hf2 hk2 hb3 hf3)

theorem ints_one (k : IntKind) (l : List Int) : ∀ u ∈ l.map (Value.int k), u.oneCell' = true := by
  intro u hu
  obtain ⟨c, _, rfl⟩ := List.mem_map.1 hu
  rfl

theorem wInt (p : Nat) (v : Value) (bs : List Int) (n : Int) (w : World) (h1 : -9223372036854775808 ≤ n) (h2 : n ≤ 9223372036854775807) (hw : IsW w p v bs) (hl : bs.length ≤ 1000000000000) :
    Calls Tryz.prog 54 #[.pointer (some ⟨p, 0, none⟩), .int .i64 n] w fun e w' => e = .returned (.tuple #[]) ∧ WStep p w v (bs ++ iv n) w' := by
  refine enter Tryz.func54 rfl Tryz.ntmps54 rfl ?_
  refine rnc ?_
  by_cases hn : n < 0
  · refine s_conv rfl (show _ = n + 18446744073709551616 by rw [u64_wrap]; omega) ?_
    refine s_shl rfl rfl (by omega) (show _ = 2 * n + 18446744073709551616 by rw [u64_wrap]; show (n + 18446744073709551616) * 2 % 18446744073709551616 = _; omega) ?_
    refine rnc ?_
    refine s_shr rfl rfl (by omega) (show _ = -1 by show n.fdiv 9223372036854775808 = -1; rw [Int.fdiv_eq_ediv_of_nonneg _ (by omega)]; omega) ?_
    refine s_conv rfl (show _ = 18446744073709551615 by decide) ?_
    refine s_xor rfl rfl (xor1 _ (by omega) (by omega)) ?_
    have e : (18446744073709551615 - (2 * n + 18446744073709551616) : Int) = ((zz n : Nat) : Int) := by unfold zz; rw [if_pos hn]; omega
    rw [e]
    refine s_call (wUint p v bs (zz n) w (zz_lt h1 h2) hw hl) rfl ?_
    rintro _ w' ⟨rfl, hs⟩
    refine ⟨_, rfl, ?_⟩
    refine rn ?_
    exact end0 rfl ⟨rfl, hs⟩
  · refine s_conv rfl (IntWalk.u64_in _ (by omega)) ?_
    refine s_shl rfl rfl (by omega) (show _ = 2 * n by rw [u64_wrap]; show n * 2 % 18446744073709551616 = _; omega) ?_
    refine rnc ?_
    refine s_shr rfl rfl (by omega) (show _ = 0 by show n.fdiv 9223372036854775808 = 0; rw [Int.fdiv_eq_ediv_of_nonneg _ (by omega)]; omega) ?_
    refine s_conv rfl (show _ = 0 by decide) ?_
    refine s_xor rfl rfl (xor0 _ (by omega) (by omega)) ?_
    have e : (2 * n : Int) = ((zz n : Nat) : Int) := by unfold zz; rw [if_neg hn]; omega
    rw [e]
    refine s_call (wUint p v bs (zz n) w (zz_lt h1 h2) hw hl) rfl ?_
    rintro _ w' ⟨rfl, hs⟩
    refine ⟨_, rfl, ?_⟩
    refine rn ?_
    exact end0 rfl ⟨rfl, hs⟩



theorem wText (p : Nat) (v : Value) (bs : List Int) (s : ByteArray) (w : World) (hw : IsW w p v bs) (hl : bs.length ≤ 100000000000) (hc : s.size ≤ 100000000000) :
    Calls Tryz.prog 95 #[.pointer (some ⟨p, 0, none⟩), .string s] w fun e w' => e = .returned (.tuple #[]) ∧ WStep p w v (bs ++ raw (sb s)) w' := by
  refine enter Tryz.func95 rfl Tryz.ntmps95 rfl ?_
  refine rn ?_
  refine s_call (wUint p v bs s.size w (by omega) hw (by omega)) rfl ?_
  rintro _ w1 ⟨rfl, v1, hw1, hf1, hk1⟩
  refine ⟨_, rfl, ?_⟩
  have hul := uv_len s.size (by omega)
  have hne := hw1.2.ne hw1.1 (by decide)
  refine rn ?_
  refine s_loadB rfl hw1.1 rfl ?_
  refine rn ?_
  refine s_appendS hw1.2 rfl rfl (by unfold maxLen; simp; omega) (by simp; omega) (fun v2 w2 ho2 hf2 hk2 _ => ?_)
  refine rn ?_
  have hb2 := hw1.1.tr hf2 (fun hp => hne p hp rfl)
  ((with_reducible apply s_storeB); exact rfl; (conv => lhs; whnf); exact ho2.one; exact hb2; exact rfl)
  intro w3 hb3 hf3 hs3
  refine rn ?_
  refine end0 rfl ⟨rfl, ?_⟩
  have hcs : s.data.toList.map (fun c => Value.int .u8 (c.toNat : Int)) = (sb s).map (.int .u8) := by simp [sb]
  have ho3 : Own w2 5 1 v2 ((bs ++ uv s.size).length + (sb s).length) ((bs ++ uv s.size).map (.int .u8) ++ (sb s).map (.int .u8)) := by rw [sb_len, ← hcs]; exact ho2
  have := WStep.trans hf1 hk1 (hw1.push (Fr.refl _ _) ho3 hf2 hk2 hb3 hf3)
  simpa [raw, sb_len] using this

/-- an element of a slice that can be read -/
theorem src_at {w : World} {ao : Option Addr} {m c j : Nat} {ys : List Value} {u : Value} (h : Src w (.slice ao m c) m ys) (hj : ys[j]? = some u) : ∃ ad, ao = some ad ∧ w.cell? (ad.add j) = some u := by
  obtain ⟨ao', c', e, _, hn, hc⟩ := h
  simp only [Value.slice.injEq] at e
  obtain ⟨rfl, _, rfl⟩ := e
  cases ao with
  | none => obtain ⟨_, _, rfl⟩ := hn rfl; simp at hj
  | some ad => exact ⟨ad, rfl, hc ad rfl j u hj⟩

theorem src_cell {w : World} {ad : Addr} {m c j : Nat} {ys : List Value} {u : Value} (h : Src w (.slice (some ad) m c) m ys) (hj : ys[j]? = some u) : w.cell? (ad.add j) = some u := by
  obtain ⟨ad', e, h⟩ := src_at h hj
  simp only [Option.some.injEq] at e
  subst e; exact h

def InI64 (n : Int) : Prop := -9223372036854775808 ≤ n ∧ n ≤ 9223372036854775807
theorem flatMap_iv_len (l : List Int) (h : ∀ n ∈ l, InI64 n) : (l.flatMap iv).length ≤ 10 * l.length := by
  induction l with
  | nil => simp
  | cons a l ih =>
    have h1 := iv_len (h a (by simp)).1 (h a (by simp)).2
    have h2 := ih (fun n hn => h n (by simp [hn]))
    simp only [List.flatMap_cons, List.length_append, List.length_cons]; omega


theorem wDone (p : Nat) (v : Value) (bs : List Int) (w : World) (hw : IsW w p v bs) (hl : bs.length ≤ 1000000000000) :
    Calls Tryz.prog 56 #[.pointer (some ⟨p, 0, none⟩)] w fun e w' => ∃ v', e = .returned v' ∧ Own w' 5 1 v' bs.length (bs.map (.int .u8)) ∧ Fr [] w w' ∧ (∀ k ∈ blks v', w.heap.size ≤ k) ∧ v' ≠ .slice none 0 0 := by
  refine enter Tryz.func56 rfl Tryz.ntmps56 rfl ?_
  refine rn ?_
  refine s_build0 (fun w1 ho1 hf1 hs1 => ?_)
  refine rn ?_
  refine s_loadB rfl (hw.1.tr0 hf1) rfl ?_
  refine s_append ho1 rfl (hw.2.src.tr0 hf1) rfl (by simp) (ints_one _ _) (by unfold maxLen; omega) (by omega) (fun v2 w2 ho2 hf2 hk2 hn2 => ?_)
  refine rn ?_
  (apply ret1; exact rfl; (conv => lhs; whnf))
  refine ⟨v2, rfl, by simpa using ho2, ?_, ?_, ?_⟩
  · exact hf1.trans hf2 (fun x hx => by simp [blks, Value.ownBlock] at hx; exact .inr (by omega))
  · intro k hk
    rcases hk2 k hk with h | h
    · simp [blks, Value.ownBlock] at h; omega
    · omega
  · intro e; simpa using hn2.1 e

end Go.Proofs.YtpochcchekoonaaGreat
