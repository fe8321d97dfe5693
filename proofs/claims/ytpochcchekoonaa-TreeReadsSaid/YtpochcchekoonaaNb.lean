/-
  The walk of the law TreeLimits.
-/
import Derived.Test.YtpochcchekoonaaA8
namespace Go.Rf
open Go.RowKit
theorem equalIn_bool {P : Program} {w : World} {t : Nat} (dd : Nat) {a b : Bool} (hu : P.underlying t = some .bool) : (Op.equalIn (dd + 1) t (.bool a) (.bool b)).run P w = .ok (a == b) w := by
  simp [Op.equalIn, run_underlying hu]
theorem equal_bool {P : Program} {w : World} {t : Nat} {a b : Bool} (hu : P.underlying t = some .bool) : (Op.equal t (.bool a) (.bool b)).run P w = .ok (a == b) w := equalIn_bool 9999 hu
theorem s_eqlB {P : Program} {ops : Array Oper} {Q : Exit → Act → World → Prop} {rest : List Oper} {n : Nat} {f : Env} {w : World} {d : Nat} {ty : TypeId} {ps : String} {af : Array Edge} {x y : Operand} {t t2 : Nat} {a b p : Bool} (hu : P.underlying t = some .bool) (hx : ev n f x = .bool a) (hy : ev n f y = .bool b) (hp : (a == b) = p) (h : wpList P ops Q rest (A n (upd f d (.bool p))) w) :
    wpList P ops Q (⟨some d, .binOp .eql t x y t2, ty, ps, af, none⟩ :: rest) (A n f) w := by
  subst hp
  have := equal_bool (P := P) (w := w) (a := a) (b := b) hu
  exact s_run (by simp [execOp, eqGuard, binOp, hx, hy, this]) h
end Go.Rf
namespace Go.Proofs.Ytpochcchekoonaa
open Go.Rf Go.RowKit
set_option linter.unusedVariables false
set_option linter.unusedSimpArgs false
theorem ownTurnR {α : Type} {R : World → List Nat → α → List Value → Prop} {k : Nat} (hs : Stab R k) {w w' : World} {e : Nat} {S2 S3 T : List Nat} {l : List α} {v : Value} (h : OwnR w e k (plusR R S2) l v) (hf : Fr T w w') (hT : ∀ b ∈ T, b ∈ S2) (hd : ∀ b ∈ blks v, b ∉ T) (h3 : ∀ b ∈ S3, b ∈ S2 ∨ w.heap.size ≤ b) : OwnR w' e k (plusR R S3) l v := by
  obtain ⟨ys, h1, h2⟩ := h
  refine ⟨ys, h1.tr hf hd, h2.imp fun x cs _ hr => ?_⟩
  have h4 : R w (blks v ++ (S2 ++ S3)) x cs := hs.mono hr (fun b hb => by
    rcases List.mem_append.1 hb with h | h
    · exact .inl (List.mem_append.2 (.inl h))
    rcases List.mem_append.1 h with h | h
    · exact .inl (List.mem_append.2 (.inr h))
    · rcases h3 b h with h | h
      · exact .inl (List.mem_append.2 (.inr h))
      · exact .inr h)
  have h5 := hs.tr h4 (hf.mono (fun b hb => .inl (by
    have := hT b hb
    simp [this])))
  exact hs.mono h5 (fun b hb => by
    rcases List.mem_append.1 hb with h | h
    · exact .inl (by simp [h])
    · exact .inl (by simp [h]))
theorem ownNS {w : World} {e : Nat} {S0 : List Nat} {l : List Nd} {v : Value} (h : OwnR w e 12 (plusR NdR S0) l v) : NS w [] l v := (h.sl (plusStab ndStab)).imp fun x cs _ hr => ndStab.mono hr (by simp)
/-- an owned slice of numbers that lies outside S -/
theorem isOff {w : World} {e n : Nat} {v : Value} {l : List Int} {cs : List Value} {S : List Nat} (h : Own w e 1 v n cs) (hn : n = l.length) (hc : cs = l.map (.int .i64)) (hS : ∀ b ∈ blks v, b ∉ S) : IS w S l v := by
  subst hn hc
  refine ⟨h.src, fun ad n c e hp hm => ?_⟩
  refine hS ad.block ?_ hm
  rcases h.2 with ⟨hv, h0⟩ | ⟨g, cap, cur, hv, _⟩
  · rw [hv] at e; cases e
  · subst hv
    simp only [Value.slice.injEq, Option.some.injEq] at e
    rw [← e.1]; simp [blks, Value.ownBlock]
theorem rep_map (n : Nat) (k : Int) : (List.replicate n k).map (Value.int .i64) ++ [.int .i64 k] = (List.replicate (n + 1) k).map (Value.int .i64) := by
  rw [List.replicate_succ', List.map_append]; rfl
theorem simR {w : World} {S : List Nat} {x : Nd} (hw : x.ws = []) (hl : x.labs = []) (hv : x.vals = []) (hk : x.kids = []) (hx : x.val.kids = []) : NdR w S x (nc x (.slice none 0 0) (.slice none 0 0) (.slice none 0 0) (.slice none 0 0) (.slice none 0 0)) := by
  refine ⟨_, _, _, _, _, rfl, ?_, ?_, ?_, ?_, ?_⟩
  · rw [hw]; exact Ls.nil
  · rw [hl]; exact Ls.nil
  · rw [hv]; exact VS.nil _ _
  · rw [hk]; exact Ls.nil
  · rw [hx]; exact VS.nil _ _
theorem vs_nil_any {w w' : World} {S T : List Nat} {sl : Value} (h : VS w S [] sl) : VS w' T [] sl := by
  obtain ⟨ao, c, rfl, _⟩ := h.slice
  obtain ⟨ys, ⟨ao', c', e, h1, h2, _⟩, _, _⟩ := h.rows
  injection e with e1 e2 e3
  exact VS.empty (fun hn => by rw [← e1] at h2; rw [e3]; exact (h2 hn).2.1)
theorem nums_succ (n : Nat) : numsV (n + 1) = numsV n ++ [numV (n : Int)] := by
  unfold numsV
  rw [List.range_succ, List.map_append]; rfl
attribute [local irreducible] Code.wp wpList Exit.then Exit.inBlock bodyPost A Calls execOp Addr.add
set_option maxHeartbeats 32000000 in
theorem treeLimits_walk (k q : Int) (u : World) (hk : InI64 k) (hq : InI64 q) :
    Calls Try.prog 4 #[.int .i64 k, .int .i64 q] u fun e u' => e = .returned (.bool true) ∧ Fr [] u u' := by
  refine enter Try.func4 rfl Try.ntmps4 rfl ?_
  refine rx ?_
  refine s_call (bound k 2 u hk (by omega) (by omega)) rfl ?_
  rintro _ _ ⟨rfl, rfl⟩
  refine ⟨_, rfl, ?_⟩
  have hr := arnd_range (a := k) (m := 2 * 2 + 1) (by omega)
  obtain ⟨d, hd⟩ : ∃ d, arnd k (2 * 2 + 1) - 2 = d := ⟨_, rfl⟩
  rw [hd]
  have hd2 : -2 ≤ d ∧ d ≤ 2 := by omega
  refine rx ?_
  refine s_build (nc (r1N 1) (.slice none 0 0) (.slice none 0 0) (.slice none 0 0) (.slice none 0 0) (.slice none 0 0)) rfl ?_
  refine s_buildS (nc (r1N 1) (.slice none 0 0) (.slice none 0 0) (.slice none 0 0) (.slice none 0 0) (.slice none 0 0)) rfl rfl rfl rfl (fun u1 ho1 hf1 hs1 => ?_)
  refine s_build [.slice (some ⟨u.heap.size, 0, none⟩) 1 1] rfl ?_
  refine s_alloc rfl (fun u2 hb2 hf2 hs2 => ?_)
  refine s_storeAggB (cs := [.slice (some ⟨u.heap.size, 0, none⟩) 1 1]) rfl rfl hb2 (by simp [Value.oneCell']) rfl rfl (fun u3 hb3 hf3 hs3 => ?_)
  obtain ⟨tb, htb⟩ : ∃ y, y = u1.heap.size := ⟨_, rfl⟩
  rw [← htb] at hb3 hf3 ⊢
  obtain ⟨N1, hN1⟩ : ∃ y, y = u.heap.size := ⟨_, rfl⟩
  rw [← hN1] at hb3 ho1 ⊢
  have hF3 : Fr [] u u3 := (hf1.trans0 hf2).trans hf3 (by simp; omega)
  have ho3 := (ho1.tr0 hf2).tr hf3 (by simp [blks, Value.ownBlock]; omega)
  have hO3 : OwnR u3 39 12 (plusR NdR [tb]) [r1N 1] (.slice (some ⟨N1, 0, none⟩) 1 1) := ⟨_, ho3, Rws.one (simR rfl rfl rfl rfl rfl)⟩
  have stN : Stab (plusR NdR [tb]) 12 := plusStab ndStab
  refine rx ?_
  refine s_run (r_gtr (p := decide (0 < d)) rfl rfl rfl) ?_
  refine rx ?_
  refine s_call (around q 5 u3 hq.1 hq.2 (by omega)) rfl ?_
  rintro _ _ ⟨rfl, rfl⟩
  refine ⟨_, rfl, ?_⟩
  have hrq := arnd_range (a := q) (m := 5) (by omega)
  obtain ⟨wh, hwh⟩ : ∃ wh, arnd q 5 = wh := ⟨_, rfl⟩
  rw [hwh] at hrq ⊢
  (refine rr ?_; refine wpList_nil ?_; refine q_then ?_; refine c_cut (fun g z => ∃ t sn e, g 6 = .pointer (some ⟨tb, 0, none⟩) ∧ g 7 = .bool (decide (0 < d)) ∧ g 8 = .int .i64 e ∧ Blk z tb [sn] 25 ∧ NS z [] t sn ∧ (∀ x ∈ t, NdOk x) ∧ t.length ≤ 1000000 ∧ (validT t = if 0 < d then e else 0) ∧ e ≠ 0 ∧ Fr [] u z) ?_ ?_)
  rotate_left
  · rintro g z ⟨t, sn, e, g6, g7, g8, hb, hn, hok, hl, hval, he, hf⟩
    rw [eq_upd g6, eq_upd g7, eq_upd g8]
    obtain ⟨an, cn, rfl, _⟩ := hn.slice
    refine rx ?_
    refine s_call (validPT t _ z hn hok hl) rfl ?_
    rintro _ z1 ⟨rfl, hf1'⟩
    refine ⟨_, rfl, ?_⟩
    have hb1 := hb.tr0 hf1'
    have hn1 := hn.tr0 hf1'
    generalize hV : validT t = V at hval ⊢
    have h1 : (decide (V = e) == decide (0 < d)) = true := by
      by_cases h : 0 < d
      · rw [if_pos h] at hval; subst hval; simp [h]
      · rw [if_neg h] at hval; subst hval; simp [h]; exact fun e => he e.symm
    have h2 : (decide (V = 0) == !decide (0 < d)) = true := by
      by_cases h : 0 < d
      · rw [if_pos h] at hval; subst hval; simp [h, he]
      · rw [if_neg h] at hval; subst hval; simp [h]
    refine rx ?_
    refine s_run (r_eql (p := decide (V = e)) rfl rfl rfl) ?_
    refine rx ?_
    refine s_eqlB Try.underlying4 rfl rfl h1 ?_
    refine rx ?_
    refine s_run (r_eql (p := decide (V = 0)) rfl rfl rfl) ?_
    refine rx ?_
    refine s_eqlB Try.underlying4 rfl rfl h2 ?_
    refine rx ?_
    refine s_call (validRT t _ z1 hn1 hok hl) rfl ?_
    rintro _ z2 ⟨rfl, hf2'⟩
    refine ⟨_, rfl, ?_⟩
    rw [hV]
    refine rx ?_
    refine s_call (livesP z2) rfl ?_
    rintro _ z3 ⟨rfl, hf3'⟩
    refine ⟨_, rfl, ?_⟩
    refine rx ?_
    (apply ret1; exact rfl; (conv => lhs; whnf))
    exact ⟨rfl, ((hf.trans0 hf1').trans0 hf2').trans0 hf3'⟩
  by_cases w0 : wh = 0
  · have hn : ((4095 + d).toNat : Int) = 4095 + d := by omega
    generalize (4095 + d).toNat = n at hn
    refine rx ?_
    refine c_loopK 9 [] (σ := Nat × Value) (fun s g z => s.1 ≤ n ∧ Blk z tb [s.2] 25 ∧ OwnR z 39 12 (plusR NdR [tb]) (r1N 1 :: List.replicate s.1 zN) s.2 ∧ (∀ b ∈ blks s.2, u.heap.size ≤ b ∧ b ≠ tb) ∧ Fr [] u z) (fun s => n - s.1) (0, .slice (some ⟨N1, 0, none⟩) 1 1) ⟨Nat.zero_le _, hb3, hO3, by simp [blks, Value.ownBlock]; omega, hF3⟩ ?_
    rintro ⟨j, sn⟩ g z ⟨hj, hbz, hO, hfr, hfz⟩
    simp only at hj hbz hO hfr
    obtain ⟨an, cn, rfl⟩ : ∃ a c, sn = .slice a (j + 1) c := by obtain ⟨a, c, h⟩ := hO.slice; simp at h; exact ⟨a, c, h⟩
    have htz := hbz.lt
    by_cases hjl : j < n
    case neg =>
      have hjn : j = n := by omega
      subst hjn
      refine rx ?_
      refine q_cut ⟨lim0 j, _, 4, rfl, rfl, rfl, hbz, ownNS hO, fun x hx => ?_, ?_, ?_, by simp, hfz⟩
      · rcases List.mem_cons.1 hx with rfl | h
        · exact r1N_ok (by simp [InI64])
        · rw [(List.mem_replicate.1 h).2]; exact zN_ok
      · simp only [lim0, List.length_cons, List.length_replicate]; omega
      · rw [lim0_v]
        by_cases h : 0 < d
        · rw [if_pos h, if_pos (by omega)]
        · rw [if_neg h, if_neg (by omega)]
    refine rx ?_
    refine s_build (nc zN (.slice none 0 0) (.slice none 0 0) (.slice none 0 0) (.slice none 0 0) (.slice none 0 0)) rfl ?_
    refine s_pushA (R := plusR NdR [tb]) (a := zN) (cs := nc zN (.slice none 0 0) (.slice none 0 0) (.slice none 0 0) (.slice none 0 0) (.slice none 0 0)) hO stN rfl rfl rfl (simR rfl rfl rfl rfl rfl) rfl rfl rfl (by simp only [List.length_cons, List.length_replicate]; unfold maxLen; omega) (by simp only [List.length_cons, List.length_replicate]; omega) (fun v' z1 hO1 hf1' hk1 => ?_)
    have hb1 := hbz.tr hf1' (fun h => (hfr _ h).2 rfl)
    have ho1' := hO1.one
    refine rx ?_
    ((with_reducible apply s_storeB); exact rfl; (conv => lhs; whnf); exact ho1'; exact hb1; exact rfl)
    intro z2 hb2' hf2' hs2'
    have hfr' : ∀ b ∈ blks v', u.heap.size ≤ b ∧ b ≠ tb := fun b hb => by
      rcases hk1 b hb with h | h
      · exact hfr b h
      · have := hfz.size; omega
    have hO2 : OwnR z2 39 12 (plusR NdR [tb]) (r1N 1 :: List.replicate (j + 1) zN) v' := by
      have := ownTurnR (S3 := [tb]) ndStab hO1 hf2' (by simp) (fun b hb => by simp; exact (hfr' b hb).2) (by simp)
      rw [List.replicate_succ']; exact this
    refine rx ?_
    exact q_roundK (j + 1, v') (by (repeat (first | exact Keep.mrg _ _ _ _ | (refine Keep.hi rfl ?_) | (refine Keep.one rfl ?_) | exact Keep.all rfl | (refine Keep.inn rfl ?_) | (refine Keep.set rfl ?_)))) ⟨by simp only; omega, hb2', hO2, hfr', (hfz.trans hf1' (fun b hb => .inr (hfr b hb).1)).trans hf2' (by simp; omega)⟩ (by simp only; omega)
  by_cases w1 : wh = 1
  · have hn : ((256 + d).toNat : Int) = 256 + d := by omega
    generalize (256 + d).toNat = n at hn
    refine rx ?_
    refine s_build (nc (choN 0) (.slice none 0 0) (.slice none 0 0) (.slice none 0 0) (.slice none 0 0) (.slice none 0 0)) rfl ?_
    refine s_alloc rfl (fun u4 hb4 hf4 hs4 => ?_)
    refine s_storeAggB (cs := nc (choN 0) (.slice none 0 0) (.slice none 0 0) (.slice none 0 0) (.slice none 0 0) (.slice none 0 0)) rfl rfl hb4 (by simp [nc, Value.oneCell']) rfl rfl (fun u5 hb5 hf5 hs5 => ?_)
    obtain ⟨xb, hxb⟩ : ∃ y, y = u3.heap.size := ⟨_, rfl⟩
    rw [← hxb] at hb5 hf5 ⊢
    have hF35 : Fr [] u3 u5 := hf4.trans hf5 (by simp; omega)
    have hl3 := hb3.lt
    refine rx ?_
    refine c_loopK 16 [] (σ := Nat × Value × Value) (fun s g z => s.1 ≤ n ∧ Blk z xb (nc (choN 0) s.2.2 (.slice none 0 0) (.slice none 0 0) s.2.1 (.slice none 0 0)) 39 ∧ Own z 3 1 s.2.1 s.1 ((List.replicate s.1 (0 : Int)).map (.int .i64)) ∧ Own z 3 1 s.2.2 s.1 ((List.replicate s.1 (1 : Int)).map (.int .i64)) ∧ (∀ b ∈ blks s.2.1, u5.heap.size ≤ b ∧ b ∉ blks s.2.2) ∧ (∀ b ∈ blks s.2.2, u5.heap.size ≤ b) ∧ Fr [xb] u5 z) (fun s => n - s.1) (0, (.slice none 0 0), (.slice none 0 0)) ⟨Nat.zero_le _, hb5, Own.nil _ _ _, Own.nil _ _ _, by simp [blks, Value.ownBlock], by simp [blks, Value.ownBlock], Fr.refl _ _⟩ ?_
    rintro ⟨j, sk, sw⟩ g y ⟨hj, hby, hOk, hOw, hfr, hfw, hfy⟩
    simp only at hj hby hOk hOw hfr hfw
    obtain ⟨ak, ck, rfl⟩ := hOk.slice
    obtain ⟨aw, cw, rfl⟩ := hOw.slice
    have hxlt : xb < u5.heap.size := hb5.lt
    by_cases hjl : j < n
    case pos =>
      refine rx ?_
      ((with_reducible apply s_build1); (conv => lhs; whnf); exact rfl)
      intro y1 hs1y hf1y hz1y
      refine s_append (hOk.tr0 hf1y) rfl hs1y.src rfl rfl (by simp [Value.oneCell']) (by unfold maxLen; omega) (by omega) (fun v' y2 hO2 hf2y hk2 hn2 => ?_)
      have hby2 := (hby.tr0 hf1y).tr hf2y (fun h => by have := (hfr _ h).1; omega)
      have ho2' := hO2.one
      have hlw := hOw.lt
      refine rx ?_
      ((with_reducible apply s_storeB); exact rfl; (conv => lhs; whnf); exact ho2'; exact hby2; exact rfl)
      intro y3 hb3y hf3y hs3y
      have hfr' : ∀ b ∈ blks v', u5.heap.size ≤ b ∧ b ∉ blks (.slice aw j cw) := fun b hb => by
        rcases hk2 b hb with h | h
        · exact hfr b h
        · refine ⟨by have := hfy.size; omega, fun hm => ?_⟩
          have := hlw b hm; omega
      have hO3' := hO2.tr hf3y (fun b hb hm => by simp at hm; subst hm; have := (hfr' _ hb).1; omega)
      have hOw3 : Own y3 3 1 (.slice aw j cw) j ((List.replicate j (1 : Int)).map (.int .i64)) := ((hOw.tr0 hf1y).tr hf2y (fun b hb hm => (hfr b hm).2 hb)).tr hf3y (fun b hb hm => by simp at hm; subst hm; have := hfw _ hb; omega)
      have hby3 : Blk y3 xb (nc (choN 0) (.slice aw j cw) (.slice none 0 0) (.slice none 0 0) v' (.slice none 0 0)) 39 := hb3y
      clear hb3y
      refine rx ?_
      ((with_reducible apply s_build1); (conv => lhs; whnf); exact rfl)
      intro y4 hs4y hf4y hz4y
      refine s_append (hOw3.tr0 hf4y) rfl hs4y.src rfl rfl (by simp [Value.oneCell']) (by unfold maxLen; omega) (by omega) (fun v2 y5 hO5 hf5y hk5 hn5 => ?_)
      have hby5 := (hby3.tr0 hf4y).tr hf5y (fun h => by have := hfw _ h; omega)
      have ho5' := hO5.one
      have hlk3 := hO3'.lt
      refine rx ?_
      ((with_reducible apply s_storeB); exact rfl; (conv => lhs; whnf); exact ho5'; exact hby5; exact rfl)
      intro y6 hb6y hf6y hs6y
      have hs34 := hf4y.size
      have hfw' : ∀ b ∈ blks v2, u5.heap.size ≤ b := fun b hb => by
        rcases hk5 b hb with h | h
        · exact hfw b h
        · have := hfy.size; have := hf1y.size; have := hf2y.size; omega
      have hfr2 : ∀ b ∈ blks v', u5.heap.size ≤ b ∧ b ∉ blks v2 := fun b hb => ⟨(hfr' b hb).1, fun hm => by
        rcases hk5 b hm with h | h
        · exact (hfr' b hb).2 h
        · have := hlk3 b hb; omega⟩
      have hOk6 : Own y6 3 1 v' (j + 1) ((List.replicate (j + 1) (0 : Int)).map (.int .i64)) := by
        rw [← rep_map]
        exact ((hO3'.tr0 hf4y).tr hf5y (fun b hb hm => (hfr' b hb).2 hm)).tr hf6y (fun b hb hm => by simp at hm; subst hm; have := (hfr' _ hb).1; omega)
      have hOw6 : Own y6 3 1 v2 (j + 1) ((List.replicate (j + 1) (1 : Int)).map (.int .i64)) := by
        rw [← rep_map]
        exact hO5.tr hf6y (fun b hb hm => by simp at hm; subst hm; have := hfw' _ hb; omega)
      refine rx ?_
      exact q_roundK (j + 1, v', v2) (by (repeat (first | exact Keep.mrg _ _ _ _ | (refine Keep.hi rfl ?_) | (refine Keep.one rfl ?_) | exact Keep.all rfl | (refine Keep.inn rfl ?_) | (refine Keep.set rfl ?_)))) ⟨by simp only; omega, hb6y, hOk6, hOw6, hfr2, hfw', (((((hfy.trans0 hf1y).trans hf2y (fun b hb => .inr (hfr b hb).1)).trans hf3y (by simp)).trans0 hf4y).trans hf5y (fun b hb => .inr (hfw b hb))).trans hf6y (by simp)⟩ (by simp only; omega)
    have hjn : j = n := by omega
    subst hjn
    have hFy : Fr [] u3 y := hF35.trans hfy (by simp; omega)
    have hs35 := hF35.size
    have hlN := ho3.lt N1 (by simp [blks, Value.ownBlock])
    have hby' := hb3.tr0 hFy
    have hOy : OwnR y 39 12 (plusR NdR [tb]) [r1N 1] (.slice (some ⟨N1, 0, none⟩) 1 1) := hO3.tr0 stN hFy
    refine rx ?_
    refine s_pushA (R := plusR NdR [tb]) (a := choN j) (cs := nc (choN j) (.slice aw j cw) (.slice none 0 0) (.slice none 0 0) (.slice ak j ck) (.slice none 0 0)) hOy stN rfl rfl rfl ⟨_, _, _, _, _, rfl, isOff hOw (by simp [choN]) rfl (fun b hb hm => ?oa), Ls.nil, VS.nil _ _, isOff hOk (by simp [choN]) rfl (fun b hb hm => ?ob), VS.nil _ _⟩ rfl rfl rfl (by simp only [List.length_cons, List.length_nil]; unfold maxLen; omega) (by simp only [List.length_cons, List.length_nil]; omega) (fun v' z1 hO1 hf1' hk1 => ?oc)
    case oa =>
      have := hfw b hb
      simp [blks, Value.ownBlock] at hm; omega
    case ob =>
      have := (hfr b hb).1
      simp [blks, Value.ownBlock] at hm; omega
    have hb1 := hby'.tr hf1' (by simp [blks, Value.ownBlock]; omega)
    have ho1' := hO1.one
    refine rx ?_
    ((with_reducible apply s_storeB); exact rfl; (conv => lhs; whnf); exact ho1'; exact hb1; exact rfl)
    intro z2 hb2' hf2' hs2'
    have hsy := hFy.size
    have hfr' : ∀ b ∈ blks v', u.heap.size ≤ b ∧ b ≠ tb := fun b hb => by
      rcases hk1 b hb with h | h
      · simp [blks, Value.ownBlock] at h; omega
      · have := hF3.size; omega
    have hO2 := ownTurnR (S3 := [tb]) ndStab hO1 hf2' (by simp) (fun b hb => by simp; exact (hfr' b hb).2) (by simp)
    refine rx ?_
    refine q_cut ⟨lim1 j, _, 1, rfl, rfl, rfl, hb2', ownNS hO2, fun x hx => ?_, ?_, ?_, by simp, ((hF3.trans0 hFy).trans hf1' (by simp [blks, Value.ownBlock]; omega)).trans hf2' (by simp; omega)⟩
    · simp only [lim1, List.mem_cons, List.not_mem_nil, or_false] at hx
      rcases hx with rfl | rfl
      · exact r1N_ok (by simp [InI64])
      · exact choN_ok (by omega)
    · simp [lim1]
    · rw [lim1_v (by omega)]
      by_cases h : 0 < d
      · rw [if_pos h, if_pos (by omega)]
      · rw [if_neg h, if_neg (by omega)]
  by_cases w2 : wh = 2
  · have hn : ((16 + d).toNat : Int) = 16 + d := by omega
    generalize (16 + d).toNat = n at hn
    refine rx ?_
    refine s_build (nc (sqN manyS 0) (.slice none 0 0) (.slice none 0 0) (.slice none 0 0) (.slice none 0 0) (.slice none 0 0)) rfl ?_
    refine s_alloc rfl (fun u4 hb4 hf4 hs4 => ?_)
    refine s_storeAggB (cs := nc (sqN manyS 0) (.slice none 0 0) (.slice none 0 0) (.slice none 0 0) (.slice none 0 0) (.slice none 0 0)) rfl rfl hb4 (by simp [nc, Value.oneCell']) rfl rfl (fun u5 hb5 hf5 hs5 => ?_)
    obtain ⟨xb, hxb⟩ : ∃ y, y = u3.heap.size := ⟨_, rfl⟩
    rw [← hxb] at hb5 hf5 ⊢
    have hF35 : Fr [] u3 u5 := hf4.trans hf5 (by simp; omega)
    have hl3 := hb3.lt
    refine rx ?_
    refine c_loopK 16 [] (σ := Nat × Value) (fun s g z => s.1 ≤ n ∧ Blk z xb (nc (sqN manyS 0) (.slice none 0 0) (.slice none 0 0) (.slice none 0 0) s.2 (.slice none 0 0)) 39 ∧ Own z 3 1 s.2 s.1 ((List.replicate s.1 (0 : Int)).map (.int .i64)) ∧ (∀ b ∈ blks s.2, u5.heap.size ≤ b) ∧ Fr [xb] u5 z) (fun s => n - s.1) (0, (.slice none 0 0)) ⟨Nat.zero_le _, hb5, Own.nil _ _ _, by simp [blks, Value.ownBlock], Fr.refl _ _⟩ ?_
    rintro ⟨j, sk⟩ g y ⟨hj, hby, hOk, hfr, hfy⟩
    simp only at hj hby hOk hfr
    obtain ⟨ak, ck, rfl⟩ := hOk.slice
    have hxlt : xb < u5.heap.size := hb5.lt
    by_cases hjl : j < n
    case pos =>
      refine rx ?_
      ((with_reducible apply s_build1); (conv => lhs; whnf); exact rfl)
      intro y1 hs1y hf1y hz1y
      refine s_append (hOk.tr0 hf1y) rfl hs1y.src rfl rfl (by simp [Value.oneCell']) (by unfold maxLen; omega) (by omega) (fun v' y2 hO2 hf2y hk2 hn2 => ?_)
      have hby2 := (hby.tr0 hf1y).tr hf2y (fun h => by have := hfr _ h; omega)
      have ho2' := hO2.one
      refine rx ?_
      ((with_reducible apply s_storeB); exact rfl; (conv => lhs; whnf); exact ho2'; exact hby2; exact rfl)
      intro y3 hb3y hf3y hs3y
      have hfr' : ∀ b ∈ blks v', u5.heap.size ≤ b := fun b hb => by
        rcases hk2 b hb with h | h
        · exact hfr b h
        · have := hfy.size; omega
      have hO3 : Own y3 3 1 v' (j + 1) ((List.replicate (j + 1) (0 : Int)).map (.int .i64)) := by
        rw [← rep_map]
        exact hO2.tr hf3y (fun b hb hm => by simp at hm; subst hm; have := hfr' _ hb; omega)
      refine rx ?_
      exact q_roundK (j + 1, v') (by (repeat (first | exact Keep.mrg _ _ _ _ | (refine Keep.hi rfl ?_) | (refine Keep.one rfl ?_) | exact Keep.all rfl | (refine Keep.inn rfl ?_) | (refine Keep.set rfl ?_)))) ⟨by simp only; omega, hb3y, hO3, hfr', ((hfy.trans0 hf1y).trans hf2y (fun b hb => .inr (hfr b hb))).trans hf3y (by simp)⟩ (by simp only; omega)
    have hjn : j = n := by omega
    subst hjn
    have hFy : Fr [] u3 y := hF35.trans hfy (by simp; omega)
    have hs35 := hF35.size
    have hlN := ho3.lt N1 (by simp [blks, Value.ownBlock])
    have hby' := hb3.tr0 hFy
    have hOy : OwnR y 39 12 (plusR NdR [tb]) [r1N 1] (.slice (some ⟨N1, 0, none⟩) 1 1) := hO3.tr0 stN hFy
    refine rx ?_
    refine s_pushA (R := plusR NdR [tb]) (a := sqN manyS j) (cs := nc (sqN manyS j) (.slice none 0 0) (.slice none 0 0) (.slice none 0 0) (.slice ak j ck) (.slice none 0 0)) hOy stN rfl rfl rfl ⟨_, _, _, _, _, rfl, Ls.nil, Ls.nil, VS.nil _ _, isOff hOk (by simp [sqN]) rfl (fun b hb hm => ?_), VS.nil _ _⟩ rfl rfl rfl (by simp only [List.length_cons, List.length_nil]; unfold maxLen; omega) (by simp only [List.length_cons, List.length_nil]; omega) (fun v' z1 hO1 hf1' hk1 => ?_)
    · have := hfr b hb
      simp [blks, Value.ownBlock] at hm; omega
    have hb1 := hby'.tr hf1' (by simp [blks, Value.ownBlock]; omega)
    have ho1' := hO1.one
    refine rx ?_
    ((with_reducible apply s_storeB); exact rfl; (conv => lhs; whnf); exact ho1'; exact hb1; exact rfl)
    intro z2 hb2' hf2' hs2'
    have hsy := hFy.size
    have hfr' : ∀ b ∈ blks v', u.heap.size ≤ b ∧ b ≠ tb := fun b hb => by
      rcases hk1 b hb with h | h
      · simp [blks, Value.ownBlock] at h; omega
      · have := hF3.size; omega
    have hO2 := ownTurnR (S3 := [tb]) ndStab hO1 hf2' (by simp) (fun b hb => by simp; exact (hfr' b hb).2) (by simp)
    refine rx ?_
    refine q_cut ⟨lim2 j, _, 1, rfl, rfl, rfl, hb2', ownNS hO2, fun x hx => ?_, ?_, ?_, by simp, ((hF3.trans0 hFy).trans hf1' (by simp [blks, Value.ownBlock]; omega)).trans hf2' (by simp; omega)⟩
    · simp only [lim2, List.mem_cons, List.not_mem_nil, or_false] at hx
      rcases hx with rfl | rfl
      · exact r1N_ok (by simp [InI64])
      · exact sqN_ok (by decide) (by omega)
    · simp [lim2]
    · rw [lim2_v (by omega)]
      by_cases h : 0 < d
      · rw [if_pos h, if_pos (by omega)]
      · rw [if_neg h, if_neg (by omega)]
  by_cases w3 : wh = 3
  · have hn : ((1024 + d).toNat : Int) = 1024 + d := by omega
    generalize (1024 + d).toNat = n at hn
    have hlN := ho3.lt N1 (by simp [blks, Value.ownBlock])
    have hl3 := hb3.lt
    refine rx ?_
    refine s_indexAddr (j := 0) rfl rfl rfl (by decide) rfl ?_
    refine rx ?_
    refine s_storeRow1 (q := 0 * 12 + 3) (u := .int .i64 (1023 + d)) ho3 rfl rfl (add_add _ _ _) rfl rfl (by decide) (fun u4 ho4 hf4 hs4 => ?_)
    have hO4 : OwnR u4 39 12 (plusR NdR [tb]) [r1N (1023 + d)] (.slice (some ⟨N1, 0, none⟩) 1 1) := ⟨_, ho4, Rws.one (simR (x := r1N (1023 + d)) rfl rfl rfl rfl rfl)⟩
    have hb4 := hb3.tr hf4 (by simp [blks, Value.ownBlock]; omega)
    have hF4 : Fr [] u u4 := hF3.trans hf4 (by simp [blks, Value.ownBlock]; omega)
    refine rx ?_
    refine s_build (nc zN (.slice none 0 0) (.slice none 0 0) (.slice none 0 0) (.slice none 0 0) (.slice none 0 0)) rfl ?_
    refine s_pushA (R := plusR NdR [tb]) (a := zN) (cs := nc zN (.slice none 0 0) (.slice none 0 0) (.slice none 0 0) (.slice none 0 0) (.slice none 0 0)) hO4 stN rfl rfl rfl (simR rfl rfl rfl rfl rfl) rfl rfl rfl (by simp only [List.length_cons, List.length_nil]; unfold maxLen; omega) (by simp only [List.length_cons, List.length_nil]; omega) (fun v5 u5 hO5 hf5 hk5 => ?_)
    have hb5 := hb4.tr hf5 (by simp [blks, Value.ownBlock]; omega)
    have ho5' := hO5.one
    refine rx ?_
    ((with_reducible apply s_storeB); exact rfl; (conv => lhs; whnf); exact ho5'; exact hb5; exact rfl)
    intro u6 hb6 hf6 hs6
    have hfr5 : ∀ b ∈ blks v5, u.heap.size ≤ b ∧ b ≠ tb := fun b hb => by
      rcases hk5 b hb with h | h
      · simp [blks, Value.ownBlock] at h; omega
      · have := hF4.size; have := hb4.lt; omega
    have hO6 : OwnR u6 39 12 (plusR NdR [tb]) [r1N (1023 + d), zN] v5 := ownTurnR (S3 := [tb]) ndStab hO5 hf6 (by simp) (fun b hb => by simp; exact (hfr5 b hb).2) (by simp)
    have hF6 : Fr [] u u6 := (hF4.trans hf5 (by simp [blks, Value.ownBlock]; omega)).trans hf6 (by simp; omega)
    have hb6' : Blk u6 tb [v5] 25 := hb6
    clear hb6
    obtain ⟨a5, c5, rfl⟩ : ∃ a c, v5 = .slice a 2 c := hO6.slice
    have hl6 := hO6.lt
    have htb6 := hb6'.lt
    refine rx ?_
    ((with_reducible apply s_build1); (conv => lhs; whnf); exact rfl)
    intro u7 hs7' hf7 hz7
    refine s_build (nc (bndN 0) (.slice none 0 0) (.slice none 0 0) (.slice none 0 0) (.slice (some ⟨u6.heap.size, 0, none⟩) 1 1) (.slice none 0 0)) rfl ?_
    refine s_alloc rfl (fun u8 hb8 hf8 hs8 => ?_)
    refine s_storeAggB (cs := nc (bndN 0) (.slice none 0 0) (.slice none 0 0) (.slice none 0 0) (.slice (some ⟨u6.heap.size, 0, none⟩) 1 1) (.slice none 0 0)) rfl rfl hb8 (by simp [nc, Value.oneCell']) rfl rfl (fun u9 hb9 hf9 hs9 => ?_)
    obtain ⟨xb, hxb⟩ : ∃ y, y = u7.heap.size := ⟨_, rfl⟩
    rw [← hxb] at hb9 hf9 ⊢
    have hF69 : Fr [] u6 u9 := (hf7.trans0 hf8).trans hf9 (by simp; omega)
    have hO9 := (hs7'.tr0 hf8).tr hf9 (by simp [blks, Value.ownBlock]; omega)
    have stV : Stab (plusR VR (blks (.slice a5 2 c5) ++ [tb])) 4 := plusStab vrStab
    refine rx ?_
    refine c_loopK 16 [12] (σ := Nat × Value × Value) (fun s g z => g 12 = .int .i64 (s.1 : Nat) ∧ s.1 ≤ n ∧ Blk z xb (nc (bndN 0) (.slice none 0 0) (.slice none 0 0) s.2.2 s.2.1 (.slice none 0 0)) 39 ∧ Own z 3 1 s.2.1 (s.1 + 1) ((0 :: List.replicate s.1 (1 : Int)).map (.int .i64)) ∧ OwnR z 37 4 (plusR VR (blks (.slice a5 2 c5) ++ [tb])) (numsV s.1) s.2.2 ∧ (∀ b ∈ blks s.2.1, u6.heap.size ≤ b ∧ b ≠ xb ∧ b ∉ blks s.2.2) ∧ (∀ b ∈ blks s.2.2, u9.heap.size ≤ b) ∧ Fr [xb, u6.heap.size] u9 z) (fun s => n - s.1) (0, .slice (some ⟨u6.heap.size, 0, none⟩) 1 1, (.slice none 0 0)) ⟨rfl, Nat.zero_le _, hb9, hO9, OwnR.nil _ _ _ _, by simp [blks, Value.ownBlock]; omega, by simp [blks, Value.ownBlock], Fr.refl _ _⟩ ?_
    rintro ⟨j, sk, sv⟩ g y ⟨g12, hj, hby, hOk, hOv, hfr, hfv, hfy⟩
    simp only at g12 hj hby hOk hOv hfr hfv
    rw [eq_upd g12]
    obtain ⟨ak, ck, rfl⟩ := hOk.slice
    obtain ⟨av, cv, rfl⟩ : ∃ a c, sv = .slice a j c := by obtain ⟨a, c, h⟩ := hOv.slice; simp [numsV] at h; exact ⟨a, c, h⟩
    have hxlt : xb < u9.heap.size := hb9.lt
    have hsy := hfy.size
    have hnl : (numsV j).length = j := by simp [numsV]
    by_cases hjl : j < n
    case pos =>
      refine rx ?_
      refine s_build (vc (numV (j : Int)) (.slice none 0 0)) rfl ?_
      refine s_pushA (R := plusR VR (blks (.slice a5 2 c5) ++ [tb])) (a := numV (j : Int)) (cs := vc (numV (j : Int)) (.slice none 0 0)) hOv stV rfl rfl rfl ⟨_, rfl, VS.nil _ _⟩ rfl rfl rfl (by rw [hnl]; unfold maxLen; omega) (by rw [hnl]; omega) (fun v1 y1 hO1 hf1y hk1 => ?_)
      have hby1 := hby.tr hf1y (fun h => by have := hfv _ h; omega)
      have ho1' := hO1.one
      have hlk := hOk.lt
      refine rx ?_
      ((with_reducible apply s_storeB); exact rfl; (conv => lhs; whnf); exact ho1'; exact hby1; exact rfl)
      intro y2 hb2y hf2y hs2y
      have hfv1 : ∀ b ∈ blks v1, u9.heap.size ≤ b := fun b hb => by
        rcases hk1 b hb with h | h
        · exact hfv b h
        · omega
      have hfr1 : ∀ b ∈ blks (.slice ak (j + 1) ck), u6.heap.size ≤ b ∧ b ≠ xb ∧ b ∉ blks v1 := fun b hb => ⟨(hfr b hb).1, (hfr b hb).2.1, fun hm => by
        rcases hk1 b hm with h | h
        · exact (hfr b hb).2.2 h
        · have := hlk b hb; omega⟩
      have hOk2 := (hOk.tr hf1y (fun b hb hm => (hfr b hb).2.2 hm)).tr hf2y (fun b hb hm => by simp at hm; exact (hfr b hb).2.1 hm)
      have hO1x : OwnR y2 37 4 (plusR VR (blks (.slice a5 2 c5) ++ [tb])) (numsV (j + 1)) v1 := by
        rw [nums_succ]
        obtain ⟨ys, h1, h2⟩ := hO1
        refine ⟨ys, h1.tr hf2y (fun b hb hm => by simp at hm; subst hm; have := hfv1 _ hb; omega), h2.imp (fun x cs hx hr => ?_)⟩
        have hx0 : x.kids = [] := by
          rw [← nums_succ] at hx
          obtain ⟨i, _, rfl⟩ := List.mem_map.1 hx
          rfl
        obtain ⟨sl, e, hvs⟩ := hr
        rw [hx0] at hvs
        exact ⟨sl, e, by rw [hx0]; exact vs_nil_any hvs⟩
      have hby3 : Blk y2 xb (nc (bndN 0) (.slice none 0 0) (.slice none 0 0) v1 (.slice ak (j + 1) ck) (.slice none 0 0)) 39 := hb2y
      clear hb2y
      have hlv2 := hO1x.lt
      refine rx ?_
      ((with_reducible apply s_build1); (conv => lhs; whnf); exact rfl)
      intro y4 hs4y hf4y hz4y
      refine s_append (hOk2.tr0 hf4y) rfl hs4y.src rfl rfl (by simp [Value.oneCell']) (by unfold maxLen; omega) (by omega) (fun v2 y5 hO5 hf5y hk5 hn5 => ?_)
      have hby5 := (hby3.tr0 hf4y).tr hf5y (fun h => (hfr1 _ h).2.1 rfl)
      have ho5y := hO5.one
      refine rx ?_
      ((with_reducible apply s_storeB); exact rfl; (conv => lhs; whnf); exact ho5y; exact hby5; exact rfl)
      intro y6 hb6y hf6y hs6y
      have hxy := hby.lt
      have hfr2 : ∀ b ∈ blks v2, u6.heap.size ≤ b ∧ b ≠ xb ∧ b ∉ blks v1 := fun b hb => by
        rcases hk5 b hb with h | h
        · exact hfr1 b h
        · have h2 := hf1y.size
          refine ⟨?_, ?_, fun hm => ?_⟩
          · omega
          · omega
          · have := hlv2 b hm; omega
      have hOk6 : Own y6 3 1 v2 (j + 1 + 1) ((0 :: List.replicate (j + 1) (1 : Int)).map (.int .i64)) := by
        have e : (0 :: List.replicate (j + 1) (1 : Int)).map (Value.int .i64) = (0 :: List.replicate j (1 : Int)).map (Value.int .i64) ++ [.int .i64 1] := by
          rw [List.map_cons, List.map_cons, List.cons_append, rep_map]
        rw [e]
        exact hO5.tr hf6y (fun b hb hm => by simp at hm; exact (hfr2 b hb).2.1 hm)
      have hOv6 : OwnR y6 37 4 (plusR VR (blks (.slice a5 2 c5) ++ [tb])) (numsV (j + 1)) v1 := by
        obtain ⟨ys, h1, h2⟩ := hO1x
        refine ⟨ys, ((h1.tr0 hf4y).tr hf5y (fun b hb hm => (hfr1 b hm).2.2 hb)).tr hf6y (fun b hb hm => by simp at hm; subst hm; have := hfv1 _ hb; omega), h2.imp (fun x cs hx hr => ?_)⟩
        have hx0 : x.kids = [] := by
          obtain ⟨i, _, rfl⟩ := List.mem_map.1 hx
          rfl
        obtain ⟨sl, e, hvs⟩ := hr
        rw [hx0] at hvs
        exact ⟨sl, e, by rw [hx0]; exact vs_nil_any hvs⟩
      have hsk : ∀ b ∈ blks (.slice ak (j + 1) ck), b ∈ [xb, u6.heap.size] ∨ u9.heap.size ≤ b := fun b hb => by
        by_cases h : u9.heap.size ≤ b
        · exact .inr h
        · have := hfr b hb
          left; simp; omega
      refine rx ?_
      exact q_roundK (j + 1, v2, v1) (by (repeat (first | exact Keep.mrg _ _ _ _ | (refine Keep.hi rfl ?_) | (refine Keep.one rfl ?_) | exact Keep.all rfl | (refine Keep.inn rfl ?_) | (refine Keep.set rfl ?_)))) ⟨rfl, by simp only; omega, hb6y, hOk6, hOv6, hfr2, hfv1, ((((hfy.trans hf1y (fun b hb => .inr (hfv b hb))).trans hf2y (by simp)).trans0 hf4y).trans hf5y hsk).trans hf6y (by simp)⟩ (by simp only; omega)
    have hjn : j = n := by omega
    subst hjn
    have hF6y : Fr [] u6 y := hF69.trans hfy (by simp; omega)
    have hby' := hb6'.tr0 hF6y
    have hOy := hO6.tr0 stN hF6y
    refine rx ?_
    refine s_pushA (R := plusR NdR [tb]) (a := bndN j) (cs := nc (bndN j) (.slice none 0 0) (.slice none 0 0) (.slice av j cv) (.slice ak (j + 1) ck) (.slice none 0 0)) hOy stN rfl rfl rfl ⟨_, _, _, _, _, rfl, Ls.nil, Ls.nil, vsP hOv (by show (numsV j).length ≤ _; rw [hnl]; omega) (fun b hb hm => ?oax), isOff hOk (by simp [bndN]) rfl (fun b hb hm => ?obx), VS.nil _ _⟩ rfl rfl rfl (by simp only [List.length_cons, List.length_nil]; unfold maxLen; omega) (by simp only [List.length_cons, List.length_nil]; omega) (fun v' z1 hO1 hf1' hk1 => ?ocx)
    case oax =>
      have := hfv b hb
      rcases List.mem_append.1 hm with h | h
      · have := hl6 b h; have := hF69.size; omega
      · simp at h; have := hF69.size; omega
    case obx =>
      have := (hfr b hb).1
      rcases List.mem_append.1 hm with h | h
      · have := hl6 b h; omega
      · simp at h; omega
    have hb1 := hby'.tr hf1' (fun h => (hfr5 _ h).2 rfl)
    have ho1' := hO1.one
    refine rx ?_
    ((with_reducible apply s_storeB); exact rfl; (conv => lhs; whnf); exact ho1'; exact hb1; exact rfl)
    intro z2 hb2' hf2' hs2'
    have hfr' : ∀ b ∈ blks v', u.heap.size ≤ b ∧ b ≠ tb := fun b hb => by
      rcases hk1 b hb with h | h
      · exact hfr5 b h
      · have := hF6.size; have := hF6y.size; omega
    have hO2 := ownTurnR (S3 := [tb]) ndStab hO1 hf2' (by simp) (fun b hb => by simp; exact (hfr' b hb).2) (by simp)
    have he3 : lim3 j = [r1N (1023 + d), zN] ++ [bndN j] := by
      unfold lim3
      rw [show (j : Int) - 1 = 1023 + d by omega]; rfl
    refine rx ?_
    refine q_cut ⟨lim3 j, _, 4, rfl, rfl, rfl, hb2', by rw [he3]; exact ownNS hO2, fun x hx => ?_, ?_, ?_, by simp, ((hF6.trans0 hF6y).trans hf1' (fun b hb => .inr (hfr5 b hb).1)).trans hf2' (by simp; omega)⟩
    · simp only [lim3, List.mem_cons, List.not_mem_nil, or_false] at hx
      rcases hx with rfl | rfl | rfl
      · exact r1N_ok (by unfold InI64; omega)
      · exact zN_ok
      · exact bndN_ok (by omega)
    · simp [lim3]
    · rw [lim3_v (by omega)]
      by_cases h : 0 < d
      · rw [if_pos h, if_pos (by omega)]
      · rw [if_neg h, if_neg (by omega)]
  have hn : ((128 + d).toNat : Int) = 128 + d := by omega
  generalize (128 + d).toNat = n at hn
  refine rx ?_
  refine s_build (nc (sqN ⟨#[]⟩ 0) (.slice none 0 0) (.slice none 0 0) (.slice none 0 0) (.slice none 0 0) (.slice none 0 0)) rfl ?_
  refine s_alloc rfl (fun u4 hb4 hf4 hs4 => ?_)
  refine s_storeAggB (cs := nc (sqN ⟨#[]⟩ 0) (.slice none 0 0) (.slice none 0 0) (.slice none 0 0) (.slice none 0 0) (.slice none 0 0)) rfl rfl hb4 (by simp [nc, Value.oneCell']) rfl rfl (fun u5 hb5 hf5 hs5 => ?_)
  obtain ⟨xb, hxb⟩ : ∃ y, y = u3.heap.size := ⟨_, rfl⟩
  rw [← hxb] at hb5 hf5 ⊢
  have hF35 : Fr [] u3 u5 := hf4.trans hf5 (by simp; omega)
  have hl3 := hb3.lt
  have h4 : wh = 4 := by omega
  refine rx ?_
  refine c_loopK 16 [] (σ := Nat × Value) (fun s g z => s.1 ≤ 128 ∧ Blk z xb (nc (sqN ⟨#[]⟩ 0) (.slice none 0 0) (.slice none 0 0) (.slice none 0 0) s.2 (.slice none 0 0)) 39 ∧ Own z 3 1 s.2 s.1 ((List.replicate s.1 (0 : Int)).map (.int .i64)) ∧ (∀ b ∈ blks s.2, u5.heap.size ≤ b) ∧ Fr [xb] u5 z) (fun s => 128 - s.1) (0, (.slice none 0 0)) ⟨Nat.zero_le _, hb5, Own.nil _ _ _, by simp [blks, Value.ownBlock], Fr.refl _ _⟩ ?_
  rintro ⟨j, sk⟩ g y ⟨hj, hby, hOk, hfr, hfy⟩
  simp only at hj hby hOk hfr
  obtain ⟨ak, ck, rfl⟩ := hOk.slice
  have hxlt : xb < u5.heap.size := hb5.lt
  by_cases hjl : j < 128
  case pos =>
    refine rx ?_
    ((with_reducible apply s_build1); (conv => lhs; whnf); exact rfl)
    intro y1 hs1y hf1y hz1y
    refine s_append (hOk.tr0 hf1y) rfl hs1y.src rfl rfl (by simp [Value.oneCell']) (by unfold maxLen; omega) (by omega) (fun v' y2 hO2 hf2y hk2 hn2 => ?_)
    have hby2 := (hby.tr0 hf1y).tr hf2y (fun h => by have := hfr _ h; omega)
    have ho2' := hO2.one
    refine rx ?_
    ((with_reducible apply s_storeB); exact rfl; (conv => lhs; whnf); exact ho2'; exact hby2; exact rfl)
    intro y3 hb3y hf3y hs3y
    have hfr' : ∀ b ∈ blks v', u5.heap.size ≤ b := fun b hb => by
      rcases hk2 b hb with h | h
      · exact hfr b h
      · have := hfy.size; omega
    have hO3 : Own y3 3 1 v' (j + 1) ((List.replicate (j + 1) (0 : Int)).map (.int .i64)) := by
      rw [← rep_map]
      exact hO2.tr hf3y (fun b hb hm => by simp at hm; subst hm; have := hfr' _ hb; omega)
    refine rx ?_
    exact q_roundK (j + 1, v') (by (repeat (first | exact Keep.mrg _ _ _ _ | (refine Keep.hi rfl ?_) | (refine Keep.one rfl ?_) | exact Keep.all rfl | (refine Keep.inn rfl ?_) | (refine Keep.set rfl ?_)))) ⟨by simp only; omega, hb3y, hO3, hfr', ((hfy.trans0 hf1y).trans hf2y (fun b hb => .inr (hfr b hb))).trans hf3y (by simp)⟩ (by simp only; omega)
  have hjn : j = 128 := by omega
  subst hjn
  have hFy : Fr [] u3 y := hF35.trans hfy (by simp; omega)
  refine rx ?_
  refine s_build (nc (sqN ⟨#[]⟩ 0) (.slice none 0 0) (.slice none 0 0) (.slice none 0 0) (.slice none 0 0) (.slice none 0 0)) rfl ?_
  refine s_alloc rfl (fun u6 hb6 hf6 hs6 => ?_)
  refine s_storeAggB (cs := nc (sqN ⟨#[]⟩ 0) (.slice none 0 0) (.slice none 0 0) (.slice none 0 0) (.slice none 0 0) (.slice none 0 0)) rfl rfl hb6 (by simp [nc, Value.oneCell']) rfl rfl (fun u7 hb7 hf7 hs7 => ?_)
  obtain ⟨xc, hxc⟩ : ∃ z, z = y.heap.size := ⟨_, rfl⟩
  rw [← hxc] at hb7 hf7 ⊢
  have hFy7 : Fr [] y u7 := hf6.trans hf7 (by simp; omega)
  refine rx ?_
  refine c_loopK 16 [] (σ := Nat × Value) (fun s g z => s.1 ≤ n ∧ Blk z xc (nc (sqN ⟨#[]⟩ 0) (.slice none 0 0) (.slice none 0 0) (.slice none 0 0) s.2 (.slice none 0 0)) 39 ∧ Own z 3 1 s.2 s.1 ((List.replicate s.1 (0 : Int)).map (.int .i64)) ∧ (∀ b ∈ blks s.2, u7.heap.size ≤ b) ∧ Fr [xc] u7 z) (fun s => n - s.1) (0, (.slice none 0 0)) ⟨Nat.zero_le _, hb7, Own.nil _ _ _, by simp [blks, Value.ownBlock], Fr.refl _ _⟩ ?_
  rintro ⟨j2, sk2⟩ g y2 ⟨hj2, hby2, hOk2, hfr2, hfy2⟩
  simp only at hj2 hby2 hOk2 hfr2
  obtain ⟨ak2, ck2, rfl⟩ := hOk2.slice
  have hxlt2 : xc < u7.heap.size := hb7.lt
  by_cases hjl2 : j2 < n
  case pos =>
    refine rx ?_
    ((with_reducible apply s_build1); (conv => lhs; whnf); exact rfl)
    intro y1 hs1y hf1y hz1y
    refine s_append (hOk2.tr0 hf1y) rfl hs1y.src rfl rfl (by simp [Value.oneCell']) (by unfold maxLen; omega) (by omega) (fun v' y2 hO2 hf2y hk2 hn2 => ?_)
    have hby2 := (hby2.tr0 hf1y).tr hf2y (fun h => by have := hfr2 _ h; omega)
    have ho2' := hO2.one
    refine rx ?_
    ((with_reducible apply s_storeB); exact rfl; (conv => lhs; whnf); exact ho2'; exact hby2; exact rfl)
    intro y3 hb3y hf3y hs3y
    have hfr' : ∀ b ∈ blks v', u7.heap.size ≤ b := fun b hb => by
      rcases hk2 b hb with h | h
      · exact hfr2 b h
      · have := hfy2.size; omega
    have hO3 : Own y3 3 1 v' (j2 + 1) ((List.replicate (j2 + 1) (0 : Int)).map (.int .i64)) := by
      rw [← rep_map]
      exact hO2.tr hf3y (fun b hb hm => by simp at hm; subst hm; have := hfr' _ hb; omega)
    refine rx ?_
    exact q_roundK (j2 + 1, v') (by (repeat (first | exact Keep.mrg _ _ _ _ | (refine Keep.hi rfl ?_) | (refine Keep.one rfl ?_) | exact Keep.all rfl | (refine Keep.inn rfl ?_) | (refine Keep.set rfl ?_)))) ⟨by simp only; omega, hb3y, hO3, hfr', ((hfy2.trans0 hf1y).trans hf2y (fun b hb => .inr (hfr2 b hb))).trans hf3y (by simp)⟩ (by simp only; omega)
  have hjn2 : j2 = n := by omega
  subst hjn2
  have hFyy : Fr [] y y2 := hFy7.trans hfy2 (by simp; omega)
  have hF3y := hFy.trans0 hFyy
  have hs35 := hF35.size
  have hsyy := hFyy.size
  have hlN := ho3.lt N1 (by simp [blks, Value.ownBlock])
  have hbt := hb3.tr0 hF3y
  have hbx := hby.tr0 hFyy
  have hOk1 := hOk.tr0 hFyy
  have hOy : OwnR y2 39 12 (plusR NdR [tb]) [r1N 1] (.slice (some ⟨N1, 0, none⟩) 1 1) := hO3.tr0 stN hF3y
  have hs3y := hF3y.size
  have hs3y1 := hFy.size
  refine rx ?_
  refine s_buildS [.int .i64 1, .int .i64 2] rfl rfl rfl rfl (fun z1 ho1' hf1' hs1' => ?_)
  refine s_build (nc ⟨3, ⟨#[]⟩, 0, 0, [], [], [], [1, 2], numV 0⟩ (.slice none 0 0) (.slice none 0 0) (.slice none 0 0) (.slice (some ⟨y2.heap.size, 0, none⟩) 2 2) (.slice none 0 0)) rfl ?_
  refine s_buildS (nc (sqN ⟨#[]⟩ 128) (.slice none 0 0) (.slice none 0 0) (.slice none 0 0) (.slice ak 128 ck) (.slice none 0 0) ++ (nc (sqN ⟨#[]⟩ j2) (.slice none 0 0) (.slice none 0 0) (.slice none 0 0) (.slice ak2 j2 ck2) (.slice none 0 0) ++ (nc ⟨3, ⟨#[]⟩, 0, 0, [], [], [], [1, 2], numV 0⟩ (.slice none 0 0) (.slice none 0 0) (.slice none 0 0) (.slice (some ⟨y2.heap.size, 0, none⟩) 2 2) (.slice none 0 0) ++ []))) rfl rfl rfl rfl (fun z2 ho2' hf2' hs2' => ?_)
  have hF12 := hf1'.trans0 hf2'
  refine s_appR (R := plusR NdR [tb]) (al := [sqN ⟨#[]⟩ 128, sqN ⟨#[]⟩ j2, ⟨3, ⟨#[]⟩, 0, 0, [], [], [], [1, 2], numV 0⟩]) (hOy.tr0 stN hF12) stN rfl rfl ho2'.src (.cons ⟨_, _, _, _, _, rfl, Ls.nil, Ls.nil, VS.nil _ _, isOff (hOk1.tr0 hF12) (by simp [sqN]) rfl (fun b hb hm => ?oaz), VS.nil _ _⟩ (.cons ⟨_, _, _, _, _, rfl, Ls.nil, Ls.nil, VS.nil _ _, isOff (hOk2.tr0 hF12) (by simp [sqN]) rfl (fun b hb hm => ?obz), VS.nil _ _⟩ (.cons ⟨_, _, _, _, _, rfl, Ls.nil, Ls.nil, VS.nil _ _, isOff (ho1'.tr0 hf2') rfl rfl (fun b hb hm => ?odz), VS.nil _ _⟩ .nil))) rfl (by simp only [List.length_cons, List.length_nil]; unfold maxLen; omega) (by simp only [List.length_cons, List.length_nil]; omega) (fun v' z3 hO3' hf3' hk3' _ => ?ocz)
  case oaz =>
    have := hfr b hb
    simp [blks, Value.ownBlock] at hm; omega
  case obz =>
    have := hfr2 b hb
    simp [blks, Value.ownBlock] at hm; omega
  case odz =>
    simp [blks, Value.ownBlock] at hm hb; omega
  have hb1 := (hbt.tr0 hF12).tr hf3' (by simp [blks, Value.ownBlock]; omega)
  have ho3' := hO3'.one
  refine rx ?_
  ((with_reducible apply s_storeB); exact rfl; (conv => lhs; whnf); exact ho3'; exact hb1; exact rfl)
  intro z4 hb4' hf4' hs4'
  have hs12 := hF12.size
  have hfr' : ∀ b ∈ blks v', u.heap.size ≤ b ∧ b ≠ tb := fun b hb => by
    rcases hk3' b hb with h | h
    · simp [blks, Value.ownBlock] at h; omega
    · have := hF3.size; omega
  have hO2 := ownTurnR (S3 := [tb]) ndStab hO3' hf4' (by simp) (fun b hb => by simp; exact (hfr' b hb).2) (by simp)
  refine rx ?_
  refine q_cut ⟨lim4 j2, _, 4, rfl, rfl, rfl, hb4', ownNS hO2, fun x hx => ?_, ?_, ?_, by simp, (((hF3.trans0 hF3y).trans0 hF12).trans hf3' (by simp [blks, Value.ownBlock]; omega)).trans hf4' (by simp; omega)⟩
  · simp only [lim4, List.mem_cons, List.not_mem_nil, or_false] at hx
    rcases hx with rfl | rfl | rfl | rfl
    · exact r1N_ok (by simp [InI64])
    · exact sqN_ok (by decide) (by omega)
    · exact sqN_ok (by decide) (by omega)
    · constructor <;> first | exact numV_ok _ | exact Nat.zero_le _ | simp [InI64]
  · simp [lim4]
  · rw [lim4_v (by omega)]
    by_cases h : 0 < d
    · rw [if_pos h, if_pos (by omega)]
    · rw [if_neg h, if_neg (by omega)]
end Go.Proofs.Ytpochcchekoonaa
