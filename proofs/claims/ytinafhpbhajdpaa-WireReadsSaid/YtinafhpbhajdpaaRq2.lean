/-
  Contracts of the reference's Reader (refuterref02): lengths, bytes, lists, values.
-/
import Derived.Test.YtinafhpbhajdpaaRq
namespace Go.Proofs.Ytinafhpbhajdpaa
set_option linter.unusedVariables false
open Go.Rf Go.RowKit
attribute [local irreducible] Code.wp wpList Exit.then Exit.inBlock bodyPost A Calls

theorem qLength (p : Nat) (v : Value) (bs : List Int) (e : Int) (w : World) (hr : IsQ w p v bs e) (hl : bs.length ≤ 1000000000000) :
    Calls Try.prog 61 #[.pointer (some ⟨p, 0, none⟩)] w fun r w' => r = .returned (.int .i64 (rdN bs e).1) ∧ QStep p w v (rdN bs e).2.1 (rdN bs e).2.2 w' := by
  have hu := rdU_ok (e := e) hr.2.2.2
  refine enter Try.func61 rfl Try.ntmps61 rfl ?_
  refine rn ?_
  refine s_call (qUint p v bs e w hr hl) rfl ?_
  rintro _ w1 ⟨rfl, v1, hr1, hf1, hsub1⟩
  refine ⟨_, rfl, ?_⟩
  obtain ⟨ao, c, hve, _⟩ := id hr1.src
  subst hve
  unfold rdN
  rcases hq : rdU bs e with ⟨u, l, x⟩
  rw [hq] at hr1 hu hsub1
  simp only at hr1 hu hsub1 ⊢
  have hb := hr1.1
  refine rn ?_
  by_cases h : x = 0
  · subst h
    rw [if_neg (by simp)]
    by_cases h2 : l.length < u
    · rw [if_pos h2]
      refine rn ?_
      ((with_reducible apply s_storeB); exact rfl; (conv => lhs; whnf); exact rfl; exact hb; exact rfl)
      intro w2 hb2 hf2 _
      obtain ⟨v2, hr2, hf2', hsub2⟩ := hr1.setE hb2 hf2
      clear hb
      refine rn ?_
      (apply ret1; exact rfl; (conv => lhs; whnf))
      exact ⟨rfl, QStep.trans hf1 hsub1 ⟨v2, hr2, hf2', hsub2⟩⟩
    · rw [if_neg h2]
      refine rn ?_
      (apply ret1; exact rfl; (conv => lhs; whnf))
      exact ⟨rfl, _, hr1, hf1, hsub1⟩
  · rw [if_pos h]
    refine rn ?_
    (apply ret1; exact rfl; (conv => lhs; whnf))
    exact ⟨rfl, _, hr1, hf1, hsub1⟩

theorem rdR_err {bs : List Int} {e : Int} (hB : Bys bs) (h : (rdN bs e).2.2 ≠ 0) : rdR bs e = ([], (rdN bs e).2.1, (rdN bs e).2.2) := by
  have := (rdN_ok (e := e) hB).2.2.2 h
  simp [rdR, this]

theorem qRaw (p : Nat) (v : Value) (bs : List Int) (e : Int) (w : World) (hr : IsQ w p v bs e) (hl : bs.length ≤ 1000000000000) :
    Calls Try.prog 54 #[.pointer (some ⟨p, 0, none⟩)] w fun r w' => ∃ v', r = .returned v' ∧ Src w' v' (rdR bs e).1.length ((rdR bs e).1.map (.int .u8)) ∧ Sub v v' ∧ QStep p w v (rdR bs e).2.1 (rdR bs e).2.2 w' := by
  have hn := rdN_ok (e := e) hr.2.2.2
  refine enter Try.func54 rfl Try.ntmps54 rfl ?_
  refine rn ?_
  refine s_call (qLength p v bs e w hr hl) rfl ?_
  rintro _ w1 ⟨rfl, v1, hr1, hf1, hsub1⟩
  refine ⟨_, rfl, ?_⟩
  obtain ⟨ao, c, hve, _⟩ := id hr1.src
  have hb := hr1.1
  by_cases h : (rdN bs e).2.2 = 0
  case neg =>
    rw [rdR_err hr.2.2.2 h]
    generalize (rdN bs e).2.2 = x at *
    refine rn ?_
    (apply ret1; exact rfl; (conv => lhs; whnf))
    refine ⟨_, rfl, Src.nil _, ?_, _, hr1, hf1, hsub1⟩
    intro ad n c' e'; cases e'
  have hq : rdR bs e = ((rdN bs e).2.1.take (rdN bs e).1, (rdN bs e).2.1.drop (rdN bs e).1, 0) := by rw [rdR, h]
  rw [hq]
  rw [h] at hr1 hb
  generalize rdN bs e = Y at *
  obtain ⟨n, l, x⟩ := Y
  simp only at hr1 hn hb hve ⊢
  subst hve
  refine rn ?_
  refine s_cut 0 n hr1.src rfl (by simp) rfl ⟨.i64, rfl⟩ (Nat.zero_le _) hn.1 (fun ao1 c1 hcut1 hblk1 _ => ?_)
  rw [Nat.sub_zero] at hcut1 ⊢
  refine rn ?_
  refine s_cut n l.length hr1.src rfl (by simp) ⟨.i64, rfl⟩ rfl hn.1 (Nat.le_refl _) (fun ao2 c2 hcut2 hblk2 _ => ?_)
  refine rn ?_
  ((with_reducible apply s_storeB); exact rfl; (conv => lhs; whnf); exact rfl; exact hb; exact rfl)
  intro w2 hb1 hf2 _
  have hst : QStep p w1 (.slice ao l.length c) (l.drop n) 0 w2 := by
    refine hr1.setV ?_ (sub_of hblk2) (by simp) (hr1.2.2.2.drop n) hb1 hf2
    rw [Nat.mul_one, Nat.mul_one, List.take_of_length_le (by simp), ← List.map_drop] at hcut2
    simpa using hcut2
  refine rn ?_
  (apply ret1; exact rfl; (conv => lhs; whnf))
  have hc1 : Src w1 (.slice ao1 n c1) (l.take n).length ((l.take n).map (.int .u8)) := by
    have e1 : (l.take n).length = n := by simp; omega
    rw [e1]
    simpa [← List.map_take] using hcut1
  have hsubx : Sub (.slice ao l.length c) (.slice ao1 n c1) := sub_of hblk1
  refine ⟨_, rfl, hc1.tr hf2 (hsubx.off (ys := l.map (.int .u8)) (by simp; omega) hr1.2.2.1), hsub1.trans hsubx, QStep.trans hf1 hsub1 hst⟩

set_option maxHeartbeats 4000000 in
theorem qInts (p : Nat) (v : Value) (bs : List Int) (e : Int) (w : World) (hr : IsQ w p v bs e) (hl : bs.length ≤ 10000000000) :
    Calls Try.prog 55 #[.pointer (some ⟨p, 0, none⟩)] w fun r w' =>
      ∃ v', r = .returned v' ∧ Own w' 3 1 v' (rdIs bs e).1.length ((rdIs bs e).1.map (.int .i64)) ∧ (∀ k ∈ blks v', w.heap.size ≤ k) ∧ QStep p w v (rdIs bs e).2.1 (rdIs bs e).2.2 w' := by
  have hn := rdN_ok (e := e) hr.2.2.2
  have hp : p < w.heap.size := hr.1.lt
  refine enter Try.func55 rfl Try.ntmps55 rfl ?_
  refine rn ?_
  refine s_call (qLength p v bs e w hr (by omega)) rfl ?_
  rintro _ w1 ⟨rfl, v1, hr1, hf1, hsub1⟩
  refine ⟨_, rfl, ?_⟩
  unfold rdIs
  rcases hq : rdN bs e with ⟨n, l, x⟩
  rw [hq] at hr1 hn
  simp only at hr1 hn ⊢
  refine rn ?_
  have hsz1 := hf1.size
  refine c_loop (σ := Nat × Value × List Int × Value × List Int × Int) (fun s g u => g 0 = .pointer (some ⟨p, 0, none⟩) ∧
      g 3 = .int .i64 n ∧ g 4 = s.2.1 ∧ g 5 = .int .i64 s.1 ∧ s.1 ≤ n ∧ s.2.2.1.length = s.1 ∧ IsQ u p s.2.2.2.1 s.2.2.2.2.1 s.2.2.2.2.2 ∧ Own u 3 1 s.2.1 s.1 (s.2.2.1.map (.int .i64)) ∧ (∀ k ∈ blks s.2.1, w.heap.size ≤ k) ∧
      Fr [p] w u ∧ Sub v s.2.2.2.1 ∧ s.2.2.2.2.1.length ≤ bs.length ∧ rdMany n l x = (s.2.2.1 ++ (rdMany (n - s.1) s.2.2.2.2.1 s.2.2.2.2.2).1, (rdMany (n - s.1) s.2.2.2.2.1 s.2.2.2.2.2).2.1, (rdMany (n - s.1) s.2.2.2.2.1 s.2.2.2.2.2).2.2))
    (fun s => n - s.1) (0, .slice none 0 0, [], v1, l, x)
    ⟨rfl, rfl, rfl, rfl, Nat.zero_le _, rfl, hr1, Own.nil _ _ _, by simp [blks, Value.ownBlock], hf1, hsub1, by simp only; omega, by simp⟩ ?_
  rintro ⟨i, vl, xs, vr, rs, er⟩ g u ⟨h0, h3, h4, h5, hi, hxs, hrr, hor, hkr, hfr, hsr, hlr, hrd⟩
  simp only at h4 h5 hi hxs hrr hor hkr hsr hlr hrd
  rw [eq_upd h0, eq_upd h3, eq_upd h4, eq_upd h5]
  have fin : (i < n → er ≠ 0) → (rdMany n l x).2.2 = er ∧ (rdMany n l x).1 = xs ∧ (rdMany n l x).2.1 = rs := by
    intro hstop
    by_cases hin : i < n
    · rw [hrd, rdMany_stop (hstop hin)]; simp
    · have : n - i = 0 := by omega
      rw [hrd, this]; simp [rdMany]
  have hb := hrr.1
  by_cases hlt : i < n
  · by_cases he : er = 0
    · subst he
      refine rn ?_
      refine s_call (qInt p vr rs 0 u hrr (by omega)) rfl ?_
      rintro _ u1 ⟨rfl, v3, hr3, hf3, hsub3⟩
      refine ⟨_, rfl, ?_⟩
      have hri := back_range (rdU_ok (e := 0) hrr.2.2.2).1
      ((with_reducible apply s_build1); (conv => lhs; whnf); exact rfl)
      intro u2 ho2' hf2' hs2'
      have hor3 := (hor.tr hf3 (fun k hk => by have := hkr k hk; simp; omega)).tr0 hf2'
      refine s_append hor3 rfl ho2'.src rfl rfl (by simp [Value.oneCell']) (by unfold maxLen; omega) (by omega) (fun v4 u4 ho4 hf4 hk4 _ => ?_)
      have hsz3 := hf3.size
      have hsz2' := hf2'.size
      have hszr := hfr.size
      have hk4' : ∀ k ∈ blks v4, w.heap.size ≤ k := fun k hk => by
        rcases hk4 k hk with h | h
        · exact hkr k h
        · omega
      have hle := (rdU_ok (e := 0) hrr.2.2.2).2.1
      have hle' : (rdI rs 0).2.1.length ≤ rs.length := hle
      have hoff : Off v3 (((rdI rs 0).2.1).map (.int .u8)) (blks vl) := by
        have h1 : Off v (bs.map (.int .u8)) (blks vl) := hr.2.1.off hkr
        exact (hsr.trans hsub3).off (ys := bs.map (.int .u8)) (by simp only [List.length_map]; omega) h1
      have hr4 : IsQ u4 p v3 (rdI rs 0).2.1 (rdI rs 0).2.2 := (hr3.fresh hf2' (by simp)).tr hf4 (fun h => by have := hkr p h; omega) hoff
      refine rn ?_
      refine q_round (i + 1, v4, xs ++ [(rdI rs 0).1], v3, (rdI rs 0).2.1, (rdI rs 0).2.2) ⟨rfl, rfl, rfl, rfl, by simp only; omega, by simp [hxs], hr4, ?_, hk4', ?_, hsr.trans hsub3, by simp only; omega, ?_⟩ (by simp only; omega)
      · simpa using ho4
      · exact ((hfr.trans hf3 (by simp)).trans0 hf2').trans hf4 (fun k hk => .inr (hkr k hk))
      · simp only
        rw [hrd]
        have e1 : n - i = (n - (i + 1)) + 1 := by omega
        rw [e1, rdMany]
        simp
    · obtain ⟨f1, f2, f3⟩ := fin (fun _ => he)
      refine rn ?_
      (apply ret1; exact rfl; (conv => lhs; whnf))
      rw [f1, f2, f3, if_pos he]
      exact ⟨_, rfl, Own.nil _ _ _, by simp [blks, Value.ownBlock], vr, hrr, hfr, hsr⟩
  · obtain ⟨f1, f2, f3⟩ := fin (fun h => by omega)
    have hin : i = n := by omega
    by_cases he : er = 0
    · refine rn ?_
      (apply ret1; exact rfl; (conv => lhs; whnf))
      rw [f1, f2, f3, if_neg (by simpa using he)]
      exact ⟨_, rfl, by rw [hxs]; exact hor, hkr, vr, hrr, hfr, hsr⟩
    · refine rn ?_
      (apply ret1; exact rfl; (conv => lhs; whnf))
      rw [f1, f2, f3, if_pos he]
      exact ⟨_, rfl, Own.nil _ _ _, by simp [blks, Value.ownBlock], vr, hrr, hfr, hsr⟩

set_option maxHeartbeats 4000000 in
theorem qRead (p : Nat) (k : Int) (v : Value) (bs : List Int) (e : Int) (w : World) (hr : IsQ w p v bs e) (hk0 : 0 ≤ k) (hk6 : k < 6) (hl : bs.length ≤ 1000000) :
    Calls Try.prog 33 #[.pointer (some ⟨p, 0, none⟩), .int .i64 k] w fun r w' =>
      ∃ vb vl, r = .returned (.agg (vcells (rdV k bs e).1 vb vl).toArray) ∧ IsVal w' [] (rdV k bs e).1 vb vl ∧ QStep p w v (rdV k bs e).2.1 (rdV k bs e).2.2 w' := by
  have hp : p < w.heap.size := hr.1.lt
  have hok := rdV_ok (e := e) hr.2.2.2 hk0 hk6 hl
  refine enter Try.func33 rfl Try.ntmps33 rfl ?_
  refine rn ?_
  refine s_alloc rfl (fun w1 hb1 hf1 hs1 => ?_)
  obtain ⟨N, hN⟩ : ∃ N, w.heap.size = N := ⟨_, rfl⟩
  rw [hN] at hb1 hs1 hp ⊢
  refine rn ?_
  refine s_build [.int .i64 k, .int .u64 0, .int .i64 0, .slice none 0 0, .slice none 0 0] rfl ?_
  refine s_alloc rfl (fun w2 hb2 hf2 hs2 => ?_)
  rw [hs1] at hb2 hs2 ⊢
  refine s_storeAggB rfl rfl hb2 (by simp [Value.oneCell']) rfl rfl (fun u hbu hfu hsu => ?_)
  have hF : Fr [] w u := (hf1.trans0 hf2).trans hfu (by simp; omega)
  have hb4 := (hb1.tr0 hf2).tr hfu (by simp)
  have hru : IsQ u p v bs e := hr.fresh hF (by simp)
  have szu : u.heap.size = N + 2 := by omega
  have hoffv : ∀ v' (bs' : List Int), Sub v v' → bs'.length ≤ bs.length → ∀ S, (∀ x ∈ S, N ≤ x) → Off v' (bs'.map (.int .u8)) S := by
    intro v' bs' hs hle S hS
    refine hs.off (ys := bs.map (.int .u8)) (by simp; omega) (hr.2.1.off (fun x hx => by have := hS x hx; omega))
  refine wpList_nil ?_
  refine q_then ?_
  refine wp_seq ?_
  have fin : ∀ (X : Val) (L : List Int) (E : Int) (xb xl : Value) (u1 u2 : World) (v1 : Value) (l : List Value), IsQ u1 p v1 L E → Fr [p] u u1 → Sub v v1 → L.length ≤ bs.length →
      Blk u2 (N + 1) l 37 → Fr [N + 1] u1 u2 → IsVal u1 [N, N + 1] X xb xl → l = vcells X xb xl →
      Blk u2 (N + 1) (vcells X xb xl) 37 ∧ Blk u2 N [.int .i64 0, .int .u64 0, .int .i64 0, .slice none 0 0, .slice none 0 0] 37 ∧ IsVal u2 [N, N + 1] X xb xl ∧ QStep p w v L E u2 := by
    intro X L E xb xl u1 u2 v1 l hr1 hf1' hsub hL hb hf2' hnv hl'
    subst hl'
    refine ⟨hb, (hb4.tr hf1' (by simp; omega)).tr hf2' (by simp), hnv.tr (hf2'.mono (by simp)), v1, ⟨hr1.1.tr hf2' (by simp; omega), hr1.2.1.tr hf2' (hoffv v1 L hsub hL _ (by simp)), hr1.2.2⟩, ?_, hsub⟩
    exact ((hF.mono (by simp)).trans hf1' (by simp)).trans hf2' (by simp; omega)
  refine c_cut (fun g' u' => ∃ xb xl, g' 4 = .pointer (some ⟨N, 0, none⟩) ∧ g' 5 = .pointer (some ⟨N + 1, 0, none⟩) ∧ Blk u' (N + 1) (vcells (rdV k bs e).1 xb xl) 37 ∧ Blk u' N [.int .i64 0, .int .u64 0, .int .i64 0, .slice none 0 0, .slice none 0 0] 37 ∧
    IsVal u' [N, N + 1] (rdV k bs e).1 xb xl ∧ QStep p w v (rdV k bs e).2.1 (rdV k bs e).2.2 u') ?_ ?_
  · have hlen := hok.2.2.1
    have nil2 : ∀ (u' : World) (X : Val), X.Ok → X.b = [] → X.l = [] → IsVal u' [N, N + 1] X (.slice none 0 0) (.slice none 0 0) := fun u' X h0 h1 h2 =>
      ⟨h0, by rw [h1]; exact Src.nil _, by rw [h2]; exact Src.nil _, fun _ _ _ e => (by cases e), fun _ _ _ e => (by cases e)⟩
    by_cases k0 : k = 0
    · have hX : rdV k bs e = (⟨k, (rdU bs e).1, 0, [], []⟩, (rdU bs e).2) := if_pos k0
      rw [hX] at hlen hok ⊢
      refine rn ?_
      refine s_call (qUint p v bs e u hru (by omega)) rfl ?_
      rintro _ u1 ⟨rfl, v1, hr1, hf1', hsub1⟩
      refine ⟨_, rfl, ?_⟩
      have hb5 := hbu.tr hf1' (by simp; omega)
      refine rn ?_
      ((with_reducible apply s_storeB); exact rfl; (conv => lhs; whnf); exact rfl; exact hb5; exact rfl)
      intro u2 hb2' hf2' _
      refine rn ?_
      exact q_cut ⟨_, _, rfl, rfl, fin _ _ _ _ _ u1 u2 v1 _ hr1 hf1' hsub1 hlen hb2' hf2' (nil2 _ _ hok.1 rfl rfl) rfl⟩
    by_cases k1 : k = 1
    · have hX : rdV k bs e = (⟨k, 0, (rdI bs e).1, [], []⟩, (rdI bs e).2) := by rw [rdV, if_neg k0, if_pos k1]
      rw [hX] at hlen hok ⊢
      refine rn ?_
      refine s_call (qInt p v bs e u hru (by omega)) rfl ?_
      rintro _ u1 ⟨rfl, v1, hr1, hf1', hsub1⟩
      refine ⟨_, rfl, ?_⟩
      have hb5 := hbu.tr hf1' (by simp; omega)
      refine rn ?_
      ((with_reducible apply s_storeB); exact rfl; (conv => lhs; whnf); exact rfl; exact hb5; exact rfl)
      intro u2 hb2' hf2' _
      refine rn ?_
      exact q_cut ⟨_, _, rfl, rfl, fin _ _ _ _ _ u1 u2 v1 _ hr1 hf1' hsub1 hlen hb2' hf2' (nil2 _ _ hok.1 rfl rfl) rfl⟩
    by_cases k2 : k = 2
    · have hX : rdV k bs e = (⟨k, 0, if (rdB bs e).1 then 1 else 0, [], []⟩, (rdB bs e).2) := by rw [rdV, if_neg k0, if_neg k1, if_pos k2]
      rw [hX] at hlen hok ⊢
      refine rn ?_
      refine s_call (qBool p v bs e u hru (by omega)) rfl ?_
      rintro _ u1 ⟨rfl, v1, hr1, hf1', hsub1⟩
      refine ⟨_, rfl, ?_⟩
      have hb5 := hbu.tr hf1' (by simp; omega)
      rcases hq : (rdB bs e).1 with _ | _
      · rw [hq] at hok
        refine rn ?_
        exact q_cut ⟨_, _, rfl, rfl, fin _ _ _ _ _ u1 u1 v1 _ hr1 hf1' hsub1 hlen hb5 (Fr.refl _ _) (nil2 _ _ hok.1 rfl rfl) rfl⟩
      · rw [hq] at hok
        refine rn ?_
        ((with_reducible apply s_storeB); exact rfl; (conv => lhs; whnf); exact rfl; exact hb5; exact rfl)
        intro u2 hb2' hf2' _
        refine rn ?_
        exact q_cut ⟨_, _, rfl, rfl, fin _ _ _ _ _ u1 u2 v1 _ hr1 hf1' hsub1 hlen hb2' hf2' (nil2 _ _ hok.1 rfl rfl) rfl⟩
    by_cases k3 : k = 3 ∨ k = 4
    · have hX : rdV k bs e = (⟨k, 0, 0, (rdR bs e).1, []⟩, (rdR bs e).2) := by rw [rdV, if_neg k0, if_neg k1, if_neg k2, if_pos k3]
      rw [hX] at hlen hok ⊢
      have hrl : (rdR bs e).1.length ≤ bs.length := by
        have hn := rdN_ok (e := e) hr.2.2.2
        simp only [rdR, List.length_take]; omega
      by_cases k3' : k = 3
      · skip
        refine rn ?_
        refine s_call (qRaw p v bs e u hru (by omega)) rfl ?_
        rintro _ u1 ⟨vr, rfl, ho1, hk1, v1, hr1, hf1', hsub1⟩
        refine ⟨_, rfl, ?_⟩
        have hb5 := hbu.tr hf1' (by simp; omega)
        refine rn ?_
        ((with_reducible apply s_storeB); exact rfl; (conv => lhs; whnf); exact ho1.one; exact hb5; exact rfl)
        intro u2 hb2' hf2' _
        refine rn ?_
        exact q_cut ⟨_, _, rfl, rfl, fin _ _ _ _ _ u1 u2 v1 _ hr1 hf1' hsub1 hlen hb2' hf2' ⟨hok.1, ho1, Src.nil _, hoffv vr _ hk1 hrl _ (by simp), fun _ _ _ e => (by cases e)⟩ rfl⟩
      · have k4' : k = 4 := by omega
        refine rn ?_
        refine s_call (qRaw p v bs e u hru (by omega)) rfl ?_
        rintro _ u1 ⟨vr, rfl, ho1, hk1, v1, hr1, hf1', hsub1⟩
        refine ⟨_, rfl, ?_⟩
        have hb5 := hbu.tr hf1' (by simp; omega)
        refine rn ?_
        ((with_reducible apply s_storeB); exact rfl; (conv => lhs; whnf); exact ho1.one; exact hb5; exact rfl)
        intro u2 hb2' hf2' _
        refine rn ?_
        exact q_cut ⟨_, _, rfl, rfl, fin _ _ _ _ _ u1 u2 v1 _ hr1 hf1' hsub1 hlen hb2' hf2' ⟨hok.1, ho1, Src.nil _, hoffv vr _ hk1 hrl _ (by simp), fun _ _ _ e => (by cases e)⟩ rfl⟩
    · have hX : rdV k bs e = (⟨k, 0, 0, [], (rdIs bs e).1⟩, (rdIs bs e).2) := by rw [rdV, if_neg k0, if_neg k1, if_neg k2, if_neg k3]
      rw [hX] at hlen hok ⊢
      refine rn ?_
      refine s_call (qInts p v bs e u hru (by omega)) rfl ?_
      rintro _ u1 ⟨vr, rfl, ho1, hk1, v1, hr1, hf1', hsub1⟩
      refine ⟨_, rfl, ?_⟩
      have hb5 := hbu.tr hf1' (by simp; omega)
      refine rn ?_
      ((with_reducible apply s_storeB); exact rfl; (conv => lhs; whnf); exact ho1.one; exact hb5; exact rfl)
      intro u2 hb2' hf2' _
      refine rn ?_
      exact q_cut ⟨_, _, rfl, rfl, fin _ _ _ _ _ u1 u2 v1 _ hr1 hf1' hsub1 hlen hb2' hf2' ⟨hok.1, Src.nil _, ho1.src, fun _ _ _ e => (by cases e), off_new (N := N + 2) (by rw [← szu]; exact hk1) _ (by simp)⟩ rfl⟩
  · rintro g' u' ⟨xb, xl, h4, h5, hb5, hb4', hnv, v1, hr1, hf', hsub⟩
    rw [eq_upd h4, eq_upd h5]
    refine rn ?_
    refine s_loadAggB rfl hb5 rfl ?_
    have hone : ∀ c ∈ vcells (rdV k bs e).1 xb xl, c.oneCell' = true := by
      intro c hc
      simp only [vcells, List.mem_cons, List.not_mem_nil, or_false] at hc
      rcases hc with rfl | rfl | rfl | rfl | rfl
      · rfl
      · rfl
      · rfl
      · exact hnv.b.one
      · exact hnv.l.one
    refine s_storeAggB rfl rfl hb4' hone rfl rfl (fun u2 hb6 hf6 _ => ?_)
    refine rn ?_
    refine retc rfl rfl (AggT.load _ (vcells (rdV k bs e).1 xb xl) rfl (fun j x hx => by rw [add_lit]; exact hb6.cell (by simpa using hx))) ⟨xb, xl, rfl, (hnv.tr (hf6.mono (by simp))).mono (by simp), v1, ⟨hr1.1.tr hf6 (by simp; omega), hr1.2.1.tr hf6 ?_, hr1.2.2⟩, hf'.trans hf6 (by simp; omega), hsub⟩
    exact hoffv v1 _ hsub hok.2.2.1 _ (by simp)
end Go.Proofs.Ytinafhpbhajdpaa
