/-
  Orders of package history: the closure that grows orders.
-/
import Derived.Test.YtcogpedfnnfnaaaHj
namespace Go.Proofs.Ytcogpedfnnfnaaa
open Go.Rf Go.RowKit
set_option linter.unusedVariables false
set_option maxHeartbeats 8000000
attribute [local irreducible] Code.wp wpList Exit.then Exit.inBlock bodyPost A Calls execOp Addr.add

def nowOf (l : List Cl) (left : Int) (i : Nat) : Int := if (gt l i).fin ≠ -1 then left - 1 else left
def stepG (l : List Cl) (most : Nat) (order : List Nat) (left : Int) (rec : Nat → Int → List (List Nat) → List (List Nat)) (o : List (List Nat)) (i : Nat) : List (List Nat) := if o.length = most then o else if fitB l order i then rec i (nowOf l left i) o else o
theorem stepG_full {l : List Cl} {most : Nat} {order : List Nat} {left : Int} {rec : Nat → Int → List (List Nat) → List (List Nat)} {o : List (List Nat)} (h : o.length = most) : ∀ js : List Nat, js.foldl (stepG l most order left rec) o = o := by
  intro js
  induction js with
  | nil => rfl
  | cons j js ih => rw [List.foldl_cons, stepG, if_pos h, ih]
theorem Own.pop {w : World} {e n c : Nat} {ao : Option Addr} {xs : List Value} {x : Value} (h : Own w e 1 (.slice ao (n + 1) c) (n + 1) (xs ++ [x])) : Own w e 1 (.slice ao n c) n xs := by
  have hl := h.1
  simp at hl
  rcases h.2 with ⟨h0, h1⟩ | ⟨g, cap, cur, hv, hb, hg, hnc, hcm, hcs, htk⟩
  · omega
  · simp only [Value.slice.injEq] at hv
    obtain ⟨rfl, _, rfl⟩ := hv
    refine ⟨by simp; omega, .inr ⟨g, c, cur, rfl, hb, hg, by omega, hcm, hcs, ?_⟩⟩
    have := congrArg (List.take n) htk
    rw [List.take_take] at this
    rw [Nat.mul_one]
    rw [Nat.mul_one, Nat.min_eq_left (by omega)] at this
    rw [this, List.take_append_of_le_length (by omega), List.take_of_length_le (by omega)]

theorem growStep (w0 : World) (l : List Cl) (most M K : Nat) (sl : Value) (hl : OcS w0 l sl) (hb : l.length ≤ 1000000) (hmost : most ≤ 1000000) (order : List Nat) (left : Int) (out : List (List Nat)) (vo vr : Value) (ys : List Value) (u : World) (hg : GS w0 l most M K sl u order order out vo vr ys) (hnd : order.Nodup) (hlt : ∀ x ∈ order, x < l.length) (hout : out.length < most) (hl1 : -1000000000 ≤ left) (hl2 : left ≤ 1000000000)
    (rec : Nat → Int → List (List Nat) → List (List Nat)) (hrl : ∀ i n o, o.length < most → (rec i n o).length ≤ most)
    (H : ∀ i, i < l.length → fitB l order i = true → ∀ (o : List (List Nat)) (vo vr : Value) (ys : List Value) (u : World), GS w0 l most M K sl u (order ++ [i]) (order ++ [i]) o vo vr ys → o.length < most →
      Calls Try.prog 55 #[.int .i64 (nowOf l left i), .pointer (some ⟨K, 0, none⟩), .pointer (some ⟨K + 1, 0, none⟩), .pointer (some ⟨M, 0, none⟩), .pointer (some ⟨M + 1, 0, none⟩), .pointer (some ⟨K + 4, 0, none⟩), .pointer (some ⟨K + 3, 0, none⟩), .pointer (some ⟨K + 5, 0, none⟩)] u fun r u' => r = .returned (.tuple #[]) ∧ ∃ vo' vr' ys', GS w0 l most M K sl u' (order ++ [i]) (order ++ [i]) (rec i (nowOf l left i) o) vo' vr' ys') :
    Calls Try.prog 55 #[.int .i64 left, .pointer (some ⟨K, 0, none⟩), .pointer (some ⟨K + 1, 0, none⟩), .pointer (some ⟨M, 0, none⟩), .pointer (some ⟨M + 1, 0, none⟩), .pointer (some ⟨K + 4, 0, none⟩), .pointer (some ⟨K + 3, 0, none⟩), .pointer (some ⟨K + 5, 0, none⟩)] u fun r u' => r = .returned (.tuple #[]) ∧ ∃ vo' vr' ys', GS w0 l most M K sl u' order order ((List.range l.length).foldl (stepG l most order left rec) (if left = 0 then out ++ [order] else out)) vo' vr' ys' := by
  obtain ⟨ao, c, rfl, hc⟩ := Sl.slice hl
  have hol := nodup_len l.length order hnd hlt
  have hone : ∀ x ∈ nv order, x.oneCell' = true := by
    intro x hx
    obtain ⟨n, _, rfl⟩ := List.mem_map.1 hx
    rfl
  refine enter Try.func55 rfl Try.ntmps55 rfl ?_
  refine wp_seq ?_
  refine c_cut (fun g u' => g 0 = .int .i64 left ∧ g 1 = .pointer (some ⟨K, 0, none⟩) ∧ g 2 = .pointer (some ⟨K + 1, 0, none⟩) ∧ g 3 = .pointer (some ⟨M, 0, none⟩) ∧ g 4 = .pointer (some ⟨M + 1, 0, none⟩) ∧ g 5 = .pointer (some ⟨K + 4, 0, none⟩) ∧ g 6 = .pointer (some ⟨K + 3, 0, none⟩) ∧ g 7 = .pointer (some ⟨K + 5, 0, none⟩) ∧ ∃ vo' ys', GS w0 l most M K (.slice ao l.length c) u' order order (if left = 0 then out ++ [order] else out) vo' vr ys') ?_ ?_
  · by_cases hl0 : left = 0
    case neg =>
      refine rx ?_
      refine q_cut ⟨rfl, rfl, rfl, rfl, rfl, rfl, rfl, rfl, vo, ys, ?_⟩
      rw [if_neg hl0]; exact hg
    refine rx ?_
    (refine d_begin (fun _ => True) (by kernel_rfl) rfl ?_)
    have hS0 : Fr [] u u.drew := Fr.drew _ _
    refine d_three (i := 0) (j := 1) (k := 2) rfl rfl rfl (by kernel_rfl) ?_ ?_ ?_
    · refine s_loadB rfl (hg.bo.tr0 hS0) rfl ?_
      refine wpList_nil (q_held trivial ?_)
      refine d_two (i := 1) (j := 2) rfl rfl (by kernel_rfl) ?_ ?_
      · refine s_build0 (fun u1 ho1 hf1 hs1 => ?_)
        have hS1 : Fr [] u u1 := hS0.trans0 hf1
        refine wpList_nil (q_held trivial ?_)
        refine d_one (i := 2) rfl (by kernel_rfl) ?_
        refine s_loadB rfl (hg.br.tr0 hS1) rfl ?_
        refine wpList_nil (q_held trivial ?_)
        refine d_one (i := 3) rfl (by kernel_rfl) ?_
        refine s_append ho1 rfl (hg.or_.src.tr0 hS1) rfl (by simp [nv]) hone (by unfold maxLen; omega) (by omega) (fun v3 u3 ho3 hf3 hk3 _ => ?_)
        have hK3 : blks (.slice (some ⟨u.drew.heap.size, 0, none⟩) 0 0) = [u.heap.size] := rfl
        rw [hK3] at hf3 hk3
        have hs1' : u1.heap.size = u.heap.size + 1 := hs1
        have hF3 : Fr [] u u3 := hS1.trans hf3 (by simp)
        refine wpList_nil (q_held trivial ?_)
        refine d_one (i := 4) rfl (by kernel_rfl) ?_
        refine s_build1 (v := v3) rfl ho3.one (fun u4 ho4 hf4 hs4 => ?_)
        have hF4 : Fr [] u u4 := hF3.trans0 hf4
        refine wpList_nil (q_held trivial ?_)
        refine d_one (i := 5) rfl (by kernel_rfl) ?_
        have hs3 := hf3.size
        have hs4' := hf4.size
        have hk3' : ∀ b ∈ blks v3, u.heap.size ≤ b := fun b hb => by
          rcases hk3 b hb with h | h
          · simp at h; omega
          · omega
        have hbo4 := hg.bo.tr0 hF4
        have hltvo := hg.oo.lt
        refine s_append (hg.oo.tr0 hF4) rfl ho4.src rfl rfl (by simpa using ho3.one) (by unfold maxLen; omega) (by omega) (fun v5 u5 ho5 hf5 hk5 _ => ?_)
        refine wpList_nil (q_held trivial ?_)
        refine d_one (i := 6) rfl (by kernel_rfl) ?_
        have hKvo : K ∉ blks vo := fun h => by have := hg.ko _ h; omega
        ((with_reducible apply s_storeB); exact rfl; (conv => lhs; whnf); exact ho5.one; exact (hbo4.tr hf5 hKvo); exact rfl)
        intro u6 hb6 hf6 hs6
        refine wpList_nil (q_held trivial ?_)
        (refine d_done (by kernel_rfl) ?_)
        refine rx ?_
        have hlt6 : ∀ b ∈ blks v5, b ∈ blks vo ∨ u.heap.size ≤ b := fun b hb => by
          rcases hk5 b hb with h | h
          · exact .inl h
          · right; omega
        have hv5K : ∀ b ∈ blks v5, b ≠ K := fun b hb e => by
          have := hg.bg.lt
          rcases hlt6 b hb with h | h
          · exact hKvo (e ▸ h)
          · omega
        have hoff3 : ∀ S : List Nat, (∀ b ∈ S, b ∉ blks v3) → Off v3 (nv order) S := fun S hS ad n c e hp hm => by
          refine hS _ hm ?_
          rcases ho3.2 with ⟨hv, _⟩ | ⟨gg, cap, cur, hv, _⟩
          · rw [hv] at e; cases e
          · subst hv
            simp only [Value.slice.injEq, Option.some.injEq] at e
            rw [← e.1]; simp [blks, Value.ownBlock]
        have hltv3 := ho3.lt
        have hsrc3 : Src u6 v3 order.length (nv order) := by
          have h0 : Src u3 v3 order.length (nv order) := by simpa using ho3.src
          refine ((h0.tr0 hf4).tr hf5 (hoff3 _ (fun b hb hb3 => by have := hltvo b hb; have := hk3' b hb3; omega))).tr hf6 (hoff3 _ (fun b hb hb3 => by simp at hb; have := hk3' b hb3; have := hg.bg.lt; omega))
        refine q_cut ⟨rfl, rfl, rfl, rfl, rfl, rfl, rfl, rfl, v5, ys ++ [v3], ?_⟩
        rw [if_pos hl0]
        refine hg.push (((hF4.mono (by simp)).trans (hf5.mono (T := K :: blks vo) (fun b hb => .inl (by simp [hb]))) (fun b hb => .inl hb)).trans hf6 (fun b hb => .inl (by simp at hb; simp [hb]))) hb6 (ho5.tr hf6 (fun k hk => by simpa using hv5K k hk)) hlt6 hsrc3 (hoff3 _ ?_)
        intro b hb hb3
        have h3 := hk3' b hb3
        have h3' := hltv3 b hb3
        have := hg.bg.lt
        simp only [List.mem_cons, List.mem_append] at hb
        rcases hb with h | h | h | h | h
        · omega
        · omega
        · omega
        · rcases hk5 b h with h5 | h5
          · have := hltvo b h5; omega
          · omega
        · have := hg.or_.lt b h; omega
      · refine s_loadB rfl (hg.br.tr0 hS0) rfl ?_
        refine wpList_nil (q_held trivial ?_)
        refine d_one (i := 1) rfl (by kernel_rfl) ?_
        refine s_build0 (fun u1 ho1 hf1 hs1 => ?_)
        have hS1 : Fr [] u u1 := hS0.trans0 hf1
        refine wpList_nil (q_held trivial ?_)
        refine d_one (i := 3) rfl (by kernel_rfl) ?_
        refine s_append ho1 rfl (hg.or_.src.tr0 hS1) rfl (by simp [nv]) hone (by unfold maxLen; omega) (by omega) (fun v3 u3 ho3 hf3 hk3 _ => ?_)
        have hK3 : blks (.slice (some ⟨u.drew.heap.size, 0, none⟩) 0 0) = [u.heap.size] := rfl
        rw [hK3] at hf3 hk3
        have hs1' : u1.heap.size = u.heap.size + 1 := hs1
        have hF3 : Fr [] u u3 := hS1.trans hf3 (by simp)
        refine wpList_nil (q_held trivial ?_)
        refine d_one (i := 4) rfl (by kernel_rfl) ?_
        refine s_build1 (v := v3) rfl ho3.one (fun u4 ho4 hf4 hs4 => ?_)
        have hF4 : Fr [] u u4 := hF3.trans0 hf4
        refine wpList_nil (q_held trivial ?_)
        refine d_one (i := 5) rfl (by kernel_rfl) ?_
        have hs3 := hf3.size
        have hs4' := hf4.size
        have hk3' : ∀ b ∈ blks v3, u.heap.size ≤ b := fun b hb => by
          rcases hk3 b hb with h | h
          · simp at h; omega
          · omega
        have hbo4 := hg.bo.tr0 hF4
        have hltvo := hg.oo.lt
        refine s_append (hg.oo.tr0 hF4) rfl ho4.src rfl rfl (by simpa using ho3.one) (by unfold maxLen; omega) (by omega) (fun v5 u5 ho5 hf5 hk5 _ => ?_)
        refine wpList_nil (q_held trivial ?_)
        refine d_one (i := 6) rfl (by kernel_rfl) ?_
        have hKvo : K ∉ blks vo := fun h => by have := hg.ko _ h; omega
        ((with_reducible apply s_storeB); exact rfl; (conv => lhs; whnf); exact ho5.one; exact (hbo4.tr hf5 hKvo); exact rfl)
        intro u6 hb6 hf6 hs6
        refine wpList_nil (q_held trivial ?_)
        (refine d_done (by kernel_rfl) ?_)
        refine rx ?_
        have hlt6 : ∀ b ∈ blks v5, b ∈ blks vo ∨ u.heap.size ≤ b := fun b hb => by
          rcases hk5 b hb with h | h
          · exact .inl h
          · right; omega
        have hv5K : ∀ b ∈ blks v5, b ≠ K := fun b hb e => by
          have := hg.bg.lt
          rcases hlt6 b hb with h | h
          · exact hKvo (e ▸ h)
          · omega
        have hoff3 : ∀ S : List Nat, (∀ b ∈ S, b ∉ blks v3) → Off v3 (nv order) S := fun S hS ad n c e hp hm => by
          refine hS _ hm ?_
          rcases ho3.2 with ⟨hv, _⟩ | ⟨gg, cap, cur, hv, _⟩
          · rw [hv] at e; cases e
          · subst hv
            simp only [Value.slice.injEq, Option.some.injEq] at e
            rw [← e.1]; simp [blks, Value.ownBlock]
        have hltv3 := ho3.lt
        have hsrc3 : Src u6 v3 order.length (nv order) := by
          have h0 : Src u3 v3 order.length (nv order) := by simpa using ho3.src
          refine ((h0.tr0 hf4).tr hf5 (hoff3 _ (fun b hb hb3 => by have := hltvo b hb; have := hk3' b hb3; omega))).tr hf6 (hoff3 _ (fun b hb hb3 => by simp at hb; have := hk3' b hb3; have := hg.bg.lt; omega))
        refine q_cut ⟨rfl, rfl, rfl, rfl, rfl, rfl, rfl, rfl, v5, ys ++ [v3], ?_⟩
        rw [if_pos hl0]
        refine hg.push (((hF4.mono (by simp)).trans (hf5.mono (T := K :: blks vo) (fun b hb => .inl (by simp [hb]))) (fun b hb => .inl hb)).trans hf6 (fun b hb => .inl (by simp at hb; simp [hb]))) hb6 (ho5.tr hf6 (fun k hk => by simpa using hv5K k hk)) hlt6 hsrc3 (hoff3 _ ?_)
        intro b hb hb3
        have h3 := hk3' b hb3
        have h3' := hltv3 b hb3
        have := hg.bg.lt
        simp only [List.mem_cons, List.mem_append] at hb
        rcases hb with h | h | h | h | h
        · omega
        · omega
        · omega
        · rcases hk5 b h with h5 | h5
          · have := hltvo b h5; omega
          · omega
        · have := hg.or_.lt b h; omega
    · refine s_build0 (fun u1 ho1 hf1 hs1 => ?_)
      have hS1 : Fr [] u u1 := hS0.trans0 hf1
      refine wpList_nil (q_held trivial ?_)
      refine d_two (i := 0) (j := 2) rfl rfl (by kernel_rfl) ?_ ?_
      · refine s_loadB rfl (hg.bo.tr0 hS1) rfl ?_
        refine wpList_nil (q_held trivial ?_)
        refine d_one (i := 2) rfl (by kernel_rfl) ?_
        refine s_loadB rfl (hg.br.tr0 hS1) rfl ?_
        refine wpList_nil (q_held trivial ?_)
        refine d_one (i := 3) rfl (by kernel_rfl) ?_
        refine s_append ho1 rfl (hg.or_.src.tr0 hS1) rfl (by simp [nv]) hone (by unfold maxLen; omega) (by omega) (fun v3 u3 ho3 hf3 hk3 _ => ?_)
        have hK3 : blks (.slice (some ⟨u.drew.heap.size, 0, none⟩) 0 0) = [u.heap.size] := rfl
        rw [hK3] at hf3 hk3
        have hs1' : u1.heap.size = u.heap.size + 1 := hs1
        have hF3 : Fr [] u u3 := hS1.trans hf3 (by simp)
        refine wpList_nil (q_held trivial ?_)
        refine d_one (i := 4) rfl (by kernel_rfl) ?_
        refine s_build1 (v := v3) rfl ho3.one (fun u4 ho4 hf4 hs4 => ?_)
        have hF4 : Fr [] u u4 := hF3.trans0 hf4
        refine wpList_nil (q_held trivial ?_)
        refine d_one (i := 5) rfl (by kernel_rfl) ?_
        have hs3 := hf3.size
        have hs4' := hf4.size
        have hk3' : ∀ b ∈ blks v3, u.heap.size ≤ b := fun b hb => by
          rcases hk3 b hb with h | h
          · simp at h; omega
          · omega
        have hbo4 := hg.bo.tr0 hF4
        have hltvo := hg.oo.lt
        refine s_append (hg.oo.tr0 hF4) rfl ho4.src rfl rfl (by simpa using ho3.one) (by unfold maxLen; omega) (by omega) (fun v5 u5 ho5 hf5 hk5 _ => ?_)
        refine wpList_nil (q_held trivial ?_)
        refine d_one (i := 6) rfl (by kernel_rfl) ?_
        have hKvo : K ∉ blks vo := fun h => by have := hg.ko _ h; omega
        ((with_reducible apply s_storeB); exact rfl; (conv => lhs; whnf); exact ho5.one; exact (hbo4.tr hf5 hKvo); exact rfl)
        intro u6 hb6 hf6 hs6
        refine wpList_nil (q_held trivial ?_)
        (refine d_done (by kernel_rfl) ?_)
        refine rx ?_
        have hlt6 : ∀ b ∈ blks v5, b ∈ blks vo ∨ u.heap.size ≤ b := fun b hb => by
          rcases hk5 b hb with h | h
          · exact .inl h
          · right; omega
        have hv5K : ∀ b ∈ blks v5, b ≠ K := fun b hb e => by
          have := hg.bg.lt
          rcases hlt6 b hb with h | h
          · exact hKvo (e ▸ h)
          · omega
        have hoff3 : ∀ S : List Nat, (∀ b ∈ S, b ∉ blks v3) → Off v3 (nv order) S := fun S hS ad n c e hp hm => by
          refine hS _ hm ?_
          rcases ho3.2 with ⟨hv, _⟩ | ⟨gg, cap, cur, hv, _⟩
          · rw [hv] at e; cases e
          · subst hv
            simp only [Value.slice.injEq, Option.some.injEq] at e
            rw [← e.1]; simp [blks, Value.ownBlock]
        have hltv3 := ho3.lt
        have hsrc3 : Src u6 v3 order.length (nv order) := by
          have h0 : Src u3 v3 order.length (nv order) := by simpa using ho3.src
          refine ((h0.tr0 hf4).tr hf5 (hoff3 _ (fun b hb hb3 => by have := hltvo b hb; have := hk3' b hb3; omega))).tr hf6 (hoff3 _ (fun b hb hb3 => by simp at hb; have := hk3' b hb3; have := hg.bg.lt; omega))
        refine q_cut ⟨rfl, rfl, rfl, rfl, rfl, rfl, rfl, rfl, v5, ys ++ [v3], ?_⟩
        rw [if_pos hl0]
        refine hg.push (((hF4.mono (by simp)).trans (hf5.mono (T := K :: blks vo) (fun b hb => .inl (by simp [hb]))) (fun b hb => .inl hb)).trans hf6 (fun b hb => .inl (by simp at hb; simp [hb]))) hb6 (ho5.tr hf6 (fun k hk => by simpa using hv5K k hk)) hlt6 hsrc3 (hoff3 _ ?_)
        intro b hb hb3
        have h3 := hk3' b hb3
        have h3' := hltv3 b hb3
        have := hg.bg.lt
        simp only [List.mem_cons, List.mem_append] at hb
        rcases hb with h | h | h | h | h
        · omega
        · omega
        · omega
        · rcases hk5 b h with h5 | h5
          · have := hltvo b h5; omega
          · omega
        · have := hg.or_.lt b h; omega
      · refine s_loadB rfl (hg.br.tr0 hS1) rfl ?_
        refine wpList_nil (q_held trivial ?_)
        refine d_two (i := 0) (j := 3) rfl rfl (by kernel_rfl) ?_ ?_
        · refine s_loadB rfl (hg.bo.tr0 hS1) rfl ?_
          refine wpList_nil (q_held trivial ?_)
          refine d_one (i := 3) rfl (by kernel_rfl) ?_
          refine s_append ho1 rfl (hg.or_.src.tr0 hS1) rfl (by simp [nv]) hone (by unfold maxLen; omega) (by omega) (fun v3 u3 ho3 hf3 hk3 _ => ?_)
          have hK3 : blks (.slice (some ⟨u.drew.heap.size, 0, none⟩) 0 0) = [u.heap.size] := rfl
          rw [hK3] at hf3 hk3
          have hs1' : u1.heap.size = u.heap.size + 1 := hs1
          have hF3 : Fr [] u u3 := hS1.trans hf3 (by simp)
          refine wpList_nil (q_held trivial ?_)
          refine d_one (i := 4) rfl (by kernel_rfl) ?_
          refine s_build1 (v := v3) rfl ho3.one (fun u4 ho4 hf4 hs4 => ?_)
          have hF4 : Fr [] u u4 := hF3.trans0 hf4
          refine wpList_nil (q_held trivial ?_)
          refine d_one (i := 5) rfl (by kernel_rfl) ?_
          have hs3 := hf3.size
          have hs4' := hf4.size
          have hk3' : ∀ b ∈ blks v3, u.heap.size ≤ b := fun b hb => by
            rcases hk3 b hb with h | h
            · simp at h; omega
            · omega
          have hbo4 := hg.bo.tr0 hF4
          have hltvo := hg.oo.lt
          refine s_append (hg.oo.tr0 hF4) rfl ho4.src rfl rfl (by simpa using ho3.one) (by unfold maxLen; omega) (by omega) (fun v5 u5 ho5 hf5 hk5 _ => ?_)
          refine wpList_nil (q_held trivial ?_)
          refine d_one (i := 6) rfl (by kernel_rfl) ?_
          have hKvo : K ∉ blks vo := fun h => by have := hg.ko _ h; omega
          ((with_reducible apply s_storeB); exact rfl; (conv => lhs; whnf); exact ho5.one; exact (hbo4.tr hf5 hKvo); exact rfl)
          intro u6 hb6 hf6 hs6
          refine wpList_nil (q_held trivial ?_)
          (refine d_done (by kernel_rfl) ?_)
          refine rx ?_
          have hlt6 : ∀ b ∈ blks v5, b ∈ blks vo ∨ u.heap.size ≤ b := fun b hb => by
            rcases hk5 b hb with h | h
            · exact .inl h
            · right; omega
          have hv5K : ∀ b ∈ blks v5, b ≠ K := fun b hb e => by
            have := hg.bg.lt
            rcases hlt6 b hb with h | h
            · exact hKvo (e ▸ h)
            · omega
          have hoff3 : ∀ S : List Nat, (∀ b ∈ S, b ∉ blks v3) → Off v3 (nv order) S := fun S hS ad n c e hp hm => by
            refine hS _ hm ?_
            rcases ho3.2 with ⟨hv, _⟩ | ⟨gg, cap, cur, hv, _⟩
            · rw [hv] at e; cases e
            · subst hv
              simp only [Value.slice.injEq, Option.some.injEq] at e
              rw [← e.1]; simp [blks, Value.ownBlock]
          have hltv3 := ho3.lt
          have hsrc3 : Src u6 v3 order.length (nv order) := by
            have h0 : Src u3 v3 order.length (nv order) := by simpa using ho3.src
            refine ((h0.tr0 hf4).tr hf5 (hoff3 _ (fun b hb hb3 => by have := hltvo b hb; have := hk3' b hb3; omega))).tr hf6 (hoff3 _ (fun b hb hb3 => by simp at hb; have := hk3' b hb3; have := hg.bg.lt; omega))
          refine q_cut ⟨rfl, rfl, rfl, rfl, rfl, rfl, rfl, rfl, v5, ys ++ [v3], ?_⟩
          rw [if_pos hl0]
          refine hg.push (((hF4.mono (by simp)).trans (hf5.mono (T := K :: blks vo) (fun b hb => .inl (by simp [hb]))) (fun b hb => .inl hb)).trans hf6 (fun b hb => .inl (by simp at hb; simp [hb]))) hb6 (ho5.tr hf6 (fun k hk => by simpa using hv5K k hk)) hlt6 hsrc3 (hoff3 _ ?_)
          intro b hb hb3
          have h3 := hk3' b hb3
          have h3' := hltv3 b hb3
          have := hg.bg.lt
          simp only [List.mem_cons, List.mem_append] at hb
          rcases hb with h | h | h | h | h
          · omega
          · omega
          · omega
          · rcases hk5 b h with h5 | h5
            · have := hltvo b h5; omega
            · omega
          · have := hg.or_.lt b h; omega
        · refine s_append ho1 rfl (hg.or_.src.tr0 hS1) rfl (by simp [nv]) hone (by unfold maxLen; omega) (by omega) (fun v3 u3 ho3 hf3 hk3 _ => ?_)
          have hK3 : blks (.slice (some ⟨u.drew.heap.size, 0, none⟩) 0 0) = [u.heap.size] := rfl
          rw [hK3] at hf3 hk3
          have hs1' : u1.heap.size = u.heap.size + 1 := hs1
          have hF3 : Fr [] u u3 := hS1.trans hf3 (by simp)
          refine wpList_nil (q_held trivial ?_)
          refine d_two (i := 0) (j := 4) rfl rfl (by kernel_rfl) ?_ ?_
          · refine s_loadB rfl (hg.bo.tr0 hF3) rfl ?_
            refine wpList_nil (q_held trivial ?_)
            refine d_one (i := 4) rfl (by kernel_rfl) ?_
            refine s_build1 (v := v3) rfl ho3.one (fun u4 ho4 hf4 hs4 => ?_)
            have hF4 : Fr [] u u4 := hF3.trans0 hf4
            refine wpList_nil (q_held trivial ?_)
            refine d_one (i := 5) rfl (by kernel_rfl) ?_
            have hs3 := hf3.size
            have hs4' := hf4.size
            have hk3' : ∀ b ∈ blks v3, u.heap.size ≤ b := fun b hb => by
              rcases hk3 b hb with h | h
              · simp at h; omega
              · omega
            have hbo4 := hg.bo.tr0 hF4
            have hltvo := hg.oo.lt
            refine s_append (hg.oo.tr0 hF4) rfl ho4.src rfl rfl (by simpa using ho3.one) (by unfold maxLen; omega) (by omega) (fun v5 u5 ho5 hf5 hk5 _ => ?_)
            refine wpList_nil (q_held trivial ?_)
            refine d_one (i := 6) rfl (by kernel_rfl) ?_
            have hKvo : K ∉ blks vo := fun h => by have := hg.ko _ h; omega
            ((with_reducible apply s_storeB); exact rfl; (conv => lhs; whnf); exact ho5.one; exact (hbo4.tr hf5 hKvo); exact rfl)
            intro u6 hb6 hf6 hs6
            refine wpList_nil (q_held trivial ?_)
            (refine d_done (by kernel_rfl) ?_)
            refine rx ?_
            have hlt6 : ∀ b ∈ blks v5, b ∈ blks vo ∨ u.heap.size ≤ b := fun b hb => by
              rcases hk5 b hb with h | h
              · exact .inl h
              · right; omega
            have hv5K : ∀ b ∈ blks v5, b ≠ K := fun b hb e => by
              have := hg.bg.lt
              rcases hlt6 b hb with h | h
              · exact hKvo (e ▸ h)
              · omega
            have hoff3 : ∀ S : List Nat, (∀ b ∈ S, b ∉ blks v3) → Off v3 (nv order) S := fun S hS ad n c e hp hm => by
              refine hS _ hm ?_
              rcases ho3.2 with ⟨hv, _⟩ | ⟨gg, cap, cur, hv, _⟩
              · rw [hv] at e; cases e
              · subst hv
                simp only [Value.slice.injEq, Option.some.injEq] at e
                rw [← e.1]; simp [blks, Value.ownBlock]
            have hltv3 := ho3.lt
            have hsrc3 : Src u6 v3 order.length (nv order) := by
              have h0 : Src u3 v3 order.length (nv order) := by simpa using ho3.src
              refine ((h0.tr0 hf4).tr hf5 (hoff3 _ (fun b hb hb3 => by have := hltvo b hb; have := hk3' b hb3; omega))).tr hf6 (hoff3 _ (fun b hb hb3 => by simp at hb; have := hk3' b hb3; have := hg.bg.lt; omega))
            refine q_cut ⟨rfl, rfl, rfl, rfl, rfl, rfl, rfl, rfl, v5, ys ++ [v3], ?_⟩
            rw [if_pos hl0]
            refine hg.push (((hF4.mono (by simp)).trans (hf5.mono (T := K :: blks vo) (fun b hb => .inl (by simp [hb]))) (fun b hb => .inl hb)).trans hf6 (fun b hb => .inl (by simp at hb; simp [hb]))) hb6 (ho5.tr hf6 (fun k hk => by simpa using hv5K k hk)) hlt6 hsrc3 (hoff3 _ ?_)
            intro b hb hb3
            have h3 := hk3' b hb3
            have h3' := hltv3 b hb3
            have := hg.bg.lt
            simp only [List.mem_cons, List.mem_append] at hb
            rcases hb with h | h | h | h | h
            · omega
            · omega
            · omega
            · rcases hk5 b h with h5 | h5
              · have := hltvo b h5; omega
              · omega
            · have := hg.or_.lt b h; omega
          · refine s_build1 (v := v3) rfl ho3.one (fun u4 ho4 hf4 hs4 => ?_)
            have hF4 : Fr [] u u4 := hF3.trans0 hf4
            refine wpList_nil (q_held trivial ?_)
            refine d_one (i := 0) rfl (by kernel_rfl) ?_
            refine s_loadB rfl (hg.bo.tr0 hF4) rfl ?_
            refine wpList_nil (q_held trivial ?_)
            refine d_one (i := 5) rfl (by kernel_rfl) ?_
            have hs3 := hf3.size
            have hs4' := hf4.size
            have hk3' : ∀ b ∈ blks v3, u.heap.size ≤ b := fun b hb => by
              rcases hk3 b hb with h | h
              · simp at h; omega
              · omega
            have hbo4 := hg.bo.tr0 hF4
            have hltvo := hg.oo.lt
            refine s_append (hg.oo.tr0 hF4) rfl ho4.src rfl rfl (by simpa using ho3.one) (by unfold maxLen; omega) (by omega) (fun v5 u5 ho5 hf5 hk5 _ => ?_)
            refine wpList_nil (q_held trivial ?_)
            refine d_one (i := 6) rfl (by kernel_rfl) ?_
            have hKvo : K ∉ blks vo := fun h => by have := hg.ko _ h; omega
            ((with_reducible apply s_storeB); exact rfl; (conv => lhs; whnf); exact ho5.one; exact (hbo4.tr hf5 hKvo); exact rfl)
            intro u6 hb6 hf6 hs6
            refine wpList_nil (q_held trivial ?_)
            (refine d_done (by kernel_rfl) ?_)
            refine rx ?_
            have hlt6 : ∀ b ∈ blks v5, b ∈ blks vo ∨ u.heap.size ≤ b := fun b hb => by
              rcases hk5 b hb with h | h
              · exact .inl h
              · right; omega
            have hv5K : ∀ b ∈ blks v5, b ≠ K := fun b hb e => by
              have := hg.bg.lt
              rcases hlt6 b hb with h | h
              · exact hKvo (e ▸ h)
              · omega
            have hoff3 : ∀ S : List Nat, (∀ b ∈ S, b ∉ blks v3) → Off v3 (nv order) S := fun S hS ad n c e hp hm => by
              refine hS _ hm ?_
              rcases ho3.2 with ⟨hv, _⟩ | ⟨gg, cap, cur, hv, _⟩
              · rw [hv] at e; cases e
              · subst hv
                simp only [Value.slice.injEq, Option.some.injEq] at e
                rw [← e.1]; simp [blks, Value.ownBlock]
            have hltv3 := ho3.lt
            have hsrc3 : Src u6 v3 order.length (nv order) := by
              have h0 : Src u3 v3 order.length (nv order) := by simpa using ho3.src
              refine ((h0.tr0 hf4).tr hf5 (hoff3 _ (fun b hb hb3 => by have := hltvo b hb; have := hk3' b hb3; omega))).tr hf6 (hoff3 _ (fun b hb hb3 => by simp at hb; have := hk3' b hb3; have := hg.bg.lt; omega))
            refine q_cut ⟨rfl, rfl, rfl, rfl, rfl, rfl, rfl, rfl, v5, ys ++ [v3], ?_⟩
            rw [if_pos hl0]
            refine hg.push (((hF4.mono (by simp)).trans (hf5.mono (T := K :: blks vo) (fun b hb => .inl (by simp [hb]))) (fun b hb => .inl hb)).trans hf6 (fun b hb => .inl (by simp at hb; simp [hb]))) hb6 (ho5.tr hf6 (fun k hk => by simpa using hv5K k hk)) hlt6 hsrc3 (hoff3 _ ?_)
            intro b hb hb3
            have h3 := hk3' b hb3
            have h3' := hltv3 b hb3
            have := hg.bg.lt
            simp only [List.mem_cons, List.mem_append] at hb
            rcases hb with h | h | h | h | h
            · omega
            · omega
            · omega
            · rcases hk5 b h with h5 | h5
              · have := hltvo b h5; omega
              · omega
            · have := hg.or_.lt b h; omega
    · refine s_loadB rfl (hg.br.tr0 hS0) rfl ?_
      refine wpList_nil (q_held trivial ?_)
      refine d_two (i := 0) (j := 1) rfl rfl (by kernel_rfl) ?_ ?_
      · refine s_loadB rfl (hg.bo.tr0 hS0) rfl ?_
        refine wpList_nil (q_held trivial ?_)
        refine d_one (i := 1) rfl (by kernel_rfl) ?_
        refine s_build0 (fun u1 ho1 hf1 hs1 => ?_)
        have hS1 : Fr [] u u1 := hS0.trans0 hf1
        refine wpList_nil (q_held trivial ?_)
        refine d_one (i := 3) rfl (by kernel_rfl) ?_
        refine s_append ho1 rfl (hg.or_.src.tr0 hS1) rfl (by simp [nv]) hone (by unfold maxLen; omega) (by omega) (fun v3 u3 ho3 hf3 hk3 _ => ?_)
        have hK3 : blks (.slice (some ⟨u.drew.heap.size, 0, none⟩) 0 0) = [u.heap.size] := rfl
        rw [hK3] at hf3 hk3
        have hs1' : u1.heap.size = u.heap.size + 1 := hs1
        have hF3 : Fr [] u u3 := hS1.trans hf3 (by simp)
        refine wpList_nil (q_held trivial ?_)
        refine d_one (i := 4) rfl (by kernel_rfl) ?_
        refine s_build1 (v := v3) rfl ho3.one (fun u4 ho4 hf4 hs4 => ?_)
        have hF4 : Fr [] u u4 := hF3.trans0 hf4
        refine wpList_nil (q_held trivial ?_)
        refine d_one (i := 5) rfl (by kernel_rfl) ?_
        have hs3 := hf3.size
        have hs4' := hf4.size
        have hk3' : ∀ b ∈ blks v3, u.heap.size ≤ b := fun b hb => by
          rcases hk3 b hb with h | h
          · simp at h; omega
          · omega
        have hbo4 := hg.bo.tr0 hF4
        have hltvo := hg.oo.lt
        refine s_append (hg.oo.tr0 hF4) rfl ho4.src rfl rfl (by simpa using ho3.one) (by unfold maxLen; omega) (by omega) (fun v5 u5 ho5 hf5 hk5 _ => ?_)
        refine wpList_nil (q_held trivial ?_)
        refine d_one (i := 6) rfl (by kernel_rfl) ?_
        have hKvo : K ∉ blks vo := fun h => by have := hg.ko _ h; omega
        ((with_reducible apply s_storeB); exact rfl; (conv => lhs; whnf); exact ho5.one; exact (hbo4.tr hf5 hKvo); exact rfl)
        intro u6 hb6 hf6 hs6
        refine wpList_nil (q_held trivial ?_)
        (refine d_done (by kernel_rfl) ?_)
        refine rx ?_
        have hlt6 : ∀ b ∈ blks v5, b ∈ blks vo ∨ u.heap.size ≤ b := fun b hb => by
          rcases hk5 b hb with h | h
          · exact .inl h
          · right; omega
        have hv5K : ∀ b ∈ blks v5, b ≠ K := fun b hb e => by
          have := hg.bg.lt
          rcases hlt6 b hb with h | h
          · exact hKvo (e ▸ h)
          · omega
        have hoff3 : ∀ S : List Nat, (∀ b ∈ S, b ∉ blks v3) → Off v3 (nv order) S := fun S hS ad n c e hp hm => by
          refine hS _ hm ?_
          rcases ho3.2 with ⟨hv, _⟩ | ⟨gg, cap, cur, hv, _⟩
          · rw [hv] at e; cases e
          · subst hv
            simp only [Value.slice.injEq, Option.some.injEq] at e
            rw [← e.1]; simp [blks, Value.ownBlock]
        have hltv3 := ho3.lt
        have hsrc3 : Src u6 v3 order.length (nv order) := by
          have h0 : Src u3 v3 order.length (nv order) := by simpa using ho3.src
          refine ((h0.tr0 hf4).tr hf5 (hoff3 _ (fun b hb hb3 => by have := hltvo b hb; have := hk3' b hb3; omega))).tr hf6 (hoff3 _ (fun b hb hb3 => by simp at hb; have := hk3' b hb3; have := hg.bg.lt; omega))
        refine q_cut ⟨rfl, rfl, rfl, rfl, rfl, rfl, rfl, rfl, v5, ys ++ [v3], ?_⟩
        rw [if_pos hl0]
        refine hg.push (((hF4.mono (by simp)).trans (hf5.mono (T := K :: blks vo) (fun b hb => .inl (by simp [hb]))) (fun b hb => .inl hb)).trans hf6 (fun b hb => .inl (by simp at hb; simp [hb]))) hb6 (ho5.tr hf6 (fun k hk => by simpa using hv5K k hk)) hlt6 hsrc3 (hoff3 _ ?_)
        intro b hb hb3
        have h3 := hk3' b hb3
        have h3' := hltv3 b hb3
        have := hg.bg.lt
        simp only [List.mem_cons, List.mem_append] at hb
        rcases hb with h | h | h | h | h
        · omega
        · omega
        · omega
        · rcases hk5 b h with h5 | h5
          · have := hltvo b h5; omega
          · omega
        · have := hg.or_.lt b h; omega
      · refine s_build0 (fun u1 ho1 hf1 hs1 => ?_)
        have hS1 : Fr [] u u1 := hS0.trans0 hf1
        refine wpList_nil (q_held trivial ?_)
        refine d_two (i := 0) (j := 3) rfl rfl (by kernel_rfl) ?_ ?_
        · refine s_loadB rfl (hg.bo.tr0 hS1) rfl ?_
          refine wpList_nil (q_held trivial ?_)
          refine d_one (i := 3) rfl (by kernel_rfl) ?_
          refine s_append ho1 rfl (hg.or_.src.tr0 hS1) rfl (by simp [nv]) hone (by unfold maxLen; omega) (by omega) (fun v3 u3 ho3 hf3 hk3 _ => ?_)
          have hK3 : blks (.slice (some ⟨u.drew.heap.size, 0, none⟩) 0 0) = [u.heap.size] := rfl
          rw [hK3] at hf3 hk3
          have hs1' : u1.heap.size = u.heap.size + 1 := hs1
          have hF3 : Fr [] u u3 := hS1.trans hf3 (by simp)
          refine wpList_nil (q_held trivial ?_)
          refine d_one (i := 4) rfl (by kernel_rfl) ?_
          refine s_build1 (v := v3) rfl ho3.one (fun u4 ho4 hf4 hs4 => ?_)
          have hF4 : Fr [] u u4 := hF3.trans0 hf4
          refine wpList_nil (q_held trivial ?_)
          refine d_one (i := 5) rfl (by kernel_rfl) ?_
          have hs3 := hf3.size
          have hs4' := hf4.size
          have hk3' : ∀ b ∈ blks v3, u.heap.size ≤ b := fun b hb => by
            rcases hk3 b hb with h | h
            · simp at h; omega
            · omega
          have hbo4 := hg.bo.tr0 hF4
          have hltvo := hg.oo.lt
          refine s_append (hg.oo.tr0 hF4) rfl ho4.src rfl rfl (by simpa using ho3.one) (by unfold maxLen; omega) (by omega) (fun v5 u5 ho5 hf5 hk5 _ => ?_)
          refine wpList_nil (q_held trivial ?_)
          refine d_one (i := 6) rfl (by kernel_rfl) ?_
          have hKvo : K ∉ blks vo := fun h => by have := hg.ko _ h; omega
          ((with_reducible apply s_storeB); exact rfl; (conv => lhs; whnf); exact ho5.one; exact (hbo4.tr hf5 hKvo); exact rfl)
          intro u6 hb6 hf6 hs6
          refine wpList_nil (q_held trivial ?_)
          (refine d_done (by kernel_rfl) ?_)
          refine rx ?_
          have hlt6 : ∀ b ∈ blks v5, b ∈ blks vo ∨ u.heap.size ≤ b := fun b hb => by
            rcases hk5 b hb with h | h
            · exact .inl h
            · right; omega
          have hv5K : ∀ b ∈ blks v5, b ≠ K := fun b hb e => by
            have := hg.bg.lt
            rcases hlt6 b hb with h | h
            · exact hKvo (e ▸ h)
            · omega
          have hoff3 : ∀ S : List Nat, (∀ b ∈ S, b ∉ blks v3) → Off v3 (nv order) S := fun S hS ad n c e hp hm => by
            refine hS _ hm ?_
            rcases ho3.2 with ⟨hv, _⟩ | ⟨gg, cap, cur, hv, _⟩
            · rw [hv] at e; cases e
            · subst hv
              simp only [Value.slice.injEq, Option.some.injEq] at e
              rw [← e.1]; simp [blks, Value.ownBlock]
          have hltv3 := ho3.lt
          have hsrc3 : Src u6 v3 order.length (nv order) := by
            have h0 : Src u3 v3 order.length (nv order) := by simpa using ho3.src
            refine ((h0.tr0 hf4).tr hf5 (hoff3 _ (fun b hb hb3 => by have := hltvo b hb; have := hk3' b hb3; omega))).tr hf6 (hoff3 _ (fun b hb hb3 => by simp at hb; have := hk3' b hb3; have := hg.bg.lt; omega))
          refine q_cut ⟨rfl, rfl, rfl, rfl, rfl, rfl, rfl, rfl, v5, ys ++ [v3], ?_⟩
          rw [if_pos hl0]
          refine hg.push (((hF4.mono (by simp)).trans (hf5.mono (T := K :: blks vo) (fun b hb => .inl (by simp [hb]))) (fun b hb => .inl hb)).trans hf6 (fun b hb => .inl (by simp at hb; simp [hb]))) hb6 (ho5.tr hf6 (fun k hk => by simpa using hv5K k hk)) hlt6 hsrc3 (hoff3 _ ?_)
          intro b hb hb3
          have h3 := hk3' b hb3
          have h3' := hltv3 b hb3
          have := hg.bg.lt
          simp only [List.mem_cons, List.mem_append] at hb
          rcases hb with h | h | h | h | h
          · omega
          · omega
          · omega
          · rcases hk5 b h with h5 | h5
            · have := hltvo b h5; omega
            · omega
          · have := hg.or_.lt b h; omega
        · refine s_append ho1 rfl (hg.or_.src.tr0 hS1) rfl (by simp [nv]) hone (by unfold maxLen; omega) (by omega) (fun v3 u3 ho3 hf3 hk3 _ => ?_)
          have hK3 : blks (.slice (some ⟨u.drew.heap.size, 0, none⟩) 0 0) = [u.heap.size] := rfl
          rw [hK3] at hf3 hk3
          have hs1' : u1.heap.size = u.heap.size + 1 := hs1
          have hF3 : Fr [] u u3 := hS1.trans hf3 (by simp)
          refine wpList_nil (q_held trivial ?_)
          refine d_two (i := 0) (j := 4) rfl rfl (by kernel_rfl) ?_ ?_
          · refine s_loadB rfl (hg.bo.tr0 hF3) rfl ?_
            refine wpList_nil (q_held trivial ?_)
            refine d_one (i := 4) rfl (by kernel_rfl) ?_
            refine s_build1 (v := v3) rfl ho3.one (fun u4 ho4 hf4 hs4 => ?_)
            have hF4 : Fr [] u u4 := hF3.trans0 hf4
            refine wpList_nil (q_held trivial ?_)
            refine d_one (i := 5) rfl (by kernel_rfl) ?_
            have hs3 := hf3.size
            have hs4' := hf4.size
            have hk3' : ∀ b ∈ blks v3, u.heap.size ≤ b := fun b hb => by
              rcases hk3 b hb with h | h
              · simp at h; omega
              · omega
            have hbo4 := hg.bo.tr0 hF4
            have hltvo := hg.oo.lt
            refine s_append (hg.oo.tr0 hF4) rfl ho4.src rfl rfl (by simpa using ho3.one) (by unfold maxLen; omega) (by omega) (fun v5 u5 ho5 hf5 hk5 _ => ?_)
            refine wpList_nil (q_held trivial ?_)
            refine d_one (i := 6) rfl (by kernel_rfl) ?_
            have hKvo : K ∉ blks vo := fun h => by have := hg.ko _ h; omega
            ((with_reducible apply s_storeB); exact rfl; (conv => lhs; whnf); exact ho5.one; exact (hbo4.tr hf5 hKvo); exact rfl)
            intro u6 hb6 hf6 hs6
            refine wpList_nil (q_held trivial ?_)
            (refine d_done (by kernel_rfl) ?_)
            refine rx ?_
            have hlt6 : ∀ b ∈ blks v5, b ∈ blks vo ∨ u.heap.size ≤ b := fun b hb => by
              rcases hk5 b hb with h | h
              · exact .inl h
              · right; omega
            have hv5K : ∀ b ∈ blks v5, b ≠ K := fun b hb e => by
              have := hg.bg.lt
              rcases hlt6 b hb with h | h
              · exact hKvo (e ▸ h)
              · omega
            have hoff3 : ∀ S : List Nat, (∀ b ∈ S, b ∉ blks v3) → Off v3 (nv order) S := fun S hS ad n c e hp hm => by
              refine hS _ hm ?_
              rcases ho3.2 with ⟨hv, _⟩ | ⟨gg, cap, cur, hv, _⟩
              · rw [hv] at e; cases e
              · subst hv
                simp only [Value.slice.injEq, Option.some.injEq] at e
                rw [← e.1]; simp [blks, Value.ownBlock]
            have hltv3 := ho3.lt
            have hsrc3 : Src u6 v3 order.length (nv order) := by
              have h0 : Src u3 v3 order.length (nv order) := by simpa using ho3.src
              refine ((h0.tr0 hf4).tr hf5 (hoff3 _ (fun b hb hb3 => by have := hltvo b hb; have := hk3' b hb3; omega))).tr hf6 (hoff3 _ (fun b hb hb3 => by simp at hb; have := hk3' b hb3; have := hg.bg.lt; omega))
            refine q_cut ⟨rfl, rfl, rfl, rfl, rfl, rfl, rfl, rfl, v5, ys ++ [v3], ?_⟩
            rw [if_pos hl0]
            refine hg.push (((hF4.mono (by simp)).trans (hf5.mono (T := K :: blks vo) (fun b hb => .inl (by simp [hb]))) (fun b hb => .inl hb)).trans hf6 (fun b hb => .inl (by simp at hb; simp [hb]))) hb6 (ho5.tr hf6 (fun k hk => by simpa using hv5K k hk)) hlt6 hsrc3 (hoff3 _ ?_)
            intro b hb hb3
            have h3 := hk3' b hb3
            have h3' := hltv3 b hb3
            have := hg.bg.lt
            simp only [List.mem_cons, List.mem_append] at hb
            rcases hb with h | h | h | h | h
            · omega
            · omega
            · omega
            · rcases hk5 b h with h5 | h5
              · have := hltvo b h5; omega
              · omega
            · have := hg.or_.lt b h; omega
          · refine s_build1 (v := v3) rfl ho3.one (fun u4 ho4 hf4 hs4 => ?_)
            have hF4 : Fr [] u u4 := hF3.trans0 hf4
            refine wpList_nil (q_held trivial ?_)
            refine d_one (i := 0) rfl (by kernel_rfl) ?_
            refine s_loadB rfl (hg.bo.tr0 hF4) rfl ?_
            refine wpList_nil (q_held trivial ?_)
            refine d_one (i := 5) rfl (by kernel_rfl) ?_
            have hs3 := hf3.size
            have hs4' := hf4.size
            have hk3' : ∀ b ∈ blks v3, u.heap.size ≤ b := fun b hb => by
              rcases hk3 b hb with h | h
              · simp at h; omega
              · omega
            have hbo4 := hg.bo.tr0 hF4
            have hltvo := hg.oo.lt
            refine s_append (hg.oo.tr0 hF4) rfl ho4.src rfl rfl (by simpa using ho3.one) (by unfold maxLen; omega) (by omega) (fun v5 u5 ho5 hf5 hk5 _ => ?_)
            refine wpList_nil (q_held trivial ?_)
            refine d_one (i := 6) rfl (by kernel_rfl) ?_
            have hKvo : K ∉ blks vo := fun h => by have := hg.ko _ h; omega
            ((with_reducible apply s_storeB); exact rfl; (conv => lhs; whnf); exact ho5.one; exact (hbo4.tr hf5 hKvo); exact rfl)
            intro u6 hb6 hf6 hs6
            refine wpList_nil (q_held trivial ?_)
            (refine d_done (by kernel_rfl) ?_)
            refine rx ?_
            have hlt6 : ∀ b ∈ blks v5, b ∈ blks vo ∨ u.heap.size ≤ b := fun b hb => by
              rcases hk5 b hb with h | h
              · exact .inl h
              · right; omega
            have hv5K : ∀ b ∈ blks v5, b ≠ K := fun b hb e => by
              have := hg.bg.lt
              rcases hlt6 b hb with h | h
              · exact hKvo (e ▸ h)
              · omega
            have hoff3 : ∀ S : List Nat, (∀ b ∈ S, b ∉ blks v3) → Off v3 (nv order) S := fun S hS ad n c e hp hm => by
              refine hS _ hm ?_
              rcases ho3.2 with ⟨hv, _⟩ | ⟨gg, cap, cur, hv, _⟩
              · rw [hv] at e; cases e
              · subst hv
                simp only [Value.slice.injEq, Option.some.injEq] at e
                rw [← e.1]; simp [blks, Value.ownBlock]
            have hltv3 := ho3.lt
            have hsrc3 : Src u6 v3 order.length (nv order) := by
              have h0 : Src u3 v3 order.length (nv order) := by simpa using ho3.src
              refine ((h0.tr0 hf4).tr hf5 (hoff3 _ (fun b hb hb3 => by have := hltvo b hb; have := hk3' b hb3; omega))).tr hf6 (hoff3 _ (fun b hb hb3 => by simp at hb; have := hk3' b hb3; have := hg.bg.lt; omega))
            refine q_cut ⟨rfl, rfl, rfl, rfl, rfl, rfl, rfl, rfl, v5, ys ++ [v3], ?_⟩
            rw [if_pos hl0]
            refine hg.push (((hF4.mono (by simp)).trans (hf5.mono (T := K :: blks vo) (fun b hb => .inl (by simp [hb]))) (fun b hb => .inl hb)).trans hf6 (fun b hb => .inl (by simp at hb; simp [hb]))) hb6 (ho5.tr hf6 (fun k hk => by simpa using hv5K k hk)) hlt6 hsrc3 (hoff3 _ ?_)
            intro b hb hb3
            have h3 := hk3' b hb3
            have h3' := hltv3 b hb3
            have := hg.bg.lt
            simp only [List.mem_cons, List.mem_append] at hb
            rcases hb with h | h | h | h | h
            · omega
            · omega
            · omega
            · rcases hk5 b h with h5 | h5
              · have := hltvo b h5; omega
              · omega
            · have := hg.or_.lt b h; omega
  rintro g u1 ⟨q0, q1, q2, q3, q4, q5, q6, q7, vo1, ys1, hg1⟩
  rw [eq_upd q0, eq_upd q1, eq_upd q2, eq_upd q3, eq_upd q4, eq_upd q5, eq_upd q6, eq_upd q7]
  have hbl1 := hg1.bl
  have ho1len : (if left = 0 then out ++ [order] else out).length ≤ most := by split <;> (try simp) <;> omega
  generalize (if left = 0 then out ++ [order] else out) = out1 at hg1 ho1len
  refine rx ?_
  refine c_loopK 11 [9, 10] (σ := Nat × Value × Value × List Value × List (List Nat)) (fun st g z => g 20 = .int .i64 l.length ∧ g 21 = .int .i64 st.1 ∧ st.1 ≤ l.length ∧ (List.range l.length).foldl (stepG l most order left rec) out1 = ((List.range l.length).drop st.1).foldl (stepG l most order left rec) st.2.2.2.2 ∧ st.2.2.2.2.length ≤ most ∧ GS w0 l most M K (.slice ao l.length c) z order order st.2.2.2.2 st.2.1 st.2.2.1 st.2.2.2.1)
    (fun st => l.length - st.1) (0, vo1, vr, ys1, out1) ⟨rfl, rfl, Nat.zero_le _, rfl, ho1len, hg1⟩ ?_
  rintro ⟨i, vo2, vr2, ys2, o⟩ g2 z ⟨h20, h21, hi, hfold, holn, hgz⟩
  simp only at h21 hi hfold holn hgz
  rw [eq_upd h20, eq_upd h21]
  have hbl := hgz.bl
  have hbo := hgz.bo
  have hbm := hgz.bm
  have hbf := hgz.bf
  have hbt := hgz.bt
  have hbg := hgz.bg
  have hbr := hgz.br
  by_cases hil : i < l.length
  case neg =>
    refine rx ?_
    rw [hfold, List.drop_eq_nil_of_le (by simp; omega)]
    exact end0 rfl ⟨rfl, vo2, vr2, ys2, hgz⟩
  rw [List.drop_eq_getElem_cons (by simpa using hil), List.getElem_range, List.foldl_cons] at hfold
  obtain ⟨avo, cvo, hvo⟩ := hgz.oo.slice
  subst hvo
  by_cases hfull : o.length = most
  · rw [stepG, if_pos hfull, stepG_full hfull] at hfold
    refine rx ?_
    rw [hfold]
    exact ret0 rfl ⟨rfl, _, vr2, ys2, hgz⟩
  rw [stepG, if_neg hfull] at hfold
  refine rx ?_
  refine s_callV (first := []) (cap := [.pointer (some ⟨M, 0, none⟩), .pointer (some ⟨K + 3, 0, none⟩)]) (fitsC l order i M (K + 3) _ _ z (OcS.tr0 hl hgz.fr) hb hil hbl hbt hgz.ot) rfl rfl rfl ?_
  rintro _ z1 ⟨rfl, hf1⟩
  refine ⟨_, rfl, ?_⟩
  have hgz1 := hgz.tr0 hf1
  clear hbl hbo hbm hbf hbt hbg hbr
  have hbl := hgz1.bl
  have hbo := hgz1.bo
  have hbm := hgz1.bm
  have hbt := hgz1.bt
  have hbg := hgz1.bg
  have hbr := hgz1.br
  cases hfit : fitB l order i with
  | false =>
    rw [hfit] at hfold
    refine rx ?_
    exact q_roundK (i + 1, _, vr2, ys2, o) (by (repeat (first | exact Keep.mrg _ _ _ _ | (refine Keep.hi rfl ?_) | (refine Keep.one rfl ?_) | exact Keep.all rfl | (refine Keep.inn rfl ?_) | (refine Keep.set rfl ?_)))) ⟨rfl, rfl, by simp only; omega, hfold, holn, hgz1⟩ (by simp only; omega)
  | true =>
  rw [hfit, if_pos rfl] at hfold
  have hino : i ∉ order := fun h => by
    unfold fitB at hfit
    simp [h] at hfit
  obtain ⟨ad, cs, hao, ⟨sa, sr, rfl, _, _⟩, hcw⟩ := Sl.at hl ocLen hil
  subst hao
  have hcell := hcw.tr0 hgz1.fr
  have hnow : nowOf l left i = if l[i].fin ≠ -1 then left - 1 else left := by unfold nowOf; rw [gt_eq hil]
  have hT := hgz1.ot
  have hblkT : blks (.slice (some ⟨K + 2, 0, none⟩) l.length l.length) = [K + 2] := rfl
  have H' := H i hil hfit
  rw [hnow] at H' hfold
  by_cases hfn : l[i].fin = -1
  · rw [if_neg (by simpa using hfn)] at H' hfold
    refine rx ?_
    rw [Nat.mul_one]
    refine s_storeOwn (j := i) (u := .bool true) hT rfl hil rfl rfl rfl (fun z2 ho2 hf2 hs2 => ?_)
    rw [← List.map_set, ← thr_set hil] at ho2
    rw [hblkT] at hf2
    have hg2 := hgz1.mark hf2 ho2
    have hbr2 := hg2.br
    clear hbl hbo hbm hbt hbg hbr hcell
    refine rx ?_
    ((with_reducible apply s_build1); (conv => lhs; whnf); exact rfl)
    intro z3 ho3 hf3 hs3
    refine s_append (hg2.or_.tr0 hf3) rfl ho3.src rfl rfl (by simp [Value.oneCell']) (by unfold maxLen; omega) (by omega) (fun v4 z4 ho4 hf4 hk4 _ => ?_)
    have hKr : K + 1 ∉ blks vr2 := fun h => by have := hg2.kr _ h; omega
    ((with_reducible apply s_storeB); exact rfl; (conv => lhs; whnf); exact ho4.one; exact ((hbr2.tr0 hf3).tr hf4 hKr); exact rfl)
    intro z5 hb5 hf5 hs5
    have hs3' := hf3.size
    have hk4' : ∀ b ∈ blks v4, b ∈ blks vr2 ∨ z2.heap.size ≤ b := fun b hb => by
      rcases hk4 b hb with h | h
      · exact .inl h
      · right; omega
    have hv4K : ∀ b ∈ blks v4, b ≠ K + 1 := fun b hb e => by
      have := hg2.bg.lt
      rcases hk4' b hb with h | h
      · exact hKr (e ▸ h)
      · omega
    have hg5 : GS w0 l most M K (.slice (some ad) l.length c) z5 (order ++ [i]) (order ++ [i]) o _ v4 ys2 := hg2.turn (((hf3.mono (by simp)).trans (hf4.mono (T := (K + 1) :: blks vr2) (fun b hb => .inl (by simp [hb]))) (fun b hb => .inl hb)).trans hf5 (fun b hb => .inl (by simp at hb; simp [hb]))) hb5 (by
      have h0 : Own z4 3 1 v4 (order ++ [i]).length (nv (order ++ [i])) := by simpa [nv] using ho4
      exact h0.tr hf5 (fun k hk => by simpa using hv4K k hk)) hk4'
    have hbg5 := hg5.bg
    clear hbr2
    refine rx ?_
    refine s_callV (first := []) (cap := [.pointer (some ⟨K, 0, none⟩), .pointer (some ⟨K + 1, 0, none⟩), .pointer (some ⟨M, 0, none⟩), .pointer (some ⟨M + 1, 0, none⟩), .pointer (some ⟨K + 4, 0, none⟩), .pointer (some ⟨K + 3, 0, none⟩), .pointer (some ⟨K + 5, 0, none⟩)]) (H' o _ v4 ys2 z5 hg5 (by omega)) rfl rfl rfl ?_
    rintro _ z6 ⟨rfl, vo6, vr6, ys6, hg6⟩
    refine ⟨_, rfl, ?_⟩
    obtain ⟨av6, cv6, hv6⟩ := hg6.or_.slice
    subst hv6
    have hbr6 := hg6.br
    have hbt6 := hg6.bt
    have hcap : order.length ≤ cv6 := by
      obtain ⟨_, _, e, h1, _⟩ := hg6.or_.src
      simp only [Value.slice.injEq] at e
      have := e.2.2
      simp at h1; omega
    clear hbg5
    refine rx ?_
    have e6 : (((order ++ [i]).length : Nat) : Int) - 1 = (order.length : Int) := by simp
    refine s_sub (r := (order.length : Int)) rfl rfl (by rw [e6]; exact IntWalk.i64_in _ (by omega)) ?_
    refine s_run (r_sliceTo (k := order.length) rfl rfl hcap) ?_
    ((with_reducible apply s_storeB); exact rfl; (conv => lhs; whnf); exact rfl; exact hbr6; exact rfl)
    intro z7 hb7 hf7 hs7
    have hKr6 : K + 1 ∉ blks (.slice av6 (order ++ [i]).length cv6) := fun h => by have := hg6.kr _ h; omega
    have hbk : blks (.slice av6 order.length cv6) = blks (.slice av6 (order ++ [i]).length cv6) := by
      cases av6 with
      | none => rfl
      | some a => rfl
    have hg7 : GS w0 l most M K (.slice (some ad) l.length c) z7 order (order ++ [i]) (rec i left o) vo6 (.slice av6 order.length cv6) ys6 := hg6.turn (hf7.mono (by simp)) hb7 (by
      have h0 := hg6.or_
      simp only [nv, List.map_append, List.map_cons, List.map_nil, List.length_append, List.length_cons, List.length_nil, Nat.zero_add] at h0
      exact (Own.pop h0).tr hf7 (fun k hk => by
        have : k ≠ K + 1 := fun e => hKr6 (by rw [← hbk, ← e]; exact hk)
        simpa using this)) (fun b hb => .inl (by rw [← hbk]; exact hb))
    have hbt7 := hg7.bt
    clear hbt6 hbr6
    refine rx ?_
    rw [Nat.mul_one]
    refine s_storeOwn (j := i) (u := .bool false) hg7.ot rfl hil rfl rfl rfl (fun z8 ho8 hf8 hs8 => ?_)
    rw [← List.map_set, thr_unset hil hino] at ho8
    rw [hblkT] at hf8
    have hg8 := hg7.mark hf8 ho8
    refine rx ?_
    exact q_roundK (i + 1, vo6, _, ys6, rec i left o) (by (repeat (first | exact Keep.mrg _ _ _ _ | (refine Keep.hi rfl ?_) | (refine Keep.one rfl ?_) | exact Keep.all rfl | (refine Keep.inn rfl ?_) | (refine Keep.set rfl ?_)))) ⟨rfl, rfl, by simp only; omega, hfold, hrl _ _ _ (by omega), hg8⟩ (by simp only; omega)
  · rw [if_pos hfn] at H' hfold
    refine rx ?_
    rw [Nat.mul_one]
    refine s_storeOwn (j := i) (u := .bool true) hT rfl hil rfl rfl rfl (fun z2 ho2 hf2 hs2 => ?_)
    rw [← List.map_set, ← thr_set hil] at ho2
    rw [hblkT] at hf2
    have hg2 := hgz1.mark hf2 ho2
    have hbr2 := hg2.br
    clear hbl hbo hbm hbt hbg hbr hcell
    refine rx ?_
    ((with_reducible apply s_build1); (conv => lhs; whnf); exact rfl)
    intro z3 ho3 hf3 hs3
    refine s_append (hg2.or_.tr0 hf3) rfl ho3.src rfl rfl (by simp [Value.oneCell']) (by unfold maxLen; omega) (by omega) (fun v4 z4 ho4 hf4 hk4 _ => ?_)
    have hKr : K + 1 ∉ blks vr2 := fun h => by have := hg2.kr _ h; omega
    ((with_reducible apply s_storeB); exact rfl; (conv => lhs; whnf); exact ho4.one; exact ((hbr2.tr0 hf3).tr hf4 hKr); exact rfl)
    intro z5 hb5 hf5 hs5
    have hs3' := hf3.size
    have hk4' : ∀ b ∈ blks v4, b ∈ blks vr2 ∨ z2.heap.size ≤ b := fun b hb => by
      rcases hk4 b hb with h | h
      · exact .inl h
      · right; omega
    have hv4K : ∀ b ∈ blks v4, b ≠ K + 1 := fun b hb e => by
      have := hg2.bg.lt
      rcases hk4' b hb with h | h
      · exact hKr (e ▸ h)
      · omega
    have hg5 : GS w0 l most M K (.slice (some ad) l.length c) z5 (order ++ [i]) (order ++ [i]) o _ v4 ys2 := hg2.turn (((hf3.mono (by simp)).trans (hf4.mono (T := (K + 1) :: blks vr2) (fun b hb => .inl (by simp [hb]))) (fun b hb => .inl hb)).trans hf5 (fun b hb => .inl (by simp at hb; simp [hb]))) hb5 (by
      have h0 : Own z4 3 1 v4 (order ++ [i]).length (nv (order ++ [i])) := by simpa [nv] using ho4
      exact h0.tr hf5 (fun k hk => by simpa using hv4K k hk)) hk4'
    have hbg5 := hg5.bg
    clear hbr2
    refine rx ?_
    refine s_callV (first := []) (cap := [.pointer (some ⟨K, 0, none⟩), .pointer (some ⟨K + 1, 0, none⟩), .pointer (some ⟨M, 0, none⟩), .pointer (some ⟨M + 1, 0, none⟩), .pointer (some ⟨K + 4, 0, none⟩), .pointer (some ⟨K + 3, 0, none⟩), .pointer (some ⟨K + 5, 0, none⟩)]) (H' o _ v4 ys2 z5 hg5 (by omega)) rfl rfl rfl ?_
    rintro _ z6 ⟨rfl, vo6, vr6, ys6, hg6⟩
    refine ⟨_, rfl, ?_⟩
    obtain ⟨av6, cv6, hv6⟩ := hg6.or_.slice
    subst hv6
    have hbr6 := hg6.br
    have hbt6 := hg6.bt
    have hcap : order.length ≤ cv6 := by
      obtain ⟨_, _, e, h1, _⟩ := hg6.or_.src
      simp only [Value.slice.injEq] at e
      have := e.2.2
      simp at h1; omega
    clear hbg5
    refine rx ?_
    have e6 : (((order ++ [i]).length : Nat) : Int) - 1 = (order.length : Int) := by simp
    refine s_sub (r := (order.length : Int)) rfl rfl (by rw [e6]; exact IntWalk.i64_in _ (by omega)) ?_
    refine s_run (r_sliceTo (k := order.length) rfl rfl hcap) ?_
    ((with_reducible apply s_storeB); exact rfl; (conv => lhs; whnf); exact rfl; exact hbr6; exact rfl)
    intro z7 hb7 hf7 hs7
    have hKr6 : K + 1 ∉ blks (.slice av6 (order ++ [i]).length cv6) := fun h => by have := hg6.kr _ h; omega
    have hbk : blks (.slice av6 order.length cv6) = blks (.slice av6 (order ++ [i]).length cv6) := by
      cases av6 with
      | none => rfl
      | some a => rfl
    have hg7 : GS w0 l most M K (.slice (some ad) l.length c) z7 order (order ++ [i]) (rec i (left - 1) o) vo6 (.slice av6 order.length cv6) ys6 := hg6.turn (hf7.mono (by simp)) hb7 (by
      have h0 := hg6.or_
      simp only [nv, List.map_append, List.map_cons, List.map_nil, List.length_append, List.length_cons, List.length_nil, Nat.zero_add] at h0
      exact (Own.pop h0).tr hf7 (fun k hk => by
        have : k ≠ K + 1 := fun e => hKr6 (by rw [← hbk, ← e]; exact hk)
        simpa using this)) (fun b hb => .inl (by rw [← hbk]; exact hb))
    have hbt7 := hg7.bt
    clear hbt6 hbr6
    refine rx ?_
    rw [Nat.mul_one]
    refine s_storeOwn (j := i) (u := .bool false) hg7.ot rfl hil rfl rfl rfl (fun z8 ho8 hf8 hs8 => ?_)
    rw [← List.map_set, thr_unset hil hino] at ho8
    rw [hblkT] at hf8
    have hg8 := hg7.mark hf8 ho8
    refine rx ?_
    exact q_roundK (i + 1, vo6, _, ys6, rec i (left - 1) o) (by (repeat (first | exact Keep.mrg _ _ _ _ | (refine Keep.hi rfl ?_) | (refine Keep.one rfl ?_) | exact Keep.all rfl | (refine Keep.inn rfl ?_) | (refine Keep.set rfl ?_)))) ⟨rfl, rfl, by simp only; omega, hfold, hrl _ _ _ (by omega), hg8⟩ (by simp only; omega)

theorem growC (w0 : World) (l : List Cl) (most M K : Nat) (sl : Value) (hl : OcS w0 l sl) (hb : l.length ≤ 1000000) (hmost : most ≤ 1000000) : ∀ (f : Nat) (order : List Nat) (left : Int) (out : List (List Nat)) (vo vr : Value) (ys : List Value) (u : World), GS w0 l most M K sl u order order out vo vr ys → order.Nodup → (∀ x ∈ order, x < l.length) → l.length ≤ order.length + f → out.length < most → -1000000000 ≤ left - f → left ≤ 1000000000 →
    Calls Try.prog 55 #[.int .i64 left, .pointer (some ⟨K, 0, none⟩), .pointer (some ⟨K + 1, 0, none⟩), .pointer (some ⟨M, 0, none⟩), .pointer (some ⟨M + 1, 0, none⟩), .pointer (some ⟨K + 4, 0, none⟩), .pointer (some ⟨K + 3, 0, none⟩), .pointer (some ⟨K + 5, 0, none⟩)] u fun r u' => r = .returned (.tuple #[]) ∧ ∃ vo' vr' ys', GS w0 l most M K sl u' order order (growP l most f order left out) vo' vr' ys' := by
  have fitNot : ∀ (order : List Nat) (i : Nat), fitB l order i = true → i ∉ order := fun order i h h2 => by unfold fitB at h; simp [h2] at h
  intro f
  induction f with
  | zero =>
    intro order left out vo vr ys u hg hnd hlt hf hout h1 h2
    have hno : ∀ i, i < l.length → fitB l order i = true → False := fun i hi h => by
      have h3 := nodup_len l.length (i :: order) (List.nodup_cons.2 ⟨fitNot _ _ h, hnd⟩) (fun x hx => by
        rcases List.mem_cons.1 hx with rfl | hx
        · exact hi
        · exact hlt x hx)
      simp at h3; omega
    have := growStep w0 l most M K sl hl hb hmost order left out vo vr ys u hg hnd hlt hout (by omega) h2 (fun _ _ o => o) (fun _ _ _ h => by omega) (fun i hi h => (hno i hi h).elim)
    have e : ∀ (js : List Nat) o, (∀ j ∈ js, j < l.length) → js.foldl (stepG l most order left (fun _ _ o => o)) o = o := by
      intro js
      induction js with
      | nil => intro o _; rfl
      | cons j js ih =>
        intro o h
        rw [List.foldl_cons]
        have : stepG l most order left (fun _ _ o => o) o j = o := by unfold stepG; split <;> (try split) <;> rfl
        rw [this]
        exact ih o (fun x hx => h x (by simp [hx]))
    rw [e _ _ (fun j hj => by simpa using hj)] at this
    exact this
  | succ f ih =>
    intro order left out vo vr ys u hg hnd hlt hf hout h1 h2
    exact growStep w0 l most M K sl hl hb hmost order left out vo vr ys u hg hnd hlt hout (by omega) h2 (fun i n o => growP l most f (order ++ [i]) n o) (fun i n o h => growP_len l most f _ _ _ h) (fun i hi hfit o vo vr ys u hg ho => by
      have hin := fitNot _ _ hfit
      refine ih (order ++ [i]) (nowOf l left i) o vo vr ys u hg ?_ ?_ (by simp; omega) ho ?_ ?_
      · rw [List.nodup_append]
        refine ⟨hnd, by simp, ?_⟩
        intro a ha b hb e
        simp at hb
        subst hb
        subst e
        exact hin ha
      · intro x hx
        rcases List.mem_append.1 hx with h | h
        · exact hlt x h
        · simp at h; omega
      · unfold nowOf; split <;> omega
      · unfold nowOf; split <;> omega)
end Go.Proofs.Ytcogpedfnnfnaaa
