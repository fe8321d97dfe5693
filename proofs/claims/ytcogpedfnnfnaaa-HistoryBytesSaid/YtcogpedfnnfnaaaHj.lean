/-
  Orders of package history: growing orders.
-/
import Derived.Test.YtcogpedfnnfnaaaHi
namespace Go.Rf
open Go.RowKit
theorem d_three {P : Program} {Q : Exit → Act → World → Prop} {S : World → Prop} {n : Nat} {f : Env} {w : World} {l : List Oper} {fuel : Nat} {listed : Array Bool} {i j k : Nat} {o o' o'' : Oper} (hi : l[i]? = some o) (hj : l[j]? = some o') (hk : l[k]? = some o'') (hr : Region.ready .any l.toArray listed = [i, j, k])
    (h1 : wpList P l.toArray (Exit.then (fun a' w' => S w' ∧ wpAnyH P .any l.toArray Q S fuel (listed.setIfInBounds i true) a' w') Q) [o] (A n f) w)
    (h2 : wpList P l.toArray (Exit.then (fun a' w' => S w' ∧ wpAnyH P .any l.toArray Q S fuel (listed.setIfInBounds j true) a' w') Q) [o'] (A n f) w)
    (h3 : wpList P l.toArray (Exit.then (fun a' w' => S w' ∧ wpAnyH P .any l.toArray Q S fuel (listed.setIfInBounds k true) a' w') Q) [o''] (A n f) w) : wpAnyH P .any l.toArray Q S (fuel + 1) listed (A n f) w := by
  refine wpAnyH_all hr (by simp) fun m hm => ?_
  simp only [List.mem_cons, List.not_mem_nil, or_false] at hm
  rcases hm with rfl | rfl | rfl
  · exact wpOp_of_list hi h1
  · exact wpOp_of_list hj h2
  · exact wpOp_of_list hk h3
/-- two owned slices of different element types lie apart -/
theorem Own.apart {w : World} {e e' s s' n n' : Nat} {v v' : Value} {xs xs' : List Value} (h : Own w e s v n xs) (h' : Own w e' s' v' n' xs') (hne : e ≠ e') : ∀ k ∈ blks v, k ∉ blks v' := by
  intro k hk hk'
  rcases h.2 with ⟨rfl, _⟩ | ⟨g, c, cur, rfl, _, hg, _⟩
  · simp [blks, Value.ownBlock] at hk
  · rcases h'.2 with ⟨rfl, _⟩ | ⟨g', c', cur', rfl, _, hg', _⟩
    · simp [blks, Value.ownBlock] at hk'
    · simp [blks, Value.ownBlock] at hk hk'
      subst hk hk'
      rw [hg] at hg'
      simp at hg'
      exact hne hg'.2
end Go.Rf
namespace Go.Proofs.Ytcogpedfnnfnaaa
open Go.Rf Go.RowKit
set_option linter.unusedVariables false
set_option maxHeartbeats 8000000
attribute [local irreducible] Code.wp wpList Exit.then Exit.inBlock bodyPost A Calls execOp Addr.add

def nv (xs : List Nat) : List Value := xs.map fun (n : Nat) => Value.int .i64 (n : Int)
/-- a list of numbers, as a slice in one cell -/
def IR (w : World) (S : List Nat) (xs : List Nat) (cs : List Value) : Prop := ∃ sv, cs = [sv] ∧ Src w sv xs.length (nv xs) ∧ Off sv (nv xs) S
theorem irStab : Stab IR 1 where
  tr := by rintro w w' S x cs ⟨sv, rfl, h1, h2⟩ hf; exact ⟨sv, rfl, h1.tr hf h2, h2⟩
  mono := by rintro w S T x cs ⟨sv, rfl, h1, h2⟩ hT; exact ⟨sv, rfl, h1, Off.mono h1 h2 hT⟩
  len := by rintro w S x cs ⟨sv, rfl, h1, h2⟩; rfl
  one := by rintro w S x cs ⟨sv, rfl, h1, h2⟩ u hu; simp at hu; subst hu; exact h1.one

def growP (l : List Cl) (most : Nat) : Nat → List Nat → Int → List (List Nat) → List (List Nat)
  | 0, order, left, out => if left = 0 then out ++ [order] else out
  | f + 1, order, left, out => (List.range l.length).foldl (fun o i => if o.length = most then o else if fitB l order i then growP l most f (order ++ [i]) (if (gt l i).fin ≠ -1 then left - 1 else left) o else o) (if left = 0 then out ++ [order] else out)
theorem nodup_len : ∀ (n : Nat) (l : List Nat), l.Nodup → (∀ x ∈ l, x < n) → l.length ≤ n := by
  intro n
  induction n with
  | zero =>
    intro l _ h
    cases l with
    | nil => simp
    | cons a l => have := h a (by simp); omega
  | succ n ih =>
    intro l hn h
    have h1 := ih (l.erase n) (hn.erase n) (fun x hx => by
      have h2 := (hn.mem_erase_iff).1 hx
      have h3 := h x h2.2
      have := h2.1
      omega)
    have h2 := List.length_erase (a := n) (l := l)
    split at h2 <;> omega

/-- the variables of Orders, while orders grow -/
structure GS (w0 : World) (l : List Cl) (most M K : Nat) (sl : Value) (u : World) (order mk : List Nat) (out : List (List Nat)) (vo vr : Value) (ys : List Value) : Prop where
  bo : Blk u K [vo] 63
  br : Blk u (K + 1) [vr] 22
  bl : Blk u M [sl] 28
  bm : Blk u (M + 1) [.int .i64 most] 3
  bt : Blk u (K + 3) [.slice (some ⟨K + 2, 0, none⟩) l.length l.length] 95
  bf : Blk u (K + 4) [.func (.func 54) #[] #[.pointer (some ⟨M, 0, none⟩), .pointer (some ⟨K + 3, 0, none⟩)]] 96
  bg : Blk u (K + 5) [.func (.func 55) #[] #[.pointer (some ⟨K, 0, none⟩), .pointer (some ⟨K + 1, 0, none⟩), .pointer (some ⟨M, 0, none⟩), .pointer (some ⟨M + 1, 0, none⟩), .pointer (some ⟨K + 4, 0, none⟩), .pointer (some ⟨K + 3, 0, none⟩), .pointer (some ⟨K + 5, 0, none⟩)]] 97
  ot : Own u 4 1 (.slice (some ⟨K + 2, 0, none⟩) l.length l.length) l.length ((thr l.length mk).map .bool)
  oo : Own u 22 1 vo out.length ys
  or_ : Own u 3 1 vr order.length (nv order)
  rows : Rws (IR u (K :: (K + 1) :: (K + 2) :: (blks vo ++ blks vr))) out ys
  ko : ∀ k ∈ blks vo, K + 6 ≤ k
  kr : ∀ k ∈ blks vr, K + 6 ≤ k
  mk_ : M + 1 < K
  fr : Fr [] w0 u
  w0M : w0.heap.size ≤ M
section
variable {w0 : World} {l : List Cl} {most M K : Nat} {sl : Value} {u u' : World} {order mk : List Nat} {out : List (List Nat)} {vo vr : Value} {ys : List Value}
theorem GS.tr0 (h : GS w0 l most M K sl u order mk out vo vr ys) (hf : Fr [] u u') : GS w0 l most M K sl u' order mk out vo vr ys :=
  ⟨h.bo.tr0 hf, h.br.tr0 hf, h.bl.tr0 hf, h.bm.tr0 hf, h.bt.tr0 hf, h.bf.tr0 hf, h.bg.tr0 hf, h.ot.tr0 hf, h.oo.tr0 hf, h.or_.tr0 hf, h.rows.imp (fun x cs _ hr => irStab.old hr hf (by simp)), h.ko, h.kr, h.mk_, h.fr.trans0 hf, h.w0M⟩
/-- an order is noted -/
theorem GS.push (h : GS w0 l most M K sl u order mk out vo vr ys) {v5 v3 : Value} (hf : Fr (K :: blks vo) u u') (hb : Blk u' K [v5] 63) (ho : Own u' 22 1 v5 (out.length + 1) (ys ++ [v3])) (hk5 : ∀ b ∈ blks v5, b ∈ blks vo ∨ u.heap.size ≤ b)
    (hsrc : Src u' v3 order.length (nv order)) (hoff : Off v3 (nv order) (K :: (K + 1) :: (K + 2) :: (blks v5 ++ blks vr))) : GS w0 l most M K sl u' order mk (out ++ [order]) v5 vr (ys ++ [v3]) := by
  have hm := h.mk_
  have hn : ∀ b, b < K + 6 → b ≠ K → b ∉ K :: blks vo := fun b h1 h2 h3 => by
    rcases List.mem_cons.1 h3 with h4 | h4
    · exact h2 h4
    · have := h.ko b h4; omega
  have hK := h.bg.lt
  have hap := h.oo.apart h.or_ (by decide)
  refine ⟨hb, h.br.tr hf (hn _ (by omega) (by omega)), h.bl.tr hf (hn _ (by omega) (by omega)), h.bm.tr hf (hn _ (by omega) (by omega)), h.bt.tr hf (hn _ (by omega) (by omega)), h.bf.tr hf (hn _ (by omega) (by omega)), h.bg.tr hf (hn _ (by omega) (by omega)), h.ot.tr hf ?_, by simpa using ho, h.or_.tr hf ?_, ?_, ?_, h.kr, h.mk_, h.fr.trans hf ?_, h.w0M⟩
  · intro k hk
    simp [blks, Value.ownBlock] at hk
    subst hk
    exact hn _ (by omega) (by omega)
  · intro k hk h3
    rcases List.mem_cons.1 h3 with h4 | h4
    · have := h.kr k hk; omega
    · exact hap k h4 hk
  · refine Rws.app (h.rows.imp (fun x cs _ hr => irStab.mono (irStab.old (irStab.mono hr (T := (K :: (K + 1) :: (K + 2) :: (blks vo ++ blks vr)) ++ blks v5) ?_) hf ?_) ?_)) (Rws.one ⟨v3, rfl, hsrc, hoff⟩)
    · intro b hb
      rcases List.mem_append.1 hb with h1 | h1
      · exact .inl h1
      · rcases hk5 b h1 with h2 | h2
        · exact .inl (by simp [h2])
        · exact .inr h2
    · intro b hb
      rcases List.mem_cons.1 hb with h1 | h1
      · exact .inl (by simp [h1])
      · exact .inl (by simp [h1])
    · intro b hb
      refine .inl ?_
      simp only [List.mem_cons, List.mem_append] at hb ⊢
      rcases hb with h1 | h1 | h1 | h1 | h1
      · exact .inl (.inl h1)
      · exact .inl (.inr (.inl h1))
      · exact .inl (.inr (.inr (.inl h1)))
      · exact .inr h1
      · exact .inl (.inr (.inr (.inr (.inr h1))))
  · intro k hk
    rcases hk5 k hk with h1 | h1
    · exact h.ko k h1
    · omega
  · intro b hb
    rcases List.mem_cons.1 hb with h1 | h1
    · exact .inr (by have := h.w0M; omega)
    · exact .inr (by have := h.ko b h1; have := h.w0M; omega)
/-- the marks change -/
theorem GS.mark (h : GS w0 l most M K sl u order mk out vo vr ys) {mk' : List Nat} (hf : Fr [K + 2] u u') (ho : Own u' 4 1 (.slice (some ⟨K + 2, 0, none⟩) l.length l.length) l.length ((thr l.length mk').map .bool)) : GS w0 l most M K sl u' order mk' out vo vr ys := by
  have hm := h.mk_
  refine ⟨h.bo.tr hf (by simp), h.br.tr hf (by simp), h.bl.tr hf (by simp; omega), h.bm.tr hf (by simp; omega), h.bt.tr hf (by simp), h.bf.tr hf (by simp), h.bg.tr hf (by simp), ho, h.oo.tr hf ?_, h.or_.tr hf ?_, h.rows.imp (fun x cs _ hr => irStab.old hr hf (by simp)), h.ko, h.kr, h.mk_, h.fr.trans hf (by simp; have := h.w0M; omega), h.w0M⟩
  · intro k hk; have := h.ko k hk; simp; omega
  · intro k hk; have := h.kr k hk; simp; omega
/-- the order changes -/
theorem GS.turn (h : GS w0 l most M K sl u order mk out vo vr ys) {v' : Value} {order' : List Nat} (hf : Fr ((K + 1) :: blks vr) u u') (hb : Blk u' (K + 1) [v'] 22) (ho : Own u' 3 1 v' order'.length (nv order')) (hk5 : ∀ b ∈ blks v', b ∈ blks vr ∨ u.heap.size ≤ b) : GS w0 l most M K sl u' order' mk out vo v' ys := by
  have hm := h.mk_
  have hn : ∀ b, b < K + 6 → b ≠ K + 1 → b ∉ (K + 1) :: blks vr := fun b h1 h2 h3 => by
    rcases List.mem_cons.1 h3 with h4 | h4
    · exact h2 h4
    · have := h.kr b h4; omega
  have hK := h.bg.lt
  have hap := h.oo.apart h.or_ (by decide)
  refine ⟨h.bo.tr hf (hn _ (by omega) (by omega)), hb, h.bl.tr hf (hn _ (by omega) (by omega)), h.bm.tr hf (hn _ (by omega) (by omega)), h.bt.tr hf (hn _ (by omega) (by omega)), h.bf.tr hf (hn _ (by omega) (by omega)), h.bg.tr hf (hn _ (by omega) (by omega)), h.ot.tr hf ?_, h.oo.tr hf ?_, ho, ?_, h.ko, ?_, h.mk_, h.fr.trans hf ?_, h.w0M⟩
  · intro k hk
    simp [blks, Value.ownBlock] at hk
    subst hk
    exact hn _ (by omega) (by omega)
  · intro k hk h3
    rcases List.mem_cons.1 h3 with h4 | h4
    · have := h.ko k hk; omega
    · exact hap k hk h4
  · refine h.rows.imp (fun x cs _ hr => irStab.mono (irStab.old (irStab.mono hr (T := (K :: (K + 1) :: (K + 2) :: (blks vo ++ blks vr)) ++ blks v') ?_) hf ?_) ?_)
    · intro b hb
      rcases List.mem_append.1 hb with h1 | h1
      · exact .inl h1
      · rcases hk5 b h1 with h2 | h2
        · exact .inl (by simp [h2])
        · exact .inr h2
    · intro b hb
      rcases List.mem_cons.1 hb with h1 | h1
      · exact .inl (by simp [h1])
      · exact .inl (by simp [h1])
    · intro b hb
      refine .inl ?_
      simp only [List.mem_cons, List.mem_append] at hb ⊢
      rcases hb with h1 | h1 | h1 | h1 | h1
      · exact .inl (.inl h1)
      · exact .inl (.inr (.inl h1))
      · exact .inl (.inr (.inr (.inl h1)))
      · exact .inl (.inr (.inr (.inr (.inl h1))))
      · exact .inr h1
  · intro k hk
    rcases hk5 k hk with h1 | h1
    · exact h.kr k h1
    · omega
  · intro b hb
    rcases List.mem_cons.1 hb with h1 | h1
    · exact .inr (by have := h.w0M; omega)
    · exact .inr (by have := h.kr b h1; have := h.w0M; omega)
end
theorem growP_len (l : List Cl) (most : Nat) : ∀ (f : Nat) (order : List Nat) (left : Int) (out : List (List Nat)), out.length < most → (growP l most f order left out).length ≤ most := by
  intro f
  induction f with
  | zero => intro order left out h; simp only [growP]; split <;> (try simp) <;> omega
  | succ f ih =>
    intro order left out h
    simp only [growP]
    have key : ∀ (js : List Nat) (o : List (List Nat)), o.length ≤ most → (js.foldl (fun o i => if o.length = most then o else if fitB l order i then growP l most f (order ++ [i]) (if (gt l i).fin ≠ -1 then left - 1 else left) o else o) o).length ≤ most := by
      intro js
      induction js with
      | nil => intro o ho; exact ho
      | cons j js ihj =>
        intro o ho
        rw [List.foldl_cons]
        apply ihj
        split
        · exact ho
        · split
          · exact ih _ _ _ (by omega)
          · exact ho
    apply key
    split <;> (try simp) <;> omega
theorem thr_set {n : Nat} {order : List Nat} {i : Nat} (hi : i < n) : thr n (order ++ [i]) = (thr n order).set i true := by
  apply List.ext_getElem (by simp [thr])
  intro k h1 h2
  rw [List.getElem_set]
  simp only [thr, List.getElem_map, List.getElem_range, List.mem_append, List.mem_singleton]
  by_cases e : i = k
  · simp [e]
  · have : ¬ k = i := fun h => e h.symm
    simp [e, this]
theorem thr_unset {n : Nat} {order : List Nat} {i : Nat} (hi : i < n) (hn : i ∉ order) : (thr n (order ++ [i])).set i false = thr n order := by
  apply List.ext_getElem (by simp [thr])
  intro k h1 h2
  rw [List.getElem_set]
  simp only [thr, List.getElem_map, List.getElem_range, List.mem_append, List.mem_singleton]
  by_cases e : i = k
  · subst e; simp [hn]
  · have : ¬ k = i := fun h => e h.symm
    simp [e, this]
end Go.Proofs.Ytcogpedfnnfnaaa
