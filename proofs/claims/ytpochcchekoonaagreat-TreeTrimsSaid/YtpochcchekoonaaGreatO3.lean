/-
  The generators Spoilt and Raw. The generator Raw; for every input TreeValid returns true.
-/
import Derived.Test.YtpochcchekoonaaGreatO2
namespace Go.Proofs.YtpochcchekoonaaGreat
open Go.Rf Go.RowKit
set_option linter.unusedVariables false
set_option linter.unusedSimpArgs false
theorem ownOff {w : World} {e k n : Nat} {v : Value} {cs : List Value} {S : List Nat} (h : Own w e k v n cs) (hS : ∀ b ∈ blks v, b ∉ S) : Off v cs S := by
  intro ad n c e hp hm
  refine hS ad.block ?_ hm
  rcases h.2 with ⟨hv, h0⟩ | ⟨g, cap, cur, hv, _⟩
  · rw [hv] at e; cases e
  · subst hv
    simp only [Value.slice.injEq, Option.some.injEq] at e
    rw [← e.1]; simp [blks, Value.ownBlock]
theorem NdG.up {m : Nat} {y : Nd} (h : NdG m y) : NdG (m + 1) y := ⟨h.ok, fun e => by have := h.few e; omega, by have := h.lw; omega, by have := h.ll; omega, by have := h.lv; omega, by have := h.lk; omega, h.e⟩
theorem all_set0 {p : Int → Prop} {l : List Int} {a : Int} (h : ∀ x ∈ l, p x) (ha : p a) : ∀ x ∈ l.set 0 a, p x := fun x hx => by
  rcases List.mem_or_eq_of_mem_set hx with h' | h'
  · exact h x h'
  · subst h'; exact ha
theorem Ls.turn {α : Type} {c : α → Value} {w w' : World} {S T : List Nat} {l : List α} {sl : Value} (h : Ls c w S l sl) (hf : Fr [] w w') (hT : ∀ b ∈ T, b ∈ S ∨ w.heap.size ≤ b) : Ls c w' T l sl := (h.mono hT).tr0 hf
theorem own_some {w : World} {e k n m c : Nat} {ao : Option Addr} {xs : List Value} (h : Own w e k (.slice ao m c) n xs) (hm : 0 < m) : ∃ ad, ao = some ad := by
  cases ao with
  | some x => exact ⟨x, rfl⟩
  | none =>
    exfalso
    rcases h.2 with ⟨h1, h2⟩ | ⟨g1, cap, cur, h1, _⟩
    · injection h1 with _ h3; omega
    · cases h1
attribute [local irreducible] Code.wp wpList Exit.then Exit.inBlock bodyPost A Calls execOp Addr.add
set_option maxHeartbeats 32000000 in
theorem spoiltT (t : List Nd) (m : Nat) (hm : m ≤ 10) (hg : ∀ y ∈ t, NdG m y) (hl : t.length ≤ 1000) (a h n : Int) (ha : InI64 a) (hh : InI64 h) (hn : InI64 n) (sn : Value) (u : World) (hs : NS u [] t sn) :
    Calls Tryz.prog 6 #[.agg #[sn], .int .i64 a, .int .i64 h, .int .i64 n] u fun e u' => ∃ t' sn', e = .returned (.agg #[sn']) ∧ NS u' [] t' sn' ∧ t'.length = t.length ∧ (∀ y ∈ t', NdG (m + 1) y) ∧ Fr [] u u' := by
  obtain ⟨an, cn, rfl, _⟩ := hs.slice
  refine enter Tryz.func6 rfl Tryz.ntmps6 rfl ?_
  refine rx ?_
  refine s_box (l := [.slice an t.length cn]) rfl rfl (fun u1 hb1 hf1 hs1 => ?_)
  refine s_alloc rfl (fun u2 hb2 hf2 hs2 => ?_)
  refine rx ?_
  refine s_build [.slice none 0 0] rfl ?_
  refine s_alloc rfl (fun u3 hb3 hf3 hs3 => ?_)
  refine s_storeAggB (cs := [.slice none 0 0]) rfl rfl hb3 (by simp [Value.oneCell']) rfl rfl (fun u4 hb4 hf4 hs4 => ?_)
  obtain ⟨rb, hrb⟩ : ∃ y, y = u1.heap.size := ⟨_, rfl⟩
  rw [← hrb] at hb2 ⊢
  obtain ⟨ob, hob⟩ : ∃ y, y = u2.heap.size := ⟨_, rfl⟩
  rw [← hob] at hb4 hf4 ⊢
  obtain ⟨bb, hbb⟩ : ∃ y, y = u.heap.size := ⟨_, rfl⟩
  rw [← hbb] at hb1 ⊢
  have hF4 : Fr [] u u4 := ((hf1.trans0 hf2).trans0 hf3).trans hf4 (by simp; omega)
  have hbb4 : Blk u4 bb [.slice an t.length cn] 25 := ((hb1.tr0 hf2).tr0 hf3).tr hf4 (by simp; omega)
  have hrb4 : Blk u4 rb [.slice none 0 0] 25 := (hb2.tr0 hf3).tr hf4 (by simp; omega)
  have hob4 : Blk u4 ob [.slice none 0 0] 25 := hb4
  have hob4l := hob4.lt
  have hs4' := (hs.mono (T := [ob, rb]) (fun b hb => by simp at hb; omega)).tr0 hF4
  obtain ⟨ys, hsrc, hoff, hrw⟩ := id hs4'
  have stN : Stab (plusR NdR [ob, rb]) 12 := plusStab ndStab
  refine rx ?_
  refine s_appR (R := plusR NdR [ob, rb]) (l := []) (al := t) (OwnR.nil _ _ _ _) stN rfl rfl hsrc (hrw.imp fun y cs _ h => ndStab.mono h (fun b hb => .inl (by simp [blks, Value.ownBlock] at hb; simp [hb]))) rfl (by unfold maxLen; simp; omega) (by simp; omega) (fun vo u5 ho5 hf5 hk5 _ => ?_)
  rw [List.nil_append] at ho5
  have hf5' := Fr.ofNil hf5
  have hob5 := hob4.tr0 hf5'
  have ho5' := ho5.one
  refine rx ?_
  ((with_reducible apply s_storeB); exact rfl; (conv => lhs; whnf); exact ho5'; exact hob5; exact rfl)
  intro u6 hb6 hf6 hs6
  have hob6 : Blk u6 ob [vo] 25 := hb6
  clear hb6
  have hk5' : ∀ b ∈ blks vo, u4.heap.size ≤ b := fun b hb => by
    rcases hk5 b hb with h | h
    · exact fresh0 h
    · exact h
  have hO6 := ownTurnR (S3 := [ob, rb]) ndStab ho5 hf6 (by simp) (fun b hb hm => by simp at hm; subst hm; have := hk5' _ hb; omega) (fun b hb => .inl hb)
  have hF6 : Fr [] u u6 := (hF4.trans0 hf5').trans hf6 (by simp; omega)
  have hrb6 : Blk u6 rb [.slice none 0 0] 25 := (hrb4.tr0 hf5').tr hf6 (by simp; omega)
  obtain ⟨ao, co, rfl⟩ := hO6.slice
  by_cases h0 : (t.length : Int) = 0
  · have ht0 : t = [] := List.eq_nil_of_length_eq_zero (by omega)
    subst ht0
    refine rx ?_
    refine s_storeAggB (cs := [.slice ao 0 co]) rfl rfl hrb6 (by simp [Value.oneCell']) rfl rfl (fun u7 hb7 hf7 hs7 => ?_)
    refine rx ?_
    refine retc rfl rfl (AggT.load _ [.slice ao 0 co] rfl (fun j x hx => by rw [add_lit]; exact hb7.cell (by simpa using hx))) ⟨[], _, rfl, ?_, rfl, by simp, hF6.trans hf7 (by simp; omega)⟩
    exact ownNS (ownTurnR (S3 := [ob, rb]) ndStab hO6 hf7 (by simp) (fun b hb hm => by simp at hm; subst hm; have := hk5' _ hb; omega) (fun b hb => .inl hb))
  refine rx ?_
  refine s_call (around a _ u6 ha.1 ha.2 (by omega)) rfl ?_
  rintro _ _ ⟨rfl, rfl⟩
  refine ⟨_, rfl, ?_⟩
  have hir := arnd_range (a := a) (m := (t.length : Int)) (by omega)
  generalize arnd a (t.length : Int) = ia at hir ⊢
  obtain ⟨i, rfl⟩ : ∃ i : Nat, ia = (i : Int) := ⟨ia.toNat, by omega⟩
  have hil : i < t.length := by omega
  obtain ⟨ys, how, hrw⟩ := id hO6
  obtain ⟨cs0, hrow, hcs0⟩ := hrw.get (fun x cs h => stN.len h) hil
  obtain ⟨ad, rfl⟩ := own_some how (by omega)
  have hcell : Cells u6 (ad.add (i * 12)) cs0 := by have := (Cells.ofSrc how.src).sub (i * 12) 12; rwa [hcs0] at this
  obtain ⟨sw, sl, sv, sk, sx, rfl, hsw, hsl, hsv, hsk, hsx⟩ := hrow
  obtain ⟨aw, cw, rfl, _⟩ := hsw.slice
  obtain ⟨al, cl, rfl, _⟩ := hsl.slice
  obtain ⟨av, cv, rfl, _⟩ := hsv.slice
  obtain ⟨ak, ck, rfl, _⟩ := hsk.slice
  obtain ⟨ax, cx, rfl, _⟩ := hsx.slice
  have hvl := hO6.lt
  refine rx ?_
  refine s_alloc rfl (fun u7 hb7 hf7 hs7 => ?_)
  refine s_storeAggB (cs := nc t[i] (.slice aw t[i].ws.length cw) (.slice al t[i].labs.length cl) (.slice av t[i].vals.length cv) (.slice ak t[i].kids.length ck) (.slice ax t[i].val.kids.length cx)) rfl rfl hb7 (by simp [nc, Value.oneCell']) rfl rfl (fun u8 hb8 hf8 hs8 => ?_)
  obtain ⟨xb, hxb⟩ : ∃ y, y = u6.heap.size := ⟨_, rfl⟩
  rw [← hxb] at hb8 hf8 ⊢
  have hF8 : Fr [] u6 u8 := hf7.trans hf8 (by simp; omega)
  obtain ⟨S8, hS8⟩ : ∃ y, y = blks (.slice (some ad) t.length co) ++ [ob, rb, xb] := ⟨_, rfl⟩
  have hT8 : ∀ b ∈ S8, b ∈ blks (.slice (some ad) t.length co) ++ [ob, rb] ∨ u6.heap.size ≤ b := fun b hb => by
    rw [hS8] at hb
    simp only [List.mem_append, List.mem_cons, List.not_mem_nil, or_false] at hb ⊢
    rcases hb with h | h | h | h
    · exact .inl (.inl h)
    · exact .inl (.inr (.inl h))
    · exact .inl (.inr (.inr h))
    · right; omega
  have hob6l := hob6.lt
  have hrb6l := hrb6.lt
  have hxb8 := hb8.lt
  have hlt8 : ∀ b ∈ S8, b < u8.heap.size := fun b hb => by
    have := hF8.size
    rw [hS8] at hb
    simp only [List.mem_append, List.mem_cons, List.not_mem_nil, or_false] at hb
    rcases hb with h | h | h | h
    · have := hvl b h; omega
    · omega
    · omega
    · omega
  have hxS : xb ∈ S8 := by rw [hS8]; simp
  replace hsw := hsw.turn hF8 hT8
  replace hsl := hsl.turn hF8 hT8
  replace hsv := (hsv.mono hT8).tr0 hF8
  replace hsk := hsk.turn hF8 hT8
  replace hsx := (hsx.mono hT8).tr0 hF8
  have hgi := hg t[i] (by simp)
  have hg' := hgi.up
  have hok := hg'.ok
  have hlw := hg'.lw
  have hll := hg'.ll
  have hlv := hg'.lv
  have hlk := hg'.lk
  have hfew := hg'.few
  have he := hg'.e
  have hob8 := hob6.tr0 hF8
  have hrb8 := hrb6.tr0 hF8
  have hnew : ∀ {v : Value}, (∀ b ∈ blks v, u8.heap.size ≤ b) → ∀ b ∈ blks v, b ∉ S8 := fun h b hb hm => by have := h b hb; have := hlt8 b hm; omega
  refine rx ?_
  refine s_call (around h 10 u8 hh.1 hh.2 (by omega)) rfl ?_
  rintro _ _ ⟨rfl, rfl⟩
  refine ⟨_, rfl, ?_⟩
  have hq := arnd_range (a := h) (m := 10) (by omega)
  generalize arnd h 10 = q at hq
  (refine rr ?_; refine wpList_nil ?_; refine q_then ?_; refine c_cut (fun g z => g 8 = .pointer (some ⟨rb, 0, none⟩) ∧ g 9 = .pointer (some ⟨ob, 0, none⟩) ∧ g 10 = .int .i64 (i : Nat) ∧ g 11 = .pointer (some ⟨xb, 0, none⟩) ∧ ∃ y' cs', Blk z xb cs' 36 ∧ NdR z S8 y' cs' ∧ NdG (m + 1) y' ∧ Fr [xb] u8 z) ?_ ?_)
  rotate_left
  · rintro g z ⟨g8, g9, g10, g11, y', cs', hbz, hnz, hgz, hfz⟩
    rw [eq_upd g8, eq_upd g9, eq_upd g10, eq_upd g11]
    have hnz0 := hnz
    obtain ⟨sw', sl', sv', sk', sx', rfl, _⟩ := hnz
    have hF6z : Fr [] u6 z := hF8.trans hfz (by simp; omega)
    have hobz := hob6.tr0 hF6z
    have hrbz := hrb6.tr0 hF6z
    have howz := how.tr0 hF6z
    refine rx ?_
    refine s_storeRowA (q := i * 12) (cs := nc y' sw' sl' sv' sk' sx') howz rfl rfl rfl rfl rfl (fun u hu => ndStab.one hnz0 u hu) (by simp only [nc, List.length_cons, List.length_nil]; omega) (fun z1 ho1 hf1 hz1 => ?_)
    have hbo : ∀ b ∈ blks (.slice (some ad) t.length co), b ≠ ob ∧ b ≠ rb := fun b hb => by have := hk5' b hb; omega
    have hobz1 := hobz.tr hf1 (fun h => (hbo _ h).1 rfl)
    have hrbz1 := hrbz.tr hf1 (fun h => (hbo _ h).2 rfl)
    refine rx ?_
    refine s_storeAggB (cs := [.slice (some ad) t.length co]) rfl rfl hrbz1 (by simp [Value.oneCell']) rfl rfl (fun z2 hb2 hf2 hz2 => ?_)
    refine rx ?_
    refine retc rfl rfl (AggT.load _ [.slice (some ad) t.length co] rfl (fun j x hx => by rw [add_lit]; exact hb2.cell (by simpa using hx))) ⟨t.set i y', _, rfl, ?_, by simp, fun y hy => ?_, ((hF6.trans0 hF6z).trans hf1 (fun b hb => ?oq)).trans hf2 (by simp; omega)⟩
    case oq =>
      right
      have := hk5' b hb
      have := hF4.size
      omega
    · have hR : OwnR z 36 12 (plusR NdR [ob, rb]) t (.slice (some ad) t.length co) := ⟨ys, howz, hrw.imp fun x cs _ h => stN.old h hF6z (by simp)⟩
      obtain ⟨ys2, how2, hrw2⟩ := hR
      have hst := hrw.imp (R' := plusR NdR [ob, rb] z1 (blks (.slice (some ad) t.length co))) (fun x cs _ h => stN.tr (stN.old h hF6z (by simp)) hf1)
      have hyr : plusR NdR [ob, rb] z1 (blks (.slice (some ad) t.length co)) y' (nc y' sw' sl' sv' sk' sx') := stN.tr (ndStab.mono hnz0 (fun b hb => .inl (by rw [hS8]; simp at hb ⊢; rcases hb with h | h | h <;> simp [h]))) hf1
      have hse := hst.set (fun x cs h => stN.len h) hyr hil
      have hO1 : OwnR z1 36 12 (plusR NdR [ob, rb]) (t.set i y') (.slice (some ad) t.length co) := ⟨_, by rw [List.length_set]; exact ho1, by rw [show i * 12 + (nc y' sw' sl' sv' sk' sx').length = (i + 1) * 12 by simp only [nc, List.length_cons, List.length_nil]; omega]; exact hse⟩
      exact ownNS (ownTurnR (S3 := [ob, rb]) ndStab hO1 hf2 (by simp) (fun b hb hm => by simp at hm; exact (hbo b hb).2 hm) (fun b hb => .inl hb))
    · rcases List.mem_or_eq_of_mem_set hy with h' | h'
      · exact (hg y h').up
      · subst h'; exact hgz
  by_cases h0 : q = 0
  · subst h0
    refine rx ?_
    ((with_reducible apply s_storeB); exact rfl; (conv => lhs; whnf); exact rfl; exact hb8; exact rfl)
    intro z hbz hfz hsz
    refine rx ?_
    have hF : Fr S8 u8 z := hfz.mono (by simp [hxS])
    exact q_cut ⟨rfl, rfl, rfl, rfl, { t[i] with kind := n }, _, hbz, ⟨_, _, _, _, _, rfl, hsw.tr hF, hsl.tr hF, hsv.tr hF, hsk.tr hF, hsx.tr hF⟩, ⟨⟨hn, hok.name, hok.lo, hok.hi, hok.ws, hok.kids, hok.lw, hok.ll, hok.lv, hok.lk, hok.vals, hok.val⟩, hfew, hlw, hll, hlv, hlk, ⟨he.name, he.labs, he.vals, he.val⟩⟩, hfz⟩
  by_cases h1 : q = 1
  · subst h1
    refine rx ?_
    ((with_reducible apply s_storeB); exact rfl; (conv => lhs; whnf); exact rfl; exact hb8; exact rfl)
    intro z hbz hfz hsz
    refine rx ?_
    have hF : Fr S8 u8 z := hfz.mono (by simp [hxS])
    exact q_cut ⟨rfl, rfl, rfl, rfl, { t[i] with lo := n }, _, hbz, ⟨_, _, _, _, _, rfl, hsw.tr hF, hsl.tr hF, hsv.tr hF, hsk.tr hF, hsx.tr hF⟩, ⟨⟨hok.kind, hok.name, hn, hok.hi, hok.ws, hok.kids, hok.lw, hok.ll, hok.lv, hok.lk, hok.vals, hok.val⟩, hfew, hlw, hll, hlv, hlk, ⟨he.name, he.labs, he.vals, he.val⟩⟩, hfz⟩
  by_cases h2 : q = 2
  · subst h2
    refine rx ?_
    ((with_reducible apply s_storeB); exact rfl; (conv => lhs; whnf); exact rfl; exact hb8; exact rfl)
    intro z hbz hfz hsz
    refine rx ?_
    have hF : Fr S8 u8 z := hfz.mono (by simp [hxS])
    exact q_cut ⟨rfl, rfl, rfl, rfl, { t[i] with hi := n }, _, hbz, ⟨_, _, _, _, _, rfl, hsw.tr hF, hsl.tr hF, hsv.tr hF, hsk.tr hF, hsx.tr hF⟩, ⟨⟨hok.kind, hok.name, hok.lo, hn, hok.ws, hok.kids, hok.lw, hok.ll, hok.lv, hok.lk, hok.vals, hok.val⟩, hfew, hlw, hll, hlv, hlk, ⟨he.name, he.labs, he.vals, he.val⟩⟩, hfz⟩
  by_cases h3 : q = 3
  · subst h3
    refine rx ?_
    refine s_build0 (fun z1 ho1 hf1 hz1 => ?_)
    have hb1 := hb8.tr0 hf1
    refine rx ?_
    refine s_append ho1 rfl (hsw.tr0 hf1).1 rfl (by simp) (by simp [Value.oneCell']) (by unfold maxLen; omega) (by omega) (fun v1 z2 ho2 hf2 hk2 _ => ?_)
    have hf2' := hf1.trans hf2 (by simp [blks, Value.ownBlock])
    refine rx ?_
    ((with_reducible apply s_build1); (conv => lhs; whnf); exact rfl)
    intro z3 hs3 hf3 hz3
    have hk2' : ∀ b ∈ blks v1, u8.heap.size ≤ b := fun b hb => by
      rcases hk2 b hb with h | h
      · simp [blks, Value.ownBlock] at h; omega
      · omega
    refine s_append (ho2.tr0 hf3) rfl hs3.src rfl rfl (by simp [Value.oneCell']) (by unfold maxLen; simp; omega) (by simp; omega) (fun v2 z4 ho4 hf4 hk4 _ => ?_)
    have hF4 : Fr [] u8 z4 := (hf2'.trans0 hf3).trans hf4 (fun b hb => .inr (hk2' b hb))
    have hk4' : ∀ b ∈ blks v2, u8.heap.size ≤ b := fun b hb => by
      rcases hk4 b hb with h | h
      · exact hk2' b h
      · have := hf2'.size; have := hf3.size; omega
    have ho4' := ho4.one
    have hb4 := hb8.tr0 hF4
    refine rx ?_
    ((with_reducible apply s_storeB); exact rfl; (conv => lhs; whnf); exact ho4'; exact hb4; exact rfl)
    intro z hbz hfz hsz
    refine rx ?_
    have hF : Fr S8 u8 z := (hF4.mono (by simp)).trans hfz (by simp [hxS])
    have hoz := ho4.tr hfz (fun b hb hm => by simp at hm; have := hk4' b hb; omega)
    refine q_cut ⟨rfl, rfl, rfl, rfl, { t[i] with ws := t[i].ws ++ [n] }, _, hbz, ⟨_, _, _, _, _, rfl, lsOff hoz (by simp) (by simp) (hnew hk4'), hsl.tr hF, hsv.tr hF, hsk.tr hF, hsx.tr hF⟩, ⟨⟨hok.kind, hok.name, hok.lo, hok.hi, all_snoc hok.ws hn, hok.kids, ?_, hok.ll, hok.lv, hok.lk, hok.vals, hok.val⟩, hfew, ?_, hll, hlv, hlk, ⟨he.name, he.labs, he.vals, he.val⟩⟩, (hF4.mono (by simp)).trans hfz (by simp)⟩
    · show (t[i].ws ++ [n]).length ≤ _
      simp; omega
    · show (t[i].ws ++ [n]).length ≤ _
      have := hgi.lw
      simp; omega
  by_cases h4 : q = 4
  · subst h4
    refine rx ?_
    refine s_build0 (fun z1 ho1 hf1 hz1 => ?_)
    have hb1 := hb8.tr0 hf1
    refine rx ?_
    refine s_append ho1 rfl (hsk.tr0 hf1).1 rfl (by simp) (by simp [Value.oneCell']) (by unfold maxLen; omega) (by omega) (fun v1 z2 ho2 hf2 hk2 _ => ?_)
    have hf2' := hf1.trans hf2 (by simp [blks, Value.ownBlock])
    refine rx ?_
    ((with_reducible apply s_build1); (conv => lhs; whnf); exact rfl)
    intro z3 hs3 hf3 hz3
    have hk2' : ∀ b ∈ blks v1, u8.heap.size ≤ b := fun b hb => by
      rcases hk2 b hb with h | h
      · simp [blks, Value.ownBlock] at h; omega
      · omega
    refine s_append (ho2.tr0 hf3) rfl hs3.src rfl rfl (by simp [Value.oneCell']) (by unfold maxLen; simp; omega) (by simp; omega) (fun v2 z4 ho4 hf4 hk4 _ => ?_)
    have hF4 : Fr [] u8 z4 := (hf2'.trans0 hf3).trans hf4 (fun b hb => .inr (hk2' b hb))
    have hk4' : ∀ b ∈ blks v2, u8.heap.size ≤ b := fun b hb => by
      rcases hk4 b hb with h | h
      · exact hk2' b h
      · have := hf2'.size; have := hf3.size; omega
    have ho4' := ho4.one
    have hb4 := hb8.tr0 hF4
    refine rx ?_
    ((with_reducible apply s_storeB); exact rfl; (conv => lhs; whnf); exact ho4'; exact hb4; exact rfl)
    intro z hbz hfz hsz
    refine rx ?_
    have hF : Fr S8 u8 z := (hF4.mono (by simp)).trans hfz (by simp [hxS])
    have hoz := ho4.tr hfz (fun b hb hm => by simp at hm; have := hk4' b hb; omega)
    refine q_cut ⟨rfl, rfl, rfl, rfl, { t[i] with kids := t[i].kids ++ [n] }, _, hbz, ⟨_, _, _, _, _, rfl, hsw.tr hF, hsl.tr hF, hsv.tr hF, lsOff hoz (by simp) (by simp) (hnew hk4'), hsx.tr hF⟩, ⟨⟨hok.kind, hok.name, hok.lo, hok.hi, hok.ws, all_snoc hok.kids hn, hok.lw, hok.ll, hok.lv, ?_, hok.vals, hok.val⟩, fun e => ?_, hlw, hll, hlv, ?_, ⟨he.name, he.labs, he.vals, he.val⟩⟩, (hF4.mono (by simp)).trans hfz (by simp)⟩
    · show (t[i].kids ++ [n]).length ≤ _
      simp; omega
    · show (t[i].kids ++ [n]).length ≤ _
      have := hgi.few e
      simp; omega
    · show (t[i].kids ++ [n]).length ≤ _
      have := hgi.lk
      simp; omega
  by_cases h5 : q = 5
  · subst h5
    refine rx ?_
    refine s_buildS [.string ⟨#[]⟩, .string ⟨#[80, 97, 105, 114]⟩, .string ⟨#[112, 97, 105, 114]⟩, .string ⟨#[65, 98, 95, 49]⟩, .string ⟨#[76, 111, 110, 103, 76, 111, 110, 103, 76, 111, 110, 103, 76, 111, 110, 103, 76]⟩, .string ⟨#[65, 45, 98]⟩] rfl rfl rfl rfl (fun z1 ho1 hf1 hz1 => ?_)
    have hc := srcCells ho1.src
    refine rx ?_
    refine s_call (around n 6 z1 hn.1 hn.2 (by omega)) rfl ?_
    rintro _ _ ⟨rfl, rfl⟩
    refine ⟨_, rfl, ?_⟩
    have hj := arnd_range (a := n) (m := 6) (by omega)
    obtain ⟨j, hje, hj6⟩ : ∃ j : Nat, arnd n 6 = (j : Int) ∧ j < 6 := ⟨(arnd n 6).toNat, by omega, by omega⟩
    rw [hje]
    obtain ⟨nm, hnm, hsz⟩ : ∃ nm : ByteArray, [Value.string ⟨#[]⟩, .string ⟨#[80, 97, 105, 114]⟩, .string ⟨#[112, 97, 105, 114]⟩, .string ⟨#[65, 98, 95, 49]⟩, .string ⟨#[76, 111, 110, 103, 76, 111, 110, 103, 76, 111, 110, 103, 76, 111, 110, 103, 76]⟩, .string ⟨#[65, 45, 98]⟩][j]? = some (.string nm) ∧ nm.size ≤ 100 := by
      match j, hj6 with
      | 0, _ => exact ⟨_, rfl, by decide⟩
      | 1, _ => exact ⟨_, rfl, by decide⟩
      | 2, _ => exact ⟨_, rfl, by decide⟩
      | 3, _ => exact ⟨_, rfl, by decide⟩
      | 4, _ => exact ⟨_, rfl, by decide⟩
      | 5, _ => exact ⟨_, rfl, by decide⟩
    have hb1 := hb8.tr0 hf1
    refine rx ?_
    rw [Nat.mul_one]
    refine s_loadC rfl hc hnm ?_
    refine rx ?_
    ((with_reducible apply s_storeB); exact rfl; (conv => lhs; whnf); exact rfl; exact hb1; exact rfl)
    intro z hbz hfz hsz'
    refine rx ?_
    have hF : Fr S8 u8 z := (hf1.mono (by simp)).trans hfz (by simp [hxS])
    exact q_cut ⟨rfl, rfl, rfl, rfl, { t[i] with name := nm }, _, hbz, ⟨_, _, _, _, _, rfl, hsw.tr hF, hsl.tr hF, hsv.tr hF, hsk.tr hF, hsx.tr hF⟩, ⟨⟨hok.kind, Nat.le_trans hsz (by decide), hok.lo, hok.hi, hok.ws, hok.kids, hok.lw, hok.ll, hok.lv, hok.lk, hok.vals, hok.val⟩, hfew, hlw, hll, hlv, hlk, ⟨Nat.le_trans hsz (by decide), he.labs, he.vals, he.val⟩⟩, (hf1.mono (by simp)).trans hfz (by simp)⟩
  by_cases h6 : q = 6
  · subst h6
    refine rx ?_
    refine s_build0 (fun z1 ho1 hf1 hz1 => ?_)
    have hb1 := hb8.tr0 hf1
    refine rx ?_
    refine s_append ho1 rfl (hsl.tr0 hf1).1 rfl (by simp) (by simp [Value.oneCell']) (by unfold maxLen; omega) (by omega) (fun v1 z2 ho2 hf2 hk2 _ => ?_)
    have hf2' := hf1.trans hf2 (by simp [blks, Value.ownBlock])
    refine rx ?_
    ((with_reducible apply s_build1); (conv => lhs; whnf); exact rfl)
    intro z3 hs3 hf3 hz3
    have hk2' : ∀ b ∈ blks v1, u8.heap.size ≤ b := fun b hb => by
      rcases hk2 b hb with h | h
      · simp [blks, Value.ownBlock] at h; omega
      · omega
    refine s_append (ho2.tr0 hf3) rfl hs3.src rfl rfl (by simp [Value.oneCell']) (by unfold maxLen; simp; omega) (by simp; omega) (fun v2 z4 ho4 hf4 hk4 _ => ?_)
    have hF4 : Fr [] u8 z4 := (hf2'.trans0 hf3).trans hf4 (fun b hb => .inr (hk2' b hb))
    have hk4' : ∀ b ∈ blks v2, u8.heap.size ≤ b := fun b hb => by
      rcases hk4 b hb with h | h
      · exact hk2' b h
      · have := hf2'.size; have := hf3.size; omega
    have ho4' := ho4.one
    have hb4 := hb8.tr0 hF4
    refine rx ?_
    ((with_reducible apply s_storeB); exact rfl; (conv => lhs; whnf); exact ho4'; exact hb4; exact rfl)
    intro z hbz hfz hsz
    refine rx ?_
    have hF : Fr S8 u8 z := (hF4.mono (by simp)).trans hfz (by simp [hxS])
    have hoz := ho4.tr hfz (fun b hb hm => by simp at hm; have := hk4' b hb; omega)
    refine q_cut ⟨rfl, rfl, rfl, rfl, { t[i] with labs := t[i].labs ++ [⟨#[120]⟩] }, _, hbz, ⟨_, _, _, _, _, rfl, hsw.tr hF, lsOff hoz (by simp) (by simp) (hnew hk4'), hsv.tr hF, hsk.tr hF, hsx.tr hF⟩, ⟨⟨hok.kind, hok.name, hok.lo, hok.hi, hok.ws, hok.kids, hok.lw, ?_, hok.lv, hok.lk, hok.vals, hok.val⟩, hfew, hlw, ?_, hlv, hlk, ⟨he.name, all_snoc he.labs (by decide), he.vals, he.val⟩⟩, (hF4.mono (by simp)).trans hfz (by simp)⟩
    · show (t[i].labs ++ [(⟨#[120]⟩ : ByteArray)]).length ≤ _
      simp; omega
    · show (t[i].labs ++ [(⟨#[120]⟩ : ByteArray)]).length ≤ _
      have := hgi.ll
      simp; omega
  by_cases h7 : q = 7
  · subst h7
    refine rx ?_
    refine s_build0 (fun z1 ho1 hf1 hz1 => ?_)
    have hb1 := hb8.tr0 hf1
    obtain ⟨N, hN⟩ : ∃ y, y = u8.heap.size := ⟨_, rfl⟩
    rw [← hN] at ho1 ⊢
    have hO1 : OwnR z1 33 4 (plusR VR S8) [] (.slice (some ⟨N, 0, none⟩) 0 0) := ⟨[], ho1, .nil⟩
    have stV : Stab (plusR VR S8) 4 := plusStab vrStab
    obtain ⟨ys1, hs1, _, hr1⟩ := ((hsv.mono (T := blks (.slice (some ⟨N, 0, none⟩) 0 0) ++ S8) (fun b hb => by
      rcases List.mem_append.1 hb with h | h
      · right; simp [blks, Value.ownBlock] at h; omega
      · exact .inl h)).tr0 hf1).rows
    refine rx ?_
    refine s_appR (R := plusR VR S8) (l := []) (al := t[i].vals) hO1 stV rfl rfl hs1 hr1 rfl (by unfold maxLen; simp; omega) (by simp; omega) (fun v1 z2 hO2 hf2 hk2 _ => ?_)
    rw [List.nil_append] at hO2
    have hf2' := hf1.trans hf2 (by simp [blks, Value.ownBlock]; omega)
    have hk2' : ∀ b ∈ blks v1, u8.heap.size ≤ b := fun b hb => by
      rcases hk2 b hb with h | h
      · simp [blks, Value.ownBlock] at h; omega
      · omega
    refine rx ?_
    refine s_build (vc (numV n) (.slice none 0 0)) rfl ?_
    refine s_pushA (R := plusR VR S8) (a := numV n) (cs := vc (numV n) (.slice none 0 0)) hO2 stV rfl rfl rfl ⟨_, rfl, VS.nil _ _⟩ rfl rfl rfl (by unfold maxLen; omega) (by omega) (fun v2 z4 hO4 hf4 hk4 => ?_)
    have hF4 : Fr [] u8 z4 := hf2'.trans hf4 (fun b hb => .inr (hk2' b hb))
    have hk4' : ∀ b ∈ blks v2, u8.heap.size ≤ b := fun b hb => by
      rcases hk4 b hb with h | h
      · exact hk2' b h
      · have := hf2'.size; omega
    have ho4' := hO4.one
    have hb4 := hb8.tr0 hF4
    refine rx ?_
    ((with_reducible apply s_storeB); exact rfl; (conv => lhs; whnf); exact ho4'; exact hb4; exact rfl)
    intro z hbz hfz hsz
    refine rx ?_
    have hF : Fr S8 u8 z := (hF4.mono (by simp)).trans hfz (by simp [hxS])
    have hOz := ownTurn (S3 := S8) hO4 hfz (by simp [hxS]) (fun b hb hm => by simp at hm; have := hk4' b hb; omega) (fun b hb => .inl hb)
    have hvz := vsP hOz (by simp; omega) (hnew hk4')
    refine q_cut ⟨rfl, rfl, rfl, rfl, { t[i] with vals := t[i].vals ++ [numV n] }, _, hbz, ⟨_, _, _, _, _, rfl, hsw.tr hF, hsl.tr hF, hvz, hsk.tr hF, hsx.tr hF⟩, ⟨⟨hok.kind, hok.name, hok.lo, hok.hi, hok.ws, hok.kids, hok.lw, hok.ll, ?_, hok.lk, all_snoc hok.vals (numV_ok n), hok.val⟩, fun e => ?_, hlw, hll, ?_, hlk, ⟨he.name, he.labs, all_snoc he.vals ⟨numV_ev hn, by simp [numV, vsz, vszs]⟩, he.val⟩⟩, (hF4.mono (by simp)).trans hfz (by simp)⟩
    · show (t[i].vals ++ [numV n]).length ≤ _
      simp; omega
    · exact absurd e (by simp)
    · show (t[i].vals ++ [numV n]).length ≤ _
      have := hgi.lv
      simp; omega
  by_cases h8 : q = 8
  · subst h8
    refine rx ?_
    refine s_call (around n 5 u8 hn.1 hn.2 (by omega)) rfl ?_
    rintro _ _ ⟨rfl, rfl⟩
    refine ⟨_, rfl, ?_⟩
    have hr5 := arnd_range (a := n) (m := 5) (by omega)
    generalize arnd n 5 = j5 at hr5
    refine rx ?_
    refine s_build (vc ⟨j5, n, ⟨#[]⟩, []⟩ (.slice none 0 0)) rfl ?_
    refine rx ?_
    refine s_storeSubB (cs := vc ⟨j5, n, ⟨#[]⟩, []⟩ (.slice none 0 0)) rfl rfl hb8 (by simp [vc, Value.oneCell']) (by simp [nc, vc]) rfl (fun z hbz hfz hsz => ?_)
    have hbz' : Blk z xb (nc { t[i] with val := ⟨j5, n, ⟨#[]⟩, []⟩ } (.slice aw t[i].ws.length cw) (.slice al t[i].labs.length cl) (.slice av t[i].vals.length cv) (.slice ak t[i].kids.length ck) (.slice none 0 0)) 36 := hbz
    refine rx ?_
    have hF : Fr S8 u8 z := hfz.mono (by simp [hxS])
    exact q_cut ⟨rfl, rfl, rfl, rfl, { t[i] with val := ⟨j5, n, ⟨#[]⟩, []⟩ }, _, hbz', ⟨_, _, _, _, _, rfl, hsw.tr hF, hsl.tr hF, hsv.tr hF, hsk.tr hF, VS.nil _ _⟩, ⟨⟨hok.kind, hok.name, hok.lo, hok.hi, hok.ws, hok.kids, hok.lw, hok.ll, hok.lv, hok.lk, hok.vals, ⟨.mk (Nat.zero_le _) (by simp), by simp [vsz, vszs]⟩⟩, hfew, hlw, hll, hlv, hlk, ⟨he.name, he.labs, he.vals, ⟨.mk (show InI64 j5 by unfold InI64; omega) hn (Nat.zero_le _) (by simp), by simp [vsz, vszs]⟩⟩⟩, hfz⟩
  have h9 : q = 9 := by omega
  subst h9
  by_cases hw0 : 0 < t[i].ws.length
  · refine rx ?_
    refine s_build0 (fun z1 ho1 hf1 hz1 => ?_)
    have hb1 := hb8.tr0 hf1
    refine rx ?_
    refine s_append ho1 rfl (hsw.tr0 hf1).1 rfl (by simp) (by simp [Value.oneCell']) (by unfold maxLen; omega) (by omega) (fun v1 z2 ho2 hf2 hk2 _ => ?_)
    have hf2' := hf1.trans hf2 (by simp [blks, Value.ownBlock])
    have hk2' : ∀ b ∈ blks v1, u8.heap.size ≤ b := fun b hb => by
      rcases hk2 b hb with h | h
      · simp [blks, Value.ownBlock] at h; omega
      · omega
    simp only [List.nil_append, Nat.zero_add] at ho2
    have ho2' := ho2.one
    obtain ⟨a1, c1, rfl⟩ := ho2.slice
    obtain ⟨ad1, rfl⟩ := own_some ho2 (by omega)
    have hb2 := hb8.tr0 hf2'
    refine rx ?_
    ((with_reducible apply s_storeB); exact rfl; (conv => lhs; whnf); exact ho2'; exact hb2; exact rfl)
    intro z3 hb3 hf3 hz3
    have ho3 := ho2.tr hf3 (fun b hb hm => by simp at hm; have := hk2' b hb; omega)
    refine rx ?_
    refine s_storeOwn (j := 0) (u := .int .i64 n) ho3 rfl (by omega) rfl rfl rfl (fun z ho4 hf4 hz4 => ?_)
    have hbz := hb3.tr hf4 (fun h => by have := hk2' _ h; omega)
    have hF4 : Fr [xb] u8 z := ((hf2'.mono (by simp)).trans hf3 (by simp)).trans hf4 (fun b hb => .inr (hk2' b hb))
    have hF : Fr S8 u8 z := hF4.mono (by simp [hxS])
    refine rx ?_
    refine q_cut ⟨rfl, rfl, rfl, rfl, { t[i] with ws := t[i].ws.set 0 n }, _, hbz, ⟨_, _, _, _, _, rfl, lsOff ho4 (by simp) (by simp [List.map_set]) (hnew hk2'), hsl.tr hF, hsv.tr hF, hsk.tr hF, hsx.tr hF⟩, ⟨⟨hok.kind, hok.name, hok.lo, hok.hi, all_set0 hok.ws hn, hok.kids, ?_, hok.ll, hok.lv, hok.lk, hok.vals, hok.val⟩, hfew, ?_, hll, hlv, hlk, ⟨he.name, he.labs, he.vals, he.val⟩⟩, hF4⟩
    all_goals
      show (t[i].ws.set 0 n).length ≤ _
      simp; omega
  by_cases hk0 : 0 < t[i].kids.length
  · refine rx ?_
    refine s_build0 (fun z1 ho1 hf1 hz1 => ?_)
    have hb1 := hb8.tr0 hf1
    refine rx ?_
    refine s_append ho1 rfl (hsk.tr0 hf1).1 rfl (by simp) (by simp [Value.oneCell']) (by unfold maxLen; omega) (by omega) (fun v1 z2 ho2 hf2 hk2 _ => ?_)
    have hf2' := hf1.trans hf2 (by simp [blks, Value.ownBlock])
    have hk2' : ∀ b ∈ blks v1, u8.heap.size ≤ b := fun b hb => by
      rcases hk2 b hb with h | h
      · simp [blks, Value.ownBlock] at h; omega
      · omega
    simp only [List.nil_append, Nat.zero_add] at ho2
    have ho2' := ho2.one
    obtain ⟨a1, c1, rfl⟩ := ho2.slice
    obtain ⟨ad1, rfl⟩ := own_some ho2 (by omega)
    have hb2 := hb8.tr0 hf2'
    refine rx ?_
    ((with_reducible apply s_storeB); exact rfl; (conv => lhs; whnf); exact ho2'; exact hb2; exact rfl)
    intro z3 hb3 hf3 hz3
    have ho3 := ho2.tr hf3 (fun b hb hm => by simp at hm; have := hk2' b hb; omega)
    refine rx ?_
    refine s_storeOwn (j := 0) (u := .int .i64 n) ho3 rfl (by omega) rfl rfl rfl (fun z ho4 hf4 hz4 => ?_)
    have hbz := hb3.tr hf4 (fun h => by have := hk2' _ h; omega)
    have hF4 : Fr [xb] u8 z := ((hf2'.mono (by simp)).trans hf3 (by simp)).trans hf4 (fun b hb => .inr (hk2' b hb))
    have hF : Fr S8 u8 z := hF4.mono (by simp [hxS])
    refine rx ?_
    refine q_cut ⟨rfl, rfl, rfl, rfl, { t[i] with kids := t[i].kids.set 0 n }, _, hbz, ⟨_, _, _, _, _, rfl, hsw.tr hF, hsl.tr hF, hsv.tr hF, lsOff ho4 (by simp) (by simp [List.map_set]) (hnew hk2'), hsx.tr hF⟩, ⟨⟨hok.kind, hok.name, hok.lo, hok.hi, hok.ws, all_set0 hok.kids hn, hok.lw, hok.ll, hok.lv, ?_, hok.vals, hok.val⟩, fun e => ?_, hlw, hll, hlv, ?_, ⟨he.name, he.labs, he.vals, he.val⟩⟩, hF4⟩
    · show (t[i].kids.set 0 n).length ≤ _
      simp; omega
    · show (t[i].kids.set 0 n).length ≤ _
      have := hfew e
      simp; omega
    · show (t[i].kids.set 0 n).length ≤ _
      simp; omega
  refine rx ?_
  exact q_cut ⟨rfl, rfl, rfl, rfl, t[i], _, hb8, ⟨_, _, _, _, _, rfl, hsw, hsl, hsv, hsk, hsx⟩, hg', Fr.refl _ _⟩
end Go.Proofs.YtpochcchekoonaaGreat
namespace Go.Proofs.YtpochcchekoonaaGreat
open Go.Rf Go.RowKit
set_option linter.unusedVariables false
set_option linter.unusedSimpArgs false
def rawN (l : List Int) (n : Nat) : List Int := (List.range n).map fun (i : Nat) => pk l (i : Int) 9 - pk l ((i : Int) + 1) 20 / 19
theorem rawN_succ (l : List Int) (n : Nat) : rawN l (n + 1) = rawN l n ++ [pk l n 9 - pk l (n + 1) 20 / 19] := by
  unfold rawN
  rw [List.range_succ, List.map_append]; rfl
theorem rawN_len (l : List Int) (n : Nat) : (rawN l n).length = n := by simp [rawN]
theorem rawN_in {l : List Int} {n : Nat} : ∀ x ∈ rawN l n, -1 ≤ x ∧ x ≤ 8 := fun x hx => by
  obtain ⟨i, _, rfl⟩ := List.mem_map.1 hx
  have h1 := pk_range (l := l) (i := i) (m := 9) (by omega)
  have h2 := pk_range (l := l) (i := (i : Int) + 1) (m := 20) (by omega)
  omega
attribute [local irreducible] Code.wp wpList Exit.then Exit.inBlock bodyPost A Calls execOp Addr.add
theorem rawP (l : List Int) (hl : ∀ n ∈ l, InI64 n) (x : Value) (n : Nat) (hn : n ≤ 1000) (u : World) (hx : Src u x l.length (l.map (.int .i64))) :
    Calls Tryz.prog 12 #[x, .int .i64 n] u fun e u' => ∃ v, e = .returned v ∧ Own u' 3 1 v n ((rawN l n).map (.int .i64)) ∧ (∀ b ∈ blks v, u.heap.size ≤ b) ∧ Fr [] u u' := by
  obtain ⟨ax, cx, rfl, _⟩ := id hx
  refine enter Tryz.func12 rfl Tryz.ntmps12 rfl ?_
  refine rx ?_
  refine c_loopK 7 [5, 6] (σ := Nat × Value) (fun s g z => g 5 = s.2 ∧ g 6 = .int .i64 (s.1 : Nat) ∧ s.1 ≤ n ∧ Own z 3 1 s.2 s.1 ((rawN l s.1).map (.int .i64)) ∧ (∀ b ∈ blks s.2, u.heap.size ≤ b) ∧ Fr [] u z) (fun s => n - s.1) (0, .slice none 0 0) ⟨rfl, rfl, Nat.zero_le _, Own.nil _ _ _, by simp [blks, Value.ownBlock], Fr.refl _ _⟩ ?_
  rintro ⟨i, v⟩ g z ⟨h5, h6, hi, ho, hk, hf⟩
  simp only at h5 h6 hi ho hk
  obtain ⟨a, c, rfl⟩ := ho.slice
  rw [eq_upd h5, eq_upd h6]
  by_cases hlt : i < n
  case neg =>
    have e : i = n := by omega
    subst e
    refine rx ?_
    (apply ret1; exact rfl; (conv => lhs; whnf))
    exact ⟨_, rfl, ho, hk, hf⟩
  have hxz := hx.tr0 hf
  refine rx ?_
  refine s_call (pick _ l i 9 z hxz hl (by omega)) rfl ?_
  rintro _ _ ⟨rfl, rfl⟩
  refine ⟨_, rfl, ?_⟩
  have h1 := pk_range (l := l) (i := i) (m := 9) (by omega)
  refine rx ?_
  refine s_call (pick _ l (i + 1) 20 z hxz hl (by omega)) rfl ?_
  rintro _ _ ⟨rfl, rfl⟩
  refine ⟨_, rfl, ?_⟩
  have h2 := pk_range (l := l) (i := (i : Int) + 1) (m := 20) (by omega)
  have hs := rawN_succ l i
  generalize pk l i 9 = p1 at h1 hs
  generalize pk l ((i : Int) + 1) 20 = p2 at h2 hs
  refine rx ?_
  ((with_reducible apply s_build1); (conv => lhs; whnf); exact rfl)
  intro z1 hs1 hf1 hz1
  refine s_append (ho.tr0 hf1) rfl hs1.src rfl rfl (by simp [Value.oneCell']) (by unfold maxLen; omega) (by omega) (fun v' z2 ho2 hf2 hk2 _ => ?_)
  refine rx ?_
  refine q_roundK (i + 1, v') (by (repeat (first | exact Keep.mrg _ _ _ _ | (refine Keep.hi rfl ?_) | (refine Keep.one rfl ?_) | exact Keep.all rfl | (refine Keep.inn rfl ?_) | (refine Keep.set rfl ?_)))) ⟨rfl, rfl, by simp only; omega, by simp only; rw [hs]; simpa using ho2, fun b hb => ?_, (hf.trans0 hf1).trans hf2 (fun b hb => .inr (hk b hb))⟩ (by simp only; omega)
  rcases hk2 b hb with h | h
  · exact hk b h
  · have := hf.size; omega
/-- trees, each one cell -/
def TrR (w : World) (t : List Nd) (cs : List Value) : Prop := ∃ sn, cs = [sn] ∧ NS w [] t sn
theorem quo7 {a : Int} (h : InI64 a) : IntKind.i64.wrap (a.tdiv 7) = a.tdiv 7 ∧ InI64 (a.tdiv 7) := by
  have h1 : InI64 (a.tdiv 7) := by
    unfold InI64 at *
    rcases Int.le_total 0 a with h0 | h0
    · rw [Int.tdiv_eq_ediv_of_nonneg h0]; omega
    · have e : a = -(-a) := by omega
      rw [e, Int.neg_tdiv, Int.tdiv_eq_ediv_of_nonneg (by omega)]; omega
  exact ⟨IntWalk.i64_in _ (by unfold InI64 at h1; omega), h1⟩
end Go.Proofs.YtpochcchekoonaaGreat
