/-
  The reference of trees: list.
-/
import Derived.Test.YtpochcchekoonaaGreatTh
namespace Go.Proofs.YtpochcchekoonaaGreat
open Go.Rf Go.RowKit
set_option linter.unusedVariables false
set_option linter.unusedSimpArgs false
attribute [local irreducible] Code.wp wpList Exit.then Exit.inBlock bodyPost A Calls execOp Addr.add
def uniGo (ls : List (Option (List V))) : List Int → List V → Bool → List V × Bool
  | [], out, m => (out, m)
  | k :: ks, out, m => uniGo ls ks (srtV (out ++ (lstAt ls k).getD [])) (m || ((lstAt ls k).isNone || decide (1024 < (srtV (out ++ (lstAt ls k).getD [])).length)))
def uniN (ls : List (Option (List V))) (ks : List Int) : Option (List V) := if (uniGo ls ks [] false).2 = true then none else some (uniGo ls ks [] false).1
def numV (n : Int) : V := ⟨0, n, ⟨#[]⟩, []⟩
def rngV (lo : Int) : Nat → List V
  | 0 => []
  | n + 1 => rngV lo n ++ [numV (lo + n)]
theorem rngV_len (lo : Int) (n : Nat) : (rngV lo n).length = n := by induction n with
  | zero => rfl
  | succ n ih => simp [rngV, ih]
def remK (x : Nd) (i : Nat) : List Int := if x.kind = 4 ∧ i = 0 then x.kids.drop 1 else x.kids.drop i
def setN (ls : List (Option (List V))) (x : Nd) : Option (List V) :=
  if x.kind = 0 then some [x.val] else if x.kind = 1 then (if 1024 ≤ x.hi - x.lo then none else some (rngV x.lo (x.hi - x.lo + 1).toNat)) else if x.kind = 3 then seqN ls x else uniN ls (remK x 0)
theorem vsP {w : World} {e : Nat} {S0 : List Nat} {l : List V} {v : Value} (h : OwnR w e 4 (plusR VR S0) l v) (hl : l.length ≤ 1000000000000) (hS : ∀ b ∈ blks v, b ∉ S0) : VS w S0 l v := by
  obtain ⟨ys, h1, h2⟩ := h
  refine VS.of hl h1.src (fun ad n c e hp hm => ?_) (h2.imp fun x cs _ hr => vrStab.mono hr (fun b hb => .inl (by simp [hb])))
  refine hS ad.block ?_ hm
  rcases h1.2 with ⟨hv, h0⟩ | ⟨g, cap, cur, hv, _⟩
  · rw [hv] at e; cases e
  · subst hv
    simp only [Value.slice.injEq, Option.some.injEq] at e
    rw [← e.1]; simp [blks, Value.ownBlock]
theorem oldPlus {w W0 : World} {e : Nat} {S0 : List Nat} {l : List V} {v : Value} (h : OwnR w e 4 (oldR VR W0 S0) l v) (hk : ∀ b ∈ blks v, W0.heap.size ≤ b) : OwnR w e 4 (plusR VR S0) l v :=
  OwnR.imp h fun x cs _ hr => oldR.get vrStab hr (fun b hb => by
    rcases List.mem_append.1 hb with h | h
    · exact .inr (hk b h)
    · exact .inl h)

theorem ownP_tr {α : Type} {R : World → List Nat → α → List Value → Prop} {w w' : World} {e k : Nat} {S0 T : List Nat} {l : List α} {v : Value} (hs : Stab R k) (h : OwnR w e k (plusR R S0) l v) (hf : Fr T w w') (hT : ∀ b ∈ T, b ∈ S0) (hv : ∀ b ∈ blks v, b ∉ T) : OwnR w' e k (plusR R S0) l v := by
  obtain ⟨ys, h1, h2⟩ := h
  exact ⟨ys, h1.tr hf hv, h2.imp fun x cs _ hr => hs.old hr hf (fun b hb => .inl (by simp [hT b hb]))⟩
theorem remK_next {x : Nd} {i : Nat} (h : i < x.kids.length) (hc : ¬ (x.kind = 4 ∧ i = 0)) : remK x i = x.kids[i] :: remK x (i + 1) := by
  unfold remK
  rw [if_neg hc, if_neg (by omega), List.drop_eq_getElem_cons h]

set_option maxHeartbeats 16000000 in
theorem listC (x : Nd) (ls : List (Option (List V))) (sw sl sv sk sx sb : Value) (w : World) (S : List Nat) (hSb : ∀ b ∈ S, b < w.heap.size) (hok : NdOk x) (hbf : BfOk ls x) (hkd : 0 ≤ x.kind ∧ x.kind ≤ 4) (hnm : numsN x = true) (hk : IS w [] x.kids sk) (hb : Sl w [] (LstR w S) ls sb) (hx : VS w S x.val.kids sx) :
    Calls Tryz.prog 131 #[.agg (nc x sw sl sv sk sx).toArray, sb] w fun e w' => ∃ s', e = .returned (.agg (lc (setN ls x) s').toArray) ∧ VS w' S ((setN ls x).getD []) s' ∧ Fr [] w w' := by
  obtain ⟨ak, ck, rfl, _⟩ := hk.slice
  obtain ⟨ab, cb, rfl, _⟩ := hb.slice
  obtain ⟨ax, cx, rfl, _⟩ := hx.slice
  have hlk := hok.lk
  have hlo := hok.lo
  have hhi := hok.hi
  unfold InI64 at hlo hhi
  have hnum : x.lo ≤ x.hi ∧ -4611686018427387904 ≤ x.lo ∧ x.hi ≤ 4611686018427387904 ∧ x.hi < x.lo + 1099511627776 := by
    unfold numsN at hnm
    rw [Bool.and_eq_true] at hnm
    exact of_decide_eq_true hnm.1
  refine enter Tryz.func131 rfl Tryz.ntmps131 rfl ?_
  refine rx ?_
  refine s_box rfl rfl (fun w1 hb1 hf1 hs1 => ?_)
  refine s_alloc rfl (fun w2 hb2 hf2 hs2 => ?_)
  refine rx ?_
  refine s_build (lc (some []) (.slice none 0 0)) rfl ?_
  refine s_alloc rfl (fun w3a hb3a hf3a hs3a => ?_)
  refine s_storeAggB (cs := lc (some []) (.slice none 0 0)) rfl rfl hb3a (lc1 rfl) rfl rfl (fun w3 hb3 hf3 hs3 => ?_)
  have hF23 : Fr [] w2 w3 := (hf3a.mono (by simp)).trans hf3 (by simp)
  have hF3 := (hf1.trans0 hf2).trans0 hF23
  have hb13 := (hb1.tr0 hf2).tr0 hF23
  have hb23 : Blk w3 w1.heap.size (lc (some []) (.slice none 0 0)) 161 := hb2.tr0 hF23
  replace hb3 : Blk w3 w2.heap.size (lc (some []) (.slice none 0 0)) 161 := hb3
  clear hb3a hf3 hf3a hb2 hb1
  obtain ⟨S1, hS1⟩ : ∃ S1, S1 = w1.heap.size :: w2.heap.size :: S := ⟨_, rfl⟩
  have hsub : ∀ b ∈ S1, b ∈ S ∨ w.heap.size ≤ b := fun b hb => by
    rw [hS1] at hb
    rcases List.mem_cons.1 hb with h | h
    · right; omega
    · rcases List.mem_cons.1 h with h | h
      · right; omega
      · exact .inl h
  have hSb1 : ∀ b ∈ S1, b < w3.heap.size := fun b hb => by
    rw [hS1] at hb
    rcases List.mem_cons.1 hb with h | h
    · omega
    · rcases List.mem_cons.1 h with h | h
      · omega
      · have := hSb b h; omega
  replace hb : Sl w [] (LstR w S1) ls (.slice ab ls.length cb) := hb.imp fun x cs _ h => lstStab.mono h hsub
  replace hx : VS w S1 x.val.kids (.slice ax x.val.kids.length cx) := hx.mono hsub
  have stP : Stab (plusR VR S1) 4 := plusStab vrStab
  have m4 : w1.heap.size ∈ S1 := by rw [hS1]; simp
  have m5 : w2.heap.size ∈ S1 := by rw [hS1]; simp
  have fin : ∀ (z z' : World) (o : Option (List V)) (s : Value), Fr [] w z → VS z S1 (o.getD []) s → setN ls x = o → Fr [w1.heap.size] z z' → Blk z' w1.heap.size (lc o s) 161 →
      ∃ s', Ending.returned (.agg (lc o s).toArray) = .returned (.agg (lc (setN ls x) s').toArray) ∧ VS z' S ((setN ls x).getD []) s' ∧ Fr [] w z' := by
    intro z z' o s hz hv he hf hbz
    rw [he]
    exact ⟨s, rfl, (hv.tr (hf.mono (by simp [m4]))).mono (fun b hb => .inl (by rw [hS1]; simp [hb])), hz.trans hf (by simp; omega)⟩
  by_cases k0 : x.kind = 0
  · have hv : setN ls x = some [x.val] := by unfold setN; rw [if_pos k0]
    refine rx ?_
    refine s_pushA (R := plusR VR S1) (l := []) (a := x.val) (cs := vc x.val (.slice ax x.val.kids.length cx)) (OwnR.nil _ _ _ _) stP rfl rfl rfl ⟨_, rfl, by rw [blks_nil, List.nil_append]; exact hx.tr0 hF3⟩ rfl rfl rfl (by unfold maxLen; simp) (by simp) (fun v4 w4 ho4 hf4 hk4 => ?_)
    have hf40 : Fr [] w3 w4 := Fr.ofNil hf4
    have hk4' : ∀ b ∈ blks v4, w3.heap.size ≤ b := fun b hb => by
      rcases hk4 b hb with h | h
      · exact fresh0 h
      · exact h
    have hv4 := vsP ho4 (by simp) (fun b hb hm => by have := hk4' b hb; have := hSb1 b hm; omega)
    obtain ⟨a4, c4, rfl, _⟩ := hv4.slice
    have hb34 := hb3.tr0 hf40
    have hb24 := hb23.tr0 hf40
    have hs34 := hf40.size
    refine rx ?_
    ((with_reducible apply s_storeB); exact rfl; (conv => lhs; whnf); exact rfl; exact hb34; exact rfl)
    intro w5 hb5 hf5 hs5
    replace hb5 : Blk w5 w2.heap.size (lc (some [x.val]) (.slice a4 [x.val].length c4)) 161 := hb5
    have hb25 := hb24.tr hf5 (by simp; omega)
    have hv5 := hv4.tr (hf5.mono (by simp [m5]))
    refine rx ?_
    refine s_storeAggB (cs := lc (some [x.val]) (.slice a4 [x.val].length c4)) rfl rfl hb25 (lc1 rfl) rfl rfl (fun w6 hb6 hf6 hs6 => ?_)
    refine rx ?_
    exact retc rfl rfl (AggT.load _ (lc (some [x.val]) (.slice a4 [x.val].length c4)) rfl (fun j x hx => by rw [add_lit]; exact hb6.cell (by simpa using hx))) (fin w5 w6 (some [x.val]) _ ((hF3.trans0 hf40).trans hf5 (by simp; omega)) hv5 hv hf6 hb6)
  by_cases k1 : x.kind = 1
  · by_cases hbig : 1024 ≤ x.hi - x.lo
    · have hv : setN ls x = none := by unfold setN; rw [if_neg k0, if_pos k1, if_pos hbig]
      refine rx ?_
      refine s_build (lc none (.slice none 0 0)) rfl ?_
      refine s_storeAggB (cs := lc none (.slice none 0 0)) rfl rfl hb23 (lc1 rfl) rfl rfl (fun w6 hb6 hf6 hs6 => ?_)
      refine rx ?_
      exact retc rfl rfl (AggT.load _ (lc none (.slice none 0 0)) rfl (fun j x hx => by rw [add_lit]; exact hb6.cell (by simpa using hx))) (fin w3 w6 none _ hF3 (VS.nil _ _) hv hf6 hb6)
    obtain ⟨N, hN⟩ : ∃ N : Nat, x.hi = x.lo + N - 1 := ⟨(x.hi - x.lo + 1).toNat, by omega⟩
    have hv : setN ls x = some (rngV x.lo N) := by unfold setN; rw [if_neg k0, if_pos k1, if_neg hbig, show (x.hi - x.lo + 1).toNat = N by omega]
    refine rx ?_
    refine c_loopK 9 [6] (σ := Nat × Value) (fun s g z => g 6 = .int .i64 (x.lo + (s.1 : Nat)) ∧ s.1 ≤ N ∧ OwnR z 33 4 (plusR VR S1) (rngV x.lo s.1) s.2 ∧ (∀ b ∈ blks s.2, w3.heap.size ≤ b) ∧ Blk z w2.heap.size (lc (some (rngV x.lo s.1)) s.2) 161 ∧ Fr [w2.heap.size] w3 z) (fun s => N - s.1) (0, .slice none 0 0) ⟨congrArg (Value.int .i64) (show x.lo = x.lo + ((0 : Nat) : Int) by simp), Nat.zero_le _, OwnR.nil _ _ _ _, fun b hb => fresh0 hb, hb3, Fr.refl _ _⟩ ?_
    rintro ⟨i, v⟩ g z ⟨h6, hi, ho, hkv, hb5z, hfz⟩
    simp only at h6 hi ho hkv hb5z
    have hrl := rngV_len x.lo i
    obtain ⟨av, cv, rfl⟩ := ho.slice
    rw [eq_upd h6]
    have hb1z := hb13.tr hfz (by simp; omega)
    have hb2z := hb23.tr hfz (by simp; omega)
    have hszz := hfz.size
    by_cases hlt : i < N
    case neg =>
      have hiN : i = N := by omega
      subst hiN
      have hv4 := vsP ho (by omega) (fun b hb hm => by have := hkv b hb; have := hSb1 b hm; omega)
      have e1 := hv
      have hFz : Fr [] w z := hF3.trans hfz (by simp; omega)
      refine rx ?_
      refine s_storeAggB (cs := lc (some (rngV x.lo i)) (.slice av (rngV x.lo i).length cv)) rfl rfl hb2z (lc1 rfl) rfl rfl (fun w6 hb6 hf6 hs6 => ?_)
      refine rx ?_
      exact retc rfl rfl (AggT.load _ (lc (some (rngV x.lo i)) (.slice av (rngV x.lo i).length cv)) rfl (fun j x hx => by rw [add_lit]; exact hb6.cell (by simpa using hx))) (fin z w6 (some (rngV x.lo i)) _ hFz hv4 hv hf6 hb6)
    refine rx ?_
    refine s_build (vc (numV (x.lo + i)) (.slice none 0 0)) rfl ?_
    refine s_pushA (R := plusR VR S1) (a := numV (x.lo + i)) (cs := vc (numV (x.lo + i)) (.slice none 0 0)) ho stP rfl rfl rfl ⟨_, rfl, VS.nil _ _⟩ rfl rfl rfl (by unfold maxLen; omega) (by omega) (fun v4 z4 ho4 hf4 hk4 => ?_)
    have hb54 := hb5z.tr hf4 (fun hm => by have := hkv _ hm; omega)
    have hk4' : ∀ b ∈ blks v4, w3.heap.size ≤ b := fun b hb => by
      rcases hk4 b hb with h | h
      · exact hkv b h
      · omega
    refine rx ?_
    ((with_reducible apply s_storeB); exact rfl; (conv => lhs; whnf); exact ho4.one; exact hb54; exact rfl)
    intro z5 hb55 hf5 hs5
    refine rx ?_
    refine q_roundK (i + 1, v4) (by (repeat (first | exact Keep.mrg _ _ _ _ | (refine Keep.hi rfl ?_) | (refine Keep.one rfl ?_) | exact Keep.all rfl | (refine Keep.inn rfl ?_) | (refine Keep.set rfl ?_)))) ⟨congrArg (Value.int .i64) (show x.lo + (i : Int) + 1 = x.lo + ((i + 1 : Nat) : Int) by omega), by simp only; omega, ownP_tr vrStab ho4 hf5 (by simp [m5]) (fun b hb hm => by have := hk4' b hb; simp at hm; omega), hk4', hb55, (hfz.trans hf4 (fun b hb => .inr (hkv b hb))).trans hf5 (by simp)⟩ (by simp only; omega)
  by_cases k3 : x.kind = 3
  · have hv : setN ls x = seqN ls x := by unfold setN; rw [if_neg k0, if_neg k1, if_pos k3]
    refine rx ?_
    refine s_call (seqC x ls _ _ _ _ _ (.slice ab ls.length cb) w3 S1 hSb1 hok hbf (hk.tr0 hF3) ((Sl.tr0 hb hF3).imp fun x cs _ h => lstStab.old h hF3 (by simp))) rfl ?_
    rintro _ z ⟨s', rfl, hvz, hfz⟩
    refine ⟨_, rfl, ?_⟩
    have hb2z := hb23.tr0 hfz
    obtain ⟨a4, c4, rfl, _⟩ := hvz.slice
    refine rx ?_
    refine s_storeAggB (cs := lc (seqN ls x) (.slice a4 ((seqN ls x).getD []).length c4)) rfl rfl hb2z (lc1 rfl) rfl rfl (fun w6 hb6 hf6 hs6 => ?_)
    refine rx ?_
    exact retc rfl rfl (AggT.load _ (lc (seqN ls x) (.slice a4 ((seqN ls x).getD []).length c4)) rfl (fun j x hx => by rw [add_lit]; exact hb6.cell (by simpa using hx))) (fin z w6 (seqN ls x) _ (hF3.trans0 hfz) hvz hv hf6 hb6)
  have hv : setN ls x = uniN ls (remK x 0) := by unfold setN; rw [if_neg k0, if_neg k1, if_neg k3]
  unfold uniN at hv
  refine rx ?_
  refine c_loopK 9 [7, 8] (σ := Nat × List V × Bool × Value) (fun s g z => g 7 = .int .i64 (s.1 : Nat) ∧ s.1 ≤ x.kids.length ∧ uniGo ls (remK x 0) [] false = uniGo ls (remK x s.1) s.2.1 s.2.2.1 ∧ s.2.1.length ≤ 1024 * s.1 ∧ OwnR z 33 4 (plusR VR S1) s.2.1 s.2.2.2 ∧ (∀ b ∈ blks s.2.2.2, w3.heap.size ≤ b) ∧ Blk z w2.heap.size [s.2.2.2, .bool s.2.2.1] 161 ∧ Fr [w2.heap.size] w3 z) (fun s => x.kids.length - s.1) (0, [], false, .slice none 0 0) ⟨rfl, Nat.zero_le _, rfl, by simp, OwnR.nil _ _ _ _, fun b hb => fresh0 hb, hb3, Fr.refl _ _⟩ ?_
  rintro ⟨i, out, m, v⟩ g z ⟨h7, hi, hgo, hol, ho, hkv, hb5z, hfz⟩
  simp only at h7 hi hgo hol ho hkv hb5z
  obtain ⟨av, cv, rfl⟩ := ho.slice
  rw [eq_upd h7]
  have hb1z := hb13.tr hfz (by simp; omega)
  have hb2z := hb23.tr hfz (by simp; omega)
  have hszz := hfz.size
  have hFz : Fr [] w z := hF3.trans hfz (by simp; omega)
  by_cases hlt : i < x.kids.length
  case neg =>
    have hnil : remK x i = [] := by
      unfold remK
      split
      · rename_i h; rw [List.drop_eq_nil_of_le (by omega)]
      · rw [List.drop_eq_nil_of_le (by omega)]
    rw [hnil, uniGo] at hgo
    rw [hgo] at hv
    have hv4 := vsP ho (by omega) (fun b hb hm => by have := hkv b hb; have := hSb1 b hm; omega)
    cases m with
    | true =>
      rw [if_pos rfl] at hv
      refine rx ?_
      refine s_build (lc none (.slice none 0 0)) rfl ?_
      refine s_storeAggB (cs := lc none (.slice none 0 0)) rfl rfl hb2z (lc1 rfl) rfl rfl (fun w6 hb6 hf6 hs6 => ?_)
      refine rx ?_
      exact retc rfl rfl (AggT.load _ (lc none (.slice none 0 0)) rfl (fun j x hx => by rw [add_lit]; exact hb6.cell (by simpa using hx))) (fin z w6 none _ hFz (VS.nil _ _) hv hf6 hb6)
    | false =>
      rw [if_neg (by simp)] at hv
      simp only at hv
      refine rx ?_
      refine s_storeAggB (cs := lc (some out) (.slice av out.length cv)) rfl rfl hb2z (lc1 rfl) rfl rfl (fun w6 hb6 hf6 hs6 => ?_)
      refine rx ?_
      exact retc rfl rfl (AggT.load _ (lc (some out) (.slice av out.length cv)) rfl (fun j x hx => by rw [add_lit]; exact hb6.cell (by simpa using hx))) (fin z w6 (some out) _ hFz hv4 hv hf6 hb6)
  by_cases hsk : x.kind = 4 ∧ i = 0
  · obtain ⟨hk4, rfl⟩ := hsk
    have e1 : remK x 0 = remK x 1 := by unfold remK; rw [if_pos ⟨hk4, rfl⟩, if_neg (by omega)]
    rw [e1] at hgo
    refine rx ?_
    exact q_roundK (1, out, m, .slice av out.length cv) (by (repeat (first | exact Keep.mrg _ _ _ _ | (refine Keep.hi rfl ?_) | (refine Keep.one rfl ?_) | exact Keep.all rfl | (refine Keep.inn rfl ?_) | (refine Keep.set rfl ?_)))) ⟨rfl, by simp only; omega, (by simp only; rw [e1]; exact hgo), by simp only; omega, ho, hkv, hb5z, hfz⟩ (by simp only; omega)
  obtain ⟨ad, rfl, hcell⟩ := Ls.at (hk.tr0 hFz) hlt
  obtain ⟨j, hj, ej, ek, hl1024⟩ := hbf.at hlt
  rw [ej] at hcell
  obtain ⟨ad2, cs2, rfl, ⟨s2, rfl, hs2v⟩, hcell2⟩ := Sl.at hb (fun x cs h => lstStab.len h) hj
  obtain ⟨a2, c2, rfl, hc2⟩ := hs2v.slice
  replace hcell2 := hcell2.tr0 hFz
  rw [remK_next hlt hsk, uniGo, ek] at hgo
  generalize hoq : ls[j] = o at hgo hl1024 hs2v hcell2 hc2
  have hgd : ∀ o : List V, o.length ≤ 1024 → (srtV (out ++ o)).length ≤ 1024 * (i + 1) := fun o h => by
    have h1 := srtV_len (out ++ o)
    rw [List.length_append] at h1
    omega
  have hltv := ho.lt
  by_cases hk4 : x.kind = 4
  case' pos => have hi0 : ¬ i = 0 := fun h => hsk ⟨hk4, h⟩
  all_goals
    refine rx ?_
    rw [Nat.mul_one]
    refine s_load rfl hcell ?_
    refine rx ?_
    refine s_alloc rfl (fun u1 hb7 hf7 hs7 => ?_)
    refine s_storeAggB (cs := lc o (.slice a2 (o.getD []).length c2)) rfl rfl hb7 (lc1 rfl) rfl rfl (fun u hb8 hf8 hs8 => ?_)
    have hF8 : Fr [] z u := (hf7.mono (by simp)).trans hf8 (by simp)
    replace hb8 : Blk u z.heap.size (lc o (.slice a2 (o.getD []).length c2)) 161 := hb8
    clear hb7 hf7 hf8
    have hb5u := hb5z.tr0 hF8
    have hlv : VS u (blks (.slice av out.length cv) ++ S1) (o.getD []) (.slice a2 (o.getD []).length c2) := (hs2v.mono (fun b hb => by
      rcases List.mem_append.1 hb with h | h
      · right; have := hkv b h; have := hF3.size; omega
      · exact .inl h)).tr0 (hFz.trans0 hF8)
    obtain ⟨ys, hsrc, hoff, hrws⟩ := hlv.rows
    refine rx ?_
    refine s_appR (R := plusR VR S1) (al := o.getD []) (ho.tr0 stP hF8) stP rfl rfl hsrc (hrws.imp fun x cs _ h => h) rfl (by unfold maxLen; omega) (by omega) (fun v5 z5 ho5 hf5 hk5 _ => ?_)
    have hszu := hF8.size
    have hsz5 := hf5.size
    have hk5' : ∀ b ∈ blks v5, w3.heap.size ≤ b := fun b hb => by
      rcases hk5 b hb with h | h
      · exact hkv b h
      · omega
    have hvs5 := vsP ho5 (by rw [List.length_append]; omega) (fun b hb hm => by have := hk5' b hb; have := hSb1 b hm; omega)
    obtain ⟨a5, c5, rfl, _⟩ := hvs5.slice
    have hb55 := hb5u.tr hf5 (fun hm => by have := hkv _ hm; omega)
    have hb85 := hb8.tr hf5 (fun hm => by have := hltv _ hm; omega)
    refine s_call (sortR (out ++ o.getD []) _ z5 S1 hvs5 (by rw [List.length_append]; omega)) rfl ?_
    rintro _ z6 ⟨v6, rfl, ho6, hk6, hf6⟩
    refine ⟨_, rfl, ?_⟩
    have ho6' := oldPlus ho6 hk6
    have hb56 := hb55.tr0 hf6
    have hb86 := hb85.tr0 hf6
    have hsz6 := hf6.size
    have hlg := hgd (o.getD []) hl1024
    obtain ⟨a6, c6, rfl⟩ := OwnR.slice ho6'
    refine rx ?_
    ((with_reducible apply s_storeB); exact rfl; (conv => lhs; whnf); exact rfl; exact hb56; exact rfl)
    intro z7 hb57 hf7 hs7'
    have hb87 := hb86.tr hf7 (by simp; omega)
    have ho7 := ownP_tr vrStab ho6' hf7 (by simp [m5]) (fun b hb hm => by have := hk6 b hb; simp at hm; omega)
    have hF7 : Fr [w2.heap.size] w3 z7 := (((hfz.trans0 hF8).trans hf5 (fun b hb => .inr (hkv b hb))).trans0 hf6).trans hf7 (by simp)
    generalize hsr : srtV (out ++ o.getD []) = sr at hgo hb57 ho7 hlg ho6' ho6 hk6
    replace hb57 : Blk z7 w2.heap.size [.slice a6 sr.length c6, .bool m] 161 := hb57
    rcases m with _ | _
    case' false =>
      rcases o with _ | l
      case' some => by_cases hgt : 1024 < sr.length
    all_goals
      refine rx ?_
      ((with_reducible apply s_storeB); exact rfl; (conv => lhs; whnf); exact rfl; exact hb57; exact rfl)
      intro z8 hb58 hf8 hs8'
      refine rx ?_
      refine q_roundK (i + 1, sr, _, .slice a6 sr.length c6) (by (repeat (first | exact Keep.mrg _ _ _ _ | (refine Keep.hi rfl ?_) | (refine Keep.one rfl ?_) | exact Keep.all rfl | (refine Keep.inn rfl ?_) | (refine Keep.set rfl ?_)))) ⟨rfl, by simp only; omega, ?_, hlg, ownP_tr vrStab ho7 hf8 (by simp [m5]) (fun b hb hm => by have := hk6 b hb; simp at hm; omega), fun b hb => by have := hk6 b hb; omega, hb58, hF7.trans hf8 (by simp)⟩ (by simp only; omega)
      simp only
      rw [hgo]
      first
      | (rw [decide_eq_false hgt]; rfl)
      | (rw [decide_eq_true hgt]; rfl)
      | rfl
end Go.Proofs.YtpochcchekoonaaGreat
