/-
  The generators of trees: Values with a list of blocks that stay; Pick, leaf, kid. The values of a valid tree's nodes are of bounded size.
-/
import Derived.Test.YtpochcchekoonaaGreatNb
import Derived.Test.YtpochcchekoonaaGreatRe
namespace Go.Proofs.YtpochcchekoonaaGreat
open Go.Rf Go.RowKit
set_option linter.unusedVariables false
set_option linter.unusedSimpArgs false
--BEGIN
inductive Pk (ls : List (Option (List V))) : List Int → List V → Prop
  | nil : Pk ls [] []
  | cons {k : Int} {ks : List Int} {l : List V} {v : V} {s : List V} : lstAt ls k = some l → v ∈ l → Pk ls ks s → Pk ls (k :: ks) (v :: s)
theorem seqGo_pk {ls : List (Option (List V))} : ∀ (ks : List Int) (rows out : List (List V)), seqGo ls ks rows = some out → ∀ r ∈ out, ∃ r0 ∈ rows, ∃ s, r = r0 ++ s ∧ Pk ls ks s
  | [], rows, out, h, r, hr => by
    simp only [seqGo, Option.some.injEq] at h
    subst h
    exact ⟨r, hr, [], by simp, .nil⟩
  | k :: ks, rows, out, h, r, hr => by
    rw [seqGo] at h
    rcases hq : lstAt ls k with _ | l
    · rw [hq] at h; cases h
    · rw [hq] at h
      simp only at h
      split at h
      · cases h
      · obtain ⟨r1, hr1, s, rfl, hs⟩ := seqGo_pk ks _ out h r hr
        unfold prodS at hr1
        obtain ⟨r0, hr0, h2⟩ := List.mem_flatMap.1 hr1
        obtain ⟨v, hv, rfl⟩ := List.mem_map.1 h2
        exact ⟨r0, hr0, v :: s, by simp, .cons hq hv hs⟩
theorem uni_of {ls : List (Option (List V))} : ∀ {ks : List Int} {out0 : List V} {m : Bool} {v : V}, v ∈ (uniGo ls ks out0 m).1 → v ∈ out0 ∨ ∃ k ∈ ks, ∃ l, lstAt ls k = some l ∧ v ∈ l
  | [], out0, m, v, h => .inl h
  | k :: ks, out0, m, v, h => by
    rw [uniGo] at h
    rcases uni_of h with h | ⟨q, hq, l, hl, hv⟩
    · rw [srtV_mem] at h
      rcases List.mem_append.1 h with h | h
      · exact .inl h
      · right
        rcases hq : lstAt ls k with _ | l
        · rw [hq] at h; simp at h
        · rw [hq] at h; exact ⟨k, by simp, l, hq, h⟩
    · exact .inr ⟨q, by simp [hq], l, hl, hv⟩
theorem uniN_of {ls : List (Option (List V))} {ks : List Int} {out : List V} {v : V} (h : uniN ls ks = some out) (hv : v ∈ out) : ∃ k ∈ ks, ∃ l, lstAt ls k = some l ∧ v ∈ l := by
  unfold uniN at h
  split at h
  · cases h
  · have := Option.some.inj h
    subst this
    rcases uni_of hv with h | h
    · simp at h
    · exact h
theorem rngV_of {lo : Int} : ∀ {n : Nat} {v : V}, v ∈ rngV lo n → ∃ i : Int, v = numV i
  | 0, v, h => by simp [rngV] at h
  | n + 1, v, h => by
    rw [rngV] at h
    rcases List.mem_append.1 h with h | h
    · exact rngV_of h
    · simp at h; exact ⟨_, h⟩
/-- what encoding needs of a value -/
inductive EV : V → Prop
  | mk {v : V} : InI64 v.kind → InI64 v.n → v.s.size ≤ 1000 → (∀ x ∈ v.kids, EV x) → EV v
theorem EV.kind {v : V} (h : EV v) : InI64 v.kind := by cases h; assumption
theorem EV.n {v : V} (h : EV v) : InI64 v.n := by cases h; assumption
theorem EV.s {v : V} (h : EV v) : v.s.size ≤ 1000 := by cases h; assumption
theorem EV.kids {v : V} (h : EV v) : ∀ x ∈ v.kids, EV x := by cases h; assumption
theorem numV_ev {n : Int} (h : InI64 n) : EV (numV n) := .mk (by simp [numV, InI64]) h (Nat.zero_le _) (by simp [numV])
/-- what encoding needs of a node -/
structure NdE (x : Nd) : Prop where
  name : x.name.size ≤ 1000
  labs : ∀ s ∈ x.labs, s.size ≤ 1000
  vals : ∀ v ∈ x.vals, EV v ∧ vsz v ≤ 2000
  val : EV x.val ∧ vsz x.val ≤ 2000
def okV (v : V) (z : Int) : Prop := VNm v ∧ (vsz v : Int) ≤ z
theorem pk_ok {t : List Nd} {k : Nat} : ∀ {ks : List Int} {s : List V}, Pk (setsT (t.take k)) ks s → (∀ q ∈ ks, ∀ l, lstAt (setsT (t.take k)) q = some l → ∀ v ∈ l, okV v (zT t q.toNat)) → (∀ v ∈ s, VNm v) ∧ (vszs s : Int) ≤ sumI (ks.map fun q => zT t q.toNat)
  | _, _, .nil, _ => by simp [vszs, sumI]
  | _, _, .cons (k := q) (ks := ks) (v := v) (s := s) h1 h2 h3, hq => by
    obtain ⟨h4, h5⟩ := pk_ok h3 (fun x hx => hq x (by simp [hx]))
    obtain ⟨h6, h7⟩ := hq q (by simp) _ h1 v h2
    refine ⟨fun x hx => ?_, ?_⟩
    · rcases List.mem_cons.1 hx with rfl | h
      · exact h6
      · exact h4 x h
    · simp only [vszs, List.map_cons, sumI]; omega
theorem setOk {t : List Nd} (h : VT t) (hok : ∀ x ∈ t, NdOk x) : ∀ k, k < t.length → ∀ l, sT t k = some l → ∀ v ∈ l, okV v (zT t k) := by
  refine vInd fun k hk ih l hl v hv => ?_
  have hokx := hok t[k] (by simp)
  rw [sT_eq hk] at hl
  have hkid : ∀ q ∈ t[k].kids, ∀ l, lstAt (setsT (t.take k)) q = some l → ∀ v ∈ l, okV v (zT t q.toNat) := by
    intro q hq l hl v hv
    obtain ⟨p, rfl, hp⟩ := h.kid hk hq
    rw [lstAt_eq hp (by omega)] at hl
    rw [Int.toNat_natCast]
    exact ih p hp l hl v hv
  have hz := zT_eq hk
  rcases kind5 h hk with h0 | h1 | h2 | h3 | h4
  · unfold setN at hl
    rw [if_pos h0] at hl
    have := Option.some.inj hl
    subst this
    simp only [List.mem_singleton] at hv
    subst hv
    refine ⟨hokx.val.1, ?_⟩
    rw [hz]; unfold sizN; rw [if_pos h0]; exact Int.le_refl _
  · unfold setN at hl
    rw [if_neg (by omega), if_pos h1] at hl
    split at hl
    · cases hl
    · have := Option.some.inj hl
      subst this
      obtain ⟨i, rfl⟩ := rngV_of hv
      refine ⟨.mk (Nat.zero_le _) (fun x hx => by simp [numV] at hx), ?_⟩
      rw [hz]; unfold sizN; rw [if_neg (by omega), if_pos h1]; simp [numV, vsz, vszs]
  · unfold setN at hl
    rw [if_neg (by omega), if_neg (by omega), if_neg (by omega)] at hl
    have hrm : remK t[k] 0 = t[k].kids := by unfold remK; rw [if_neg (by omega)]; rfl
    rw [hrm] at hl
    obtain ⟨q, hq, l', hl', hv'⟩ := uniN_of hl hv
    obtain ⟨a1, a2⟩ := hkid q hq l' hl' v hv'
    refine ⟨a1, Int.le_trans a2 ?_⟩
    rw [hz]; unfold sizN mst
    rw [if_neg (by omega), if_neg (by omega), if_neg (by omega), if_pos h2, zT_map h hk (fun k hk => hk)]
    exact maxI_ge (List.mem_map.2 ⟨q, hq, rfl⟩)
  · unfold setN at hl
    rw [if_neg (by omega), if_neg (by omega), if_pos h3] at hl
    unfold seqN at hl
    obtain ⟨rows, hr, rfl⟩ := Option.map_eq_some_iff.1 hl
    rw [srtV_mem] at hv
    obtain ⟨r, hr', rfl⟩ := List.mem_map.1 hv
    obtain ⟨r0, hr0, s, rfl, hpk⟩ := seqGo_pk _ _ _ hr r hr'
    simp only [List.mem_singleton] at hr0
    subst hr0
    rw [List.nil_append]
    obtain ⟨b1, b2⟩ := pk_ok hpk hkid
    have hmk := madeV_kids t[k] s
    have hsm : (madeV t[k] s).s.size ≤ 1000000000000 := by
      unfold madeV
      split
      · exact Nat.zero_le _
      · exact hokx.name
    refine ⟨.mk hsm (by rw [hmk]; exact b1), ?_⟩
    rw [vsz_eq, hmk, hz]; unfold sizN
    rw [if_neg (by omega), if_neg (by omega), if_pos h3, zT_map h hk (fun k hk => hk)]
    omega
  · unfold setN at hl
    rw [if_neg (by omega), if_neg (by omega), if_neg (by omega)] at hl
    have hrm : remK t[k] 0 = t[k].kids.tail := by unfold remK; rw [if_pos ⟨h4, rfl⟩, List.drop_one]
    rw [hrm] at hl
    obtain ⟨q, hq, l', hl', hv'⟩ := uniN_of hl hv
    obtain ⟨a1, a2⟩ := hkid q (List.mem_of_mem_tail hq) l' hl' v hv'
    refine ⟨a1, Int.le_trans a2 ?_⟩
    rw [hz]; unfold sizN mst
    rw [if_neg (by omega), if_neg (by omega), if_neg (by omega), if_neg (by omega), zT_map h hk (fun k hk => hk), ← List.map_tail]
    exact maxI_ge (List.mem_map.2 ⟨q, hq, rfl⟩)
theorem pk_ev {t : List Nd} {k : Nat} : ∀ {ks : List Int} {s : List V}, Pk (setsT (t.take k)) ks s → (∀ q ∈ ks, ∀ l, lstAt (setsT (t.take k)) q = some l → ∀ v ∈ l, EV v) → ∀ v ∈ s, EV v
  | _, _, .nil, _ => by simp
  | _, _, .cons (k := q) (ks := ks) (v := v) (s := s) h1 h2 h3, hq => fun x hx => by
    rcases List.mem_cons.1 hx with rfl | h
    · exact hq q (by simp) _ h1 _ h2
    · exact pk_ev h3 (fun x hx => hq x (by simp [hx])) x h
theorem rngV_in {lo : Int} : ∀ {n : Nat} {v : V}, v ∈ rngV lo n → ∃ i : Int, v = numV i ∧ lo ≤ i ∧ i < lo + n
  | 0, v, h => by simp [rngV] at h
  | n + 1, v, h => by
    rw [rngV] at h
    rcases List.mem_append.1 h with h | h
    · obtain ⟨i, h1, h2, h3⟩ := rngV_in h
      exact ⟨i, h1, h2, by omega⟩
    · simp at h; exact ⟨_, h, by omega, by omega⟩
theorem setEV {t : List Nd} (h : VT t) (hok : ∀ x ∈ t, NdE x) : ∀ k, k < t.length → ∀ l, sT t k = some l → ∀ v ∈ l, EV v := by
  refine vInd fun k hk ih l hl v hv => ?_
  have hokx := hok t[k] (by simp)
  rw [sT_eq hk] at hl
  have hkid : ∀ q ∈ t[k].kids, ∀ l, lstAt (setsT (t.take k)) q = some l → ∀ v ∈ l, EV v := by
    intro q hq l hl v hv
    obtain ⟨p, rfl, hp⟩ := h.kid hk hq
    rw [lstAt_eq hp (by omega)] at hl
    exact ih p hp l hl v hv
  have hrg := h.rng hk
  rcases kind5 h hk with h0 | h1 | h2 | h3 | h4
  · unfold setN at hl
    rw [if_pos h0] at hl
    have := Option.some.inj hl
    subst this
    simp only [List.mem_singleton] at hv
    subst hv
    exact hokx.val.1
  · unfold setN at hl
    rw [if_neg (by omega), if_pos h1] at hl
    split at hl
    · cases hl
    · have := Option.some.inj hl
      subst this
      obtain ⟨i, rfl, hi1, hi2⟩ := rngV_in hv
      exact numV_ev (by unfold InI64; omega)
  · unfold setN at hl
    rw [if_neg (by omega), if_neg (by omega), if_neg (by omega)] at hl
    have hrm : remK t[k] 0 = t[k].kids := by unfold remK; rw [if_neg (by omega)]; rfl
    rw [hrm] at hl
    obtain ⟨q, hq, l', hl', hv'⟩ := uniN_of hl hv
    exact hkid q hq l' hl' v hv'
  · unfold setN at hl
    rw [if_neg (by omega), if_neg (by omega), if_pos h3] at hl
    unfold seqN at hl
    obtain ⟨rows, hr, rfl⟩ := Option.map_eq_some_iff.1 hl
    rw [srtV_mem] at hv
    obtain ⟨r, hr', rfl⟩ := List.mem_map.1 hv
    obtain ⟨r0, hr0, s, rfl, hpk⟩ := seqGo_pk _ _ _ hr r hr'
    simp only [List.mem_singleton] at hr0
    subst hr0
    rw [List.nil_append]
    have b1 := pk_ev hpk hkid
    have hmk := madeV_kids t[k] s
    have hsm : (madeV t[k] s).s.size ≤ 1000 := by
      unfold madeV
      split
      · exact Nat.zero_le _
      · exact hokx.name
    refine .mk ?_ ?_ hsm (by rw [hmk]; exact b1)
    all_goals
      unfold madeV
      split <;> simp [InI64]
  · unfold setN at hl
    rw [if_neg (by omega), if_neg (by omega), if_neg (by omega)] at hl
    have hrm : remK t[k] 0 = t[k].kids.tail := by unfold remK; rw [if_pos ⟨h4, rfl⟩, List.drop_one]
    rw [hrm] at hl
    obtain ⟨q, hq, l', hl', hv'⟩ := uniN_of hl hv
    exact hkid q (List.mem_of_mem_tail hq) l' hl' v hv'
--END
end Go.Proofs.YtpochcchekoonaaGreat
namespace Go.Proofs.YtpochcchekoonaaGreat
open Go.Rf Go.RowKit
set_option linter.unusedVariables false
set_option linter.unusedSimpArgs false
attribute [local irreducible] Code.wp wpList Exit.then Exit.inBlock bodyPost A Calls execOp Addr.add
set_option maxHeartbeats 8000000 in
theorem listsS (t : List Nd) (n : Nat) (st : Value) (w : World) (S : List Nat) (hSb : ∀ b ∈ S, b < w.heap.size) (ht : NS w S t st) (hok : ∀ x ∈ t, NdOk x) (hn : n ≤ t.length) (hl : t.length ≤ 1000000) (hwf : Wf t n) :
    Calls Tryz.prog 107 #[.agg #[st], .int .i64 n] w fun e w' => ∃ v, e = .returned v ∧ OwnR w' 161 2 (plusR LstR S) (setsT (t.take n)) v ∧ Fr [] w w' := by
  obtain ⟨as_, cs_, rfl, _⟩ := ht.slice
  refine enter Tryz.func107 rfl Tryz.ntmps107 rfl ?_
  refine rx ?_
  refine s_box (l := [.slice as_ t.length cs_]) rfl rfl (fun w1 hb1 hf1 hs1 => ?_)
  refine rx ?_
  refine c_loopK 7 [5, 6] (σ := Nat × Value) (fun s g u => g 6 = .int .i64 (s.1 : Nat) ∧ g 5 = s.2 ∧ s.1 ≤ n ∧ OwnR u 161 2 (plusR LstR S) (setsT (t.take s.1)) s.2 ∧ (∀ b ∈ blks s.2, w1.heap.size ≤ b) ∧ Fr [] w1 u) (fun s => n - s.1) (0, .slice none 0 0) ⟨rfl, rfl, Nat.zero_le _, OwnR.nil _ _ _ _, fun b hb => fresh0 hb, Fr.refl _ _⟩ ?_
  rintro ⟨i, v⟩ g u ⟨h6, h5, hi, ho, hkv, hfu⟩
  simp only at h6 h5 hi ho hkv
  obtain ⟨av, cv, rfl⟩ := ho.slice
  rw [eq_upd h5, eq_upd h6]
  have hb1u := hb1.tr0 hfu
  have hFu := hf1.trans0 hfu
  have hszu := hfu.size
  by_cases hlt : i < n
  case neg =>
    refine rx ?_
    (apply ret1; exact rfl; (conv => lhs; whnf))
    have e : i = n := by omega
    subst e
    exact ⟨_, rfl, ho, hFu⟩
  have hlt' : i < t.length := by omega
  obtain ⟨ad, cs1, rfl, ⟨sw, sl, sv, sk, sx, rfl, hw, hla, hv, hk, hx⟩, hcell1⟩ := Sl.at ht ndLen hlt'
  replace hcell1 := hcell1.tr0 hFu
  have hsl := setsT_len (t.take i)
  have hsl2 : (setsT (t.take i)).length ≤ 1000000 := by rw [hsl, List.length_take]; omega
  have hnx := setsT_take hlt'
  have hbf := hwf.bf hlt' hlt
  have hfo := hwf i hlt' hlt
  generalize setsT (t.take i) = ls at ho hkv hsl2 hnx hbf
  have hltv := ho.lt
  have hsb : Sl u [] (LstR u (blks (.slice av ls.length cv) ++ S)) ls (.slice av ls.length cv) := by
    obtain ⟨ys, h1, h2⟩ := ho
    exact ⟨ys, h1.src, fun _ _ _ _ _ => by simp, h2⟩
  refine rx ?_
  refine s_call (listC t[i] ls sw sl sv sk sx _ u (blks (.slice av ls.length cv) ++ S) (fun b hb => by
    rcases List.mem_append.1 hb with h | h
    · exact hltv b h
    · have := hSb b h; omega) (hok _ (by simp)) hbf (formN_kind hfo.1) hfo.2 ((hk.mono (by simp)).tr0 hFu) hsb ((hx.mono (fun b hb => by
    rcases List.mem_append.1 hb with h | h
    · right; have := hkv b h; omega
    · exact .inl h)).tr0 hFu)) rfl ?_
  rintro _ u1 ⟨s', rfl, hvs, hf2⟩
  refine ⟨_, rfl, ?_⟩
  obtain ⟨a', c', rfl, _⟩ := hvs.slice
  have hsz1 := hf2.size
  refine s_pushA (R := plusR LstR S) (a := setN ls t[i]) (cs := lc (setN ls t[i]) (.slice a' ((setN ls t[i]).getD []).length c')) (ho.tr0 (plusStab lstStab) hf2) (plusStab lstStab) rfl rfl rfl ⟨_, rfl, hvs⟩ rfl rfl rfl (by unfold maxLen; omega) (by omega) (fun v2 u2 ho2 hf3 hk3 => ?_)
  refine rx ?_
  refine q_roundK (i + 1, v2) (by (repeat (first | exact Keep.mrg _ _ _ _ | (refine Keep.hi rfl ?_) | (refine Keep.one rfl ?_) | exact Keep.all rfl | (refine Keep.inn rfl ?_) | (refine Keep.set rfl ?_)))) ⟨rfl, rfl, by simp only; omega, (by simp only; rw [hnx]; exact ho2), fun b hb => ?_, (hfu.trans0 hf2).trans hf3 (fun b hb => .inr (hkv b hb))⟩ (by simp only; omega)
  rcases hk3 b hb with h | h
  · exact hkv b h
  · omega
set_option maxHeartbeats 8000000 in
theorem valuesS (t : List Nd) (i : Nat) (st : Value) (w : World) (S : List Nat) (hSb : ∀ b ∈ S, b < w.heap.size) (ht : NS w S t st) (hok : ∀ x ∈ t, NdOk x) (hi : i < t.length) (hl : t.length ≤ 1000000) (hwf : Wf t (i + 1)) :
    Calls Tryz.prog 64 #[.agg #[st], .int .i64 i] w fun e w' => ∃ s, e = .returned (.tuple #[s, .bool (!(setN (setsT (t.take i)) t[i]).isNone)]) ∧ VS w' S ((setN (setsT (t.take i)) t[i]).getD []) s ∧ Fr [] w w' := by
  obtain ⟨as_, cs_, rfl, _⟩ := ht.slice
  refine enter Tryz.func64 rfl Tryz.ntmps64 rfl ?_
  refine rx ?_
  refine s_box (l := [.slice as_ t.length cs_]) rfl rfl (fun w1 hb1 hf1 hs1 => ?_)
  refine rx ?_
  refine s_call (listsS t (i + 1) _ w1 S (fun b hb => by have := hSb b hb; omega) (ht.tr0 hf1) hok (by omega) hl hwf) rfl ?_
  rintro _ w2 ⟨v, rfl, ho, hf2⟩
  refine ⟨_, rfl, ?_⟩
  have hF2 := hf1.trans0 hf2
  have hsl : (setsT (t.take (i + 1))).length = i + 1 := by rw [setsT_len, List.length_take]; omega
  have hge := setsT_get (t := t) (n := i + 1) (k := i) (by omega) hi
  have hslv : Sl w2 [] (LstR w2 S) (setsT (t.take (i + 1))) v := by
    obtain ⟨ys, h1, h2⟩ := ho
    exact ⟨ys, h1.src, fun _ _ _ _ _ => by simp, h2.imp fun x cs _ hr => lstStab.mono hr (fun b hb => .inl (by simp [hb]))⟩
  obtain ⟨av, cv, rfl⟩ := ho.slice
  have hi2 : i < (setsT (t.take (i + 1))).length := by omega
  obtain ⟨ad, cs1, rfl, ⟨s1, rfl, hs1v⟩, hcell⟩ := Sl.at hslv (fun x cs h => lstStab.len h) hi2
  have he : (setsT (t.take (i + 1)))[i] = setN (setsT (t.take i)) t[i] := by
    rw [List.getElem?_eq_getElem hi2] at hge
    exact Option.some.inj hge
  rw [he] at hs1v hcell
  rw [hsl] at ho
  generalize setN (setsT (t.take i)) t[i] = o at hs1v hcell
  obtain ⟨a1, c1, rfl, _⟩ := hs1v.slice
  rw [hsl]
  refine rx ?_
  (refine d_begin (fun y => Fr [] w2 y) (by kernel_rfl) rfl ?_)
  have hS : Fr [] w2 w2.drew := Fr.drew _ _
  ((first | refine d_tx 0 hS ?_ | refine d_ty 0 hS ?_ | refine d_tn 0 hS ?_); (first | refine d_tx 1 hS ?_ | refine d_ty 1 hS ?_ | refine d_tn 1 hS ?_); (first | refine d_tx 2 hS ?_ | refine d_ty 2 hS ?_ | refine d_tn 2 hS ?_); (first | refine d_tx 3 hS ?_ | refine d_ty 3 hS ?_ | refine d_tn 3 hS ?_); (first | refine d_tx 4 hS ?_ | refine d_ty 4 hS ?_ | refine d_tn 4 hS ?_); (first | refine d_tx 5 hS ?_ | refine d_ty 5 hS ?_ | refine d_tn 5 hS ?_); (first | refine d_tx 6 hS ?_ | refine d_ty 6 hS ?_ | refine d_tn 6 hS ?_); (first | refine d_tx 7 hS ?_ | refine d_ty 7 hS ?_ | refine d_tn 7 hS ?_); (first | refine d_tx 8 hS ?_ | refine d_ty 8 hS ?_ | refine d_tn 8 hS ?_); (first | refine d_tx 9 hS ?_ | refine d_ty 9 hS ?_ | refine d_tn 9 hS ?_); (first | refine d_tx 10 hS ?_ | refine d_ty 10 hS ?_ | refine d_tn 10 hS ?_))
  (refine d_one (i := 11) rfl (by kernel_rfl) ?_; refine rx ?_; refine q_held hS ?_)
  (refine d_one (i := 12) rfl (by kernel_rfl) ?_; refine rx ?_; refine q_held hS ?_)
  (refine d_done (by kernel_rfl) ?_)
  refine rx ?_
  (apply ret2; exact rfl; (conv => lhs; whnf); (conv => lhs; whnf))
  exact ⟨_, rfl, hs1v.tr0 hS, hF2.trans0 hS⟩
def pk (l : List Int) (i m : Int) : Int := if i < 0 ∨ (l.length : Int) ≤ i then 0 else arnd (l.getD i.toNat 0) m
theorem pick (x : Value) (l : List Int) (i m : Int) (w : World) (hx : Src w x l.length (l.map (.int .i64))) (hl : ∀ n ∈ l, InI64 n) (hm : 0 < m) :
    Calls Tryz.prog 27 #[x, .int .i64 i, .int .i64 m] w fun e w' => e = .returned (.int .i64 (pk l i m)) ∧ w = w' := by
  obtain ⟨ao, c, rfl, hc, _⟩ := id hx
  refine enter Tryz.func27 rfl Tryz.ntmps27 rfl ?_
  by_cases h1 : i < 0
  · refine rx ?_
    (apply ret1; exact rfl; (conv => lhs; whnf))
    exact ⟨by simp [pk, h1], rfl⟩
  by_cases h2 : (l.length : Int) ≤ i
  · refine rx ?_
    (apply ret1; exact rfl; (conv => lhs; whnf))
    exact ⟨by simp [pk, h2], rfl⟩
  obtain ⟨j, rfl⟩ : ∃ j : Nat, i = (j : Int) := ⟨i.toNat, by omega⟩
  have hj : j < l.length := by omega
  obtain ⟨ad, rfl, hcell⟩ := src_at (j := j) (u := .int .i64 l[j]) hx (by simp [hj])
  refine rx ?_
  rw [Nat.mul_one]
  refine s_load rfl hcell ?_
  have hb := hl l[j] (by simp)
  refine rx ?_
  refine s_call (around l[j] m w hb.1 hb.2 hm) rfl ?_
  rintro _ _ ⟨rfl, rfl⟩
  refine ⟨_, rfl, ?_⟩
  refine rx ?_
  (apply ret1; exact rfl; (conv => lhs; whnf))
  refine ⟨?_, rfl⟩
  rw [pk, if_neg (by omega)]
  simp [List.getD, hj]
theorem pk_range {l : List Int} {i m : Int} (h : 0 < m) : 0 ≤ pk l i m ∧ pk l i m < m := by
  unfold pk
  split
  · omega
  · exact arnd_range h
/-! ### leaf, kid -/
theorem leafP (k : Int) (u : World) (hk : 0 ≤ k ∧ k ≤ 1000000) :
    Calls Tryz.prog 28 #[.int .i64 k] u fun e u' => ∃ v s, e = .returned (.agg (vc v s).toArray) ∧ (VNm v ∧ EV v ∧ vsz v ≤ 2000) ∧ (∀ S, (∀ b ∈ S, b < u.heap.size) → VS u' S v.kids s) ∧ Fr [] u u' := by
  refine enter Tryz.func28 rfl Tryz.ntmps28 rfl ?_
  refine rx ?_
  refine s_alloc rfl (fun u1 hb1 hf1 hs1 => ?_)
  have hfin : ∀ (v : V) (u2 : World), v.kids = [] → v.s.size ≤ 1000 → InI64 v.kind → InI64 v.n → Fr [u.heap.size] u1 u2 → Blk u2 u.heap.size (vc v (.slice none 0 0)) 33 → (loadVar 33 ⟨u.heap.size, 0, none⟩).run Tryz.prog u2 = .ok (.agg (vc v (.slice none 0 0)).toArray) u2 ∧ (∃ v' s, Ending.returned (.agg (vc v (.slice none 0 0)).toArray) = .returned (.agg (vc v' s).toArray) ∧ (VNm v' ∧ EV v' ∧ vsz v' ≤ 2000) ∧ (∀ S, (∀ b ∈ S, b < u.heap.size) → VS u2 S v'.kids s) ∧ Fr [] u u2) := by
    intro v u2 h0 hs hi1 hi2 hf hb
    refine ⟨AggT.load _ (vc v (.slice none 0 0)) rfl (fun j x hx => by rw [add_lit]; exact hb.cell (by simpa using hx)), v, (.slice none 0 0), rfl, ⟨.mk (by omega) (by rw [h0]; simp), .mk hi1 hi2 hs (by rw [h0]; simp), ?_⟩, fun S _ => by rw [h0]; exact VS.nil _ _, hf1.trans hf (by simp)⟩
    obtain ⟨a, b, c, d⟩ := v
    simp only at h0
    subst h0
    simp [vsz, vszs]
  by_cases h0 : k % 4 = 0
  · refine rx ?_
    refine s_build (vc (numV (k / 4 % 9 - 4)) (.slice none 0 0)) rfl ?_
    refine s_storeAggB (cs := vc (numV (k / 4 % 9 - 4)) (.slice none 0 0)) rfl rfl hb1 (by simp [vc, numV, Value.oneCell']) rfl rfl (fun u2 hb2 hf2 hs2 => ?_)
    refine rx ?_
    obtain ⟨h1, h2⟩ := hfin (numV (k / 4 % 9 - 4)) u2 rfl (Nat.zero_le _) (by simp [numV, InI64]) (by simp only [numV, InI64]; omega) hf2 hb2
    exact retc rfl rfl h1 h2
  by_cases h1 : k % 4 = 1
  · refine rx ?_
    refine s_build (vc ⟨1, k / 4 % 2, ⟨#[]⟩, []⟩ (.slice none 0 0)) rfl ?_
    refine s_storeAggB (cs := vc ⟨1, k / 4 % 2, ⟨#[]⟩, []⟩ (.slice none 0 0)) rfl rfl hb1 (by simp [vc, Value.oneCell']) rfl rfl (fun u2 hb2 hf2 hs2 => ?_)
    refine rx ?_
    obtain ⟨h1, h2⟩ := hfin ⟨1, k / 4 % 2, ⟨#[]⟩, []⟩ u2 rfl (Nat.zero_le _) (by simp [InI64]) (by simp only [InI64]; omega) hf2 hb2
    exact retc rfl rfl h1 h2
  by_cases h2 : k % 4 = 2
  · refine rx ?_
    refine s_buildS [.string ⟨#[76, 101, 97, 102]⟩, .string ⟨#[82, 101, 100]⟩, .string ⟨#[88]⟩] rfl rfl rfl rfl (fun u2 ho2 hf2 hs2 => ?_)
    have hc := srcCells ho2.src
    have hj : ∃ j : Nat, k / 4 % 3 = (j : Int) ∧ j < 3 := ⟨(k / 4 % 3).toNat, by omega, by omega⟩
    obtain ⟨j, hje, hj3⟩ := hj
    obtain ⟨nm, hnm, hsz⟩ : ∃ nm : ByteArray, [Value.string ⟨#[76, 101, 97, 102]⟩, .string ⟨#[82, 101, 100]⟩, .string ⟨#[88]⟩][j]? = some (.string nm) ∧ nm.size ≤ 1000 := by
      match j, hj3 with
      | 0, _ => exact ⟨_, rfl, by decide⟩
      | 1, _ => exact ⟨_, rfl, by decide⟩
      | 2, _ => exact ⟨_, rfl, by decide⟩
    refine rx ?_
    refine s_indexAddr (j := j) rfl rfl hje hj3 rfl ?_
    rw [Nat.mul_one]
    refine s_loadC rfl hc hnm ?_
    refine s_build (vc ⟨3, 0, nm, []⟩ (.slice none 0 0)) rfl ?_
    refine s_storeAggB (cs := vc ⟨3, 0, nm, []⟩ (.slice none 0 0)) rfl rfl (hb1.tr0 hf2) (by simp [vc, Value.oneCell']) rfl rfl (fun u3 hb3 hf3 hs3 => ?_)
    refine rx ?_
    obtain ⟨h1, h2⟩ := hfin ⟨3, 0, nm, []⟩ u3 rfl hsz (by simp [InI64]) (by simp [InI64]) ((hf2.mono (by simp)).trans hf3 (by simp)) hb3
    exact retc rfl rfl h1 h2
  refine rx ?_
  refine s_build (vc (numV (k / 4 % 3)) (.slice none 0 0)) rfl ?_
  refine s_buildS (vc (numV (k / 4 % 3)) (.slice none 0 0)) rfl rfl rfl rfl (fun u2 ho2 hf2 hs2 => ?_)
  refine s_build (vc ⟨2, 0, ⟨#[]⟩, [numV (k / 4 % 3)]⟩ (.slice (some ⟨u1.heap.size, 0, none⟩) 1 1)) rfl ?_
  refine s_storeAggB (cs := vc ⟨2, 0, ⟨#[]⟩, [numV (k / 4 % 3)]⟩ (.slice (some ⟨u1.heap.size, 0, none⟩) 1 1)) rfl rfl (hb1.tr0 hf2) (by simp [vc, Value.oneCell']) rfl rfl (fun u3 hb3 hf3 hs3 => ?_)
  refine rx ?_
  refine retc rfl rfl (AggT.load _ (vc ⟨2, 0, ⟨#[]⟩, [numV (k / 4 % 3)]⟩ (.slice (some ⟨u1.heap.size, 0, none⟩) 1 1)) rfl (fun j x hx => by rw [add_lit]; exact hb3.cell (by simpa using hx))) ⟨_, _, rfl, ⟨.mk (Nat.zero_le _) (fun x hx => by simp at hx; subst hx; exact (numV_ok _).1), .mk (by simp [InI64]) (by simp [InI64]) (Nat.zero_le _) (fun x hx => by simp at hx; subst hx; exact numV_ev (by unfold InI64; omega)), by simp [vsz, vszs, numV]⟩, fun S hS => ?_, (hf1.trans0 hf2).trans hf3 (by simp)⟩
  have ho3 := ho2.tr hf3 (by simp [blks, Value.ownBlock]; omega)
  refine VS.of (by simp) ho3.src (fun ad n c e _ hm => ?_) (Rws.one ⟨_, rfl, VS.nil _ _⟩)
  injection e with e1 _ _
  injection e1 with e1
  subst e1
  have := hS _ hm
  simp at this; omega
theorem kidP (x : Value) (l : List Int) (i j : Int) (u : World) (hx : Src u x l.length (l.map (.int .i64))) (hl : ∀ n ∈ l, InI64 n) (hi : 1 ≤ i ∧ i ≤ 100) (hj : 0 ≤ j ∧ j ≤ 100) :
    Calls Tryz.prog 29 #[x, .int .i64 i, .int .i64 j] u fun e u' => ∃ r : Int, e = .returned (.int .i64 r) ∧ (0 ≤ r ∧ r < i) ∧ u = u' := by
  refine enter Tryz.func29 rfl Tryz.ntmps29 rfl ?_
  refine rx ?_
  refine s_call (pick x l _ 1000000 u hx hl (by omega)) rfl ?_
  rintro _ _ ⟨rfl, rfl⟩
  refine ⟨_, rfl, ?_⟩
  have hr := pk_range (l := l) (i := 3 * i + j + 2) (m := 1000000) (by omega)
  generalize pk l (3 * i + j + 2) 1000000 = k at hr
  by_cases h0 : k % 3 = 0
  · have h1 : 0 ≤ k / 3 % i ∧ k / 3 % i < i := ⟨Int.emod_nonneg _ (by omega), Int.emod_lt_of_pos _ (by omega)⟩
    refine rx ?_
    (apply ret1; exact rfl; (conv => lhs; whnf))
    exact ⟨_, rfl, h1, rfl⟩
  · have h3 : 0 ≤ k / 3 % 3 ∧ k / 3 % 3 < 3 := by omega
    refine rx ?_
    refine s_max rfl rfl rfl ?_
    refine rx ?_
    (apply ret1; exact rfl; (conv => lhs; whnf))
    refine ⟨_, rfl, ?_, rfl⟩
    split <;> omega
end Go.Proofs.YtpochcchekoonaaGreat
