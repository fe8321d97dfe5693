/-
  The reference of trees: sequences.
-/
import Derived.Test.YtpochcchekoonaaGreatTg
namespace Go.Proofs.YtpochcchekoonaaGreat
open Go.Rf Go.RowKit
set_option linter.unusedVariables false
set_option linter.unusedSimpArgs false
attribute [local irreducible] Code.wp wpList Exit.then Exit.inBlock bodyPost A Calls execOp Addr.add
def lc (o : Option (List V)) (s : Value) : List Value := [s, .bool o.isNone]
def LstR (w : World) (S : List Nat) (o : Option (List V)) (cs : List Value) : Prop := ∃ s, cs = lc o s ∧ VS w S (o.getD []) s
theorem lstStab : Stab LstR 2 where
  tr := by rintro w w' S x cs ⟨s, rfl, h⟩ hf; exact ⟨s, rfl, h.tr hf⟩
  mono := by rintro w S T x cs ⟨s, rfl, h⟩ hT; exact ⟨s, rfl, h.mono hT⟩
  len := by rintro w S x cs ⟨s, rfl, h⟩; rfl
  one := by
    rintro w S x cs ⟨s, rfl, h⟩ u hu
    simp only [lc, List.mem_cons, List.not_mem_nil, or_false] at hu
    rcases hu with rfl | rfl
    · exact h.one
    · rfl
theorem lc1 {o : Option (List V)} {s : Value} (h : s.oneCell' = true) : ∀ u ∈ lc o s, u.oneCell' = true := by
  intro u hu
  simp only [lc, List.mem_cons, List.not_mem_nil, or_false] at hu
  rcases hu with rfl | rfl
  · exact h
  · rfl
def RowR (w : World) (S : List Nat) (r : List V) (cs : List Value) : Prop := ∃ s, cs = [s] ∧ VS w S r s
theorem rowStab : Stab RowR 1 where
  tr := by rintro w w' S x cs ⟨s, rfl, h⟩ hf; exact ⟨s, rfl, h.tr hf⟩
  mono := by rintro w S T x cs ⟨s, rfl, h⟩ hT; exact ⟨s, rfl, h.mono hT⟩
  len := by rintro w S x cs ⟨s, rfl, h⟩; rfl
  one := by
    rintro w S x cs ⟨s, rfl, h⟩ u hu
    simp only [List.mem_cons, List.not_mem_nil, or_false] at hu
    rw [hu]; exact h.one
def plusR {α : Type} (R : World → List Nat → α → List Value → Prop) (S0 : List Nat) : World → List Nat → α → List Value → Prop := fun w T x cs => R w (T ++ S0) x cs
theorem plusStab {α : Type} {R : World → List Nat → α → List Value → Prop} {k : Nat} {S0 : List Nat} (h : Stab R k) : Stab (plusR R S0) k where
  tr := fun hr hf => h.old hr hf (fun b hb => .inl (by simp [hb]))
  mono := fun hr hT => h.mono hr (fun b hb => by
    rcases List.mem_append.1 hb with h | h
    · rcases hT b h with h | h
      · left; simp [h]
      · exact .inr h
    · left; simp [h])
  len := fun hr => h.len hr
  one := fun hr => h.one hr
def prodS (rows : List (List V)) (l : List V) : List (List V) := rows.flatMap fun r => l.map fun v => r ++ [v]
theorem prodS_len (rows : List (List V)) (l : List V) : (prodS rows l).length = rows.length * l.length := by
  induction rows with
  | nil => simp [prodS]
  | cons r rows ih => unfold prodS at ih ⊢; rw [List.flatMap_cons, List.length_append, ih, List.length_map, List.length_cons, Nat.add_mul]; omega
theorem prodS_mem {rows : List (List V)} {l : List V} {i : Nat} (h : ∀ r ∈ rows, r.length ≤ i) : ∀ r ∈ prodS rows l, r.length ≤ i + 1 := by
  intro r hr
  unfold prodS at hr
  obtain ⟨q, hq, h2⟩ := List.mem_flatMap.1 hr
  obtain ⟨v, _, rfl⟩ := List.mem_map.1 h2
  have := h q hq
  simp; omega
theorem prodS_take {rows : List (List V)} {l : List V} {i : Nat} (h : i < rows.length) : prodS (rows.take (i + 1)) l = prodS (rows.take i) l ++ l.map fun v => rows[i] ++ [v] := by
  unfold prodS
  rw [List.take_succ_eq_append_getElem h, List.flatMap_append]; simp
def lstAt (ls : List (Option (List V))) (k : Int) : Option (List V) := ls.getD k.toNat none
def seqGo (ls : List (Option (List V))) : List Int → List (List V) → Option (List (List V))
  | [], rows => some rows
  | k :: ks, rows => match lstAt ls k with
    | none => none
    | some l => if 1024 < rows.length * l.length then none else seqGo ls ks (prodS rows l)
def seqN (ls : List (Option (List V))) (x : Nd) : Option (List V) := (seqGo ls x.kids [[]]).map fun rows => srtV (rows.map (madeV x))
theorem seqGo_drop {ls : List (Option (List V))} {ks : List Int} {i : Nat} {rows : List (List V)} (h : i < ks.length) : seqGo ls (ks.drop i) rows = match lstAt ls ks[i] with
    | none => none
    | some l => if 1024 < rows.length * l.length then none else seqGo ls (ks.drop (i + 1)) (prodS rows l) := by
  rw [List.drop_eq_getElem_cons h, seqGo]
theorem madeV_kids (x : Nd) (r : List V) : (madeV x r).kids = r := by unfold madeV; split <;> rfl
theorem src_len {w : World} {v : Value} {m m' : Nat} {ys : List Value} (h : Src w v m ys) (e : m = m') : Src w v m' ys := e ▸ h

/-- the lists before: how many values, where the kids lie -/
structure BfOk (ls : List (Option (List V))) (x : Nd) : Prop where
  rng : ∀ k ∈ x.kids, 0 ≤ k ∧ k < ls.length
  len : ∀ l, some l ∈ ls → l.length ≤ 1024
theorem BfOk.at {ls : List (Option (List V))} {x : Nd} (h : BfOk ls x) {i : Nat} (hi : i < x.kids.length) : ∃ j : Nat, ∃ hj : j < ls.length, x.kids[i] = (j : Int) ∧ lstAt ls x.kids[i] = ls[j] ∧ (ls[j].getD []).length ≤ 1024 := by
  have h1 := h.rng x.kids[i] (by simp)
  refine ⟨x.kids[i].toNat, by omega, by omega, ?_, ?_⟩
  · unfold lstAt; rw [List.getD, List.getElem?_eq_getElem (by omega)]; rfl
  · rcases hq : ls[x.kids[i].toNat]'(by omega) with _ | l
    · simp
    · exact h.len l (by rw [← hq]; simp)

set_option maxHeartbeats 16000000 in
theorem seqC (x : Nd) (ls : List (Option (List V))) (sw sl sv sk sx sb : Value) (w : World) (S : List Nat) (hSb : ∀ b ∈ S, b < w.heap.size) (hok : NdOk x) (hbf : BfOk ls x) (hk : IS w [] x.kids sk) (hb : Sl w [] (LstR w S) ls sb) :
    Calls Tryz.prog 143 #[.agg (nc x sw sl sv sk sx).toArray, sb] w fun e w' => ∃ s', e = .returned (.agg (lc (seqN ls x) s').toArray) ∧ VS w' S ((seqN ls x).getD []) s' ∧ Fr [] w w' := by
  obtain ⟨ak, ck, rfl, _⟩ := hk.slice
  obtain ⟨ab, cb, rfl, _⟩ := hb.slice
  have hlk := hok.lk
  refine enter Tryz.func143 rfl Tryz.ntmps143 rfl ?_
  refine rx ?_
  refine s_box rfl rfl (fun w1 hb1 hf1 hs1 => ?_)
  refine s_alloc rfl (fun w2 hb2 hf2 hs2 => ?_)
  have hb1' := hb1.tr0 hf2
  have hF2 := hf1.trans0 hf2
  refine rx ?_
  ((with_reducible apply s_build1); (conv => lhs; whnf); exact rfl)
  intro w3 ho3 hf3 hs3
  have hF3 := hF2.trans0 hf3
  obtain ⟨S1, hS1⟩ : ∃ S1, S1 = w1.heap.size :: S := ⟨_, rfl⟩
  have hsub : ∀ b ∈ S1, b ∈ S ∨ w.heap.size ≤ b := fun b hb => by
    rw [hS1] at hb
    rcases List.mem_cons.1 hb with h | h
    · right; omega
    · exact .inl h
  have hSb1 : ∀ b ∈ S1, b < w3.heap.size := fun b hb => by
    rw [hS1] at hb
    rcases List.mem_cons.1 hb with h | h
    · omega
    · have := hSb b h; omega
  replace hb : Sl w [] (LstR w S1) ls (.slice ab ls.length cb) := hb.imp fun x cs _ h => lstStab.mono h hsub
  have stR : Stab (plusR RowR S1) 1 := plusStab rowStab
  have hoR : OwnR w3 31 1 (plusR RowR S1) [[]] (.slice (some ⟨w2.heap.size, 0, none⟩) 1 1) := ⟨_, ho3, Rws.one ⟨_, rfl, VS.nil _ _⟩⟩
  have hb13 := hb1'.tr0 hf3
  have hb23 := hb2.tr0 hf3
  refine rx ?_
  refine c_loopK 14 [5, 6, 7, 8, 9, 10, 11] (σ := Nat × List (List V) × Value) (fun s g u => g 6 = .int .i64 (s.1 : Nat) ∧ g 5 = s.2.2 ∧ s.1 ≤ x.kids.length ∧ seqGo ls x.kids [[]] = seqGo ls (x.kids.drop s.1) s.2.1 ∧ s.2.1.length ≤ 1024 ∧ (∀ r ∈ s.2.1, r.length ≤ s.1) ∧ OwnR u 31 1 (plusR RowR S1) s.2.1 s.2.2 ∧ (∀ b ∈ blks s.2.2, w.heap.size ≤ b) ∧ Fr [] w3 u) (fun s => x.kids.length - s.1) (0, [[]], _) ⟨rfl, rfl, Nat.zero_le _, rfl, by simp, by simp, hoR, by simp [blks, Value.ownBlock]; omega, Fr.refl _ _⟩ ?_
  rintro ⟨i, rows, v⟩ g u0 ⟨h6, h5, hi, hgo, hrl, hrm, ho, hkv, hfu⟩
  simp only at h6 h5 hi hgo hrl hrm ho hkv
  obtain ⟨av, cv, rfl⟩ := ho.slice
  rw [eq_upd h5, eq_upd h6]
  have hb1u := hb13.tr0 hfu
  have hb2u := hb23.tr0 hfu
  have hFu := hF3.trans0 hfu
  have hsu0 := hfu.size
  by_cases hlt : i < x.kids.length
  case pos =>
    obtain ⟨ad, rfl, hcell⟩ := Ls.at (hk.tr0 hFu) hlt
    obtain ⟨j, hj, ej, ek, hl1024⟩ := hbf.at hlt
    rw [ej] at hcell
    obtain ⟨ad2, cs2, rfl, ⟨s2, rfl, hs2v⟩, hcell2⟩ := Sl.at hb (fun x cs h => lstStab.len h) hj
    obtain ⟨a2, c2, rfl, hc2⟩ := hs2v.slice
    replace hcell2 := hcell2.tr0 hFu
    rw [seqGo_drop hlt, ek] at hgo
    generalize hoq : ls[j] = o at hgo hl1024 hs2v hcell2 hc2
    refine rx ?_
    rw [Nat.mul_one]
    refine s_load rfl hcell ?_
    refine rx ?_
    refine s_alloc rfl (fun u1 hb7 hf7 hs7 => ?_)
    refine s_storeAggB (cs := lc o (.slice a2 (o.getD []).length c2)) rfl rfl hb7 (lc1 rfl) rfl rfl (fun u hb8 hf8 hs8 => ?_)
    have hF8 : Fr [] u0 u := (hf7.mono (by simp)).trans hf8 (by simp)
    replace hb8 : Blk u u0.heap.size (lc o (.slice a2 (o.getD []).length c2)) 161 := hb8
    have hb1v := hb1u.tr0 hF8
    have hb2v := hb2u.tr0 hF8
    have hFv := hFu.trans0 hF8
    have hov := ho.tr0 stR hF8
    have hlvV : VS u S1 (o.getD []) (.slice a2 (o.getD []).length c2) := hs2v.tr0 hFv
    have hszv : w.heap.size ≤ u.heap.size := hFv.size
    clear hb7 hf7 hf8
    cases o with
    | none =>
      have hN : seqN ls x = none := by unfold seqN; rw [hgo]; rfl
      rw [hN]
      refine rx ?_
      refine s_build (lc none (.slice none 0 0)) rfl ?_
      refine s_storeAggB rfl rfl hb2v (lc1 rfl) rfl rfl (fun z hbz hfz hsz => ?_)
      refine rx ?_
      exact retc rfl rfl (AggT.load _ (lc none (.slice none 0 0)) rfl (fun j x hx => by rw [add_lit]; exact hbz.cell (by simpa using hx))) ⟨_, rfl, VS.nil _ _, hFv.trans hfz (by simp; omega)⟩
    | some l =>
    simp only [Option.getD_some] at hl1024 hlvV hb8 hc2 hcell2
    have hmul : (rows.length : Int) * (l.length : Int) ≤ 1048576 := by
      have := Nat.mul_le_mul hrl hl1024
      omega
    have hmul0 : 0 ≤ (rows.length : Int) * (l.length : Int) := by rw [← Int.natCast_mul]; omega
    by_cases hbig : 1024 < rows.length * l.length
    · simp only [if_pos hbig] at hgo
      have hN : seqN ls x = none := by unfold seqN; rw [hgo]; rfl
      rw [hN]
      refine rx ?_
      refine s_build (lc none (.slice none 0 0)) rfl ?_
      refine s_storeAggB rfl rfl hb2v (lc1 rfl) rfl rfl (fun z hbz hfz hsz => ?_)
      refine rx ?_
      exact retc rfl rfl (AggT.load _ (lc none (.slice none 0 0)) rfl (fun j x hx => by rw [add_lit]; exact hbz.cell (by simpa using hx))) ⟨_, rfl, VS.nil _ _, hFv.trans hfz (by simp; omega)⟩
    simp only [if_neg hbig] at hgo
    have stO : Stab (oldR VR u S1) 4 := oldStab vrStab
    have hslv := hov.sl stR
    refine rx ?_
    refine c_loopK 14 [8, 9, 10, 11] (σ := Nat × Value) (fun s g z => g 9 = .int .i64 (s.1 : Nat) ∧ g 8 = s.2 ∧ s.1 ≤ rows.length ∧ OwnR z 31 1 (plusR RowR S1) (prodS (rows.take s.1) l) s.2 ∧ (∀ b ∈ blks s.2, u.heap.size ≤ b) ∧ Fr [] u z) (fun s => rows.length - s.1) (0, .slice none 0 0) ⟨rfl, rfl, Nat.zero_le _, OwnR.nil _ _ _ _, fun b hb => fresh0 hb, Fr.refl _ _⟩ ?_
    rintro ⟨i2, vn⟩ g2 z ⟨h9, h8, hi2, hon, hkn, hfz⟩
    simp only at h9 h8 hi2 hon hkn
    obtain ⟨an, cn, rfl⟩ := hon.slice
    rw [eq_upd h8, eq_upd h9]
    by_cases hlt2 : i2 < rows.length
    case neg =>
      have et : rows.take i2 = rows := List.take_of_length_le (by omega)
      have hpl := prodS_len rows l
      have ep : prodS rows l = prodS (rows.take i2) l := by rw [et]
      refine rx ?_
      refine q_roundK (i + 1, prodS rows l, .slice an (prodS (rows.take i2) l).length cn) (by (repeat (first | exact Keep.mrg _ _ _ _ | (refine Keep.hi rfl ?_) | (refine Keep.one rfl ?_) | exact Keep.all rfl | (refine Keep.inn rfl ?_) | (refine Keep.set rfl ?_)))) ⟨rfl, rfl, by simp only; omega, hgo, by simp only; omega, prodS_mem hrm, (by simp only; rw [ep]; exact hon), fun b hb => ?_, hfu.trans0 (hF8.trans0 hfz)⟩ (by simp only; omega)
      have := hkn b hb
      omega
    obtain ⟨adr, csr, rfl, ⟨sr, rfl, hsr⟩, hcr⟩ := Sl.at hslv (fun x cs h => stR.len h) hlt2
    rw [List.nil_append] at hsr
    obtain ⟨ar, cr, rfl, _⟩ := hsr.slice
    obtain ⟨ysr, hsrcR, hoffR, hrwsR⟩ := hsr.rows
    have hbR := hrm rows[i2] (by simp)
    rw [Nat.mul_one] at hcr
    have hst := prodS_take (l := l) hlt2
    generalize hrr : rows[i2] = r at hsr hsrcR hrwsR hbR hcr hst
    refine rx ?_
    refine c_loopK 14 [8, 10, 11] (σ := Nat × Value) (fun s g y => g 10 = .int .i64 (s.1 : Nat) ∧ g 8 = s.2 ∧ s.1 ≤ l.length ∧ OwnR y 31 1 (plusR RowR S1) (prodS (rows.take i2) l ++ (l.take s.1).map fun v => r ++ [v]) s.2 ∧ (∀ b ∈ blks s.2, u.heap.size ≤ b) ∧ Fr [] u y) (fun s => l.length - s.1) (0, _) ⟨rfl, rfl, Nat.zero_le _, (by simpa using hon), hkn, hfz⟩ ?_
    rintro ⟨j2, vm⟩ g3 y ⟨h10, h8', hj2, hom, hkm, hfy⟩
    simp only at h10 h8' hj2 hom hkm
    obtain ⟨am, cm, rfl⟩ := hom.slice
    rw [eq_upd h8', eq_upd h10]
    have hb8y := hb8.tr0 hfy
    by_cases hlt3 : j2 < l.length
    case neg =>
      have et : l.take j2 = l := List.take_of_length_le (by omega)
      have ep : prodS (rows.take (i2 + 1)) l = prodS (rows.take i2) l ++ (l.take j2).map fun v => r ++ [v] := by rw [et, hst]
      refine rx ?_
      exact q_roundK (i2 + 1, .slice am (prodS (rows.take i2) l ++ (l.take j2).map fun v => r ++ [v]).length cm) (by (repeat (first | exact Keep.mrg _ _ _ _ | (refine Keep.hi rfl ?_) | (refine Keep.one rfl ?_) | exact Keep.all rfl | (refine Keep.inn rfl ?_) | (refine Keep.set rfl ?_)))) ⟨rfl, rfl, by simp only; omega, (by simp only; rw [ep]; exact hom), hkm, hfy⟩ (by simp only; omega)
    obtain ⟨adl, csl, rfl, ⟨sj, rfl, hsj⟩, hcj⟩ := Sl.at hlvV.sl VR.len hlt3
    have hcjy := hcj.tr0 hfy
    have hcry0 : y.cell? (adr.add i2) = some (.slice ar r.length cr) := by have := (hcr.tr0 hfy).get (j := 0) rfl; rw [add0] at this; exact this
    have hlm := hom.lt
    have hfyS : Fr S1 u y := hfy.mono (by simp)
    have hml : (prodS (rows.take i2) l ++ (l.take j2).map fun v => r ++ [v]).length ≤ 2097152 := by
      rw [List.length_append, prodS_len, List.length_map]
      have h1 : (rows.take i2).length ≤ rows.length := by simp; omega
      have h2 : (l.take j2).length ≤ l.length := by simp; omega
      have h3 := Nat.mul_le_mul h1 (Nat.le_refl l.length)
      omega
    refine rx ?_
    rw [Nat.mul_one]
    refine s_load rfl hcry0 ?_
    refine s_appR (R := oldR VR u S1) (l := []) (al := r) (OwnR.nil _ _ _ _) stO rfl rfl (hsrcR.tr0 hfy) (hrwsR.imp fun x cs _ h => ⟨by simp [blks_nil], h, hfyS⟩) rfl (by unfold maxLen; simp; omega) (by simp; omega) (fun vr y1 hor hfr hkr _ => ?_)
    have hfr0 : Fr [] y y1 := Fr.ofNil hfr
    have hkr' : ∀ b ∈ blks vr, y.heap.size ≤ b := fun b hb => by
      rcases hkr b hb with h | h
      · exact fresh0 h
      · exact h
    have hb8y1 := hb8y.tr0 hfr0
    have hcj1 := hcjy.tr0 hfr0
    have hszy := hfy.size
    have hszy1 := hfr0.size
    rw [List.nil_append] at hor
    refine rx ?_
    refine s_pushA (R := oldR VR u S1) (a := l[j2]) (cs := vc l[j2] sj) hor stO rfl rfl rfl ⟨fun b hb => .inr (by have := hkr' b hb; omega), ⟨sj, rfl, hsj⟩, hfyS.trans0 hfr0⟩ rfl rfl rfl (by unfold maxLen; omega) (by omega) (fun vq y2 hoq2 hfq hkq => ?_)
    have hfq0 : Fr [] y y2 := hfr0.trans hfq (fun b hb => .inr (hkr' b hb))
    have hkq' : ∀ b ∈ blks vq, y.heap.size ≤ b := fun b hb => by
      rcases hkq b hb with h | h
      · exact hkr' b h
      · omega
    have hszy2 := hfq0.size
    obtain ⟨aq, cq, rfl⟩ := hoq2.slice
    have hrow : plusR RowR S1 y2 (blks (.slice am (prodS (rows.take i2) l ++ (l.take j2).map fun v => r ++ [v]).length cm)) (r ++ [l[j2]]) [.slice aq (r ++ [l[j2]]).length cq] := by
      refine ⟨_, rfl, OwnR.vsO hoq2 (by simp; omega) (fun b hb hm => ?_) (fun b hb => ?_)⟩
      · have h1 := hkq' b hb
        rcases List.mem_append.1 hm with h | h
        · have := hlm b h; omega
        · have := hSb1 b h; omega
      · rcases List.mem_append.1 hb with h | h
        · exact .inr (hkm b h)
        · exact .inl h
    refine rx ?_
    refine s_pushA (R := plusR RowR S1) (a := r ++ [l[j2]]) (cs := [.slice aq (r ++ [l[j2]]).length cq]) (hom.tr0 stR hfq0) stR rfl rfl rfl hrow rfl rfl rfl (by unfold maxLen; omega) (by omega) (fun vz y3 hoz hfz3 hkz => ?_)
    refine rx ?_
    refine q_roundK (j2 + 1, vz) (by (repeat (first | exact Keep.mrg _ _ _ _ | (refine Keep.hi rfl ?_) | (refine Keep.one rfl ?_) | exact Keep.all rfl | (refine Keep.inn rfl ?_) | (refine Keep.set rfl ?_)))) ⟨rfl, rfl, by simp only; omega, ?_, fun b hb => ?_, (hfy.trans0 hfq0).trans hfz3 (fun b hb => .inr (hkm b hb))⟩ (by simp only; omega)
    · simp only
      rw [List.take_succ_eq_append_getElem hlt3, List.map_append, ← List.append_assoc]
      exact hoz
    · rcases hkz b hb with h | h
      · exact hkm b h
      · omega
  have hN : seqN ls x = some (srtV (rows.map (madeV x))) := by unfold seqN; rw [hgo, List.drop_eq_nil_of_le (by omega), seqGo]; rfl
  rw [hN]
  have hslv := ho.sl stR
  have stO : Stab (oldR VR u0 S1) 4 := oldStab vrStab
  have hszu := hFu.size
  refine rx ?_
  refine c_loopK 14 [12, 13] (σ := Nat × Value) (fun s g z => g 13 = .int .i64 (s.1 : Nat) ∧ g 12 = s.2 ∧ s.1 ≤ rows.length ∧ OwnR z 33 4 (oldR VR u0 S1) ((rows.take s.1).map (madeV x)) s.2 ∧ (∀ b ∈ blks s.2, u0.heap.size ≤ b) ∧ Fr [] u0 z) (fun s => rows.length - s.1) (0, .slice none 0 0) ⟨rfl, rfl, Nat.zero_le _, OwnR.nil _ _ _ _, fun b hb => fresh0 hb, Fr.refl _ _⟩ ?_
  rintro ⟨j, vo⟩ g2 z ⟨h13, h12, hj, hoo, hko, hfz⟩
  simp only at h13 h12 hj hoo hko
  obtain ⟨ao, co, rfl⟩ := hoo.slice
  rw [eq_upd h12, eq_upd h13]
  have hb1z := hb1u.tr0 hfz
  have hb2z := hb2u.tr0 hfz
  have hszz := hfz.size
  have hol : ((rows.take j).map (madeV x)).length ≤ 1024 := by simp; omega
  by_cases hlt2 : j < rows.length
  case pos =>
    obtain ⟨adr, csr, rfl, ⟨sr, rfl, hsr⟩, hcr⟩ := Sl.at hslv (fun x cs h => stR.len h) hlt2
    rw [List.nil_append] at hsr
    obtain ⟨ar, cr, rfl, _⟩ := hsr.slice
    have hrz : VS z [] rows[j] (.slice ar rows[j].length cr) := (hsr.tr0 hfz).any
    refine rx ?_
    (refine d_begin (fun y => Fr [] u0 y) (by kernel_rfl) rfl ?_)
    have hz0 : Fr [] z z.drew := Fr.drew _ _
    have hS0 : Fr [] u0 z.drew := hfz.trans0 hz0
    ((first | refine d_tx 0 hS0 ?_ | refine d_ty 0 hS0 ?_ | refine d_tn 0 hS0 ?_); (first | refine d_tx 1 hS0 ?_ | refine d_ty 1 hS0 ?_ | refine d_tn 1 hS0 ?_); (first | refine d_tx 2 hS0 ?_ | refine d_ty 2 hS0 ?_ | refine d_tn 2 hS0 ?_); (first | refine d_tx 3 hS0 ?_ | refine d_ty 3 hS0 ?_ | refine d_tn 3 hS0 ?_); (first | refine d_tx 4 hS0 ?_ | refine d_ty 4 hS0 ?_ | refine d_tn 4 hS0 ?_))
    (apply d_take (i := 5); exact rfl; kernel_rfl; kernel_rfl; kernel_rfl; (intro u hu; exact (r_load rfl (by have h := (hcr.tr0 hu).get (j := 0) rfl; rw [add0] at h; exact h))); exact hS0)
    refine d_one (i := 6) rfl (by kernel_rfl) ?_
    refine s_call (made14 x rows[j] _ _ _ _ _ (.slice ar rows[j].length cr) _ (hrz.tr0 hz0)) rfl ?_
    rintro _ y1 ⟨rfl, hf2⟩
    refine ⟨_, rfl, ?_⟩
    have hT1 := hS0.trans0 hf2
    refine wpList_nil (q_held hT1 ?_)
    refine d_one (i := 7) rfl (by kernel_rfl) ?_
    refine s_buildS (vc (madeV x rows[j]) (.slice ar rows[j].length cr)) rfl rfl rfl rfl (fun y2 ho2 hf3 hs3' => ?_)
    have hT2 := hT1.trans0 hf3
    refine wpList_nil (q_held hT2 ?_)
    refine d_one (i := 8) rfl (by kernel_rfl) ?_
    have hrow : oldR VR u0 S1 y2 (blks (.slice ao ((rows.take j).map (madeV x)).length co)) (madeV x rows[j]) (vc (madeV x rows[j]) (.slice ar rows[j].length cr)) := ⟨fun b hb => .inr (hko b hb), ⟨_, rfl, by rw [madeV_kids]; exact hsr⟩, hT2.mono (by simp)⟩
    refine s_appR (R := oldR VR u0 S1) (al := [madeV x rows[j]]) (hoo.tr0 stO ((hz0.trans0 hf2).trans0 hf3)) stO rfl rfl ho2.src (Rws.one hrow) rfl (by unfold maxLen; omega) (by omega) (fun v2 y3 ho4 hf4 hk4 _ => ?_)
    have hT3 : Fr [] u0 y3 := hT2.trans hf4 (fun b hb => .inr (hko b hb))
    refine wpList_nil (q_held hT3 ?_)
    (refine d_one (i := 9) rfl (by kernel_rfl) ?_; refine rx ?_; refine q_held hT3 ?_)
    (refine d_done (by kernel_rfl) ?_)
    have hsz2 := hT2.size
    refine rx ?_
    refine q_roundK (j + 1, v2) (by (repeat (first | exact Keep.mrg _ _ _ _ | (refine Keep.hi rfl ?_) | (refine Keep.one rfl ?_) | exact Keep.all rfl | (refine Keep.inn rfl ?_) | (refine Keep.set rfl ?_)))) ⟨rfl, rfl, by simp only; omega, ?_, fun b hb => ?_, hT3⟩ (by simp only; omega)
    · simp only
      rw [List.take_succ_eq_append_getElem hlt2, List.map_append]
      exact ho4
    · rcases hk4 b hb with h | h
      · exact hko b h
      · omega
  have et : rows.take j = rows := List.take_of_length_le (by omega)
  have hSu : ∀ b ∈ S1, b < u0.heap.size := fun b hb => by have := hSb1 b hb; omega
  have hvs := OwnR.vsN hoo (by omega) hko hSu
  refine rx ?_
  refine s_call (sortR ((rows.take j).map (madeV x)) _ z S1 hvs (by omega)) rfl ?_
  rintro _ z1 ⟨v3, rfl, ho5, hk5, hf5⟩
  refine ⟨_, rfl, ?_⟩
  have hvs5 := OwnR.vsN ho5 (by have := srtV_len ((rows.take j).map (madeV x)); omega) hk5 (fun b hb => by have := hSu b hb; omega)
  rw [et] at hvs5
  obtain ⟨a5, c5, rfl, _⟩ := hvs5.slice
  have hb2y := hb2z.tr0 hf5
  have hszz1 := hf5.size
  refine rx ?_
  refine s_build (lc (some (srtV (rows.map (madeV x)))) (.slice a5 (srtV (rows.map (madeV x))).length c5)) rfl ?_
  refine s_storeAggB rfl rfl hb2y (lc1 rfl) rfl rfl (fun z2 hbz hfz2 hsz => ?_)
  have hFz2 : Fr [] w z2 := ((hFu.trans0 hfz).trans0 hf5).trans hfz2 (by simp; omega)
  refine rx ?_
  refine retc rfl rfl (AggT.load _ (lc (some (srtV (rows.map (madeV x)))) (.slice a5 (srtV (rows.map (madeV x))).length c5)) rfl (fun j x hx => by rw [add_lit]; exact hbz.cell (by simpa using hx))) ⟨_, rfl, ?_, hFz2⟩
  have h1 := hvs5.tr (hfz2.mono (by rw [hS1]; simp))
  exact h1.mono (fun b hb => .inl (by rw [hS1]; simp [hb]))
end Go.Proofs.YtpochcchekoonaaGreat
