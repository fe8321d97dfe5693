/-
  Package walk: product.
-/
import Derived.Test.YtpochcchekoonaaGreatA4
namespace Go.Proofs.YtpochcchekoonaaGreat
open Go.Rf Go.RowKit
set_option linter.unusedVariables false
set_option linter.unusedSimpArgs false
attribute [local irreducible] Code.wp wpList Exit.then Exit.inBlock bodyPost A Calls execOp Addr.add
theorem fill_back {z ys cs : List Value} {r m : Nat} (hz : z.length = m) : (zeros z (r + 1) ++ ys).take (r * m) ++ cs ++ (zeros z (r + 1) ++ ys).drop (r * m + m) = zeros z r ++ (cs ++ ys) := by
  have h1 : (zeros z r).length = r * m := by rw [zeros_len, hz]
  have h2 : (zeros z r ++ z).length = r * m + m := by rw [List.length_append, h1, hz]
  rw [zeros_snoc, ← h2, List.drop_left, List.append_assoc, List.append_assoc, ← h1, List.take_left]
theorem take_set_lt {α : Type} {l : List α} {i j : Nat} {v : α} (h : j < i) (hj : j < l.length) : (l.set i v)[j]? = l[j]? := by rw [List.getElem?_set_ne (by omega)]
theorem seqN_some {ls : List (Option (List V))} {x : Nd} {rows : List (List V)} (hs : ∀ l, some l ∈ ls → Srt l) (h : seqGo ls x.kids [[]] = some rows) : seqN ls x = some (rows.map (madeV x)) := by rw [seqN_rows hs, h]; rfl
theorem seqN_none {ls : List (Option (List V))} {x : Nd} (h : seqGo ls x.kids [[]] = none) : seqN ls x = none := by unfold seqN; rw [h]; rfl

set_option maxHeartbeats 16000000 in
theorem productP (t : List Nd) (i : Nat) (hi : i ≤ t.length) (H : ∀ j < i, OfC t j) (x : Nd) (hok : NdOk x) (hr : ∀ k ∈ x.kids, 0 ≤ k ∧ k < i) (pn : Addr) (S : List Nat) (sn : Value) (b K L M : Nat) (u : World) (kn : List Bool)
    (hSb : ∀ y ∈ S, y < u.heap.size) (hset : SetK t S sn b K L M u kn) (ht : NS u S t sn) (hn : PN u S x pn) :
    Calls Tryz.prog 142 #[.pointer (some ⟨b, 0, none⟩), .pointer (some pn)] u fun e u' => ∃ s kn', e = .returned (.tuple #[s, .bool (!(seqN (setsT (t.take i)) x).isNone)]) ∧ VS u' S ((seqN (setsT (t.take i)) x).getD []) s ∧ SetK t S sn b K L M u' kn' ∧ Fr [K, L, M] u u' := by
  have hmem := hset.mem
  have hlk := hok.lk
  have hnlt := hn.lt
  have hn0 := hn
  obtain ⟨hpS, _, hc, ⟨sw, sl, sv, sk, sx, rfl, _, _, _, hk, _⟩⟩ := hn
  obtain ⟨ak, ck, rfl, _⟩ := hk.slice
  refine enter Tryz.func142 rfl Tryz.ntmps142 rfl ?_
  refine rx ?_
  refine s_makeS (k := x.kids.length) rfl rfl (by omega) (by unfold maxLen; omega) (fun w1 ho1 hf1 hs1 => ?_)
  obtain ⟨G, hG⟩ : ∃ G, G = u.heap.size := ⟨_, rfl⟩
  rw [← hG] at ho1 ⊢
  have hbG := ho1.blk
  obtain ⟨S1, hS1⟩ : ∃ S1, S1 = G :: S := ⟨_, rfl⟩
  have hsub1 : ∀ y ∈ S1, y ∈ S ∨ u.heap.size ≤ y := fun y hy => by
    rw [hS1] at hy
    rcases List.mem_cons.1 hy with h | h
    · right; omega
    · exact .inl h
  have hSS1 : ∀ y ∈ S, y ∈ S1 := fun y hy => by rw [hS1]; simp [hy]
  have hSb1 : ∀ y ∈ S1, y < w1.heap.size := fun y hy => by
    rcases hsub1 y hy with h | h
    · have := hSb y h; omega
    · rw [hS1] at hy
      rcases List.mem_cons.1 hy with h | h
      · omega
      · have := hSb y h; omega
  have hset1 : SetK t S1 sn b K L M w1 kn := (hset.mono hsub1 ⟨hSS1 _ hmem.1, hSS1 _ hmem.2.1, hSS1 _ hmem.2.2.1, hSS1 _ hmem.2.2.2⟩).tr0 hf1
  have ht1 : NS w1 S1 t sn := (ht.mono hsub1).tr0 hf1
  have hk1 : IS w1 S1 x.kids (.slice ak x.kids.length ck) := (hk.mono hsub1).tr0 hf1
  have hc1 := hc.tr0 hf1
  have hpS1 : pn.block ∉ S1 := fun h => by
    rcases hsub1 _ h with h | h
    · exact hpS h
    · omega
  have hKLM : ∀ y ∈ [K, L, M], y ∈ S1 := by simp; exact ⟨hSS1 _ hmem.2.1, hSS1 _ hmem.2.2.1, hSS1 _ hmem.2.2.2⟩
  have hGKLM : G ∉ [K, L, M] := by
    intro h
    have := hset.lt
    simp at h
    omega
  have hn1 : PN w1 S1 x pn := (hn0.mono hsub1).tr0 hf1
  generalize hls : setsT (t.take i) = ls
  have hsrts : ∀ l, some l ∈ ls → Srt l := fun l hl => by rw [← hls] at hl; exact setsT_srt hl
  refine rx ?_
  refine c_loopK 16 [7, 8, 9, 10, 11] (σ := Nat × List (List V) × List Value × List Bool) (fun s g z => g 25 = .slice ak x.kids.length ck ∧ g 26 = .int .i64 x.kids.length ∧ g 27 = .int .i64 (s.1 : Nat) ∧ g 7 = .int .i64 ((prodA s.2.1).length : Nat) ∧ s.1 ≤ x.kids.length ∧ s.2.1.length = s.1 ∧ (prodA s.2.1).length ≤ 1024 ∧ seqGo ls x.kids [[]] = seqGo ls (x.kids.drop s.1) (prodA s.2.1) ∧ s.2.2.1.length = x.kids.length ∧ Blk z G s.2.2.1 31 ∧
      (∀ j (h : j < s.2.1.length), ∃ v, s.2.2.1[j]? = some v ∧ VS z S1 s.2.1[j] v) ∧ SetK t S1 sn b K L M z s.2.2.2 ∧ Fr (G :: [K, L, M]) w1 z)
    (fun s => x.kids.length - s.1) (0, [], zeros [.slice none 0 0] x.kids.length, kn) ⟨rfl, rfl, rfl, rfl, Nat.zero_le _, rfl, by simp [prodA], rfl, by rw [zeros_len]; simp, hbG, fun j h => by simp at h, hset1, Fr.refl _ _⟩ ?_
  rintro ⟨j, gl, ws, kn1⟩ g z ⟨h25, h26, h27, h7, hj, hgl, hpl, hgo, hwl, hbz, hws, hs1, hfz⟩
  simp only at h27 h7 hj hgl hpl hgo hwl hbz hws hs1
  rw [eq_upd h7, eq_upd h25, eq_upd h26, eq_upd h27]
  have hszz := hfz.size
  have hfzS : Fr S1 w1 z := hfz.mono (fun y hy => by
    rcases List.mem_cons.1 hy with h | h
    · left; rw [h, hS1]; simp
    · exact .inl (hKLM y h))
  have hSz : ∀ y ∈ S1, y < z.heap.size := fun y hy => by have := hSb1 y hy; omega
  have hFuz : Fr [K, L, M] u z := (hf1.mono (by simp)).trans hfz (fun y hy => by
    rcases List.mem_cons.1 hy with h | h
    · right; omega
    · exact .inl h)
  by_cases hlt : j < x.kids.length
  case pos =>
    obtain ⟨ad, rfl, hcell⟩ := Ls.at (hk1.tr hfzS) hlt
    have hrk := hr x.kids[j] (by simp)
    obtain ⟨kk, hkk⟩ : ∃ kk : Nat, x.kids[j] = (kk : Int) := ⟨x.kids[j].toNat, by omega⟩
    have hki : kk < i := by omega
    rw [hkk] at hcell
    have hla : lstAt ls x.kids[j] = sT t kk := by rw [hkk, ← hls]; exact lstAt_eq hki (by omega)
    rw [seqGo_drop hlt, hla] at hgo
    refine rx ?_
    rw [Nat.mul_one]
    refine s_load rfl hcell ?_
    refine rx ?_
    refine s_call (H kk hki S1 sn b K L M z kn1 hSz hs1 (ht1.tr hfzS)) rfl ?_
    rintro _ z1 ⟨s, kn2, rfl, hvs, hs2, hf2⟩
    refine ⟨_, rfl, ?_⟩
    have hlen := sT_len (t := t) (k := kk) (by omega)
    generalize hoq : sT t kk = o at hgo hvs hlen
    have hfz1 : Fr (G :: [K, L, M]) w1 z1 := hfz.trans hf2 (fun y hy => .inl (by simp at hy ⊢; omega))
    have hFuz1 : Fr [K, L, M] u z1 := hFuz.trans hf2 (fun y hy => .inl hy)
    have hback : SetK t S sn b K L M z1 kn2 := hs2.mono (fun y hy => .inl (hSS1 y hy)) hmem
    cases o with
    | none =>
      rw [seqN_none hgo]
      refine rx ?_
      (apply ret2; exact rfl; (conv => lhs; whnf); (conv => lhs; whnf))
      exact ⟨_, _, rfl, VS.nil _ _, hback, hFuz1⟩
    | some l =>
    simp only [Option.getD_some] at hvs hlen
    obtain ⟨a1, c1, rfl, _⟩ := hvs.slice
    have hmul : ((prodA gl).length : Int) * (l.length : Int) ≤ 1048576 := by
      have := Nat.mul_le_mul hpl hlen
      omega
    have hmul0 : 0 ≤ ((prodA gl).length : Int) * (l.length : Int) := by rw [← Int.natCast_mul]; omega
    by_cases hbig : 1024 < (prodA gl).length * l.length
    · simp only [if_pos hbig] at hgo
      rw [seqN_none hgo]
      refine rx ?_
      (apply ret2; exact rfl; (conv => lhs; whnf); (conv => lhs; whnf))
      exact ⟨_, _, rfl, VS.nil _ _, hback, hFuz1⟩
    simp only [if_neg hbig] at hgo
    have hbz1 := hbz.tr hf2 hGKLM
    have hpr := prodA_snoc gl l
    have hpl2 := prodS_len (prodA gl) l
    rw [← hpr] at hpl2 hgo
    refine rx ?_
    rw [add_lit, Nat.zero_add, Nat.mul_one]
    refine s_storeBj rfl rfl rfl hbz1 (by omega) (fun z2 hbz2 hf3 hs3 => ?_)
    have hSG : ∀ y ∈ [G], y ∈ S1 := by rw [hS1]; simp
    have hd := hset.lt
    refine rx ?_
    refine q_roundK (j + 1, gl ++ [l], ws.set j (.slice a1 l.length c1), kn2) (by (repeat (first | exact Keep.mrg _ _ _ _ | (refine Keep.hi rfl ?_) | (refine Keep.one rfl ?_) | exact Keep.all rfl | (refine Keep.inn rfl ?_) | (refine Keep.set rfl ?_)))) ⟨rfl, rfl, rfl, ?_, by simp only; omega, by simp [hgl], by simp only; omega, hgo, by simp [hwl], hbz2, fun q hq => ?_, hs2.old hf3 (fun y hy => .inl (hSG y hy)) (by simp; omega), hfz1.trans hf3 (by simp)⟩ (by simp only; omega)
    · show Value.int .i64 (((prodA gl).length : Int) * (l.length : Int)) = _
      rw [hpl2, Int.natCast_mul]
    · simp only [List.length_append, List.length_cons, List.length_nil] at hq
      by_cases e : q = j
      · subst e
        refine ⟨_, List.getElem?_set_self (by omega), ?_⟩
        have : (gl ++ [l])[q] = l := by rw [List.getElem_append_right (by omega)]; simp
        rw [this]
        exact hvs.tr (hf3.mono (fun y hy => .inl (hSG y hy)))
      · obtain ⟨v, h1, h2⟩ := hws q (by omega)
        refine ⟨v, by rw [List.getElem?_set_ne (by omega)]; exact h1, ?_⟩
        have : (gl ++ [l])[q] = gl[q]'(by omega) := by rw [List.getElem_append_left]
        rw [this]
        exact (h2.tr (hf2.mono (fun y hy => .inl (hKLM y hy)))).tr (hf3.mono (fun y hy => .inl (hSG y hy)))
  have hgo' : seqGo ls x.kids [[]] = some (prodA gl) := by rw [hgo, List.drop_eq_nil_of_le (by omega), seqGo]
  rw [seqN_some hsrts hgo']
  have hjl : j = x.kids.length := by omega
  have hback : SetK t S sn b K L M z kn1 := hs1.mono (fun y hy => .inl (hSS1 y hy)) hmem
  have hnz : PN z S1 x pn := hn1.tr hfzS
  have stP : Stab (plusR VR S1) 4 := plusStab vrStab
  refine rx ?_
  refine s_make0 (k := (prodA gl).length) rfl rfl (by omega) (by unfold maxLen; omega) (fun z1 ho2 hf2 hs2 => ?_)
  have hoR : OwnR z1 33 4 (plusR VR S1) [] (.slice (some ⟨z.heap.size, 0, none⟩) 0 (prodA gl).length) := ⟨[], ho2, .nil⟩
  refine rx ?_
  refine c_loopK 16 [12, 13, 14, 15] (σ := Nat × Value) (fun s g y => g 53 = .int .i64 ((prodA gl).length : Nat) ∧ g 54 = .int .i64 (s.1 : Nat) ∧ g 12 = s.2 ∧ s.1 ≤ (prodA gl).length ∧ OwnR y 33 4 (plusR VR S1) (((prodA gl).take s.1).map (madeV x)) s.2 ∧ (∀ q ∈ blks s.2, z.heap.size ≤ q) ∧ Fr [] z y)
    (fun s => (prodA gl).length - s.1) (0, _) ⟨rfl, rfl, rfl, Nat.zero_le _, (by simpa using hoR), by simp [blks, Value.ownBlock], hf2⟩ ?_
  rintro ⟨k, sv5⟩ g2 y ⟨h53, h54, h12, hkl, ho, hkv, hfy⟩
  simp only at h54 h12 hkl ho hkv
  obtain ⟨a5, c5, rfl⟩ := ho.slice
  rw [eq_upd h12, eq_upd h53, eq_upd h54]
  have hol : (((prodA gl).take k).map (madeV x)).length ≤ 1024 := by simp; omega
  by_cases hlt2 : k < (prodA gl).length
  case neg =>
    have et : (prodA gl).take k = prodA gl := List.take_of_length_le (by omega)
    rw [et] at ho hol hkv ⊢
    refine rx ?_
    (apply ret2; exact rfl; (conv => lhs; whnf); (conv => lhs; whnf))
    refine ⟨_, _, rfl, ?_, hback.tr0 hfy, hFuz.trans0 hfy⟩
    have := vsP ho (by omega) (fun q hq hm => by have := hkv q hq; have := hSz q hm; omega)
    exact this.mono (fun q hq => .inl (hSS1 q hq))
  have hgll : gl.length = x.kids.length := by omega
  refine rx ?_
  refine s_makeS (k := x.kids.length) rfl rfl (by omega) (by unfold maxLen; omega) (fun y1 ho3 hf3 hs3 => ?_)
  obtain ⟨B, hB⟩ : ∃ B, B = y.heap.size := ⟨_, rfl⟩
  rw [← hB] at ho3 ⊢
  have hszy := hfy.size
  have hfy1 := hfy.trans0 hf3
  refine rx ?_
  refine c_loopK 55 [13, 15] (σ := Nat × Nat × List V × List Value) (fun s g q => g 15 = .int .i64 ((s.1 : Int) - 1) ∧ g 13 = .int .i64 (s.2.1 : Nat) ∧ s.1 ≤ gl.length ∧ (∃ h : s.2.1 < (prodA (gl.take s.1)).length, (prodA gl)[k] = (prodA (gl.take s.1))[s.2.1] ++ s.2.2.1) ∧ s.2.2.1.length + s.1 = x.kids.length ∧ s.2.1 ≤ k ∧
      Own q 33 4 (.slice (some ⟨B, 0, none⟩) x.kids.length x.kids.length) x.kids.length (zeros [.int .i64 0, .int .i64 0, .string .empty, .slice none 0 0] s.1 ++ s.2.2.2) ∧ Rws (VR q (B :: (blks (.slice a5 (((prodA gl).take k).map (madeV x)).length c5) ++ S1))) s.2.2.1 s.2.2.2 ∧ Fr [B] y1 q)
    (fun s => s.1) (x.kids.length, k, [], []) ⟨rfl, rfl, by simp only; omega, ⟨by simp only; rw [List.take_of_length_le (by omega)]; exact hlt2, by simp only [List.append_nil]; congr 1; rw [List.take_of_length_le (by omega)]⟩, by simp, by simp, by simpa using ho3, .nil, Fr.refl _ _⟩ ?_
  rintro ⟨r, kk, sfx, ys⟩ g3 q ⟨h15, h13, hrl, ⟨hkk, hrow⟩, hsl, hkb, hoq, hrws, hfq⟩
  simp only at h15 h13 hrl hkk hrow hsl hkb hoq hrws
  have hfzq : Fr [] z q := hfy1.trans hfq (by simp; omega)
  have hbGq : Blk q G ws 31 := hbz.tr0 hfzq
  have hyl := Rws.len (k := 4) VR.len hrws
  have hltv := ho.lt
  have hszq := hfq.size
  cases r with
  | zero =>
    rw [eq_upd h13, eq_upd h15]
    have e0 : (prodA gl)[k] = sfx := by
      rw [hrow]
      have : prodA (gl.take 0) = [[]] := rfl
      simp only [this] at hkk ⊢
      have : kk = 0 := by simpa using hkk
      subst this
      rfl
    simp only [zeros, List.nil_append] at hoq
    have hvs : VS q (blks (.slice a5 (((prodA gl).take k).map (madeV x)).length c5) ++ S1) (prodA gl)[k] (.slice (some ⟨B, 0, none⟩) x.kids.length x.kids.length) := by
      rw [e0]
      have hl0 : sfx.length = x.kids.length := by omega
      refine VS.of (by omega) (by rw [hl0]; exact hoq.src) (fun ad n c e hp hm => ?_) (hrws.imp fun x cs _ h => vrStab.mono h (fun q hq => .inl (List.mem_cons_of_mem _ hq)))
      simp only [Value.slice.injEq, Option.some.injEq] at e
      have hb := congrArg Addr.block e.1
      simp only at hb
      rcases List.mem_append.1 hm with h | h
      · have := hltv _ h; omega
      · have := hSz _ h; omega
    have hoy : OwnR q 33 4 (plusR VR S1) (((prodA gl).take k).map (madeV x)) (.slice a5 (((prodA gl).take k).map (madeV x)).length c5) := ho.tr0 stP (hf3.trans hfq (by simp; omega))
    refine rx ?_
    refine s_call (madeP x pn (prodA gl)[k] _ q ((hnz.tr0 hfzq).mono (by simp)) hvs.any) rfl ?_
    rintro _ q1 ⟨rfl, hf4⟩
    refine ⟨_, rfl, ?_⟩
    have hrow2 : plusR VR S1 q1 (blks (.slice a5 (((prodA gl).take k).map (madeV x)).length c5)) (madeV x (prodA gl)[k]) (vc (madeV x (prodA gl)[k]) (.slice (some ⟨B, 0, none⟩) x.kids.length x.kids.length)) := ⟨_, rfl, by rw [madeV_kids]; exact hvs.tr0 hf4⟩
    refine rx ?_
    refine s_pushA (R := plusR VR S1) (a := madeV x (prodA gl)[k]) (cs := vc (madeV x (prodA gl)[k]) (.slice (some ⟨B, 0, none⟩) x.kids.length x.kids.length)) (hoy.tr0 stP hf4) stP rfl rfl rfl hrow2 rfl rfl rfl (by unfold maxLen; omega) (by omega) (fun v2 q2 ho4 hf5 hk4 => ?_)
    refine rx ?_
    refine q_roundK (k + 1, v2) (by (repeat (first | exact Keep.mrg _ _ _ _ | (refine Keep.hi rfl ?_) | (refine Keep.one rfl ?_) | exact Keep.all rfl | (refine Keep.inn rfl ?_) | (refine Keep.set rfl ?_)))) ⟨rfl, rfl, rfl, by simp only; omega, ?_, fun p hp => ?_, (hfzq.trans0 hf4).trans hf5 (fun p hp => .inr (hkv p hp))⟩ (by simp only; omega)
    · simp only
      rw [List.take_succ_eq_append_getElem hlt2, List.map_append]
      exact ho4
    · rcases hk4 p hp with h | h
      · exact hkv p h
      · have := hf4.size; have := hfzq.size; omega
  | succ r =>
    have hrl' : r < gl.length := by omega
    obtain ⟨h1, h2, h3⟩ := prodA_get hrl' hkk
    obtain ⟨wv, hwv, hwvs⟩ := hws r hrl'
    have hlr : gl[r].length ≤ 1000000000000 := hwvs.bound
    obtain ⟨aw, cw, rfl, _⟩ := hwvs.slice
    have hpos : 0 < gl[r].length := by omega
    have hcG := Cells.ofBlk hbz
    obtain ⟨adw, csw, rfl, ⟨sxw, rfl, hxw⟩, hcw⟩ := Sl.at hwvs.sl VR.len h2
    have hcwq := hcw.tr0 hfzq
    have hwi : (ws)[r]? = some (.slice (some adw) gl[r].length cw) := hwv
    have hkkm : ((kk : Int)).tmod (gl[r].length : Int) = ((kk % gl[r].length : Nat) : Int) := by rw [Int.tmod_eq_emod_of_nonneg (by omega)]; simp
    have hkkd : ((kk : Int)).tdiv (gl[r].length : Int) = ((kk / gl[r].length : Nat) : Int) := by rw [Int.tdiv_eq_ediv_of_nonneg (by omega)]; simp
    have h15' := h15.trans (show Value.int .i64 (((r + 1 : Nat) : Int) - 1) = .int .i64 (r : Int) by congr 1; omega)
    rw [eq_upd h13, eq_upd h15']
    have hdle : kk / gl[r].length ≤ kk := Nat.div_le_self _ _
    have hxw1 : VS q (B :: (blks (.slice a5 (((prodA gl).take k).map (madeV x)).length c5) ++ S1)) gl[r][kk % gl[r].length].kids sxw := (hxw.mono (fun p hp => by
      rcases List.mem_cons.1 hp with h | h
      · right; omega
      · rcases List.mem_append.1 h with h | h
        · exact .inr (hkv p h)
        · exact .inl h)).tr0 hfzq
    generalize hgr : gl[r] = lr at *
    refine rx ?_
    (refine d_begin (fun y => Fr [] z y) (by kernel_rfl) rfl ?_)
    have hSq : Fr [] q q.drew := Fr.drew _ _
    have hS : Fr [] z q.drew := hfzq.trans0 hSq
    ((first | refine d_tx 0 hS ?_ | refine d_ty 0 hS ?_ | refine d_tn 0 hS ?_); (first | refine d_tx 1 hS ?_ | refine d_ty 1 hS ?_ | refine d_tn 1 hS ?_); (first | refine d_tx 2 hS ?_ | refine d_ty 2 hS ?_ | refine d_tn 2 hS ?_); (first | refine d_tx 3 hS ?_ | refine d_ty 3 hS ?_ | refine d_tn 3 hS ?_))
    (apply d_take (i := 4); exact rfl; kernel_rfl; kernel_rfl; kernel_rfl; (intro u hu; exact (r_index1 (j := r) rfl rfl rfl (by omega) rfl)); exact hS)
    (apply d_take (i := 5); exact rfl; kernel_rfl; kernel_rfl; kernel_rfl; (intro u hu; exact (r_load rfl (Cells.get (Cells.tr0 hcG hu) hwi))); exact hS)
    ((first | refine d_tx 6 hS ?_ | refine d_ty 6 hS ?_ | refine d_tn 6 hS ?_); (first | refine d_tx 7 hS ?_ | refine d_ty 7 hS ?_ | refine d_tn 7 hS ?_); (first | refine d_tx 8 hS ?_ | refine d_ty 8 hS ?_ | refine d_tn 8 hS ?_))
    (apply d_take (i := 9); exact rfl; kernel_rfl; kernel_rfl; kernel_rfl; (intro u hu; exact (r_index1 (j := r) rfl rfl rfl (by omega) rfl)); exact hS)
    (apply d_take (i := 10); exact rfl; kernel_rfl; kernel_rfl; kernel_rfl; (intro u hu; exact (r_load rfl (Cells.get (Cells.tr0 hcG hu) hwi))); exact hS)
    ((first | refine d_tx 11 hS ?_ | refine d_ty 11 hS ?_ | refine d_tn 11 hS ?_))
    (apply d_take (i := 12); exact rfl; kernel_rfl; kernel_rfl; kernel_rfl; (intro u hu; exact (r_rem rfl rfl (by omega) hkkm)); exact hS)
    (apply d_take (i := 13); exact rfl; kernel_rfl; kernel_rfl; kernel_rfl; (intro u hu; exact (r_indexAddr (j := kk % lr.length) rfl rfl rfl (by omega) rfl)); exact hS)
    (apply d_take (i := 14); exact rfl; kernel_rfl; kernel_rfl; kernel_rfl; (intro u hu; exact (r_loadC rfl (Cells.tr0 hcw hu) (by rfl))); exact hS)
    (apply d_take (i := 15); exact rfl; kernel_rfl; kernel_rfl; kernel_rfl; (intro u hu; exact (r_indexAddr (j := r) rfl rfl rfl (by omega) rfl)); exact hS)
    refine d_one (i := 16) rfl (by kernel_rfl) ?_
    have hrow1 : VR q (B :: (blks (.slice a5 (((prodA gl).take k).map (madeV x)).length c5) ++ S1)) lr[kk % lr.length] (vc lr[kk % lr.length] sxw) := ⟨sxw, rfl, hxw1⟩
    refine s_storeRowA (q := r * 4) (m := 4) (cs := vc lr[kk % lr.length] sxw) (hoq.tr0 hSq) rfl rfl rfl rfl rfl (VR.mem1 _ _ hrow1) (by omega) (fun q1 hoq1 hf4 hs4 => ?_)
    have hblk : blks (.slice (some ⟨B, 0, none⟩) x.kids.length x.kids.length) = [B] := rfl
    rw [hblk] at hf4
    rw [fill_back (m := 4) rfl] at hoq1
    have hf4q : Fr [B] q q1 := (hSq.mono (by simp)).trans hf4 (fun p hp => .inl hp)
    have hfzq1 : Fr [] z q1 := hfzq.trans hf4q (by simp; omega)
    refine wpList_nil (q_held hfzq1 ?_)
    (refine d_done (by kernel_rfl) ?_)
    have hbGq1 : Blk q1 G ws 31 := hbz.tr0 hfzq1
    have hcG1 := Cells.ofBlk hbGq1
    refine rx ?_
    rw [Nat.mul_one]
    refine s_loadC rfl hcG1 hwi ?_
    refine rx ?_
    refine q_roundK (r, kk / lr.length, lr[kk % lr.length] :: sfx, vc lr[kk % lr.length] sxw ++ ys) (by (repeat (first | exact Keep.mrg _ _ _ _ | (refine Keep.hi rfl ?_) | (refine Keep.one rfl ?_) | exact Keep.all rfl | (refine Keep.inn rfl ?_) | (refine Keep.set rfl ?_)))) ⟨rfl, rfl, by simp only; omega, ⟨h1, ?_⟩, by simp only [List.length_cons]; omega, by simp only; omega, hoq1, ?_, hfq.trans hf4q (by simp)⟩ (by simp only; omega)
    · simp only
      rw [hrow]
      rw [List.getElem?_eq_getElem hkk] at h3
      rw [Option.some.inj h3, List.append_assoc]; rfl
    · exact .cons (vrStab.tr hrow1 (hf4q.mono (by simp))) (hrws.imp fun x cs _ h => vrStab.tr h (hf4q.mono (by simp)))
end Go.Proofs.YtpochcchekoonaaGreat
