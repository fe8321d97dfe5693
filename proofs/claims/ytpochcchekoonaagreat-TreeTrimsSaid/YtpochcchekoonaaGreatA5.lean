/-
  Package walk: find, Of. Package walk: Of. Package tree: clean, parts, inRange; values.Size.
-/
import Derived.Test.YtpochcchekoonaaGreatTr
namespace Go.Proofs.YtpochcchekoonaaGreat
open Go.Rf Go.RowKit
set_option linter.unusedVariables false
set_option linter.unusedSimpArgs false
attribute [local irreducible] Code.wp wpList Exit.then Exit.inBlock bodyPost A Calls execOp Addr.add
theorem Ls.fromC {α : Type} {cf : α → Value} {w : World} {S : List Nat} {l : List α} {ao : Option Addr} {m c j : Nat} (h : Ls cf w S l (.slice ao m c)) (hj : j ≤ l.length) : Ls cf w S (l.drop j) (.slice (if c = j then ao else ao.map (·.add (j * 1))) (m - j) (c - j)) := by
  have hm : m = l.length := by obtain ⟨_, _, e, _⟩ := h.slice; simp only [Value.slice.injEq] at e; exact e.2.1
  subst hm
  obtain ⟨h1, h2⟩ := h
  have h4 := Src.cut (size := 1) h1 (by simp) hj (Nat.le_refl _)
  rw [Nat.mul_one, Nat.mul_one, List.take_of_length_le (by simp), ← List.map_drop] at h4
  rw [Nat.mul_one]
  refine ⟨by rw [List.length_drop]; exact h4, fun ad n' c' e hl hm => ?_⟩
  simp only [Value.slice.injEq] at e
  have hpos : 0 < (l.map cf).length := by rw [List.length_map, List.length_drop] at hl; rw [List.length_map]; omega
  have e1 := e.1
  split at e1
  · exact h2 ad l.length c (by rw [e1]) hpos hm
  · obtain ⟨a0, ha0, hadd⟩ := Option.map_eq_some_iff.1 e1
    subst hadd
    rw [add_block] at hm
    exact h2 a0 l.length c (by rw [ha0]) hpos hm

set_option maxHeartbeats 8000000 in
theorem findP (t : List Nd) (hok : ∀ x ∈ t, NdOk x) (i : Nat) (hi : i < t.length) (hwf : Wf t (i + 1)) (H : ∀ j < i, OfC t j) (S : List Nat) (sn : Value) (b K L M : Nat) (u : World) (kn : List Bool)
    (hSb : ∀ y ∈ S, y < u.heap.size) (hset : SetK t S sn b K L M u kn) (ht : NS u S t sn) :
    Calls Tryz.prog 127 #[.pointer (some ⟨b, 0, none⟩), .int .i64 i] u fun e u' => ∃ s kn', e = .returned (.tuple #[s, .bool (!(sT t i).isNone)]) ∧ VS u' S ((sT t i).getD []) s ∧ SetK t S sn b K L M u' kn' ∧ Fr [K, L, M] u u' := by
  obtain ⟨as_, cs_, rfl, _⟩ := ht.slice
  obtain ⟨ad, rfl, hn⟩ := NS.ptr ht hi
  have hb := hset.blk
  obtain ⟨hfo, hnm⟩ := hwf i hi (by omega)
  have hkd := formN_kind hfo
  have hkr := formN_kids hfo
  have hokx := hok t[i] (by simp)
  have hn0 := hn
  obtain ⟨hpS, _, hc, ⟨sw, sl, sv, sk, sx, rfl, _, _, _, hk, hx⟩⟩ := hn
  obtain ⟨ak, ck, rfl, hck⟩ := hk.slice
  obtain ⟨ax, cx, rfl, _⟩ := hx.slice
  rw [sT_eq hi]
  have hlk := hokx.lk
  have hnum : t[i].lo ≤ t[i].hi ∧ -4611686018427387904 ≤ t[i].lo ∧ t[i].hi ≤ 4611686018427387904 ∧ t[i].hi < t[i].lo + 1099511627776 := by
    unfold numsN at hnm
    rw [Bool.and_eq_true] at hnm
    exact of_decide_eq_true hnm.1
  generalize hX : t[i] = x at *
  generalize hpn : ad.add (i * 12) = pn at *
  refine enter Tryz.func127 rfl Tryz.ntmps127 rfl ?_
  by_cases k0 : x.kind = 0
  · have hv : setN (setsT (t.take i)) x = some [x.val] := by unfold setN; rw [if_pos k0]
    rw [hv]
    refine rx ?_
    rw [hpn]
    refine rx ?_
    refine s_buildS (vc x.val (.slice ax x.val.kids.length cx)) rfl rfl rfl rfl (fun z ho hf hs => ?_)
    refine rx ?_
    (apply ret2; exact rfl; (conv => lhs; whnf); (conv => lhs; whnf))
    refine ⟨_, _, rfl, ?_, hset.tr0 hf, hf.mono (by simp)⟩
    refine VS.of (by simp) ho.src (fun ad n c e hp hm => ?_) (Rws.one ⟨_, rfl, hx.tr0 hf⟩)
    simp only [Value.slice.injEq, Option.some.injEq] at e
    have hb := congrArg Addr.block e.1
    have := hSb _ hm
    simp only at hb
    omega
  by_cases k1 : x.kind = 1
  · by_cases hbig : 1024 ≤ x.hi - x.lo
    · have hv : setN (setsT (t.take i)) x = none := by unfold setN; rw [if_neg k0, if_pos k1, if_pos hbig]
      rw [hv]
      refine rx ?_
      rw [hpn]
      refine rx ?_
      (refine d_begin (fun y => Fr [] u y) (by kernel_rfl) rfl ?_)
      have hS : Fr [] u u.drew := Fr.drew _ _
      ((first | refine d_tx 0 hS ?_ | refine d_ty 0 hS ?_ | refine d_tn 0 hS ?_); (first | refine d_tx 1 hS ?_ | refine d_ty 1 hS ?_ | refine d_tn 1 hS ?_); (first | refine d_tx 2 hS ?_ | refine d_ty 2 hS ?_ | refine d_tn 2 hS ?_); (first | refine d_tx 3 hS ?_ | refine d_ty 3 hS ?_ | refine d_tn 3 hS ?_); (first | refine d_tx 4 hS ?_ | refine d_ty 4 hS ?_ | refine d_tn 4 hS ?_); (first | refine d_tx 5 hS ?_ | refine d_ty 5 hS ?_ | refine d_tn 5 hS ?_); (first | refine d_tx 6 hS ?_ | refine d_ty 6 hS ?_ | refine d_tn 6 hS ?_); (first | refine d_tx 7 hS ?_ | refine d_ty 7 hS ?_ | refine d_tn 7 hS ?_); (first | refine d_tx 8 hS ?_ | refine d_ty 8 hS ?_ | refine d_tn 8 hS ?_); (first | refine d_tx 9 hS ?_ | refine d_ty 9 hS ?_ | refine d_tn 9 hS ?_))
      (refine d_done (by kernel_rfl) ?_)
      refine rx ?_
      (apply ret2; exact rfl; (conv => lhs; whnf); (conv => lhs; whnf))
      exact ⟨_, _, rfl, VS.nil _ _, hset.tr0 hS, hS.mono (by simp)⟩
    obtain ⟨N, hN⟩ : ∃ N : Nat, x.hi = x.lo + N - 1 := ⟨(x.hi - x.lo + 1).toNat, by omega⟩
    have hv : setN (setsT (t.take i)) x = some (rngV x.lo N) := by unfold setN; rw [if_neg k0, if_pos k1, if_neg hbig, show (x.hi - x.lo + 1).toNat = N by omega]
    rw [hv]
    have stP : Stab (plusR VR S) 4 := plusStab vrStab
    refine rx ?_
    rw [hpn]
    refine rx ?_
    (refine d_begin (fun y => Fr [] u y) (by kernel_rfl) rfl ?_)
    have hS : Fr [] u u.drew := Fr.drew _ _
    ((first | refine d_tx 0 hS ?_ | refine d_ty 0 hS ?_ | refine d_tn 0 hS ?_); (first | refine d_tx 1 hS ?_ | refine d_ty 1 hS ?_ | refine d_tn 1 hS ?_); (first | refine d_tx 2 hS ?_ | refine d_ty 2 hS ?_ | refine d_tn 2 hS ?_); (first | refine d_tx 3 hS ?_ | refine d_ty 3 hS ?_ | refine d_tn 3 hS ?_); (first | refine d_tx 4 hS ?_ | refine d_ty 4 hS ?_ | refine d_tn 4 hS ?_); (first | refine d_tx 5 hS ?_ | refine d_ty 5 hS ?_ | refine d_tn 5 hS ?_); (first | refine d_tx 6 hS ?_ | refine d_ty 6 hS ?_ | refine d_tn 6 hS ?_); (first | refine d_tx 7 hS ?_ | refine d_ty 7 hS ?_ | refine d_tn 7 hS ?_); (first | refine d_tx 8 hS ?_ | refine d_ty 8 hS ?_ | refine d_tn 8 hS ?_); (first | refine d_tx 9 hS ?_ | refine d_ty 9 hS ?_ | refine d_tn 9 hS ?_))
    (refine d_done (by kernel_rfl) ?_)
    have hcd := hc.tr0 hS
    refine rx ?_
    refine c_loopK 9 [7, 8] (σ := Nat × Value) (fun s g z => g 8 = .int .i64 (x.lo + (s.1 : Nat)) ∧ g 7 = s.2 ∧ s.1 ≤ N ∧ OwnR z 33 4 (plusR VR S) (rngV x.lo s.1) s.2 ∧ (∀ b ∈ blks s.2, u.heap.size ≤ b) ∧ Fr [] u z) (fun s => N - s.1) (0, .slice none 0 0) ⟨congrArg (Value.int .i64) (show x.lo = x.lo + ((0 : Nat) : Int) by simp), rfl, Nat.zero_le _, OwnR.nil _ _ _ _, fun b hb => fresh0 hb, hS⟩ ?_
    rintro ⟨j, v⟩ g z ⟨h8, h7, hj, ho, hkv, hfz⟩
    simp only at h8 h7 hj ho hkv
    have hrl := rngV_len x.lo j
    obtain ⟨av, cv, rfl⟩ := ho.slice
    rw [eq_upd h7, eq_upd h8]
    have hcz := hc.tr0 hfz
    by_cases hlt : j < N
    case neg =>
      have hjN : j = N := by omega
      subst hjN
      refine rx ?_
      (apply ret2; exact rfl; (conv => lhs; whnf); (conv => lhs; whnf))
      exact ⟨_, _, rfl, vsP ho (show (rngV x.lo j).length ≤ _ by omega) (fun b hb hm => by have := hkv b hb; have := hSb b hm; omega), hset.tr0 hfz, hfz.mono (by simp)⟩
    refine rx ?_
    refine s_build (vc (numV (x.lo + j)) (.slice none 0 0)) rfl ?_
    refine s_pushA (R := plusR VR S) (a := numV (x.lo + j)) (cs := vc (numV (x.lo + j)) (.slice none 0 0)) ho stP rfl rfl rfl ⟨_, rfl, VS.nil _ _⟩ rfl rfl rfl (by unfold maxLen; omega) (by omega) (fun v4 z4 ho4 hf4 hk4 => ?_)
    refine rx ?_
    refine q_roundK (j + 1, v4) (by (repeat (first | exact Keep.mrg _ _ _ _ | (refine Keep.hi rfl ?_) | (refine Keep.one rfl ?_) | exact Keep.all rfl | (refine Keep.inn rfl ?_) | (refine Keep.set rfl ?_)))) ⟨congrArg (Value.int .i64) (show x.lo + (j : Int) + 1 = x.lo + ((j + 1 : Nat) : Int) by omega), rfl, by simp only; omega, ho4, fun b hb => ?_, hfz.trans hf4 (fun b hb => .inr (hkv b hb))⟩ (by simp only; omega)
    rcases hk4 b hb with h | h
    · exact hkv b h
    · have := hfz.size; omega
  by_cases k3 : x.kind = 3
  · have hv : setN (setsT (t.take i)) x = seqN (setsT (t.take i)) x := by unfold setN; rw [if_neg k0, if_neg k1, if_pos k3]
    rw [hv]
    refine rx ?_
    rw [hpn]
    refine rx ?_
    refine s_call (productP t i (by omega) H x hokx hkr pn S _ b K L M u kn hSb hset ht hn0) rfl ?_
    rintro _ z ⟨s, kn', rfl, hvs, hs2, hf⟩
    refine ⟨_, rfl, ?_⟩
    refine rx ?_
    (apply ret2; exact rfl; (conv => lhs; whnf); (conv => lhs; whnf))
    exact ⟨_, _, rfl, hvs, hs2, hf⟩
  have hv : setN (setsT (t.take i)) x = uniN (setsT (t.take i)) (remK x 0) := by unfold setN; rw [if_neg k0, if_neg k1, if_neg k3]
  rw [hv]
  by_cases k2 : x.kind = 2
  · have hrm : remK x 0 = x.kids := by unfold remK; rw [if_neg (by omega)]; rfl
    rw [hrm]
    refine rx ?_
    rw [hpn]
    refine rx ?_
    refine s_call (unionP t i (by omega) H x.kids hkr hlk _ S _ b K L M u kn hSb hset ht hk) rfl ?_
    rintro _ z ⟨s, kn', rfl, hvs, hs2, hf⟩
    refine ⟨_, rfl, ?_⟩
    refine rx ?_
    (apply ret2; exact rfl; (conv => lhs; whnf); (conv => lhs; whnf))
    exact ⟨_, _, rfl, hvs, hs2, hf⟩
  have k4 : x.kind = 4 := by omega
  have hrm : remK x 0 = x.kids.drop 1 := by unfold remK; rw [if_pos ⟨k4, rfl⟩]
  have hb4 := formN_bind hfo k4
  rw [hrm]
  refine rx ?_
  rw [hpn]
  refine rx ?_
  refine s_slice (j := 1) (k := x.kids.length) rfl ⟨_, rfl⟩ rfl (by omega) (by omega) (by omega) ?_
  refine s_call (unionP t i (by omega) H (x.kids.drop 1) (fun k hk => hkr k (List.mem_of_mem_drop hk)) (by rw [List.length_drop]; omega) _ S _ b K L M u kn hSb hset ht (Ls.fromC hk (by omega))) rfl ?_
  rintro _ z ⟨s, kn', rfl, hvs, hs2, hf⟩
  refine ⟨_, rfl, ?_⟩
  refine rx ?_
  (apply ret2; exact rfl; (conv => lhs; whnf); (conv => lhs; whnf))
  exact ⟨_, _, rfl, hvs, hs2, hf⟩
end Go.Proofs.YtpochcchekoonaaGreat
namespace Go.Proofs.YtpochcchekoonaaGreat
open Go.Rf Go.RowKit
set_option linter.unusedVariables false
set_option linter.unusedSimpArgs false
attribute [local irreducible] Code.wp wpList Exit.then Exit.inBlock bodyPost A Calls execOp Addr.add

set_option maxHeartbeats 8000000 in
theorem ofP (t : List Nd) (hok : ∀ x ∈ t, NdOk x) : ∀ (k : Nat), k < t.length → Wf t (k + 1) → OfC t k := by
  intro k
  induction k using Nat.strongRecOn with
  | _ k ih =>
  intro hk hwf S sn b K L M u kn hSb hset ht
  have H : ∀ j < k, OfC t j := fun j hj => ih j hj (by omega) (fun i hi hin => hwf i hi (by omega))
  obtain ⟨as_, cs_, rfl, _⟩ := ht.slice
  have hlen := hset.len
  have hmem := hset.mem
  have hd1 := hset.d1
  have hd2 := hset.d2
  refine enter Tryz.func91 rfl Tryz.ntmps91 rfl ?_
  have hkb := hset.known
  have hcK := Cells.ofBlk hkb
  have hb := hset.blk
  have hkl : k < kn.length := by omega
  refine rx ?_
  rw [Nat.mul_one]
  refine s_loadC rfl hcK (v := .bool kn[k]) (by simp [hkl]) ?_
  refine rx ?_
  refine c_cut (fun g z => g 0 = .pointer (some ⟨b, 0, none⟩) ∧ g 1 = .int .i64 (k : Nat) ∧ ∃ kn', SetK t S (.slice as_ t.length cs_) b K L M z kn' ∧ kn'[k]? = some true ∧ Fr [K, L, M] u z) ?_ ?_
  · rcases hq : kn[k] with _ | _
    case true =>
      refine rx ?_
      exact q_cut ⟨rfl, rfl, kn, hset, by simp [hkl, hq], Fr.refl _ _⟩
    refine rx ?_
    refine s_call (findP t hok k hk hwf H S _ b K L M u kn hSb hset ht) rfl ?_
    rintro _ z ⟨s, kn', rfl, hvs, hs2, hf⟩
    refine ⟨_, rfl, ?_⟩
    obtain ⟨ls, hll, hbL, hvL⟩ := hs2.lists
    obtain ⟨ms, hml, hbM, hvM⟩ := hs2.many
    have hbz := hs2.blk
    have hkz := hs2.known
    have hl2 := hs2.len
    refine rx ?_
    (refine d_begin (fun y => Fr [K, L, M] z y) (by kernel_rfl) rfl ?_)
    have hS : Fr [K, L, M] z z.drew := Fr.drew _ _
    ((first | refine d_tx 0 hS ?_ | refine d_ty 0 hS ?_ | refine d_tn 0 hS ?_); (first | refine d_tx 1 hS ?_ | refine d_ty 1 hS ?_ | refine d_tn 1 hS ?_); (first | refine d_tx 2 hS ?_ | refine d_ty 2 hS ?_ | refine d_tn 2 hS ?_))
    (apply d_take (i := 3); exact rfl; kernel_rfl; kernel_rfl; kernel_rfl; (intro u hu; exact (r_load rfl (Blk.cell (Blk.tr hbz hu (by simp; omega)) rfl))); exact hS)
    ((first | refine d_tx 4 hS ?_ | refine d_ty 4 hS ?_ | refine d_tn 4 hS ?_); (first | refine d_tx 5 hS ?_ | refine d_ty 5 hS ?_ | refine d_tn 5 hS ?_); (first | refine d_tx 6 hS ?_ | refine d_ty 6 hS ?_ | refine d_tn 6 hS ?_); (first | refine d_tx 7 hS ?_ | refine d_ty 7 hS ?_ | refine d_tn 7 hS ?_))
    (apply d_take (i := 8); exact rfl; kernel_rfl; kernel_rfl; kernel_rfl; (intro u hu; exact (r_load rfl (Blk.cell (Blk.tr hbz hu (by simp; omega)) rfl))); exact hS)
    ((first | refine d_tx 9 hS ?_ | refine d_ty 9 hS ?_ | refine d_tn 9 hS ?_); (first | refine d_tx 10 hS ?_ | refine d_ty 10 hS ?_ | refine d_tn 10 hS ?_); (first | refine d_tx 11 hS ?_ | refine d_ty 11 hS ?_ | refine d_tn 11 hS ?_); (first | refine d_tx 12 hS ?_ | refine d_ty 12 hS ?_ | refine d_tn 12 hS ?_))
    (apply d_take (i := 13); exact rfl; kernel_rfl; kernel_rfl; kernel_rfl; (intro u hu; exact (r_load rfl (Blk.cell (Blk.tr hbz hu (by simp; omega)) rfl))); exact hS)
    ((first | refine d_tx 14 hS ?_ | refine d_ty 14 hS ?_ | refine d_tn 14 hS ?_); (first | refine d_tx 15 hS ?_ | refine d_ty 15 hS ?_ | refine d_tn 15 hS ?_); (first | refine d_tx 16 hS ?_ | refine d_ty 16 hS ?_ | refine d_tn 16 hS ?_); (first | refine d_tx 17 hS ?_ | refine d_ty 17 hS ?_ | refine d_tn 17 hS ?_))
    (apply d_take (i := 18); exact rfl; kernel_rfl; kernel_rfl; kernel_rfl; (intro u hu; exact (r_index1 (j := k) rfl rfl rfl (by omega) rfl)); exact hS)
    refine d_one (i := 19) rfl (by kernel_rfl) ?_
    have hSK : ∀ x ∈ [K, L, M], x ∈ S := by simp; exact ⟨hmem.2.1, hmem.2.2.1, hmem.2.2.2⟩
    have hz0 : Fr [] z z.drew := Fr.drew _ _
    rw [add_lit, Nat.zero_add]
    refine s_storeBj (v := .bool true) rfl rfl rfl (hkz.tr0 hz0) (by rw [List.length_map]; omega) (fun z1 hk1 hf1 hs1 => ?_)
    have hS1 : Fr [K, L, M] z z1 := hS.trans hf1 (by simp)
    refine wpList_nil (q_held hS1 ?_)
    (apply d_take (i := 20); exact rfl; kernel_rfl; kernel_rfl; kernel_rfl; (intro u hu; exact (r_index1 (j := k) rfl rfl rfl (by omega) rfl)); exact hS1)
    refine d_one (i := 21) rfl (by kernel_rfl) ?_
    rw [add_lit, Nat.zero_add]
    refine s_storeBj (v := s) rfl rfl hvs.one ((hbL.tr0 hz0).tr hf1 (by simp; omega)) (by omega) (fun z2 hk2 hf2 hs2' => ?_)
    have hS2 : Fr [K, L, M] z z2 := hS1.trans hf2 (by simp)
    refine wpList_nil (q_held hS2 ?_)
    (apply d_take (i := 22); exact rfl; kernel_rfl; kernel_rfl; kernel_rfl; (intro u hu; exact (r_index1 (j := k) rfl rfl rfl (by omega) rfl)); exact hS2)
    refine d_one (i := 23) rfl (by kernel_rfl) ?_
    rw [add_lit, Nat.zero_add]
    refine s_storeBj (v := .bool (!!(sT t k).isNone)) rfl rfl rfl (((hbM.tr0 hz0).tr hf1 (by simp; omega)).tr hf2 (by simp; omega)) (by rw [List.length_map]; omega) (fun z3 hk3 hf3 hs3' => ?_)
    have hS3 : Fr [K, L, M] z z3 := hS2.trans hf3 (by simp)
    refine wpList_nil (q_held hS3 ?_)
    (refine d_done (by kernel_rfl) ?_)
    refine rx ?_
    refine q_cut ⟨rfl, rfl, kn'.set k true, ⟨by simp [hl2], hbz.tr hS3 (by simp; omega), ?_, ⟨ls.set k s, by simp [hll], hk2.tr hf3 (by simp; omega), fun i hi hki => ?_⟩, ⟨ms.set k (sT t k).isNone, by simp [hml], ?_, fun i hki => ?_⟩, hd1, hd2, hmem⟩, by simp [hl2, hk], hf.trans hS3 (fun x hx => .inl hx)⟩
    · have := (hk1.tr hf2 (by simp; omega)).tr hf3 (by simp; omega)
      rw [← List.map_set] at this
      exact this
    · by_cases e : i = k
      · subst e
        rw [List.getElem_set_self]
        exact hvs.tr (hS3.mono (fun x hx => .inl (hSK x hx)))
      · rw [List.getElem_set_ne (by omega)]
        rw [List.getElem?_set_ne (by omega)] at hki
        exact (hvL i (by simpa using hi) hki).tr (hS3.mono (fun x hx => .inl (hSK x hx)))
    · rw [Bool.not_not, ← List.map_set] at hk3
      exact hk3
    · by_cases e : i = k
      · subst e
        rw [List.getElem?_set_self (by omega)]
      · rw [List.getElem?_set_ne (by omega)] at hki ⊢
        exact hvM i hki
  rintro g z ⟨g0, g1, kn', hs2, hkt, hf⟩
  rw [eq_upd g0, eq_upd g1]
  obtain ⟨ls, hll, hbL, hvL⟩ := hs2.lists
  obtain ⟨ms, hml, hbM, hvM⟩ := hs2.many
  have hbz := hs2.blk
  have hcL := Cells.ofBlk hbL
  have hcM := Cells.ofBlk hbM
  have hvs := hvL k (by omega) hkt
  have hmk := hvM k hkt
  have hmk' : (ms.map Value.bool)[k]? = some (.bool (sT t k).isNone) := by rw [List.getElem?_map, hmk]; rfl
  have hlk : ls[k]? = some (ls[k]'(by omega)) := List.getElem?_eq_getElem (by omega)
  refine rx ?_
  (refine d_begin (fun y => Fr [] z y) (by kernel_rfl) rfl ?_)
  have hS : Fr [] z z.drew := Fr.drew _ _
  ((first | refine d_tx 0 hS ?_ | refine d_ty 0 hS ?_ | refine d_tn 0 hS ?_); (first | refine d_tx 1 hS ?_ | refine d_ty 1 hS ?_ | refine d_tn 1 hS ?_); (first | refine d_tx 2 hS ?_ | refine d_ty 2 hS ?_ | refine d_tn 2 hS ?_); (first | refine d_tx 3 hS ?_ | refine d_ty 3 hS ?_ | refine d_tn 3 hS ?_); (first | refine d_tx 4 hS ?_ | refine d_ty 4 hS ?_ | refine d_tn 4 hS ?_))
  (apply d_take (i := 5); exact rfl; kernel_rfl; kernel_rfl; kernel_rfl; (intro u hu; exact (r_index1 (j := k) rfl rfl rfl (by omega) rfl)); exact hS)
  (apply d_take (i := 6); exact rfl; kernel_rfl; kernel_rfl; kernel_rfl; (intro u hu; exact (r_load rfl (Cells.get (Cells.tr0 hcL hu) hlk))); exact hS)
  ((first | refine d_tx 7 hS ?_ | refine d_ty 7 hS ?_ | refine d_tn 7 hS ?_); (first | refine d_tx 8 hS ?_ | refine d_ty 8 hS ?_ | refine d_tn 8 hS ?_); (first | refine d_tx 9 hS ?_ | refine d_ty 9 hS ?_ | refine d_tn 9 hS ?_); (first | refine d_tx 10 hS ?_ | refine d_ty 10 hS ?_ | refine d_tn 10 hS ?_); (first | refine d_tx 11 hS ?_ | refine d_ty 11 hS ?_ | refine d_tn 11 hS ?_))
  (apply d_take (i := 12); exact rfl; kernel_rfl; kernel_rfl; kernel_rfl; (intro u hu; exact (r_index1 (j := k) rfl rfl rfl (by omega) rfl)); exact hS)
  (apply d_take (i := 13); exact rfl; kernel_rfl; kernel_rfl; kernel_rfl; (intro u hu; exact (r_load rfl (Cells.get (Cells.tr0 hcM hu) hmk'))); exact hS)
  ((first | refine d_tx 14 hS ?_ | refine d_ty 14 hS ?_ | refine d_tn 14 hS ?_))
  (refine d_one (i := 15) rfl (by kernel_rfl) ?_; refine rx ?_; refine q_held hS ?_)
  (refine d_one (i := 16) rfl (by kernel_rfl) ?_; refine rx ?_; refine q_held hS ?_)
  (refine d_done (by kernel_rfl) ?_)
  refine rx ?_
  (apply ret2; exact rfl; (conv => lhs; whnf); (conv => lhs; whnf))
  exact ⟨_, _, rfl, hvs.tr0 hS, hs2.tr0 hS, hf.trans0 hS⟩
end Go.Proofs.YtpochcchekoonaaGreat
namespace Go.Proofs.YtpochcchekoonaaGreat
open Go.Rf Go.RowKit
set_option linter.unusedVariables false
set_option linter.unusedSimpArgs false
attribute [local irreducible] Code.wp wpList Exit.then Exit.inBlock bodyPost A Calls execOp Addr.add
theorem zero_iff (v : V) : cmpV v ⟨0, 0, ⟨#[]⟩, []⟩ = 0 ↔ zeroV v = true := by
  rw [cmpV_iff]
  obtain ⟨k, n, s, ks⟩ := v
  simp [zeroV, and_assoc]

def cleanN (x : Nd) : Bool := decide (0 ≤ x.kind ∧ x.kind ≤ 4) && unusedN x
set_option maxHeartbeats 16000000 in
theorem cleanP (x : Nd) (pn : Addr) (w : World) (hok : NdOk x) (hn : PN w [] x pn) :
    Calls Tryz.prog 46 #[.pointer (some pn)] w fun e w' => e = .returned (.bool (cleanN x)) ∧ Fr [] w w' := by
  have hlw := hok.lw
  have hll := hok.ll
  have hlv := hok.lv
  have hlk := hok.lk
  obtain ⟨_, _, hc, ⟨sw, sl, sv, sk, sx, rfl, hw, hl, hv, hk, hx⟩⟩ := hn
  obtain ⟨aw, cw, rfl, _⟩ := hw.slice
  obtain ⟨al, cl, rfl, _⟩ := hl.slice
  obtain ⟨av, cv, rfl, _⟩ := hv.slice
  obtain ⟨ak, ck, rfl, _⟩ := hk.slice
  refine enter Tryz.func46 rfl Tryz.ntmps46 rfl ?_
  refine rx ?_
  (conv => arg 4; simp only [List.append_eq, List.cons_append, List.nil_append])
  by_cases hkd : 0 ≤ x.kind ∧ x.kind ≤ 4
  case neg =>
    have e0 : cleanN x = false := by unfold cleanN; rw [decide_eq_false hkd]; rfl
    rw [e0]
    (refine rx ?_; repeat' ((first | refine s_eql rfl rfl (fun h => ?_) (fun h => ?_) | refine s_neq rfl rfl (fun h => ?_) (fun h => ?_) | refine s_lss rfl rfl (fun h => ?_) (fun h => ?_) | refine s_leq rfl rfl (fun h => ?_) (fun h => ?_) | refine s_gtr rfl rfl (fun h => ?_) (fun h => ?_) | refine s_geq rfl rfl (fun h => ?_) (fun h => ?_) | refine s_eqlE rfl rfl (fun h => ?_) (fun h => ?_) | refine s_neqE rfl rfl (fun h => ?_) (fun h => ?_) | refine s_lssS rfl rfl (fun h => ?_) (fun h => ?_) | refine s_gtrS rfl rfl (fun h => ?_) (fun h => ?_)) <;> refine rx ?_))
    all_goals
      (apply ret1; exact rfl; (conv => lhs; whnf))
      exact ⟨rfl, Fr.refl _ _⟩
  have e0 : cleanN x = unusedN x := by unfold cleanN; rw [decide_eq_true hkd]; rfl
  rw [e0]
  unfold unusedN
  by_cases k0 : x.kind = 0
  · (refine rx ?_; repeat' ((first | refine s_eql rfl rfl (fun h => ?_) (fun h => ?_) | refine s_neq rfl rfl (fun h => ?_) (fun h => ?_) | refine s_lss rfl rfl (fun h => ?_) (fun h => ?_) | refine s_leq rfl rfl (fun h => ?_) (fun h => ?_) | refine s_gtr rfl rfl (fun h => ?_) (fun h => ?_) | refine s_geq rfl rfl (fun h => ?_) (fun h => ?_) | refine s_eqlE rfl rfl (fun h => ?_) (fun h => ?_) | refine s_neqE rfl rfl (fun h => ?_) (fun h => ?_) | refine s_lssS rfl rfl (fun h => ?_) (fun h => ?_) | refine s_gtrS rfl rfl (fun h => ?_) (fun h => ?_)) <;> refine rx ?_))
    all_goals
      (apply ret1; exact rfl; (conv => lhs; whnf))
      refine ⟨?_, Fr.refl _ _⟩
      simp_all <;> omega
  have hz := zero_iff x.val
  refine rx ?_
  refine s_build (vc ⟨0, 0, ⟨#[]⟩, []⟩ (.slice none 0 0)) rfl ?_
  refine rx ?_
  refine s_call (compareV x.val ⟨0, 0, ⟨#[]⟩, []⟩ sx (.slice none 0 0) w hx (VS.nil _ _)) rfl ?_
  rintro _ w1 ⟨rfl, hf1⟩
  refine ⟨_, rfl, ?_⟩
  have hc1 := hc.tr0 hf1
  generalize cmpV x.val ⟨0, 0, ⟨#[]⟩, []⟩ = cz at hz
  by_cases hcz : cz = 0
  case neg =>
    have hzf : zeroV x.val = false := by
      rcases hq : zeroV x.val with _ | _
      · rfl
      · exact absurd (hz.2 hq) hcz
    (refine rx ?_; repeat' ((first | refine s_eql rfl rfl (fun h => ?_) (fun h => ?_) | refine s_neq rfl rfl (fun h => ?_) (fun h => ?_) | refine s_lss rfl rfl (fun h => ?_) (fun h => ?_) | refine s_leq rfl rfl (fun h => ?_) (fun h => ?_) | refine s_gtr rfl rfl (fun h => ?_) (fun h => ?_) | refine s_geq rfl rfl (fun h => ?_) (fun h => ?_) | refine s_eqlE rfl rfl (fun h => ?_) (fun h => ?_) | refine s_neqE rfl rfl (fun h => ?_) (fun h => ?_) | refine s_lssS rfl rfl (fun h => ?_) (fun h => ?_) | refine s_gtrS rfl rfl (fun h => ?_) (fun h => ?_)) <;> refine rx ?_))
    all_goals
      (apply ret1; exact rfl; (conv => lhs; whnf))
      exact ⟨by simp [k0, hzf], hf1⟩
  have hzt := hz.1 hcz
  by_cases k1 : x.kind = 1
  · (refine rx ?_; repeat' ((first | refine s_eql rfl rfl (fun h => ?_) (fun h => ?_) | refine s_neq rfl rfl (fun h => ?_) (fun h => ?_) | refine s_lss rfl rfl (fun h => ?_) (fun h => ?_) | refine s_leq rfl rfl (fun h => ?_) (fun h => ?_) | refine s_gtr rfl rfl (fun h => ?_) (fun h => ?_) | refine s_geq rfl rfl (fun h => ?_) (fun h => ?_) | refine s_eqlE rfl rfl (fun h => ?_) (fun h => ?_) | refine s_neqE rfl rfl (fun h => ?_) (fun h => ?_) | refine s_lssS rfl rfl (fun h => ?_) (fun h => ?_) | refine s_gtrS rfl rfl (fun h => ?_) (fun h => ?_)) <;> refine rx ?_))
    all_goals
      (apply ret1; exact rfl; (conv => lhs; whnf))
      refine ⟨?_, hf1⟩
      simp_all <;> omega
  by_cases k2 : x.kind = 2
  · (refine rx ?_; repeat' ((first | refine s_eql rfl rfl (fun h => ?_) (fun h => ?_) | refine s_neq rfl rfl (fun h => ?_) (fun h => ?_) | refine s_lss rfl rfl (fun h => ?_) (fun h => ?_) | refine s_leq rfl rfl (fun h => ?_) (fun h => ?_) | refine s_gtr rfl rfl (fun h => ?_) (fun h => ?_) | refine s_geq rfl rfl (fun h => ?_) (fun h => ?_) | refine s_eqlE rfl rfl (fun h => ?_) (fun h => ?_) | refine s_neqE rfl rfl (fun h => ?_) (fun h => ?_) | refine s_lssS rfl rfl (fun h => ?_) (fun h => ?_) | refine s_gtrS rfl rfl (fun h => ?_) (fun h => ?_)) <;> refine rx ?_))
    all_goals
      (apply ret1; exact rfl; (conv => lhs; whnf))
      refine ⟨?_, hf1⟩
      simp_all <;> omega
  by_cases k3 : x.kind = 3
  · (refine rx ?_; repeat' ((first | refine s_eql rfl rfl (fun h => ?_) (fun h => ?_) | refine s_neq rfl rfl (fun h => ?_) (fun h => ?_) | refine s_lss rfl rfl (fun h => ?_) (fun h => ?_) | refine s_leq rfl rfl (fun h => ?_) (fun h => ?_) | refine s_gtr rfl rfl (fun h => ?_) (fun h => ?_) | refine s_geq rfl rfl (fun h => ?_) (fun h => ?_) | refine s_eqlE rfl rfl (fun h => ?_) (fun h => ?_) | refine s_neqE rfl rfl (fun h => ?_) (fun h => ?_) | refine s_lssS rfl rfl (fun h => ?_) (fun h => ?_) | refine s_gtrS rfl rfl (fun h => ?_) (fun h => ?_)) <;> refine rx ?_))
    all_goals
      (apply ret1; exact rfl; (conv => lhs; whnf))
      refine ⟨?_, hf1⟩
      simp_all <;> omega
  have k4 : x.kind = 4 := by omega
  (refine rx ?_; repeat' ((first | refine s_eql rfl rfl (fun h => ?_) (fun h => ?_) | refine s_neq rfl rfl (fun h => ?_) (fun h => ?_) | refine s_lss rfl rfl (fun h => ?_) (fun h => ?_) | refine s_leq rfl rfl (fun h => ?_) (fun h => ?_) | refine s_gtr rfl rfl (fun h => ?_) (fun h => ?_) | refine s_geq rfl rfl (fun h => ?_) (fun h => ?_) | refine s_eqlE rfl rfl (fun h => ?_) (fun h => ?_) | refine s_neqE rfl rfl (fun h => ?_) (fun h => ?_) | refine s_lssS rfl rfl (fun h => ?_) (fun h => ?_) | refine s_gtrS rfl rfl (fun h => ?_) (fun h => ?_)) <;> refine rx ?_))
  all_goals
    (apply ret1; exact rfl; (conv => lhs; whnf))
    refine ⟨?_, hf1⟩
    simp_all <;> omega
end Go.Proofs.YtpochcchekoonaaGreat
