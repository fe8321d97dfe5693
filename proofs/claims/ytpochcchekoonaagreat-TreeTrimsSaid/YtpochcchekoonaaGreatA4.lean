/-
  Package walk: NewSets, union. Package walk: union, product.
-/
import Derived.Test.YtpochcchekoonaaGreatTo
namespace Go.Rf
theorem d_three {D : Dfs} {P : Program} {Q : Exit → Act → World → Prop} {S : World → Prop} {n : Nat} {f : Env} {w : World} {l : List Oper} {fuel : Nat} {listed : Array Bool} {i j k : Nat} {o o' o'' : Oper} (hi : l[i]? = some o) (hj : l[j]? = some o') (hk : l[k]? = some o'') (hr : Region.ready .any l.toArray listed = [i, j, k])
    (h1 : wpList P l.toArray (Exit.then (fun a' w' => S w' ∧ wpAnyH P .any l.toArray Q S fuel (listed.setIfInBounds i true) a' w') Q) [o] (A n f) w)
    (h2 : wpList P l.toArray (Exit.then (fun a' w' => S w' ∧ wpAnyH P .any l.toArray Q S fuel (listed.setIfInBounds j true) a' w') Q) [o'] (A n f) w)
    (h3 : wpList P l.toArray (Exit.then (fun a' w' => S w' ∧ wpAnyH P .any l.toArray Q S fuel (listed.setIfInBounds k true) a' w') Q) [o''] (A n f) w) : wpAnyH P .any l.toArray Q S (fuel + 1) listed (A n f) w := by
  refine wpAnyH_all hr (by simp) fun m hm => ?_
  simp only [List.mem_cons, List.not_mem_nil, or_false] at hm
  rcases hm with rfl | rfl | rfl
  · exact wpOp_of_list hi h1
  · exact wpOp_of_list hj h2
  · exact wpOp_of_list hk h3
end Go.Rf
namespace Go.Proofs.YtpochcchekoonaaGreat
open Go.Rf Go.RowKit
set_option linter.unusedVariables false
set_option linter.unusedSimpArgs false
attribute [local irreducible] Code.wp wpList Exit.then Exit.inBlock bodyPost A Calls execOp Addr.add
/-- the values of a node -/
def sT (t : List Nd) (k : Nat) : Option (List V) := (setsT t).getD k none
theorem sT_eq {t : List Nd} {k : Nat} (hk : k < t.length) : sT t k = setN (setsT (t.take k)) t[k] := by
  unfold sT
  have := setsT_get (t := t) (n := t.length) hk hk
  rw [List.take_length] at this
  rw [List.getD_eq_getElem?_getD, this]; rfl
theorem lstAt_eq {t : List Nd} {n k : Nat} (hk : k < n) (hn : k < t.length) : lstAt (setsT (t.take n)) (k : Int) = sT t k := by
  unfold lstAt
  rw [Int.toNat_natCast, List.getD_eq_getElem?_getD, setsT_get hk hn, sT_eq hn]; rfl
theorem sT_len {t : List Nd} {k : Nat} (hk : k < t.length) : ((sT t k).getD []).length ≤ 1024 := by
  rw [sT_eq hk]
  rcases hq : setN (setsT (t.take k)) t[k] with _ | l
  · simp
  · exact setN_len hq
theorem sT_srt {t : List Nd} {k : Nat} (hk : k < t.length) : Srt ((sT t k).getD []) := by
  rw [sT_eq hk]
  rcases hq : setN (setsT (t.take k)) t[k] with _ | l
  · exact .nil
  · exact setN_srt hq

/-- the sets of a tree in memory: which are known, their lists, whether there are too many -/
structure SetK (t : List Nd) (S : List Nat) (sn : Value) (b K L M : Nat) (u : World) (kn : List Bool) : Prop where
  len : kn.length = t.length
  blk : Blk u b [sn, .slice (some ⟨K, 0, none⟩) t.length t.length, .slice (some ⟨L, 0, none⟩) t.length t.length, .slice (some ⟨M, 0, none⟩) t.length t.length] 140
  known : Blk u K (kn.map .bool) 4
  lists : ∃ ls : List Value, ls.length = t.length ∧ Blk u L ls 31 ∧ ∀ i (h : i < ls.length), kn[i]? = some true → VS u S ((sT t i).getD []) ls[i]
  many : ∃ ms : List Bool, ms.length = t.length ∧ Blk u M (ms.map .bool) 4 ∧ ∀ i, kn[i]? = some true → ms[i]? = some (sT t i).isNone
  d1 : b ≠ K ∧ b ≠ L ∧ b ≠ M
  d2 : K ≠ L ∧ K ≠ M ∧ L ≠ M
  mem : b ∈ S ∧ K ∈ S ∧ L ∈ S ∧ M ∈ S
theorem SetK.old {t : List Nd} {S T : List Nat} {sn : Value} {b K L M : Nat} {u u' : World} {kn : List Bool} (h : SetK t S sn b K L M u kn) (hf : Fr T u u') (hT : ∀ k ∈ T, k ∈ S ∨ u.heap.size ≤ k) (hd : ∀ k ∈ T, k ≠ b ∧ k ≠ K ∧ k ≠ L ∧ k ≠ M) : SetK t S sn b K L M u' kn := by
  obtain ⟨h1, h2, h3, ⟨ls, h4, h5, h6⟩, ⟨ms, h7, h8, h9⟩, d1, d2, hm⟩ := h
  exact ⟨h1, h2.tr hf (fun h => (hd _ h).1 rfl), h3.tr hf (fun h => (hd _ h).2.1 rfl), ⟨ls, h4, h5.tr hf (fun h => (hd _ h).2.2.1 rfl), fun i hi hk => (h6 i hi hk).old hf hT⟩, ⟨ms, h7, h8.tr hf (fun h => (hd _ h).2.2.2 rfl), h9⟩, d1, d2, hm⟩
theorem SetK.tr0 {t : List Nd} {S : List Nat} {sn : Value} {b K L M : Nat} {u u' : World} {kn : List Bool} (h : SetK t S sn b K L M u kn) (hf : Fr [] u u') : SetK t S sn b K L M u' kn := h.old hf (by simp) (by simp)
theorem SetK.mono {t : List Nd} {S T : List Nat} {sn : Value} {b K L M : Nat} {u : World} {kn : List Bool} (h : SetK t S sn b K L M u kn) (hT : ∀ k ∈ T, k ∈ S ∨ u.heap.size ≤ k) (hm : b ∈ T ∧ K ∈ T ∧ L ∈ T ∧ M ∈ T) : SetK t T sn b K L M u kn := by
  obtain ⟨h1, h2, h3, ⟨ls, h4, h5, h6⟩, ⟨ms, h7, h8, h9⟩, d1, d2, _⟩ := h
  exact ⟨h1, h2, h3, ⟨ls, h4, h5, fun i hi hk => (h6 i hi hk).mono hT⟩, ⟨ms, h7, h8, h9⟩, d1, d2, hm⟩
theorem SetK.lt {t : List Nd} {S : List Nat} {sn : Value} {b K L M : Nat} {u : World} {kn : List Bool} (h : SetK t S sn b K L M u kn) : b < u.heap.size ∧ K < u.heap.size ∧ L < u.heap.size ∧ M < u.heap.size := by
  obtain ⟨h1, h2, h3, ⟨ls, h4, h5, h6⟩, ⟨ms, h7, h8, h9⟩, d1, d2, _⟩ := h
  exact ⟨h2.lt, h3.lt, h5.lt, h8.lt⟩
theorem zeros_bool (n : Nat) : zeros [Value.bool false] n = (List.replicate n false).map Value.bool := by
  induction n with
  | zero => rfl
  | succ n ih => simp [zeros, ih, List.replicate_succ]

set_option maxHeartbeats 16000000 in
theorem newSetsP (t : List Nd) (st : Value) (w : World) (ht : NS w [] t st) (hl : t.length ≤ 1000000) :
    Calls Tryz.prog 45 #[.agg #[st]] w fun e w' => ∃ b K L M, e = .returned (.pointer (some ⟨b, 0, none⟩)) ∧ (∀ S, b ∈ S ∧ K ∈ S ∧ L ∈ S ∧ M ∈ S → SetK t S st b K L M w' (List.replicate t.length false)) ∧ w.heap.size ≤ b ∧ w.heap.size ≤ K ∧ w.heap.size ≤ L ∧ w.heap.size ≤ M ∧ Fr [] w w' := by
  obtain ⟨as_, cs_, rfl, _⟩ := ht.slice
  refine enter Tryz.func45 rfl Tryz.ntmps45 rfl ?_
  refine rx ?_
  refine s_box (l := [.slice as_ t.length cs_]) rfl rfl (fun w1 hb1 hf0 hs0 => ?_)
  refine rx ?_
  (refine d_begin (fun y => Fr [] w1 y) (by kernel_rfl) rfl ?_)
  have hS0 : Fr [] w1 w1.drew := Fr.drew _ _
  have hsz0 : w1.drew.heap.size = w1.heap.size := rfl
  generalize w1.drew = z0 at hS0 hsz0 ⊢
  ((first | refine d_tx 0 hS0 ?_ | refine d_ty 0 hS0 ?_ | refine d_tn 0 hS0 ?_); (first | refine d_tx 1 hS0 ?_ | refine d_ty 1 hS0 ?_ | refine d_tn 1 hS0 ?_); (first | refine d_tx 2 hS0 ?_ | refine d_ty 2 hS0 ?_ | refine d_tn 2 hS0 ?_))
  ((first | refine d_tx 4 hS0 ?_ | refine d_ty 4 hS0 ?_ | refine d_tn 4 hS0 ?_))
  ((first | refine d_tx 6 hS0 ?_ | refine d_ty 6 hS0 ?_ | refine d_tn 6 hS0 ?_))
  refine d_three (i := 3) (j := 5) (k := 7) rfl rfl rfl (by kernel_rfl) ?a ?b ?c
  case' a =>
    (refine s_makeS (k := t.length) rfl rfl (by omega) (by unfold maxLen; omega) (fun z1 hoK hf1 hs1 => ?_); obtain ⟨K, hKe⟩ : ∃ y, y = z0.heap.size := ⟨_, rfl⟩; rw [← hKe] at hoK ⊢; have hS1 := hS0.trans0 hf1; refine wpList_nil (q_held hS1 ?_))
    refine d_two (i := 5) (j := 7) rfl rfl (by kernel_rfl) ?a1 ?b1
    case' a1 =>
      (refine s_makeS (k := t.length) rfl rfl (by omega) (by unfold maxLen; omega) (fun z2 hoL hf2 hs2 => ?_); obtain ⟨L, hLe⟩ : ∃ y, y = z1.heap.size := ⟨_, rfl⟩; rw [← hLe] at hoL ⊢; have hS2 := hS1.trans0 hf2; refine wpList_nil (q_held hS2 ?_))
      refine d_one (i := 7) rfl (by kernel_rfl) ?_
      (refine s_makeS (k := t.length) rfl rfl (by omega) (by unfold maxLen; omega) (fun z3 hoM hf3 hs3 => ?_); obtain ⟨M, hMe⟩ : ∃ y, y = z2.heap.size := ⟨_, rfl⟩; rw [← hMe] at hoM ⊢; have hS3 := hS2.trans0 hf3; refine wpList_nil (q_held hS3 ?_))
    case' b1 =>
      (refine s_makeS (k := t.length) rfl rfl (by omega) (by unfold maxLen; omega) (fun z2 hoM hf2 hs2 => ?_); obtain ⟨M, hMe⟩ : ∃ y, y = z1.heap.size := ⟨_, rfl⟩; rw [← hMe] at hoM ⊢; have hS2 := hS1.trans0 hf2; refine wpList_nil (q_held hS2 ?_))
      refine d_one (i := 5) rfl (by kernel_rfl) ?_
      (refine s_makeS (k := t.length) rfl rfl (by omega) (by unfold maxLen; omega) (fun z3 hoL hf3 hs3 => ?_); obtain ⟨L, hLe⟩ : ∃ y, y = z2.heap.size := ⟨_, rfl⟩; rw [← hLe] at hoL ⊢; have hS3 := hS2.trans0 hf3; refine wpList_nil (q_held hS3 ?_))
  case' b =>
    (refine s_makeS (k := t.length) rfl rfl (by omega) (by unfold maxLen; omega) (fun z1 hoL hf1 hs1 => ?_); obtain ⟨L, hLe⟩ : ∃ y, y = z0.heap.size := ⟨_, rfl⟩; rw [← hLe] at hoL ⊢; have hS1 := hS0.trans0 hf1; refine wpList_nil (q_held hS1 ?_))
    refine d_two (i := 3) (j := 7) rfl rfl (by kernel_rfl) ?a2 ?b2
    case' a2 =>
      (refine s_makeS (k := t.length) rfl rfl (by omega) (by unfold maxLen; omega) (fun z2 hoK hf2 hs2 => ?_); obtain ⟨K, hKe⟩ : ∃ y, y = z1.heap.size := ⟨_, rfl⟩; rw [← hKe] at hoK ⊢; have hS2 := hS1.trans0 hf2; refine wpList_nil (q_held hS2 ?_))
      refine d_one (i := 7) rfl (by kernel_rfl) ?_
      (refine s_makeS (k := t.length) rfl rfl (by omega) (by unfold maxLen; omega) (fun z3 hoM hf3 hs3 => ?_); obtain ⟨M, hMe⟩ : ∃ y, y = z2.heap.size := ⟨_, rfl⟩; rw [← hMe] at hoM ⊢; have hS3 := hS2.trans0 hf3; refine wpList_nil (q_held hS3 ?_))
    case' b2 =>
      (refine s_makeS (k := t.length) rfl rfl (by omega) (by unfold maxLen; omega) (fun z2 hoM hf2 hs2 => ?_); obtain ⟨M, hMe⟩ : ∃ y, y = z1.heap.size := ⟨_, rfl⟩; rw [← hMe] at hoM ⊢; have hS2 := hS1.trans0 hf2; refine wpList_nil (q_held hS2 ?_))
      refine d_one (i := 3) rfl (by kernel_rfl) ?_
      (refine s_makeS (k := t.length) rfl rfl (by omega) (by unfold maxLen; omega) (fun z3 hoK hf3 hs3 => ?_); obtain ⟨K, hKe⟩ : ∃ y, y = z2.heap.size := ⟨_, rfl⟩; rw [← hKe] at hoK ⊢; have hS3 := hS2.trans0 hf3; refine wpList_nil (q_held hS3 ?_))
  case' c =>
    (refine s_makeS (k := t.length) rfl rfl (by omega) (by unfold maxLen; omega) (fun z1 hoM hf1 hs1 => ?_); obtain ⟨M, hMe⟩ : ∃ y, y = z0.heap.size := ⟨_, rfl⟩; rw [← hMe] at hoM ⊢; have hS1 := hS0.trans0 hf1; refine wpList_nil (q_held hS1 ?_))
    refine d_two (i := 3) (j := 5) rfl rfl (by kernel_rfl) ?a3 ?b3
    case' a3 =>
      (refine s_makeS (k := t.length) rfl rfl (by omega) (by unfold maxLen; omega) (fun z2 hoK hf2 hs2 => ?_); obtain ⟨K, hKe⟩ : ∃ y, y = z1.heap.size := ⟨_, rfl⟩; rw [← hKe] at hoK ⊢; have hS2 := hS1.trans0 hf2; refine wpList_nil (q_held hS2 ?_))
      refine d_one (i := 5) rfl (by kernel_rfl) ?_
      (refine s_makeS (k := t.length) rfl rfl (by omega) (by unfold maxLen; omega) (fun z3 hoL hf3 hs3 => ?_); obtain ⟨L, hLe⟩ : ∃ y, y = z2.heap.size := ⟨_, rfl⟩; rw [← hLe] at hoL ⊢; have hS3 := hS2.trans0 hf3; refine wpList_nil (q_held hS3 ?_))
    case' b3 =>
      (refine s_makeS (k := t.length) rfl rfl (by omega) (by unfold maxLen; omega) (fun z2 hoL hf2 hs2 => ?_); obtain ⟨L, hLe⟩ : ∃ y, y = z1.heap.size := ⟨_, rfl⟩; rw [← hLe] at hoL ⊢; have hS2 := hS1.trans0 hf2; refine wpList_nil (q_held hS2 ?_))
      refine d_one (i := 3) rfl (by kernel_rfl) ?_
      (refine s_makeS (k := t.length) rfl rfl (by omega) (by unfold maxLen; omega) (fun z3 hoK hf3 hs3 => ?_); obtain ⟨K, hKe⟩ : ∃ y, y = z2.heap.size := ⟨_, rfl⟩; rw [← hKe] at hoK ⊢; have hS3 := hS2.trans0 hf3; refine wpList_nil (q_held hS3 ?_))
  all_goals
    replace hoK : Own z3 4 1 (.slice (some ⟨K, 0, none⟩) t.length t.length) t.length (zeros [.bool false] t.length) := by first | exact hoK | exact hoK.tr0 hf3 | exact hoK.tr0 (hf2.trans0 hf3)
    replace hoL : Own z3 31 1 (.slice (some ⟨L, 0, none⟩) t.length t.length) t.length (zeros [.slice none 0 0] t.length) := by first | exact hoL | exact hoL.tr0 hf3 | exact hoL.tr0 (hf2.trans0 hf3)
    replace hoM : Own z3 4 1 (.slice (some ⟨M, 0, none⟩) t.length t.length) t.length (zeros [.bool false] t.length) := by first | exact hoM | exact hoM.tr0 hf3 | exact hoM.tr0 (hf2.trans0 hf3)
    (apply d_take (i := 8); exact rfl; kernel_rfl; kernel_rfl; kernel_rfl; (intro u hu; exact (r_build [.slice as_ t.length cs_, .slice (some ⟨K, 0, none⟩) t.length t.length, .slice (some ⟨L, 0, none⟩) t.length t.length, .slice (some ⟨M, 0, none⟩) t.length t.length] (by rfl))); exact hS3)
    refine d_one (i := 9) rfl (by kernel_rfl) ?_
    refine s_box rfl rfl (fun z4 hb4 hf4 hs4 => ?_)
    have hS4 := hS3.trans0 hf4
    refine wpList_nil (q_held hS4 ?_)
    (refine d_one (i := 10) rfl (by kernel_rfl) ?_; refine rx ?_; refine q_held hS4 ?_)
    (refine d_done (by kernel_rfl) ?_)
    refine rx ?_
    (apply ret1; exact rfl; (conv => lhs; whnf))
    have hkM := hoM.blk.tr0 hf4
    have hkK := hoK.blk.tr0 hf4
    rw [zeros_bool] at hkM hkK
    have hF1 := hS3.size
    refine ⟨z3.heap.size, K, L, M, rfl, fun S hS => ⟨by simp, hb4, hkK, ⟨_, by rw [zeros_len]; simp, hoL.blk.tr0 hf4, fun i hi hk => ?_⟩, ⟨_, by simp, hkM, fun i hk => ?_⟩, by omega, by omega, hS⟩, by omega, by omega, by omega, by omega, hf0.trans0 hS4⟩
    · exfalso
      rw [List.getElem?_replicate] at hk
      split at hk <;> simp at hk
    · exfalso
      rw [List.getElem?_replicate] at hk
      split at hk <;> simp at hk
end Go.Proofs.YtpochcchekoonaaGreat
namespace Go.Proofs.YtpochcchekoonaaGreat
open Go.Rf Go.RowKit
set_option linter.unusedVariables false
set_option linter.unusedSimpArgs false
attribute [local irreducible] Code.wp wpList Exit.then Exit.inBlock bodyPost A Calls execOp Addr.add
/-- what Sets.Of does for a node -/
def OfC (t : List Nd) (k : Nat) : Prop := ∀ (S : List Nat) (sn : Value) (b K L M : Nat) (u : World) (kn : List Bool), (∀ x ∈ S, x < u.heap.size) → SetK t S sn b K L M u kn → NS u S t sn →
  Calls Tryz.prog 91 #[.pointer (some ⟨b, 0, none⟩), .int .i64 k] u fun e u' => ∃ s kn', e = .returned (.tuple #[s, .bool (!(sT t k).isNone)]) ∧ VS u' S ((sT t k).getD []) s ∧ SetK t S sn b K L M u' kn' ∧ Fr [K, L, M] u u'
theorem uniGo_true {ls : List (Option (List V))} : ∀ (ks : List Int) (out : List V), (uniGo ls ks out true).2 = true
  | [], out => rfl
  | k :: ks, out => by rw [uniGo]; exact uniGo_true ks _
theorem uniN_none {ls : List (Option (List V))} {ks : List Int} {r : List V × Bool} (h : uniGo ls ks [] false = r) (hr : r.2 = true) : uniN ls ks = none := by unfold uniN; rw [h, if_pos hr]

set_option maxHeartbeats 8000000 in
theorem unionP (t : List Nd) (i : Nat) (hi : i ≤ t.length) (H : ∀ j < i, OfC t j) (kids : List Int) (hr : ∀ k ∈ kids, 0 ≤ k ∧ k < i) (hlk : kids.length ≤ 1000000) (sk : Value) (S : List Nat) (sn : Value) (b K L M : Nat) (u : World) (kn : List Bool)
    (hSb : ∀ x ∈ S, x < u.heap.size) (hset : SetK t S sn b K L M u kn) (ht : NS u S t sn) (hk : IS u S kids sk) :
    Calls Tryz.prog 141 #[.pointer (some ⟨b, 0, none⟩), sk] u fun e u' => ∃ s kn', e = .returned (.tuple #[s, .bool (!(uniN (setsT (t.take i)) kids).isNone)]) ∧ VS u' S ((uniN (setsT (t.take i)) kids).getD []) s ∧ SetK t S sn b K L M u' kn' ∧ Fr [K, L, M] u u' := by
  obtain ⟨ak, ck, rfl, _⟩ := hk.slice
  have hmem := hset.mem
  have hsub : ∀ x ∈ [K, L, M], x ∈ S := by simp; exact ⟨hmem.2.1, hmem.2.2.1, hmem.2.2.2⟩
  refine enter Tryz.func141 rfl Tryz.ntmps141 rfl ?_
  refine rx ?_
  generalize hls : setsT (t.take i) = ls
  refine c_loopK 11 [6, 8, 9, 10] (σ := Nat × List V × Value × List Bool) (fun s g z => g 11 = .slice ak kids.length ck ∧ g 12 = .int .i64 kids.length ∧ g 13 = .int .i64 (s.1 : Nat) ∧ g 6 = s.2.2.1 ∧ s.1 ≤ kids.length ∧ uniGo ls kids [] false = uniGo ls (kids.drop s.1) s.2.1 false ∧ Srt s.2.1 ∧ s.2.1.length ≤ 1024 ∧ VS z S s.2.1 s.2.2.1 ∧ SetK t S sn b K L M z s.2.2.2 ∧ Fr [K, L, M] u z)
    (fun s => kids.length - s.1) (0, [], .slice none 0 0, kn) ⟨rfl, rfl, rfl, rfl, Nat.zero_le _, rfl, .nil, by simp, VS.nil _ _, hset, Fr.refl _ _⟩ ?_
  rintro ⟨j, out, v, kn1⟩ g z ⟨h11, h12, h13, h6, hj, hgo, hsrt, hol, hv, hs1, hfz⟩
  simp only at h13 h6 hj hgo hsrt hol hv hs1
  obtain ⟨av, cv, rfl, _⟩ := hv.slice
  rw [eq_upd h6, eq_upd h11, eq_upd h12, eq_upd h13]
  have hSz : ∀ x ∈ S, x < z.heap.size := fun x hx => by have := hSb x hx; have := hfz.size; omega
  by_cases hlt : j < kids.length
  case neg =>
    have e : uniN ls kids = some out := by unfold uniN; rw [hgo, List.drop_eq_nil_of_le (by omega), uniGo]; rfl
    rw [e]
    refine rx ?_
    (apply ret2; exact rfl; (conv => lhs; whnf); (conv => lhs; whnf))
    exact ⟨_, _, rfl, hv, hs1, hfz⟩
  have hks := (hk.tr (hfz.mono (fun x hx => .inl (hsub x hx))))
  obtain ⟨ad, rfl, hcell⟩ := Ls.at hks hlt
  have hrk := hr kids[j] (by simp)
  obtain ⟨kk, hkk⟩ : ∃ kk : Nat, kids[j] = (kk : Int) := ⟨kids[j].toNat, by omega⟩
  have hki : kk < i := by omega
  rw [hkk] at hcell
  have hla : lstAt ls kids[j] = sT t kk := by rw [hkk, ← hls]; exact lstAt_eq hki (by omega)
  rw [List.drop_eq_getElem_cons hlt, uniGo, hla] at hgo
  refine rx ?_
  rw [Nat.mul_one]
  refine s_load rfl hcell ?_
  refine rx ?_
  refine s_call (H kk hki S sn b K L M z kn1 hSz hs1 (ht.tr (hfz.mono (fun x hx => .inl (hsub x hx))))) rfl ?_
  rintro _ z1 ⟨s, kn2, rfl, hvs, hs2, hf1⟩
  refine ⟨_, rfl, ?_⟩
  have hlen := sT_len (t := t) (k := kk) (by omega)
  have hsk := sT_srt (t := t) (k := kk) (by omega)
  generalize hoq : sT t kk = o at hgo hvs hlen hsk
  obtain ⟨a1, c1, rfl, _⟩ := hvs.slice
  have hfz1 : Fr [K, L, M] u z1 := hfz.trans hf1 (fun x hx => .inl hx)
  have hv1 := hv.tr (hf1.mono (fun x hx => .inl (hsub x hx)))
  have hSz1 : ∀ x ∈ S, x < z1.heap.size := fun x hx => by have := hSz x hx; have := hf1.size; omega
  cases o with
  | none =>
    have e : uniN ls kids = none := uniN_none hgo (by simp only [Option.isNone_none, Bool.true_or, Bool.or_true]; exact uniGo_true _ _)
    rw [e]
    refine rx ?_
    (apply ret2; exact rfl; (conv => lhs; whnf); (conv => lhs; whnf))
    exact ⟨_, _, rfl, VS.nil _ _, hs2, hfz1⟩
  | some l =>
  simp only [Option.getD_some] at hvs hlen hsk hgo
  refine rx ?_
  refine s_call (mergedP out l _ _ z1 S hSz1 hv1 hvs (by omega) (by omega)) rfl ?_
  rintro _ z2 ⟨s2, rfl, hm, hf2⟩
  refine ⟨_, rfl, ?_⟩
  replace hgo : uniGo ls kids [] false = uniGo ls (kids.drop (j + 1)) (mrgV out l) (decide (1024 < (mrgV out l).length)) := by rw [hgo, mrgV_sort hsrt hsk]; rfl
  have hms := mrgV_srt hsrt hsk
  generalize mrgV out l = out2 at hgo hm hms
  obtain ⟨a2, c2, rfl, _⟩ := hm.slice
  have hfz2 : Fr [K, L, M] u z2 := hfz1.trans0 hf2
  by_cases hgt : 1024 < out2.length
  · have e : uniN ls kids = none := uniN_none hgo (by rw [decide_eq_true hgt]; exact uniGo_true _ _)
    rw [e]
    have hl2 := hm.bound
    refine rx ?_
    (apply ret2; exact rfl; (conv => lhs; whnf); (conv => lhs; whnf))
    exact ⟨_, _, rfl, VS.nil _ _, hs2.tr0 hf2, hfz2⟩
  · rw [decide_eq_false hgt] at hgo
    refine rx ?_
    exact q_roundK (j + 1, out2, .slice a2 out2.length c2, kn2) (by (repeat (first | exact Keep.mrg _ _ _ _ | (refine Keep.hi rfl ?_) | (refine Keep.one rfl ?_) | exact Keep.all rfl | (refine Keep.inn rfl ?_) | (refine Keep.set rfl ?_)))) ⟨rfl, rfl, rfl, rfl, by simp only; omega, hgo, hms, by simp only; omega, hm, hs2.tr0 hf2, hfz2⟩ (by simp only; omega)

/-! ### products -/
def prodA (ls : List (List V)) : List (List V) := ls.foldl prodS [[]]
theorem prodA_snoc (ls : List (List V)) (l : List V) : prodA (ls ++ [l]) = prodS (prodA ls) l := by unfold prodA; rw [List.foldl_append]; rfl
theorem prodS_get : ∀ (rows : List (List V)) (l : List V) (k : Nat), k < rows.length * l.length → ∃ (h1 : k / l.length < rows.length) (h2 : k % l.length < l.length), (prodS rows l)[k]? = some (rows[k / l.length] ++ [l[k % l.length]])
  | [], l, k, h => by simp at h
  | r :: rows, l, k, h => by
    have hl : 0 < l.length := by
      rcases Nat.eq_zero_or_pos l.length with e | e
      · rw [e] at h; simp at h
      · exact e
    simp only [List.length_cons, Nat.succ_mul] at h
    have e : prodS (r :: rows) l = (l.map fun v => r ++ [v]) ++ prodS rows l := by unfold prodS; rw [List.flatMap_cons]
    rw [e]
    by_cases hk : k < l.length
    · have hd : k / l.length = 0 := Nat.div_eq_of_lt hk
      have hm : k % l.length = k := Nat.mod_eq_of_lt hk
      refine ⟨by rw [hd]; simp, by rw [hm]; exact hk, ?_⟩
      rw [List.getElem?_append_left (by simpa using hk)]
      simp [hd, hm, hk]
    · obtain ⟨h1, h2, h3⟩ := prodS_get rows l (k - l.length) (by omega)
      have hd : k / l.length = (k - l.length) / l.length + 1 := by
        rw [Nat.div_eq_sub_div hl (by omega)]
      have hm : k % l.length = (k - l.length) % l.length := Nat.mod_eq_sub_mod (by omega)
      refine ⟨by rw [hd]; simp; omega, by rw [hm]; exact h2, ?_⟩
      rw [List.getElem?_append_right (by simp; omega), List.length_map, h3]
      simp only [hd, hm, List.getElem_cons_succ]
theorem prodA_get {gl : List (List V)} {r : Nat} (hr : r < gl.length) {kk : Nat} (hk : kk < (prodA (gl.take (r + 1))).length) :
    ∃ (h1 : kk / gl[r].length < (prodA (gl.take r)).length) (h2 : kk % gl[r].length < gl[r].length), (prodA (gl.take (r + 1)))[kk]? = some ((prodA (gl.take r))[kk / gl[r].length] ++ [gl[r][kk % gl[r].length]]) := by
  rw [List.take_succ_eq_append_getElem hr, prodA_snoc] at hk ⊢
  rw [prodS_len] at hk
  exact prodS_get _ _ kk hk
theorem zeros_snoc (z : List Value) : ∀ k, zeros z (k + 1) = zeros z k ++ z
  | 0 => by simp [zeros]
  | k + 1 => by
    have := zeros_snoc z k
    show z ++ zeros z (k + 1) = (z ++ zeros z k) ++ z
    rw [this, List.append_assoc]
theorem prodA_row {gl : List (List V)} : ∀ r ∈ prodA gl, r.length = gl.length := by
  refine snocInd (P := fun gl => ∀ r ∈ prodA gl, r.length = gl.length) (fun r hr => ?_) (fun p x ih r hr => ?_) gl
  · simp [prodA] at hr; simp [hr]
  · rw [prodA_snoc] at hr
    unfold prodS at hr
    obtain ⟨q, hq, h2⟩ := List.mem_flatMap.1 hr
    obtain ⟨v, _, rfl⟩ := List.mem_map.1 h2
    simp [ih q hq]
end Go.Proofs.YtpochcchekoonaaGreat
