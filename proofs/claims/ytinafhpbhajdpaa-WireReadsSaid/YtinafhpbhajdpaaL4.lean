/-
  The walk of the law WireRound.
-/
import Derived.Test.YtinafhpbhajdpaaRv
import Derived.Test.YtinafhpbhajdpaaLv
import Derived.Test.YtinafhpbhajdpaaPlain2
namespace Go.Proofs.Ytinafhpbhajdpaa
set_option linter.unusedVariables false
open Go.Rf Go.RowKit
attribute [local irreducible] Code.wp wpList Exit.then Exit.inBlock bodyPost A Calls

/-- what is written is read back -/
theorem rdV_enc {v : Val} (ho : v.Ok) (hs : v.Shape) (rest : List Int) : rdV v.kind (v.enc ++ rest) 0 = (v, rest, 0) := by
  obtain ⟨k, u, n, b, l⟩ := v
  obtain ⟨h1, h2, h3, h4, h5, h6, h7, h8, h9⟩ := hs
  obtain ⟨g1, g2, g3, g4, g5, g6, g7⟩ := ho
  simp only at h1 h2 h3 h4 h5 h6 h7 g1 g2 g3 g4 g5 g6 g7
  by_cases k0 : k = 0
  · have e1 := h4 (by omega) (by omega)
    have e2 := h6 (by omega) (by omega)
    have e3 := h7 (by omega)
    subst e1 e2 e3 k0
    simp [rdV, Val.enc, rdU_uv g2]
  have e0 := h3 k0
  by_cases k1 : k = 1
  · have e2 := h6 (by omega) (by omega)
    have e3 := h7 (by omega)
    subst e0 e2 e3 k1
    simp [rdV, Val.enc, rdI_iv g3.1 g3.2]
  by_cases k2 : k = 2
  · have e2 := h6 (by omega) (by omega)
    have e3 := h7 (by omega)
    have e4 := h5 k2
    subst e0 e2 e3 k2
    rcases e4 with rfl | rfl
    · simp [rdV, Val.enc, rdB]
    · simp [rdV, Val.enc, rdB]
  have e1 := h4 k1 k2
  by_cases k3 : k = 3 ∨ k = 4
  · have e3 := h7 (by omega)
    subst e0 e1 e3
    have hq := rdR_raw (bs := b) (by omega) rest
    simp only [rdV, Val.enc, if_neg k0, if_neg k1, if_neg k2, if_pos k3, hq]
  · have e3 := h6 (by omega) (by omega)
    subst e0 e1 e3
    have hq := rdIs_ints (ns := l) (by omega) g5 rest
    simp only [rdV, Val.enc, if_neg k0, if_neg k1, if_neg k2, if_neg k3, hq]
theorem encs_drop (T : List (Val × Value × Value)) (i : Nat) (hi : i < T.length) : encs (T.drop i) = T[i].1.enc ++ encs (T.drop (i + 1)) := by
  unfold encs
  rw [List.drop_eq_getElem_cons hi, List.flatMap_cons]
theorem enc_bys {v : Val} (h : v.Ok) : Bys v.enc := by
  unfold Val.enc
  split
  · exact uv_bys _
  split
  · exact iv_bys _
  split
  · intro b hb; simp only [List.mem_singleton] at hb; subst hb; split <;> omega
  split
  · exact raw_bys h.b
  · exact ints_bys _
theorem encs_bys {T : List (Val × Value × Value)} (h : ∀ t ∈ T, t.1.Ok) : Bys (encs T) := by
  intro b hb
  obtain ⟨t, ht, hb⟩ := List.mem_flatMap.1 hb
  exact enc_bys (h t ht) b hb
theorem enc_small {v : Val} (h : v.Ok) (hs : v.Shape) : v.enc.length ≤ 100 := by
  have h1 := uv_len v.u h.u
  have h2 := iv_len h.n.1 h.n.2
  have h3 := uv_len v.b.length (by have := h.bl; omega)
  have h4 := uv_len v.l.length (by have := h.ll; omega)
  have h5 := flatMap_iv_len v.l h.l
  have h6 := hs.sb
  have h7 := hs.sl
  unfold Val.enc
  repeat' split
  all_goals (try simp only [raw, ints, List.length_append, List.length_singleton])
  all_goals omega
theorem encs_small (T : List (Val × Value × Value)) (h : ∀ t ∈ T, t.1.Ok) (hs : ∀ t ∈ T, t.1.Shape) : (encs T).length ≤ 100 * T.length := by
  induction T with
  | nil => simp [encs]
  | cons t T ih =>
    have h1 := enc_small (h t (by simp)) (hs t (by simp))
    have h2 := ih (fun t ht => h t (by simp [ht])) (fun t ht => hs t (by simp [ht]))
    simp only [encs, List.flatMap_cons, List.length_append, List.length_cons] at h2 ⊢; omega
theorem vals_app' {u u5 : World} {vo v5 : Value} {T T2 : List (Val × Value × Value)} (hT : ∀ t ∈ T, IsVal u (blks vo) t.1 t.2.1 t.2.2) (h2 : ∀ t ∈ T2, IsVal u (blks vo) t.1 t.2.1 t.2.2)
    (ho : Own u5 37 5 v5 (T.length + T2.length) (vcs T ++ vcs T2)) (hf : Fr (blks vo) u u5) :
    Own u5 37 5 v5 (T ++ T2).length (vcs (T ++ T2)) ∧ ∀ t ∈ T ++ T2, IsVal u5 [] t.1 t.2.1 t.2.2 := by
  refine ⟨by simpa [vcs] using ho, fun t ht => ?_⟩
  rcases List.mem_append.1 ht with h | h
  · exact ((hT t h).tr hf).mono (by simp)
  · exact ((h2 t h).tr hf).mono (by simp)
/-- a value without bytes and list -/
theorem isVal_bare' {w : World} {S : List Nat} {k : Int} {u : Nat} {n : Int} (hk : InI64 k) (hu : u < 18446744073709551616) (hn : InI64 n) : IsVal w S ⟨k, u, n, [], []⟩ (.slice none 0 0) (.slice none 0 0) :=
  ⟨⟨hk, hu, hn, by simp [Bys], by simp, by simp, by simp⟩, Src.nil _, Src.nil _, fun _ _ _ _ h => by simp at h, fun _ _ _ _ h => by simp at h⟩
theorem inI64_few {n : Int} (h1 : -1000 ≤ n) (h2 : n ≤ 1000) : InI64 n := ⟨by omega, by omega⟩

set_option maxHeartbeats 4000000 in
theorem wireRound_walk (x : Value) (zs : List Int) (un : Nat) (nn : Int) (w : World)
    (hx : Src w x zs.length (zs.map (.int .i64))) (hz : ∀ n ∈ zs, InI64 n) (hu : un < 18446744073709551616) (hn : InI64 nn) :
    Calls Try.prog 8 #[x, .int .u64 un, .int .i64 nn] w fun e w' => e = .returned (.bool true) ∧ Fr [] w w' := by
  refine enter Try.func8 rfl Try.ntmps8 rfl ?_
  refine rn ?_
  refine s_call (vals x zs w hx hz) rfl ?_
  rintro _ w1 ⟨vo, T, rfl, hT, hTl, hf1, hk1⟩
  refine ⟨_, rfl, ?_⟩
  refine rn ?_
  refine s_build [.int .i64 0, .int .u64 un, .int .i64 0, .slice none 0 0, .slice none 0 0] rfl ?_
  refine rn ?_
  refine s_build [.int .i64 1, .int .u64 0, .int .i64 nn, .slice none 0 0, .slice none 0 0] rfl ?_
  obtain ⟨T2, hT2⟩ : ∃ T2 : List (Val × Value × Value), T2 = [(⟨0, un, 0, [], []⟩, .slice none 0 0, .slice none 0 0), (⟨1, 0, nn, [], []⟩, .slice none 0 0, .slice none 0 0)] := ⟨_, rfl⟩
  have hl2 : T2.length = 2 := by rw [hT2]; rfl
  refine s_buildS (vcs T2) rfl rfl (by rw [hT2]; rfl) (by rw [vcs_len, hl2]) (fun w4 ho4 hf4 hs4 => ?_)
  have hall2 : ∀ t ∈ T2, IsVal w4 (blks vo) t.1 t.2.1 t.2.2 := by
    rw [hT2]
    intro t ht
    simp only [List.mem_cons, List.not_mem_nil, or_false] at ht
    rcases ht with rfl | rfl
    · exact isVal_bare' (inI64_few (by omega) (by omega)) hu (inI64_few (by omega) (by omega))
    · exact isVal_bare' (inI64_few (by omega) (by omega)) (by omega) hn
  have hsh2 : ∀ t ∈ T2, t.1.Shape := by
    rw [hT2]
    intro t ht
    simp only [List.mem_cons, List.not_mem_nil, or_false] at ht
    rcases ht with rfl | rfl
    · exact ⟨by simp, by simp, by simp, by simp, by simp, by simp, by simp, by simp, by simp⟩
    · exact ⟨by simp, by simp, by simp, by simp, by simp, by simp, by simp, by simp, by simp⟩
  have hT4 := hT.tr0 hf4
  refine s_append hT4.own rfl ho4.src rfl (by rw [vcs_len, hl2]) (vcs_one T2 hall2) (by unfold maxLen; omega) (by omega) (fun v5 w5 ho5 hf5 hk5 _ => ?_)
  obtain ⟨hoA, hA⟩ := vals_app' hT4.all hall2 (by rw [hl2]; exact ho5) hf5
  have hAl : (T ++ T2).length ≤ 10 := by rw [List.length_append, hl2]; omega
  have hAs : ∀ t ∈ T ++ T2, t.1.Shape := fun t ht => by
    rcases List.mem_append.1 ht with h | h
    · exact hT.shape t h
    · exact hsh2 t h
  have hF05 : Fr [] w w5 := (hf1.trans0 hf4).trans hf5 (fun k hk => .inr (hk1 k hk))
  generalize T ++ T2 = TT at hoA hA hAl hAs
  have hoA' : Own w5 37 5 v5 TT.length (vcs TT) := hoA
  obtain ⟨aoA, cA, hvA⟩ := hoA.slice
  subst hvA
  refine rn ?_
  refine s_call (lawEncode _ TT w5 hoA.src hA (by omega)) rfl ?_
  rintro _ w6 ⟨ve, rfl, ho6, hf6, hk6⟩
  refine ⟨_, rfl, ?_⟩
  have hsm := encs_small TT (fun t ht => (hA t ht).ok) hAs
  have hbys := encs_bys (fun t ht => (hA t ht).ok)
  refine s_call (wRead _ (encs TT) w6 ho6.src hbys (by omega)) rfl ?_
  rintro _ w7 ⟨p, vr, rfl, hr7, hf7, hp7, hk7, _⟩
  refine ⟨_, rfl, ?_⟩
  have z6 := hf6.size
  refine rn ?_
  refine c_loopK 10 [9] (σ := Nat × Value) (fun s g u => g 9 = .int .i64 s.1 ∧ s.1 ≤ TT.length ∧ IsR u p s.2 (encs (TT.drop s.1)) 0 ∧ Fr [] w5 u)
    (fun s => TT.length - s.1) (0, vr) ⟨rfl, Nat.zero_le _, hr7, hf6.trans0 hf7⟩ ?_
  rintro ⟨i, vw⟩ g u ⟨h9, hi, hru, hfu⟩
  simp only at h9 hi hru
  rw [eq_upd h9]
  refine rn ?_
  refine s_lss rfl rfl (fun h => ?_) (fun h => ?_)
  · have hlt : i < TT.length := by omega
    obtain ⟨ad, ha, _⟩ := src_val (i := i) (hoA.src.tr0 hfu) hlt
    have hcell : ∀ q, Fr [] w5 q → ∀ j x, (vcells TT[i].1 TT[i].2.1 TT[i].2.2)[j]? = some x → q.cell? ((ad.add (i * 5)).add j) = some x := by
      intro q hq
      obtain ⟨ad', ha', hc⟩ := src_val (i := i) (hoA.src.tr0 hq) hlt
      rw [ha] at ha'
      simp only [Option.some.injEq] at ha'
      subst ha'; exact hc
    have hok := (hA TT[i] (by simp)).ok
    obtain ⟨C, hC⟩ : ∃ C, C = vcells TT[i].1 TT[i].2.1 TT[i].2.2 := ⟨_, rfl⟩
    have hCl : C.length = 5 := by rw [hC]; rfl
    have hC0 : C[0]? = some (.int .i64 TT[i].1.kind) := by rw [hC]; rfl
    rw [← hC] at hcell
    have hsh := hAs TT[i] (by simp)
    have hrd := rdV_enc hok hsh (encs (TT.drop (i + 1)))
    have hds := encs_small (TT.drop i) (fun t ht => (hA t (List.mem_of_mem_drop ht)).ok) (fun t ht => hAs t (List.mem_of_mem_drop ht))
    rw [List.length_drop] at hds
    rw [← encs_drop TT i hlt] at hrd
    refine rn ?_
    (refine d_begin (fun q => Fr [] w5 q) (by kernel_rfl) rfl ?_)
    have hS : Fr [] w5 u.drew := hfu.trans0 (Fr.drew _ _)
    (refine d_tk 0 hS ?_)
    (refine d_tk 1 hS ?_)
    (refine d_tk 2 hS ?_)
    (apply d_take (i := 3); exact rfl; kernel_rfl; kernel_rfl; kernel_rfl; (intro u hu; exact r_indexAddr rfl rfl rfl hlt ha); exact hS)
    (apply d_take (i := 4); exact rfl; kernel_rfl; kernel_rfl; kernel_rfl; (intro u hu; exact r_fieldAddr rfl); exact hS)
    (apply d_take (i := 5); exact rfl; kernel_rfl; kernel_rfl; kernel_rfl; (intro u hu; exact r_load rfl (hcell _ hu 0 _ hC0)); exact hS)
    (refine d_tk 7 hS ?_)
    (refine d_tk 8 hS ?_)
    (apply d_take (i := 9); exact rfl; kernel_rfl; kernel_rfl; kernel_rfl; (intro u hu; exact r_indexAddr rfl rfl rfl hlt ha); exact hS)
    (apply d_take (i := 10); exact rfl; kernel_rfl; kernel_rfl; kernel_rfl; (intro u hu; exact r_loadAgg C rfl hCl (hcell _ hu)); exact hS)
    refine d_one (i := 6) rfl (by kernel_rfl) ?_
    refine s_call (lawRead p TT[i].1.kind vw _ 0 u.drew (hru.fresh (Fr.drew [] u) (by simp)) hsh.k0 hsh.k6 (by omega)) rfl ?_
    rintro _ u3 ⟨xb, xl, rfl, hnv, v3, hr3, hf3, hsub3⟩
    rw [hrd] at hnv hr3 ⊢
    refine ⟨_, rfl, ?_⟩
    refine wpList_nil ?_
    have hS3 : Fr [] w5 u3 := hS.trans hf3 (by simp; omega)
    refine q_held hS3 ?_
    refine d_one (i := 11) rfl (by kernel_rfl) ?_
    subst hC
    refine s_call (refSame TT[i].1 TT[i].1 _ _ _ _ u3 (hnv.is hok (by simp)) ((hA TT[i] (by simp)).tr0 hS3)) rfl ?_
    rintro _ u4 ⟨rfl, hf4'⟩
    refine ⟨_, rfl, ?_⟩
    rw [same_refl]
    refine wpList_nil ?_
    have hS4 := hS3.trans0 hf4'
    refine q_held hS4 ?_
    (refine d_tk 12 hS4 ?_)
    (refine d_done (by kernel_rfl) ?_)
    refine rn ?_
    exact q_roundK (i + 1, v3) (by (repeat (first | exact Keep.mrg _ _ _ _ | (refine Keep.hi rfl ?_) | (refine Keep.one rfl ?_) | exact Keep.all rfl | (refine Keep.set rfl ?_)))) ⟨rfl, by simp only; omega, hr3.fresh hf4' (by simp), hS4⟩ (by simp only; omega)
  · have hdr : TT.drop i = [] := List.drop_of_length_le (by omega)
    rw [hdr] at hru
    refine rn ?_
    refine s_call (rEnd p vw _ _ u hru) rfl ?_
    rintro _ _ ⟨rfl, rfl⟩
    refine ⟨_, rfl, ?_⟩
    have qe : rdEnd (encs []) 0 = 0 := by decide
    rw [qe]
    refine rn ?_
    refine s_call (lives u) rfl ?_
    rintro _ u2 ⟨rfl, hf2'⟩
    refine ⟨_, rfl, ?_⟩
    refine rn ?_
    (apply ret1; exact rfl; (conv => lhs; whnf))
    exact ⟨rfl, (hF05.trans0 hfu).trans0 hf2'⟩
end Go.Proofs.Ytinafhpbhajdpaa
