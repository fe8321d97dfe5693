/-
  Package tree's decoder: nodes. Package tree: Encode, encodeNode, Decode.
-/
import Derived.Test.YtpochcchekoonaaGreatY2
import Derived.Test.YtpochcchekoonaaGreatY1
import Derived.Test.YtpochcchekoonaaGreatA7
namespace Go.Proofs.YtpochcchekoonaaGreat
open Go.Rf Go.RowKit
set_option linter.unusedVariables false
set_option linter.unusedSimpArgs false
def dNdF (m : Int) (F : Nat) (s : DS) : Nd × DS :=
  let a := dI s
  let b := dT a.2
  let c := dI b.2
  let d := dI c.2
  let e := dLst m dI d.2
  let f := dLst m dT e.2
  let g := dLst m (dVal m F) f.2
  let h := dLst m dI g.2
  let i := dVal m F h.2
  (⟨a.1, b.1, c.1, d.1, e.1, f.1, g.1, h.1, i.1⟩, i.2)
theorem dNd_F (m : Int) : dNd m = dNdF m 131072 := rfl
attribute [local irreducible] Code.wp wpList Exit.then Exit.inBlock bodyPost A Calls execOp Addr.add
set_option maxHeartbeats 4000000 in
theorem nodClo {m : Int} (hm : m ≤ 100000000000) {F : Nat} (hF : F = 131072) {d r : Nat} (b2 : Nat) (w0 : World) (B : Nat) (hB : B ≤ 100000000000) (hb2 : Blk w0 b2 [.pointer (some ⟨d, 0, none⟩)] 100) (h2 : b2 ∉ [d, r]) :
    ElC 101 ([] ++ [.pointer (some ⟨b2, 0, none⟩)]) VR (dVal m F) m d r B w0 := fun q vq u S hfu hD hoff hl hS => by
  have hb2u := hb2.tr hfu h2
  refine enter Tryz.func101 rfl Tryz.ntmps101 rfl ?_
  refine rx ?_
  refine s_alloc rfl (fun u1 hb1 hf1 hs1 => ?_)
  have hb2' := hb2u.tr0 hf1
  refine rx ?_
  refine s_call (valC hm F (by omega) 1 (by omega) q vq u1 (u.heap.size :: S) (hD.tr0 hf1) hoff (by omega) (fun b hb => by
    rcases List.mem_cons.1 hb with rfl | hb
    · omega
    · have := hS b hb; omega)) rfl ?_
  rintro _ u2 ⟨sl, rfl, hsl, v', hD', hf', hsub'⟩
  refine ⟨_, rfl, ?_⟩
  have hlt : u.heap.size ∉ [d, r] := fun hm => by
    simp only [List.mem_cons, List.not_mem_nil, or_false] at hm
    have := hD.1.lt
    have := hD.2.1.lt
    omega
  refine s_storeAggB (cs := vc (dVal m F q).1 sl) rfl rfl (hb1.tr hf' hlt) (VR.mem1 (w := u2) (S := []) _ _ ⟨_, rfl, hsl.any⟩) rfl rfl (fun u3 hb3 hf3 hs3 => ?_)
  refine rx ?_
  have hlt2 : u.heap.size ∉ [d, r] := hlt
  refine retc rfl rfl (AggT.load _ (vc (dVal m F q).1 sl) rfl (fun j x hx => by rw [add_lit]; exact hb3.cell (by simpa using hx))) ⟨_, _, rfl, rfl, ⟨sl, rfl, (hsl.tr (hf3.mono (by simp))).mono (fun b hb => .inl (by simp [hb]))⟩, v', ?_, (hf1.mono (by simp)).trans hf' (fun b hb => .inl hb) |>.trans hf3 (by simp), hsub'⟩
  refine hD'.trF hf3 (fun hm => hlt2 (by simp at hm; simp [hm])) (fun hm => hlt2 (by simp at hm; simp [hm])) ?_
  exact hD.2.far hsub' (dVal_kp m F q hD.2.2.2.2).len (by simp)
set_option maxHeartbeats 32000000 in
theorem nodC {m : Int} (hm : m ≤ 100000000000) {F : Nat} (hF : F = 131072) {d r : Nat} (s : DS) (v : Value) (w : World) (S : List Nat) (hI : IsD w d r v m s) (hO : Off v (s.bs.map (.int .u8)) [d]) (hl : s.bs.length ≤ 100000000000) (hS : ∀ b ∈ S, b < w.heap.size) :
    Calls Tryz.prog 58 #[.pointer (some ⟨d, 0, none⟩)] w fun e w' => ∃ cs, e = .returned (.agg cs.toArray) ∧ NdR w' S (dNdF m F s).1 cs ∧ DStep d r m w v (dNdF m F s).2 w' := by
  refine enter Tryz.func58 rfl Tryz.ntmps58 rfl ?_
  refine rx ?_
  refine s_box (l := [.pointer (some ⟨d, 0, none⟩)]) rfl rfl (fun w1 hb1 hf1 hs1 => ?_)
  refine s_alloc rfl (fun w2 hb2 hf2 hs2 => ?_)
  have hF2 := hf1.trans0 hf2
  have hb1' := hb1.tr0 hf2
  have hD2 := hI.tr0 hF2
  have hdl := hI.1.lt
  have hrl := hI.2.1.lt
  clear hb1
  obtain ⟨N1, hN1⟩ : ∃ y, y = w.heap.size := ⟨_, rfl⟩
  obtain ⟨N2, hN2⟩ : ∃ y, y = w1.heap.size := ⟨_, rfl⟩
  rw [← hN1] at hb1' ⊢
  rw [← hN2] at hb2 ⊢
  have hlt2 : N2 < w2.heap.size := hb2.lt
  rcases hq1 : dI s with ⟨k0, s1⟩
  rcases hq2 : dT s1 with ⟨nm, s2⟩
  rcases hq3 : dI s2 with ⟨lo, s3⟩
  rcases hq4 : dI s3 with ⟨hi, s4⟩
  rcases hq5 : dLst m dI s4 with ⟨ws, s5⟩
  rcases hq6 : dLst m dT s5 with ⟨labs, s6⟩
  rcases hq7 : dLst m (dVal m F) s6 with ⟨vals, s7⟩
  rcases hq8 : dLst m dI s7 with ⟨kids, s8⟩
  rcases hq9 : dVal m F s8 with ⟨val, s9⟩
  have hdv : dNdF m F s = (⟨k0, nm, lo, hi, ws, labs, vals, kids, val⟩, s9) := by simp only [dNdF, hq1, hq2, hq3, hq4, hq5, hq6, hq7, hq8, hq9]
  have e1 : (dI s).1 = k0 := by rw [hq1]
  have e1' : (dI s).2 = s1 := by rw [hq1]
  have e2 : (dT s1).1 = nm := by rw [hq2]
  have e2' : (dT s1).2 = s2 := by rw [hq2]
  have e3 : (dI s2).1 = lo := by rw [hq3]
  have e3' : (dI s2).2 = s3 := by rw [hq3]
  have e4 : (dI s3).1 = hi := by rw [hq4]
  have e4' : (dI s3).2 = s4 := by rw [hq4]
  have kp1 : DK s s1 := by have := dI_kp s hI.2.2.2.2; rw [hq1] at this; exact this
  have kp2 : DK s1 s2 := by have := dT_kp s1 kp1.bys; rw [hq2] at this; exact this
  have kp3 : DK s2 s3 := by have := dI_kp s2 kp2.bys; rw [hq3] at this; exact this
  have kp4 : DK s3 s4 := by have := dI_kp s3 kp3.bys; rw [hq4] at this; exact this
  have kp5 : DK s4 s5 := by have := dLst_kp (m := m) dI_kp s4 kp4.bys; rw [hq5] at this; exact this
  have kp6 : DK s5 s6 := by have := dLst_kp (m := m) dT_kp s5 kp5.bys; rw [hq6] at this; exact this
  have kp7 : DK s6 s7 := by have := dLst_kp (m := m) (dVal_kp m F) s6 kp6.bys; rw [hq7] at this; exact this
  have kp8 : DK s7 s8 := by have := dLst_kp (m := m) dI_kp s7 kp7.bys; rw [hq8] at this; exact this
  have kp9 : DK s8 s9 := by have := dVal_kp m F s8 kp8.bys; rw [hq9] at this; exact this
  have l1 := kp1.len
  have l2 := kp2.len
  have l3 := kp3.len
  have l4 := kp4.len
  have l5 := kp5.len
  have l6 := kp6.len
  have l7 := kp7.len
  have l8 := kp8.len
  have l9 := kp9.len
  rw [hdv]
  clear hdv hq1 hq2 hq3 hq4
  (refine rr ?_; refine wpList_nil ?_; refine q_then ?_; refine wp_seq ?_; refine c_cut (fun g z => g 1 = .pointer (some ⟨N1, 0, none⟩) ∧ g 2 = .pointer (some ⟨N2, 0, none⟩) ∧ ∃ bb v4, g 3 = .pointer (some ⟨bb, 0, none⟩) ∧ Blk z bb (nc ⟨k0, nm, lo, hi, [], [], [], [], numV 0⟩ (.slice none 0 0) (.slice none 0 0) (.slice none 0 0) (.slice none 0 0) (.slice none 0 0)) 36 ∧ N2 < bb ∧ IsD z d r v4 m s4 ∧ Fr [r] w2 z ∧ Sub v v4) ?_ ?_)
  · (refine d_begin (Hd m d r N1) (by kernel_rfl) rfl ?_)
    have hFr : Fr [r] w2 w2.drew := Fr.drew _ _
    have hDD := hD2.tr0 (Fr.drew [] w2)
    have hS : Hd m d r N1 w2.drew := hDD.dk (hb1'.tr0 (Fr.drew [] w2))
    have hSub := Sub.refl v
    have hsz : w2.heap.size ≤ w2.drew.heap.size := hFr.size
    ((first | refine d_tx 0 hS ?_ | refine d_ty 0 hS ?_ | refine d_tn 0 hS ?_); (first | refine d_tx 1 hS ?_ | refine d_ty 1 hS ?_ | refine d_tn 1 hS ?_); (first | refine d_tx 2 hS ?_ | refine d_ty 2 hS ?_ | refine d_tn 2 hS ?_))
    (apply d_take (i := 3); exact rfl; kernel_rfl; kernel_rfl; kernel_rfl; (intro u hu; exact (r_load rfl (Blk.cell hu.1.choose_spec rfl))); exact hS)
    ((first | refine d_tx 5 hS ?_ | refine d_ty 5 hS ?_ | refine d_tn 5 hS ?_); (first | refine d_tx 6 hS ?_ | refine d_ty 6 hS ?_ | refine d_tn 6 hS ?_); (first | refine d_tx 7 hS ?_ | refine d_ty 7 hS ?_ | refine d_tn 7 hS ?_))
    (apply d_take (i := 8); exact rfl; kernel_rfl; kernel_rfl; kernel_rfl; (intro u hu; exact (r_load rfl (Blk.cell hu.1.choose_spec rfl))); exact hS)
    ((first | refine d_tx 10 hS ?_ | refine d_ty 10 hS ?_ | refine d_tn 10 hS ?_); (first | refine d_tx 11 hS ?_ | refine d_ty 11 hS ?_ | refine d_tn 11 hS ?_); (first | refine d_tx 12 hS ?_ | refine d_ty 12 hS ?_ | refine d_tn 12 hS ?_))
    (apply d_take (i := 13); exact rfl; kernel_rfl; kernel_rfl; kernel_rfl; (intro u hu; exact (r_load rfl (Blk.cell hu.1.choose_spec rfl))); exact hS)
    ((first | refine d_tx 15 hS ?_ | refine d_ty 15 hS ?_ | refine d_tn 15 hS ?_); (first | refine d_tx 16 hS ?_ | refine d_ty 16 hS ?_ | refine d_tn 16 hS ?_); (first | refine d_tx 17 hS ?_ | refine d_ty 17 hS ?_ | refine d_tn 17 hS ?_))
    (apply d_take (i := 18); exact rfl; kernel_rfl; kernel_rfl; kernel_rfl; (intro u hu; exact (r_load rfl (Blk.cell hu.1.choose_spec rfl))); exact hS)
    refine d_two (i := 4) (j := 21) rfl rfl (by kernel_rfl) ?qa1 ?qb1
    case' qa1 =>
      refine s_call (dInt hDD) rfl ?_
      rintro _ zz ⟨rfl, vn, hDn, hfn, hsn⟩
      refine ⟨_, rfl, ?_⟩
      rw [e1'] at hDn
      rw [e1]
      (first | (replace hbb := hbb.tr hfn (by simp; omega)) | skip)
      replace hS := hDn.dk (hS.2.tr hfn (by simp; omega))
      replace hDD := hDn
      replace hFr := hFr.trans hfn (fun b hb => .inl hb)
      replace hSub := hSub.trans hsn
      replace hsz := Nat.le_trans hsz hfn.size
      refine wpList_nil (q_held hS ?_)
      refine d_two (i := 9) (j := 21) rfl rfl (by kernel_rfl) ?qa2 ?qb2
      case' qa2 =>
        refine s_call (dText hDD (by omega)) rfl ?_
        rintro _ zz ⟨rfl, vn, hDn, hfn, hsn⟩
        refine ⟨_, rfl, ?_⟩
        rw [e2'] at hDn
        rw [e2]
        (first | (replace hbb := hbb.tr hfn (by simp; omega)) | skip)
        replace hS := hDn.dk (hS.2.tr hfn (by simp; omega))
        replace hDD := hDn
        replace hFr := hFr.trans hfn (fun b hb => .inl hb)
        replace hSub := hSub.trans hsn
        replace hsz := Nat.le_trans hsz hfn.size
        refine wpList_nil (q_held hS ?_)
        refine d_two (i := 14) (j := 21) rfl rfl (by kernel_rfl) ?qa3 ?qb3
        case' qa3 =>
          refine s_call (dInt hDD) rfl ?_
          rintro _ zz ⟨rfl, vn, hDn, hfn, hsn⟩
          refine ⟨_, rfl, ?_⟩
          rw [e3'] at hDn
          rw [e3]
          (first | (replace hbb := hbb.tr hfn (by simp; omega)) | skip)
          replace hS := hDn.dk (hS.2.tr hfn (by simp; omega))
          replace hDD := hDn
          replace hFr := hFr.trans hfn (fun b hb => .inl hb)
          replace hSub := hSub.trans hsn
          replace hsz := Nat.le_trans hsz hfn.size
          refine wpList_nil (q_held hS ?_)
          refine d_two (i := 19) (j := 21) rfl rfl (by kernel_rfl) ?qa4 ?qb4
          case' qa4 =>
            refine s_call (dInt hDD) rfl ?_
            rintro _ zz ⟨rfl, vn, hDn, hfn, hsn⟩
            refine ⟨_, rfl, ?_⟩
            rw [e4'] at hDn
            rw [e4]
            (first | (replace hbb := hbb.tr hfn (by simp; omega)) | skip)
            replace hS := hDn.dk (hS.2.tr hfn (by simp; omega))
            replace hDD := hDn
            replace hFr := hFr.trans hfn (fun b hb => .inl hb)
            replace hSub := hSub.trans hsn
            replace hsz := Nat.le_trans hsz hfn.size
            refine wpList_nil (q_held hS ?_)
            (apply d_take (i := 20) (v := .agg ((nc ⟨k0, nm, lo, hi, [], [], [], [], numV 0⟩ (.slice none 0 0) (.slice none 0 0) (.slice none 0 0) (.slice none 0 0) (.slice none 0 0))).toArray); exact rfl; kernel_rfl; kernel_rfl; kernel_rfl; (intro u hu; exact r_build ((nc ⟨k0, nm, lo, hi, [], [], [], [], numV 0⟩ (.slice none 0 0) (.slice none 0 0) (.slice none 0 0) (.slice none 0 0) (.slice none 0 0))) (by rfl)); exact hS)
            refine d_one (i := 21) rfl (by kernel_rfl) ?_
            refine s_allocG rfl (fun bb zz hge hbb hfx => ?_)
            have hbN := Nat.le_trans hsz hge
            replace hDD := hDD.tr0 hfx
            replace hS := hDD.dk (hS.2.tr0 hfx)
            replace hFr := hFr.trans0 hfx
            replace hsz := Nat.le_trans hsz hfx.size
            refine wpList_nil (q_held hS ?_)
          case' qb4 =>
            refine s_allocG rfl (fun bb zz hge hbb hfx => ?_)
            have hbN := Nat.le_trans hsz hge
            replace hDD := hDD.tr0 hfx
            replace hS := hDD.dk (hS.2.tr0 hfx)
            replace hFr := hFr.trans0 hfx
            replace hsz := Nat.le_trans hsz hfx.size
            refine wpList_nil (q_held hS ?_)
            refine d_one (i := 19) rfl (by kernel_rfl) ?_
            refine s_call (dInt hDD) rfl ?_
            rintro _ zz ⟨rfl, vn, hDn, hfn, hsn⟩
            refine ⟨_, rfl, ?_⟩
            rw [e4'] at hDn
            rw [e4]
            (first | (replace hbb := hbb.tr hfn (by simp; omega)) | skip)
            replace hS := hDn.dk (hS.2.tr hfn (by simp; omega))
            replace hDD := hDn
            replace hFr := hFr.trans hfn (fun b hb => .inl hb)
            replace hSub := hSub.trans hsn
            replace hsz := Nat.le_trans hsz hfn.size
            refine wpList_nil (q_held hS ?_)
            (apply d_take (i := 20) (v := .agg ((nc ⟨k0, nm, lo, hi, [], [], [], [], numV 0⟩ (.slice none 0 0) (.slice none 0 0) (.slice none 0 0) (.slice none 0 0) (.slice none 0 0))).toArray); exact rfl; kernel_rfl; kernel_rfl; kernel_rfl; (intro u hu; exact r_build ((nc ⟨k0, nm, lo, hi, [], [], [], [], numV 0⟩ (.slice none 0 0) (.slice none 0 0) (.slice none 0 0) (.slice none 0 0) (.slice none 0 0))) (by rfl)); exact hS)
        case' qb3 =>
          refine s_allocG rfl (fun bb zz hge hbb hfx => ?_)
          have hbN := Nat.le_trans hsz hge
          replace hDD := hDD.tr0 hfx
          replace hS := hDD.dk (hS.2.tr0 hfx)
          replace hFr := hFr.trans0 hfx
          replace hsz := Nat.le_trans hsz hfx.size
          refine wpList_nil (q_held hS ?_)
          refine d_one (i := 14) rfl (by kernel_rfl) ?_
          refine s_call (dInt hDD) rfl ?_
          rintro _ zz ⟨rfl, vn, hDn, hfn, hsn⟩
          refine ⟨_, rfl, ?_⟩
          rw [e3'] at hDn
          rw [e3]
          (first | (replace hbb := hbb.tr hfn (by simp; omega)) | skip)
          replace hS := hDn.dk (hS.2.tr hfn (by simp; omega))
          replace hDD := hDn
          replace hFr := hFr.trans hfn (fun b hb => .inl hb)
          replace hSub := hSub.trans hsn
          replace hsz := Nat.le_trans hsz hfn.size
          refine wpList_nil (q_held hS ?_)
          refine d_one (i := 19) rfl (by kernel_rfl) ?_
          refine s_call (dInt hDD) rfl ?_
          rintro _ zz ⟨rfl, vn, hDn, hfn, hsn⟩
          refine ⟨_, rfl, ?_⟩
          rw [e4'] at hDn
          rw [e4]
          (first | (replace hbb := hbb.tr hfn (by simp; omega)) | skip)
          replace hS := hDn.dk (hS.2.tr hfn (by simp; omega))
          replace hDD := hDn
          replace hFr := hFr.trans hfn (fun b hb => .inl hb)
          replace hSub := hSub.trans hsn
          replace hsz := Nat.le_trans hsz hfn.size
          refine wpList_nil (q_held hS ?_)
          (apply d_take (i := 20) (v := .agg ((nc ⟨k0, nm, lo, hi, [], [], [], [], numV 0⟩ (.slice none 0 0) (.slice none 0 0) (.slice none 0 0) (.slice none 0 0) (.slice none 0 0))).toArray); exact rfl; kernel_rfl; kernel_rfl; kernel_rfl; (intro u hu; exact r_build ((nc ⟨k0, nm, lo, hi, [], [], [], [], numV 0⟩ (.slice none 0 0) (.slice none 0 0) (.slice none 0 0) (.slice none 0 0) (.slice none 0 0))) (by rfl)); exact hS)
      case' qb2 =>
        refine s_allocG rfl (fun bb zz hge hbb hfx => ?_)
        have hbN := Nat.le_trans hsz hge
        replace hDD := hDD.tr0 hfx
        replace hS := hDD.dk (hS.2.tr0 hfx)
        replace hFr := hFr.trans0 hfx
        replace hsz := Nat.le_trans hsz hfx.size
        refine wpList_nil (q_held hS ?_)
        refine d_one (i := 9) rfl (by kernel_rfl) ?_
        refine s_call (dText hDD (by omega)) rfl ?_
        rintro _ zz ⟨rfl, vn, hDn, hfn, hsn⟩
        refine ⟨_, rfl, ?_⟩
        rw [e2'] at hDn
        rw [e2]
        (first | (replace hbb := hbb.tr hfn (by simp; omega)) | skip)
        replace hS := hDn.dk (hS.2.tr hfn (by simp; omega))
        replace hDD := hDn
        replace hFr := hFr.trans hfn (fun b hb => .inl hb)
        replace hSub := hSub.trans hsn
        replace hsz := Nat.le_trans hsz hfn.size
        refine wpList_nil (q_held hS ?_)
        refine d_one (i := 14) rfl (by kernel_rfl) ?_
        refine s_call (dInt hDD) rfl ?_
        rintro _ zz ⟨rfl, vn, hDn, hfn, hsn⟩
        refine ⟨_, rfl, ?_⟩
        rw [e3'] at hDn
        rw [e3]
        (first | (replace hbb := hbb.tr hfn (by simp; omega)) | skip)
        replace hS := hDn.dk (hS.2.tr hfn (by simp; omega))
        replace hDD := hDn
        replace hFr := hFr.trans hfn (fun b hb => .inl hb)
        replace hSub := hSub.trans hsn
        replace hsz := Nat.le_trans hsz hfn.size
        refine wpList_nil (q_held hS ?_)
        refine d_one (i := 19) rfl (by kernel_rfl) ?_
        refine s_call (dInt hDD) rfl ?_
        rintro _ zz ⟨rfl, vn, hDn, hfn, hsn⟩
        refine ⟨_, rfl, ?_⟩
        rw [e4'] at hDn
        rw [e4]
        (first | (replace hbb := hbb.tr hfn (by simp; omega)) | skip)
        replace hS := hDn.dk (hS.2.tr hfn (by simp; omega))
        replace hDD := hDn
        replace hFr := hFr.trans hfn (fun b hb => .inl hb)
        replace hSub := hSub.trans hsn
        replace hsz := Nat.le_trans hsz hfn.size
        refine wpList_nil (q_held hS ?_)
        (apply d_take (i := 20) (v := .agg ((nc ⟨k0, nm, lo, hi, [], [], [], [], numV 0⟩ (.slice none 0 0) (.slice none 0 0) (.slice none 0 0) (.slice none 0 0) (.slice none 0 0))).toArray); exact rfl; kernel_rfl; kernel_rfl; kernel_rfl; (intro u hu; exact r_build ((nc ⟨k0, nm, lo, hi, [], [], [], [], numV 0⟩ (.slice none 0 0) (.slice none 0 0) (.slice none 0 0) (.slice none 0 0) (.slice none 0 0))) (by rfl)); exact hS)
    case' qb1 =>
      refine s_allocG rfl (fun bb zz hge hbb hfx => ?_)
      have hbN := Nat.le_trans hsz hge
      replace hDD := hDD.tr0 hfx
      replace hS := hDD.dk (hS.2.tr0 hfx)
      replace hFr := hFr.trans0 hfx
      replace hsz := Nat.le_trans hsz hfx.size
      refine wpList_nil (q_held hS ?_)
      refine d_one (i := 4) rfl (by kernel_rfl) ?_
      refine s_call (dInt hDD) rfl ?_
      rintro _ zz ⟨rfl, vn, hDn, hfn, hsn⟩
      refine ⟨_, rfl, ?_⟩
      rw [e1'] at hDn
      rw [e1]
      (first | (replace hbb := hbb.tr hfn (by simp; omega)) | skip)
      replace hS := hDn.dk (hS.2.tr hfn (by simp; omega))
      replace hDD := hDn
      replace hFr := hFr.trans hfn (fun b hb => .inl hb)
      replace hSub := hSub.trans hsn
      replace hsz := Nat.le_trans hsz hfn.size
      refine wpList_nil (q_held hS ?_)
      refine d_one (i := 9) rfl (by kernel_rfl) ?_
      refine s_call (dText hDD (by omega)) rfl ?_
      rintro _ zz ⟨rfl, vn, hDn, hfn, hsn⟩
      refine ⟨_, rfl, ?_⟩
      rw [e2'] at hDn
      rw [e2]
      (first | (replace hbb := hbb.tr hfn (by simp; omega)) | skip)
      replace hS := hDn.dk (hS.2.tr hfn (by simp; omega))
      replace hDD := hDn
      replace hFr := hFr.trans hfn (fun b hb => .inl hb)
      replace hSub := hSub.trans hsn
      replace hsz := Nat.le_trans hsz hfn.size
      refine wpList_nil (q_held hS ?_)
      refine d_one (i := 14) rfl (by kernel_rfl) ?_
      refine s_call (dInt hDD) rfl ?_
      rintro _ zz ⟨rfl, vn, hDn, hfn, hsn⟩
      refine ⟨_, rfl, ?_⟩
      rw [e3'] at hDn
      rw [e3]
      (first | (replace hbb := hbb.tr hfn (by simp; omega)) | skip)
      replace hS := hDn.dk (hS.2.tr hfn (by simp; omega))
      replace hDD := hDn
      replace hFr := hFr.trans hfn (fun b hb => .inl hb)
      replace hSub := hSub.trans hsn
      replace hsz := Nat.le_trans hsz hfn.size
      refine wpList_nil (q_held hS ?_)
      refine d_one (i := 19) rfl (by kernel_rfl) ?_
      refine s_call (dInt hDD) rfl ?_
      rintro _ zz ⟨rfl, vn, hDn, hfn, hsn⟩
      refine ⟨_, rfl, ?_⟩
      rw [e4'] at hDn
      rw [e4]
      (first | (replace hbb := hbb.tr hfn (by simp; omega)) | skip)
      replace hS := hDn.dk (hS.2.tr hfn (by simp; omega))
      replace hDD := hDn
      replace hFr := hFr.trans hfn (fun b hb => .inl hb)
      replace hSub := hSub.trans hsn
      replace hsz := Nat.le_trans hsz hfn.size
      refine wpList_nil (q_held hS ?_)
      (apply d_take (i := 20) (v := .agg ((nc ⟨k0, nm, lo, hi, [], [], [], [], numV 0⟩ (.slice none 0 0) (.slice none 0 0) (.slice none 0 0) (.slice none 0 0) (.slice none 0 0))).toArray); exact rfl; kernel_rfl; kernel_rfl; kernel_rfl; (intro u hu; exact r_build ((nc ⟨k0, nm, lo, hi, [], [], [], [], numV 0⟩ (.slice none 0 0) (.slice none 0 0) (.slice none 0 0) (.slice none 0 0) (.slice none 0 0))) (by rfl)); exact hS)
    all_goals
      refine d_one (i := 22) rfl (by kernel_rfl) ?_
      refine s_storeAggB (cs := nc ⟨k0, nm, lo, hi, [], [], [], [], numV 0⟩ (.slice none 0 0) (.slice none 0 0) (.slice none 0 0) (.slice none 0 0) (.slice none 0 0)) rfl rfl hbb (ndStab.one (w := w2) (S := []) (x := ⟨k0, nm, lo, hi, [], [], [], [], numV 0⟩) ⟨_, _, _, _, _, rfl, Ls.nil, Ls.nil, VS.nil _ _, Ls.nil, VS.nil _ _⟩) rfl rfl (fun z2 hbz hfz hsz2 => ?_)
      have hD9 := hDD.trF hfz (by simp; omega) (by simp; omega) (hI.2.far hSub (by omega) (by simp; omega))
      refine wpList_nil (q_held (hD9.dk (hS.2.tr hfz (by simp; omega))) ?_)
      (refine d_done (by kernel_rfl) ?_)
      exact q_cut ⟨rfl, rfl, _, _, rfl, hbz, by omega, hD9, hFr.trans hfz (by simp; omega), hSub⟩
  rintro g z ⟨j1, j2, bb, v4, j3, hbb, hbN, hD4, hFz, hsub4⟩
  rw [eq_upd j1, eq_upd j2, eq_upd j3]
  have hn1 := hb1'.tr hFz (by simp; omega)
  have hn2 := hb2.tr hFz (by simp; omega)
  have hltb := hbb.lt
  have hO4 : Off v4 (s4.bs.map (.int .u8)) [d] := hsub4.off (ys := s.bs.map (.int .u8)) (by simp only [List.length_map]; omega) hO
  have hlts : ∀ b ∈ d :: r :: bb :: N2 :: S, b < z.heap.size := fun b hb => by
    have := hFz.size
    have := hF2.size
    simp only [List.mem_cons] at hb
    rcases hb with rfl | rfl | rfl | rfl | hb
    · omega
    · omega
    · omega
    · omega
    · have := hS b hb; omega
  have hin : ∀ (S' : List Nat), (∀ b ∈ S', b = d ∨ b = r ∨ b = bb) → ∀ {u u' : World}, Fr S' u u' → Fr (d :: r :: bb :: N2 :: S) u u' := fun S' h u u' hf => hf.mono (fun b hb => .inl (by rcases h b hb with h | h | h <;> simp [h]))
  have hK : Fr [d, r, bb] z z := Fr.refl _ _
  refine rx ?_
  (refine d_begin (Hd m d r N1) (by kernel_rfl) rfl ?_)
  have hDa := hD4.tr0 (Fr.drew [] z)
  have hna := hn1.tr0 (Fr.drew [] z)
  ((first | refine d_tx 0 (hDa.dk hna) ?_ | refine d_ty 0 (hDa.dk hna) ?_ | refine d_tn 0 (hDa.dk hna) ?_); (first | refine d_tx 1 (hDa.dk hna) ?_ | refine d_ty 1 (hDa.dk hna) ?_ | refine d_tn 1 (hDa.dk hna) ?_); (first | refine d_tx 2 (hDa.dk hna) ?_ | refine d_ty 2 (hDa.dk hna) ?_ | refine d_tn 2 (hDa.dk hna) ?_); (first | refine d_tx 3 (hDa.dk hna) ?_ | refine d_ty 3 (hDa.dk hna) ?_ | refine d_tn 3 (hDa.dk hna) ?_))
  (apply d_take (i := 4); exact rfl; kernel_rfl; kernel_rfl; kernel_rfl; (intro u hu; exact (r_load rfl (Blk.cell hu.1.choose_spec rfl))); exact (hDa.dk hna))
  (apply d_take (i := 5); exact rfl; kernel_rfl; kernel_rfl; kernel_rfl; (intro u hu; exact (r_makeFunc (a := [.pointer (some ⟨r, 0, none⟩)]) (b := []) rfl rfl)); exact (hDa.dk hna))
  refine d_one (i := 6) rfl (by kernel_rfl) ?_
  refine s_call (dList_int iStab dI dI_kp 24 [.pointer (some ⟨r, 0, none⟩)] [] m hm d r (d :: r :: bb :: N2 :: S) s4 v4 z.drew hDa hO4 (by simp) (by simp) (fun b hb => Nat.lt_of_lt_of_le (hlts b hb) (hK.trans0 (Fr.drew [] _)).size) (elInt m d r _ _)) rfl ?_
  rintro _ y5 ⟨sw, rfl, hSL, hll, v5, hDb, hfb, hsb⟩
  refine ⟨_, rfl, ?_⟩
  rw [hq5] at hSL hll hDb
  simp only at hSL hll hDb
  have hsw := Sl.is hSL
  have hbc := (hbb.tr0 (Fr.drew [] _)).tr hfb (by simp; omega)
  have hnb := hna.tr hfb (by simp; omega)
  refine wpList_nil (q_held (hDb.dk hnb) ?_)
  ((first | refine d_tx 7 (hDb.dk hnb) ?_ | refine d_ty 7 (hDb.dk hnb) ?_ | refine d_tn 7 (hDb.dk hnb) ?_))
  refine d_one (i := 8) rfl (by kernel_rfl) ?_
  ((with_reducible apply s_storeB); exact rfl; (conv => lhs; whnf); exact hsw.one; exact hbc; exact rfl)
  intro z5 hbd hfd hsd
  have hsub5 := hsub4.trans hsb
  have hD5 := hDb.trF hfd (by simp; omega) (by simp; omega) (hI.2.far hsub5 (by omega) (by simp; omega))
  replace hbb : Blk z5 bb (nc ⟨k0, nm, lo, hi, [], [], [], [], numV 0⟩ sw (.slice none 0 0) (.slice none 0 0) (.slice none 0 0) (.slice none 0 0)) 36 := hbd
  replace hn1 := hnb.tr hfd (by simp; omega)
  have hG : Fr [d, r, bb] z z5 := (((Fr.drew [d, r, bb] z).trans hfb (by simp)).trans hfd (by simp))
  replace hn2 := hn2.tr hG (by simp; omega)
  replace hK := hK.trans hG (fun b hb => .inl hb)
  replace hsw := hsw.tr (hin _ (by simp) hfd)
  have hO5 : Off v5 (s5.bs.map (.int .u8)) [d] := hsub5.off (ys := s.bs.map (.int .u8)) (by simp only [List.length_map]; omega) hO
  refine wpList_nil (q_held (hD5.dk hn1) ?_)
  (refine d_done (by kernel_rfl) ?_)
  refine rx ?_
  (refine d_begin (Hd m d r N1) (by kernel_rfl) rfl ?_)
  have hDa := hD5.tr0 (Fr.drew [] z5)
  have hna := hn1.tr0 (Fr.drew [] z5)
  ((first | refine d_tx 0 (hDa.dk hna) ?_ | refine d_ty 0 (hDa.dk hna) ?_ | refine d_tn 0 (hDa.dk hna) ?_); (first | refine d_tx 1 (hDa.dk hna) ?_ | refine d_ty 1 (hDa.dk hna) ?_ | refine d_tn 1 (hDa.dk hna) ?_); (first | refine d_tx 2 (hDa.dk hna) ?_ | refine d_ty 2 (hDa.dk hna) ?_ | refine d_tn 2 (hDa.dk hna) ?_); (first | refine d_tx 3 (hDa.dk hna) ?_ | refine d_ty 3 (hDa.dk hna) ?_ | refine d_tn 3 (hDa.dk hna) ?_))
  (apply d_take (i := 4); exact rfl; kernel_rfl; kernel_rfl; kernel_rfl; (intro u hu; exact (r_load rfl (Blk.cell hu.1.choose_spec rfl))); exact (hDa.dk hna))
  (apply d_take (i := 5); exact rfl; kernel_rfl; kernel_rfl; kernel_rfl; (intro u hu; exact (r_makeFunc (a := [.pointer (some ⟨r, 0, none⟩)]) (b := []) rfl rfl)); exact (hDa.dk hna))
  refine d_one (i := 6) rfl (by kernel_rfl) ?_
  refine s_call (dList_str tStab dT dT_kp 97 [.pointer (some ⟨r, 0, none⟩)] [] m hm d r (d :: r :: bb :: N2 :: S) s5 v5 z5.drew hDa hO5 (by simp) (by simp) (fun b hb => Nat.lt_of_lt_of_le (hlts b hb) (hK.trans0 (Fr.drew [] _)).size) (elText m d r _ (by omega) _)) rfl ?_
  rintro _ y6 ⟨sL, rfl, hSL, hll, v6, hDb, hfb, hsb⟩
  refine ⟨_, rfl, ?_⟩
  rw [hq6] at hSL hll hDb
  simp only at hSL hll hDb
  have hsL := Sl.ts hSL
  have hbc := (hbb.tr0 (Fr.drew [] _)).tr hfb (by simp; omega)
  have hnb := hna.tr hfb (by simp; omega)
  refine wpList_nil (q_held (hDb.dk hnb) ?_)
  ((first | refine d_tx 7 (hDb.dk hnb) ?_ | refine d_ty 7 (hDb.dk hnb) ?_ | refine d_tn 7 (hDb.dk hnb) ?_))
  refine d_one (i := 8) rfl (by kernel_rfl) ?_
  ((with_reducible apply s_storeB); exact rfl; (conv => lhs; whnf); exact hsL.one; exact hbc; exact rfl)
  intro z6 hbd hfd hsd
  have hsub6 := hsub5.trans hsb
  have hD6 := hDb.trF hfd (by simp; omega) (by simp; omega) (hI.2.far hsub6 (by omega) (by simp; omega))
  replace hbb : Blk z6 bb (nc ⟨k0, nm, lo, hi, [], [], [], [], numV 0⟩ sw sL (.slice none 0 0) (.slice none 0 0) (.slice none 0 0)) 36 := hbd
  replace hn1 := hnb.tr hfd (by simp; omega)
  have hG : Fr [d, r, bb] z5 z6 := (((Fr.drew [d, r, bb] z5).trans hfb (by simp)).trans hfd (by simp))
  replace hn2 := hn2.tr hG (by simp; omega)
  replace hK := hK.trans hG (fun b hb => .inl hb)
  replace hsL := hsL.tr (hin _ (by simp) hfd)
  replace hsw := hsw.tr (hin _ (by simp) hG)
  have hO6 : Off v6 (s6.bs.map (.int .u8)) [d] := hsub6.off (ys := s.bs.map (.int .u8)) (by simp only [List.length_map]; omega) hO
  refine wpList_nil (q_held (hD6.dk hn1) ?_)
  (refine d_done (by kernel_rfl) ?_)
  refine rx ?_
  refine s_makeFunc (a := []) (b := [.pointer (some ⟨N1, 0, none⟩)]) rfl rfl ?_
  refine rx ?_
  refine s_call (dList_val vrStab (dVal m F) (dVal_kp m F) 101 [] [.pointer (some ⟨N1, 0, none⟩)] m hm d r (d :: r :: bb :: N2 :: S) s6 v6 z6 hD6 hO6 (by simp) (by simp) (fun b hb => Nat.lt_of_lt_of_le (hlts b hb) hK.size) (nodClo hm hF N1 z6 _ (by omega) hn1 (by simp; omega))) rfl ?_
  rintro _ y7 ⟨sv, rfl, hSL, hll, v7, hDb, hfb, hsb⟩
  refine ⟨_, rfl, ?_⟩
  rw [hq7] at hSL hll hDb
  simp only at hSL hll hDb
  have hsv := VS.ofSl (by omega) hSL
  have hbc := hbb.tr hfb (by simp; omega)
  have hnb := hn1.tr hfb (by simp; omega)
  refine rx ?_
  ((with_reducible apply s_storeB); exact rfl; (conv => lhs; whnf); exact hsv.one; exact hbc; exact rfl)
  intro z7 hbd hfd hsd
  have hsub7 := hsub6.trans hsb
  have hD7 := hDb.trF hfd (by simp; omega) (by simp; omega) (hI.2.far hsub7 (by omega) (by simp; omega))
  replace hbb : Blk z7 bb (nc ⟨k0, nm, lo, hi, [], [], [], [], numV 0⟩ sw sL sv (.slice none 0 0) (.slice none 0 0)) 36 := hbd
  replace hn1 := hnb.tr hfd (by simp; omega)
  have hG : Fr [d, r, bb] z6 z7 := ((hfb.mono (T := [d, r, bb]) (fun b hb => .inl (by simp at hb; rcases hb with h | h <;> simp [h]))).trans hfd (by simp))
  replace hn2 := hn2.tr hG (by simp; omega)
  replace hK := hK.trans hG (fun b hb => .inl hb)
  replace hsv := hsv.tr (hin _ (by simp) hfd)
  replace hsw := hsw.tr (hin _ (by simp) hG)
  replace hsL := hsL.tr (hin _ (by simp) hG)
  have hO7 : Off v7 (s7.bs.map (.int .u8)) [d] := hsub7.off (ys := s.bs.map (.int .u8)) (by simp only [List.length_map]; omega) hO
  refine rx ?_
  (refine d_begin (Hd m d r N1) (by kernel_rfl) rfl ?_)
  have hDa := hD7.tr0 (Fr.drew [] z7)
  have hna := hn1.tr0 (Fr.drew [] z7)
  ((first | refine d_tx 0 (hDa.dk hna) ?_ | refine d_ty 0 (hDa.dk hna) ?_ | refine d_tn 0 (hDa.dk hna) ?_); (first | refine d_tx 1 (hDa.dk hna) ?_ | refine d_ty 1 (hDa.dk hna) ?_ | refine d_tn 1 (hDa.dk hna) ?_); (first | refine d_tx 2 (hDa.dk hna) ?_ | refine d_ty 2 (hDa.dk hna) ?_ | refine d_tn 2 (hDa.dk hna) ?_); (first | refine d_tx 3 (hDa.dk hna) ?_ | refine d_ty 3 (hDa.dk hna) ?_ | refine d_tn 3 (hDa.dk hna) ?_))
  (apply d_take (i := 4); exact rfl; kernel_rfl; kernel_rfl; kernel_rfl; (intro u hu; exact (r_load rfl (Blk.cell hu.1.choose_spec rfl))); exact (hDa.dk hna))
  (apply d_take (i := 5); exact rfl; kernel_rfl; kernel_rfl; kernel_rfl; (intro u hu; exact (r_makeFunc (a := [.pointer (some ⟨r, 0, none⟩)]) (b := []) rfl rfl)); exact (hDa.dk hna))
  refine d_one (i := 6) rfl (by kernel_rfl) ?_
  refine s_call (dList_int iStab dI dI_kp 24 [.pointer (some ⟨r, 0, none⟩)] [] m hm d r (d :: r :: bb :: N2 :: S) s7 v7 z7.drew hDa hO7 (by simp) (by simp) (fun b hb => Nat.lt_of_lt_of_le (hlts b hb) (hK.trans0 (Fr.drew [] _)).size) (elInt m d r _ _)) rfl ?_
  rintro _ y8 ⟨sk, rfl, hSL, hll, v8, hDb, hfb, hsb⟩
  refine ⟨_, rfl, ?_⟩
  rw [hq8] at hSL hll hDb
  simp only at hSL hll hDb
  have hsk := Sl.is hSL
  have hbc := (hbb.tr0 (Fr.drew [] _)).tr hfb (by simp; omega)
  have hnb := hna.tr hfb (by simp; omega)
  refine wpList_nil (q_held (hDb.dk hnb) ?_)
  ((first | refine d_tx 7 (hDb.dk hnb) ?_ | refine d_ty 7 (hDb.dk hnb) ?_ | refine d_tn 7 (hDb.dk hnb) ?_))
  refine d_one (i := 8) rfl (by kernel_rfl) ?_
  ((with_reducible apply s_storeB); exact rfl; (conv => lhs; whnf); exact hsk.one; exact hbc; exact rfl)
  intro z8 hbd hfd hsd
  have hsub8 := hsub7.trans hsb
  have hD8 := hDb.trF hfd (by simp; omega) (by simp; omega) (hI.2.far hsub8 (by omega) (by simp; omega))
  replace hbb : Blk z8 bb (nc ⟨k0, nm, lo, hi, [], [], [], [], numV 0⟩ sw sL sv sk (.slice none 0 0)) 36 := hbd
  replace hn1 := hnb.tr hfd (by simp; omega)
  have hG : Fr [d, r, bb] z7 z8 := (((Fr.drew [d, r, bb] z7).trans hfb (by simp)).trans hfd (by simp))
  replace hn2 := hn2.tr hG (by simp; omega)
  replace hK := hK.trans hG (fun b hb => .inl hb)
  replace hsk := hsk.tr (hin _ (by simp) hfd)
  replace hsw := hsw.tr (hin _ (by simp) hG)
  replace hsL := hsL.tr (hin _ (by simp) hG)
  replace hsv := hsv.tr (hin _ (by simp) hG)
  have hO8 : Off v8 (s8.bs.map (.int .u8)) [d] := hsub8.off (ys := s.bs.map (.int .u8)) (by simp only [List.length_map]; omega) hO
  refine wpList_nil (q_held (hD8.dk hn1) ?_)
  (refine d_done (by kernel_rfl) ?_)
  refine rx ?_
  refine s_call (valC hm F (by omega) 1 (by omega) s8 v8 z8 (d :: r :: bb :: N2 :: S) hD8 hO8 (by omega) (fun b hb => Nat.lt_of_lt_of_le (hlts b hb) hK.size)) rfl ?_
  rintro _ y9 ⟨sx, rfl, hsx, v9, hDb, hfb, hsb⟩
  refine ⟨_, rfl, ?_⟩
  rw [hq9] at hsx hDb ⊢
  simp only at hsx hDb ⊢
  have hbc := hbb.tr hfb (by simp; omega)
  refine rx ?_
  refine s_storeSubB (cs := vc val sx) rfl rfl hbc (VR.mem1 (w := y9) (S := []) val _ ⟨_, rfl, hsx.any⟩) (by simp [nc, vc]) rfl (fun z9 hbd hfd hsd => ?_)
  have hsub9 := hsub8.trans hsb
  have hD9 := hDb.trF hfd (by simp; omega) (by simp; omega) (hI.2.far hsub9 (by omega) (by simp; omega))
  replace hbb : Blk z9 bb (nc ⟨k0, nm, lo, hi, ws, labs, vals, kids, val⟩ sw sL sv sk sx) 36 := hbd
  have hG : Fr [d, r, bb] z8 z9 := ((hfb.mono (T := [d, r, bb]) (fun b hb => .inl (by simp at hb; rcases hb with h | h <;> simp [h]))).trans hfd (by simp))
  replace hn2 := hn2.tr hG (by simp; omega)
  replace hK := hK.trans hG (fun b hb => .inl hb)
  replace hsx := hsx.tr (hin _ (by simp) hfd)
  replace hsw := hsw.tr (hin _ (by simp) hG)
  replace hsL := hsL.tr (hin _ (by simp) hG)
  replace hsv := hsv.tr (hin _ (by simp) hG)
  replace hsk := hsk.tr (hin _ (by simp) hG)
  have hnd : NdR z9 (d :: r :: bb :: N2 :: S) ⟨k0, nm, lo, hi, ws, labs, vals, kids, val⟩ (nc ⟨k0, nm, lo, hi, ws, labs, vals, kids, val⟩ sw sL sv sk sx) := ⟨_, _, _, _, _, rfl, hsw, hsL, hsv, hsk, hsx⟩
  refine rx ?_
  refine s_storeAggB (cs := nc ⟨k0, nm, lo, hi, ws, labs, vals, kids, val⟩ sw sL sv sk sx) rfl rfl hn2 (ndStab.one hnd) rfl rfl (fun z10 hb10 hf10 hs10 => ?_)
  refine rx ?_
  refine retc rfl rfl (AggT.load _ (nc ⟨k0, nm, lo, hi, ws, labs, vals, kids, val⟩ sw sL sv sk sx) rfl (fun j x hx => by rw [add_lit]; exact hb10.cell (by simpa using hx))) ⟨_, rfl, ndStab.mono (ndStab.tr hnd (hf10.mono (by simp))) (fun b hb => .inl (by simp [hb])), v9, ?_, ?_, hsub9⟩
  · exact hD9.trF hf10 (by simp; omega) (by simp; omega) (hI.2.far hsub9 (by omega) (by simp; omega))
  · exact (((hF2.mono (by simp)).trans hFz (by simp)).trans hK (fun b hb => by
      simp only [List.mem_cons, List.not_mem_nil, or_false] at hb
      rcases hb with rfl | rfl | rfl
      · exact .inl (by simp)
      · exact .inl (by simp)
      · right; omega)).trans hf10 (by simp; omega)
end Go.Proofs.YtpochcchekoonaaGreat
namespace Go.Proofs.YtpochcchekoonaaGreat
open Go.Rf Go.RowKit
set_option linter.unusedVariables false
set_option linter.unusedSimpArgs false
attribute [local irreducible] Code.wp wpList Exit.then Exit.inBlock bodyPost A Calls execOp Addr.add
set_option maxHeartbeats 8000000 in
theorem encP (t : List Nd) (hw : ∀ x ∈ t, NdW x) (htl : t.length ≤ 100000000000) (hl : (ttT t).length ≤ 90000000000) (sn : Value) (u : World) (hn : NS u [] t sn) :
    Calls Tryz.prog 19 #[.agg #[sn]] u fun e u' => ∃ v, e = .returned v ∧ Own u' 5 1 v (ttT t).length ((ttT t).map (.int .u8)) ∧ Fr [] u u' ∧ ∀ k ∈ blks v, u.heap.size ≤ k := by
  obtain ⟨an, cn, rfl, _⟩ := hn.slice
  have hE : ttT t = iv (t.length : Nat) ++ t.flatMap tnN := rfl
  have hlen : (ttT t).length = (iv (t.length : Nat)).length + (t.flatMap tnN).length := by rw [hE, List.length_append]
  refine enter Tryz.func19 rfl Tryz.ntmps19 rfl ?_
  refine rx ?_
  refine s_box (l := [.slice an t.length cn]) rfl rfl (fun u1 hb1 hf1 hs1 => ?_)
  refine rx ?_
  refine s_alloc rfl (fun u2 hb2 hf2 hs2 => ?_)
  obtain ⟨p, hp⟩ : ∃ y, y = u1.heap.size := ⟨_, rfl⟩
  rw [← hp] at hb2 ⊢
  have hF2 := hf1.trans0 hf2
  have hb12 := hb1.tr0 hf2
  have hw2 : IsW u2 p (.slice none 0 0) [] := ⟨hb2, Own.nil _ _ _⟩
  have hn2 : NS u2 (p :: blks (.slice none 0 0)) t (.slice an t.length cn) := (hn.mono (fun b hb => .inr (by simp [blks, Value.ownBlock] at hb; omega))).tr0 hF2
  refine rx ?_
  refine s_call (wInt p (.slice none 0 0) [] (t.length : Nat) u2 (by omega) (by omega) hw2 (by simp)) rfl ?_
  rintro _ u3 ⟨rfl, hst3⟩
  refine ⟨_, rfl, ?_⟩
  have hb13 := hb12.tr hst3.choose_spec.2.1 (hw2.keep hb12 (by decide) (by decide))
  obtain ⟨v3, hw3, _⟩ := (WI.of hw2).step hst3
  clear hst3
  rw [List.nil_append] at hw3
  refine rx ?_
  refine c_loopK 6 [5] (σ := Nat × Value) (fun st g z => g 11 = .slice an t.length cn ∧ g 12 = .int .i64 t.length ∧ g 13 = .int .i64 st.1 ∧ st.1 ≤ t.length ∧ WI u2 p (.slice none 0 0) z st.2 (iv (t.length : Nat) ++ (t.take st.1).flatMap tnN)) (fun st => t.length - st.1) (0, v3)
    ⟨rfl, rfl, rfl, Nat.zero_le _, by simpa using hw3⟩ ?_
  rintro ⟨i, vi⟩ g z ⟨h11, h12, h13, hi, hwi⟩
  simp only at h13 hi hwi
  rw [eq_upd h11, eq_upd h12, eq_upd h13]
  by_cases hlt : i < t.length
  case neg =>
    refine rx ?_
    rw [List.take_of_length_le (by omega), ← hE] at hwi
    refine s_call (wDone p vi (ttT t) z hwi.is (by omega)) rfl ?_
    rintro _ z1 ⟨v', rfl, ho, hf, hk, _⟩
    refine ⟨_, rfl, ?_⟩
    refine rx ?_
    (apply ret1; exact rfl; (conv => lhs; whnf))
    have hsz := hwi.fr.size
    refine ⟨_, rfl, ho, (hF2.trans hwi.fr (fun b hb => .inr ?_)).trans0 hf, fun k hk' => ?_⟩
    · simp [blks, Value.ownBlock] at hb; omega
    · have := hk k hk'; have := hF2.size; omega
  have hvz : NS z (p :: blks vi) t (.slice an t.length cn) :=
    ((hn2.mono (T := (p :: blks (.slice none 0 0)) ++ (p :: blks vi)) (fun b hb => by
      rcases List.mem_append.1 hb with h | h
      · exact .inl h
      · exact hwi.off b h)).tr (hwi.fr.mono (fun b hb => .inl (List.mem_append.2 (.inl hb))))).mono (fun b hb => .inl (List.mem_append.2 (.inr hb)))
  obtain ⟨ad, cs, rfl, hx, hcx⟩ := Sl.at hvz ndLen hlt
  obtain ⟨sw, sl, sv, sk, sx, rfl, h1, h2, h3, h4, h5⟩ := hx
  have hxN : NdR z (p :: blks vi) t[i] (nc t[i] sw sl sv sk sx) := ⟨_, _, _, _, _, rfl, h1, h2, h3, h4, h5⟩
  refine rx ?_
  refine s_alloc rfl (fun z1 hbz1 hfz1 hsz1 => ?_)
  refine s_storeAggB (cs := nc t[i] sw sl sv sk sx) rfl rfl hbz1 (ndStab.one hxN) rfl rfl (fun z2 hbz2 hfz2 hsz2 => ?_)
  have hFz2 : Fr [] z z2 := hfz1.trans hfz2 (by simp)
  have hle1 := flat_take_len tnN t (i + 1)
  rw [flat_take tnN hlt, List.length_append] at hle1
  have hwi2 := hwi.tr0 hFz2
  refine rx ?_
  refine s_call (wNode t[i] (hw _ (List.getElem_mem hlt)) p vi _ _ z2 hwi2.is (ndStab.old hxN hFz2 (by simp)) (by simp only [List.length_append]; omega)) rfl ?_
  rintro _ z3 ⟨rfl, hst⟩
  refine ⟨_, rfl, ?_⟩
  obtain ⟨v3', hw3', _⟩ := hwi2.step hst
  refine rx ?_
  refine q_roundK (i + 1, v3') (by (repeat (first | exact Keep.mrg _ _ _ _ | (refine Keep.hi rfl ?_) | (refine Keep.one rfl ?_) | exact Keep.all rfl | (refine Keep.inn rfl ?_) | (refine Keep.set rfl ?_)))) ⟨rfl, rfl, rfl, by simp only; omega, by simp only [flat_take tnN hlt]; simpa using hw3'⟩ (by simp only; omega)
set_option maxHeartbeats 4000000 in
theorem encNdP (x : Nd) (hw : NdW x) (hl : (tnN x).length ≤ 90000000000) (cs : List Value) (u : World) (hx : NdR u [] x cs) :
    Calls Tryz.prog 34 #[.agg cs.toArray] u fun e u' => ∃ v, e = .returned v ∧ Own u' 5 1 v (tnN x).length ((tnN x).map (.int .u8)) ∧ Fr [] u u' ∧ ∀ k ∈ blks v, u.heap.size ≤ k := by
  obtain ⟨sw, sl, sv, sk, sx, rfl, h1, h2, h3, h4, h5⟩ := hx
  have hx : NdR u [] x (nc x sw sl sv sk sx) := ⟨_, _, _, _, _, rfl, h1, h2, h3, h4, h5⟩
  refine enter Tryz.func34 rfl Tryz.ntmps34 rfl ?_
  refine rx ?_
  refine s_box (l := nc x sw sl sv sk sx) rfl rfl (fun u1 hb1 hf1 hs1 => ?_)
  refine rx ?_
  refine s_alloc rfl (fun u2 hb2 hf2 hs2 => ?_)
  obtain ⟨p, hp⟩ : ∃ y, y = u1.heap.size := ⟨_, rfl⟩
  rw [← hp] at hb2 ⊢
  have hF2 := hf1.trans0 hf2
  have hb12 := hb1.tr0 hf2
  have hw2 : IsW u2 p (.slice none 0 0) [] := ⟨hb2, Own.nil _ _ _⟩
  have hx2 : NdR u2 (p :: blks (.slice none 0 0)) x (nc x sw sl sv sk sx) := ndStab.old (ndStab.mono hx (fun b hb => .inr (by simp [blks, Value.ownBlock] at hb; omega))) hF2 (by simp)
  refine rx ?_
  refine s_call (wNode x hw p _ [] _ u2 hw2 hx2 (by simpa using hl)) rfl ?_
  rintro _ u3 ⟨rfl, hst3⟩
  refine ⟨_, rfl, ?_⟩
  obtain ⟨v3, hw3, _⟩ := (WI.of hw2).step hst3
  rw [List.nil_append] at hw3
  refine rx ?_
  refine s_call (wDone p v3 (tnN x) u3 hw3.is (by omega)) rfl ?_
  rintro _ z1 ⟨v', rfl, ho, hf, hk, _⟩
  refine ⟨_, rfl, ?_⟩
  refine rx ?_
  (apply ret1; exact rfl; (conv => lhs; whnf))
  have hsz := hw3.fr.size
  refine ⟨_, rfl, ho, (hF2.trans hw3.fr (fun b hb => .inr ?_)).trans0 hf, fun k hk' => ?_⟩
  · simp [blks, Value.ownBlock] at hb; omega
  · have := hk k hk'; have := hF2.size; omega
theorem elNode {m : Int} (hm : m ≤ 100000000000) (d r B : Nat) (hB : B ≤ 100000000000) (w : World) : ElC 58 ([.pointer (some ⟨d, 0, none⟩)] ++ []) NdR (dNd m) m d r B w := by
  rw [dNd_F]
  exact fun q vq u S _ hD hoff hl hS => (nodC hm rfl q vq u S hD hoff (by omega) hS).mono fun e u' ⟨cs, h1, h2, h3⟩ => ⟨_, cs, h1, rfl, h2, h3⟩
/-- what Decode answers, with its error -/
def decE (b : List Int) : List Nd × Int := match decT b with
  | some t => (t, 0)
  | none => ([], 2)
set_option maxHeartbeats 8000000 in
theorem decP (x : Value) (b : List Int) (u : World) (hx : Src u x b.length (b.map (.int .u8))) (hB : Bys b) (hl : b.length ≤ 100000000000) :
    Calls Tryz.prog 20 #[x] u fun e u' => ∃ sn, e = .returned (.tuple #[.agg #[sn], .int .i64 (decE b).2]) ∧ NS u' [] (decE b).1 sn ∧ Fr [] u u' := by
  obtain ⟨ao, c, rfl, _⟩ := id hx
  refine enter Tryz.func20 rfl Tryz.ntmps20 rfl ?_
  refine rx ?_
  refine s_alloc rfl (fun u1 hb1 hf1 hs1 => ?_)
  refine rx ?_
  refine s_call (wRead _ b u1 (hx.tr0 hf1) hB (by omega)) rfl ?_
  rintro _ u2 ⟨r, v, rfl, hr, hf2, hrg, _, _⟩
  refine ⟨_, rfl, ?_⟩
  have hF2 := hf1.trans0 hf2
  have hb12 := hb1.tr0 hf2
  refine rx ?_
  refine s_build [.pointer (some ⟨r, 0, none⟩), .int .i64 (b.length : Nat), .bool false] rfl ?_
  refine s_box (l := [.pointer (some ⟨r, 0, none⟩), .int .i64 (b.length : Nat), .bool false]) rfl rfl (fun u3 hb3 hf3 hs3 => ?_)
  obtain ⟨d, hd⟩ : ∃ y, y = u2.heap.size := ⟨_, rfl⟩
  obtain ⟨N2, hN2⟩ : ∃ y, y = u.heap.size := ⟨_, rfl⟩
  rw [← hd] at hb3 ⊢
  rw [← hN2] at hb12 ⊢
  have hF3 := hF2.trans0 hf3
  have hb13 := hb12.tr0 hf3
  have hrl := hr.1.lt
  have h1l := hb1.lt
  have hsz1 := hf2.size
  have hD3 : IsD u3 d r v (b.length : Nat) ⟨b, 0, false⟩ := ⟨hb3, hr.tr0 hf3⟩
  have hO3 : Off v (b.map (.int .u8)) [d] := hr.far (Sub.refl _) (Nat.le_refl _) (by simp; omega)
  refine rx ?_
  refine s_makeFunc (a := [.pointer (some ⟨d, 0, none⟩)]) (b := []) rfl rfl ?_
  refine rx ?_
  refine s_call (dList_nod ndStab (dNd (b.length : Nat)) (dNd_kp _) 58 [.pointer (some ⟨d, 0, none⟩)] [] (b.length : Nat) (by omega) d r [d, r, N2] ⟨b, 0, false⟩ v u3 hD3 hO3 (by simp) (by simp) (by simp; omega) (elNode (by omega) d r _ hl u3)) rfl ?_
  rintro _ u4 ⟨sl, rfl, hsl, hll, v4, hD4, hf4, hsub4⟩
  refine ⟨_, rfl, ?_⟩
  have hdT : dLst (b.length : Nat) (dNd (b.length : Nat)) ⟨b, 0, false⟩ = dTr b := rfl
  rw [hdT] at hsl hD4
  have hF4 : Fr [] u u4 := hF3.trans hf4 (by simp; omega)
  have hb14 := hb13.tr hf4 (by simp; omega)
  obtain ⟨ao4, c4, rfl, _⟩ := hsl.slice
  refine rx ?_
  refine s_build [.slice ao4 (dTr b).1.length c4] rfl ?_
  refine s_alloc rfl (fun u5 hb5 hf5 hs5 => ?_)
  refine s_storeAggB (cs := [.slice ao4 (dTr b).1.length c4]) rfl rfl hb5 (by simp [Value.oneCell']) rfl rfl (fun u6 hb6 hf6 hs6 => ?_)
  have hF46 : Fr [] u4 u6 := hf5.trans hf6 (by simp)
  have hD6 := hD4.tr0 hF46
  have hb16 := hb14.tr0 hF46
  have hF6 := hF4.trans0 hF46
  have hns6 : NS u6 [N2] (dTr b).1 (.slice ao4 (dTr b).1.length c4) := NS.tr0 (NS.mono (S := [d, r, N2]) hsl (by simp)) hF46
  have hdb := hD6.1
  by_cases hbad : (dTr b).2.bad = true
  · have hdE : decE b = ([], 2) := by unfold decE decT; rw [if_pos (.inl hbad)]
    rw [hdE]
    rw [hbad] at hdb
    refine rx ?_
    refine s_build [.slice none 0 0] rfl ?_
    refine s_storeAggB (cs := [.slice none 0 0]) rfl rfl hb16 (by simp [Value.oneCell']) rfl rfl (fun u7 hb7 hf7 hs7 => ?_)
    refine rx ?_
    exact retct rfl rfl (AggT.load _ [.slice none 0 0] rfl (fun j x hx => by rw [add_lit]; exact hb7.cell (by simpa using hx))) rfl ⟨_, rfl, Sl.nil, hF6.trans hf7 (by simp; omega)⟩
  have hbf : (dTr b).2.bad = false := by simpa using hbad
  rw [hbf] at hdb
  have hr6 := hD6.2
  by_cases hend : rdEnd (dTr b).2.bs (dTr b).2.e = 0
  · have hdE : decE b = ((dTr b).1, 0) := by unfold decE decT; rw [if_neg (by simp [hbf, hend])]
    rw [hdE]
    refine rx ?_
    refine s_call (rEnd r v4 _ _ u6 hr6) rfl ?_
    rintro _ _ ⟨rfl, rfl⟩
    refine ⟨_, rfl, ?_⟩
    rw [hend]
    refine rx ?_
    refine s_storeAggB (cs := [.slice ao4 (dTr b).1.length c4]) rfl rfl hb16 (by simp [Value.oneCell']) rfl rfl (fun u7 hb7 hf7 hs7 => ?_)
    refine rx ?_
    exact retct rfl rfl (AggT.load _ [.slice ao4 (dTr b).1.length c4] rfl (fun j x hx => by rw [add_lit]; exact hb7.cell (by simpa using hx))) rfl ⟨_, rfl, (hns6.tr hf7).mono (by simp), hF6.trans hf7 (by simp; omega)⟩
  · have hdE : decE b = ([], 2) := by unfold decE decT; rw [if_pos (.inr hend)]
    rw [hdE]
    refine rx ?_
    refine s_call (rEnd r v4 _ _ u6 hr6) rfl ?_
    rintro _ _ ⟨rfl, rfl⟩
    refine ⟨_, rfl, ?_⟩
    generalize rdEnd (dTr b).2.bs (dTr b).2.e = en at hend
    refine rx ?_
    refine s_build [.slice none 0 0] rfl ?_
    refine s_storeAggB (cs := [.slice none 0 0]) rfl rfl hb16 (by simp [Value.oneCell']) rfl rfl (fun u7 hb7 hf7 hs7 => ?_)
    refine rx ?_
    exact retct rfl rfl (AggT.load _ [.slice none 0 0] rfl (fun j x hx => by rw [add_lit]; exact hb7.cell (by simpa using hx))) rfl ⟨_, rfl, Sl.nil, hF6.trans hf7 (by simp; omega)⟩
end Go.Proofs.YtpochcchekoonaaGreat
