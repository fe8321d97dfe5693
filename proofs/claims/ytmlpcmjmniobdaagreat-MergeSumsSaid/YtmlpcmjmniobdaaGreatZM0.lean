/-
  Names for what is repeated.
-/
import Derived.WalkKit
import Derived.ProofKit
import Derived.OrdersHeld
import Derived.Laws.IdiomStrings
import Derived.Laws.BytesArg
import Derived.KernelRfl
import Derived.Laws.OwnMore
set_option linter.all false
namespace Go.Rf
abbrev zS : Value := .slice none 0 0
abbrev zI : Value := .int .i64 0
abbrev iV (n : Int) : Value := .int .i64 n
theorem exq {α : Type _} (a : α) : ∃ x, x = a := ⟨a, rfl⟩
def Ix (_ : Nat) : Prop := True
structure Hd (Q : Prop) : Prop where
  o : Q
section
variable {P Q R : Prop}
theorem dqx (h : P := by intro u hu; (first | (apply r_move; conv => lhs; whnf) | exact r_nilCheck rfl | exact r_field0 rfl | exact r_len rfl | exact r_not rfl | exact r_add rfl rfl (IntWalk.i64_in _ Yhn) | exact r_sub rfl rfl (IntWalk.i64_in _ Yhn) | exact r_conv rfl (IntWalk.u64_in _ Yhn) | exact r_conv rfl (IntWalk.i64_in _ Yhn) | exact r_lss rfl rfl (decide_eq_true Yhn) | exact r_lss rfl rfl (decide_eq_false Yhn) | exact r_eql rfl rfl (decide_eq_true Yhn) | exact r_eql rfl rfl (decide_eq_false Yhn) | exact r_neq rfl rfl (decide_eq_true Yhn) | exact r_neq rfl rfl (decide_eq_false Yhn) | exact r_gtr rfl rfl (decide_eq_true Yhn) | exact r_gtr rfl rfl (decide_eq_false Yhn) | exact r_geq rfl rfl (decide_eq_true Yhn) | exact r_geq rfl rfl (decide_eq_false Yhn) | exact r_leq rfl rfl (decide_eq_true Yhn) | exact r_leq rfl rfl (decide_eq_false Yhn) | (apply r_pick; exact rfl; conv => lhs; whnf) | exact r_extract rfl rfl | exact r_indexAddr rfl rfl rfl Yhn rfl | exact r_fieldAddr rfl | exact r_load rfl (Blk.cell (Blk.tr0 Yhz hu) rfl) | exact r_load rfl (Cells.get (Cells.tr0 Yhz hu) rfl) | exact r_loadC rfl (Cells.tr0 Yhz hu) Yik | exact r_loadC rfl (Cells.ofBlk (Blk.tr0 Yhz hu)) Yik | exact r_loadSub rfl (Cells.tr0 Yhz hu) Yik | exact r_loadSubB rfl (Blk.tr0 Yhz hu) Yik | exact r_load rfl (Cells.get hu rfl) | exact r_loadC rfl hu Yik | exact r_loadSub rfl hu Yik | exact r_load rfl (Cells.get hu.1 rfl) | exact r_loadC rfl hu.1 Yik | exact r_loadSub rfl hu.1 Yik | exact r_load rfl (Cells.get hu.2 rfl) | exact r_loadC rfl hu.2 Yik | exact r_loadSub rfl hu.2 Yik | exact r_load rfl (Blk.cell hu.2 rfl) | exact r_loadC rfl (Cells.ofBlk hu.2) Yik | exact r_loadSubB rfl hu.2 Yik)) : P := h
theorem Ya (h : P := by
 repeat' (first
  | exact q_cut ⟨rfl, rfl, rfl, rfl, rfl, rfl, rfl, hst⟩
  | (refine s_cE (argC q _ _ hst.1) ?_; rintro _ ⟨hx1, hx2⟩; have hst := hst.step hbq hx1 hx2; have hB := hst.2.2; clear hx1 hx2; refine rx ?_)
  | (refine s_call (zeroTypeC _ _ _ _ _ _) rfl ?_; rintro _ _ ⟨⟨rb, rfl⟩, hx2⟩; refine ⟨_, rfl, ?_⟩; have hst := hst.step0 hx2; have hB := hst.2.2; clear hx2; cases rb <;> refine rx ?_)
  | (refine s_call (zeroExprC _ _ _ _ _ _ _ _ _ _ _ _ _ _) rfl ?_; rintro _ _ ⟨⟨rb, rfl⟩, hx2⟩; refine ⟨_, rfl, ?_⟩; have hst := hst.step0 hx2; have hB := hst.2.2; clear hx2; cases rb <;> refine rx ?_)
  | (refine s_call (zeroGenC _ _ _ _ _ _ _ _ _ _ _ _ _) rfl ?_; rintro _ _ ⟨⟨rb, rfl⟩, hx2⟩; refine ⟨_, rfl, ?_⟩; have hst := hst.step0 hx2; have hB := hst.2.2; clear hx2; cases rb <;> refine rx ?_)
  | (first | refine s_eql rfl rfl (fun _ => ?_) (fun _ => ?_) | refine s_neq rfl rfl (fun _ => ?_) (fun _ => ?_) | refine s_lss rfl rfl (fun _ => ?_) (fun _ => ?_) | refine s_leq rfl rfl (fun _ => ?_) (fun _ => ?_) | refine s_gtr rfl rfl (fun _ => ?_) (fun _ => ?_) | refine s_geq rfl rfl (fun _ => ?_) (fun _ => ?_) | refine s_eqlE rfl rfl (fun _ => ?_) (fun _ => ?_) | refine s_neqE rfl rfl (fun _ => ?_) (fun _ => ?_)) <;> refine rx ?_)) : P := h
theorem Yd (h : P := by
 refine rx ?_
 repeat' (first
  | exact q_cutK Yhl Yhz | exact wpList_nil (q_cutK Yhl Yhz)
  | (refine s_cE (argC q _ _ hst.1) ?_; rintro _ ⟨hx1, hx2⟩; have hst := hst.step hbq hx1 hx2; have hB := hst.2.2; clear hx1 hx2; refine rx ?_)
  | (refine s_cE (namedC q _ 0 _ hst.1) ?_; rintro _ ⟨hx1, hx2⟩; have hst := hst.step hbq hx1 hx2; have hB := hst.2.2; clear hx1 hx2; refine rx ?_)
  | (refine s_cE (namedC q _ 1 _ hst.1) ?_; rintro _ ⟨hx1, hx2⟩; have hst := hst.step hbq hx1 hx2; have hB := hst.2.2; clear hx1 hx2; refine rx ?_)
  | (refine s_cE (numberC q _ _ _ hst.1) ?_; rintro _ ⟨hx1, hx2⟩; have hst := hst.step hbq hx1 hx2; have hB := hst.2.2; clear hx1 hx2; refine rx ?_)
  | (refine s_cE (mostI q _ _ hst.1 Yhn) ?_; rintro _ ⟨hx1, hx2⟩; have hst := hst.step hbq hx1 hx2; have hB := hst.2.2; clear hx1 hx2; refine rx ?_)
  | (refine s_call (plainC _ _ _ _ _ _ _ _ _ _ _ _ _ _ _ _ _ ) rfl ?_; rintro _ _ ⟨⟨rb, rfl⟩, hx2⟩; refine ⟨_, rfl, ?_⟩; have hst := hst.step0 hx2; have hB := hst.2.2; clear hx2; cases rb <;> refine rx ?_)
  | (refine s_call (rankC _ _) rfl ?_; rintro _ _ ⟨⟨rk, hrk, rfl⟩, hx2⟩; refine ⟨_, rfl, ?_⟩; have hst := hst.step0 hx2; have hB := hst.2.2; clear hx2; refine rx ?_)
  | (refine s_eqBool rfl rfl ?_; refine rx ?_)
  | (obtain ⟨y1, y2, y3, hQ⟩ := hst.1; refine rx ?_; ((with_reducible apply s_storeB); exact rfl; (conv => lhs; whnf); exact rfl; exact hQ; exact rfl); intro wq hQ hfq hsq; have hst := hst.step hbq ⟨_, _, _, hQ⟩ hfq; have hB := hst.2.2; refine rx ?_)
  | (first | refine s_eql rfl rfl (fun _ => ?_) (fun _ => ?_) | refine s_neq rfl rfl (fun _ => ?_) (fun _ => ?_) | refine s_lss rfl rfl (fun _ => ?_) (fun _ => ?_) | refine s_leq rfl rfl (fun _ => ?_) (fun _ => ?_) | refine s_gtr rfl rfl (fun _ => ?_) (fun _ => ?_) | refine s_geq rfl rfl (fun _ => ?_) (fun _ => ?_) | refine s_eqlE rfl rfl (fun _ => ?_) (fun _ => ?_) | refine s_neqE rfl rfl (fun _ => ?_) (fun _ => ?_)) <;> refine rx ?_)) : P := h
theorem Yf (h : P := by
 refine rx ?_
 repeat' (first
  | exact q_cutK Yhl Yhz | exact wpList_nil (q_cutK Yhl Yhz)
  | (refine s_cE (argC q _ _ hst.1) ?_; rintro _ ⟨hx1, hx2⟩; have hst := hst.step hbq hx1 hx2; have hB := hst.2.2; clear hx1 hx2; refine rx ?_)
  | (refine s_cE (namedC q _ 0 _ hst.1) ?_; rintro _ ⟨hx1, hx2⟩; have hst := hst.step hbq hx1 hx2; have hB := hst.2.2; clear hx1 hx2; refine rx ?_)
  | (refine s_cE (namedC q _ 1 _ hst.1) ?_; rintro _ ⟨hx1, hx2⟩; have hst := hst.step hbq hx1 hx2; have hB := hst.2.2; clear hx1 hx2; refine rx ?_)
  | (refine s_cE (mostI q _ _ hst.1 Yhn) ?_; rintro _ ⟨hx1, hx2⟩; have hst := hst.step hbq hx1 hx2; have hB := hst.2.2; clear hx1 hx2; refine rx ?_)
  | (first | refine s_eql rfl rfl (fun _ => ?_) (fun _ => ?_) | refine s_neq rfl rfl (fun _ => ?_) (fun _ => ?_) | refine s_lss rfl rfl (fun _ => ?_) (fun _ => ?_) | refine s_leq rfl rfl (fun _ => ?_) (fun _ => ?_) | refine s_gtr rfl rfl (fun _ => ?_) (fun _ => ?_) | refine s_geq rfl rfl (fun _ => ?_) (fun _ => ?_) | refine s_eqlE rfl rfl (fun _ => ?_) (fun _ => ?_) | refine s_neqE rfl rfl (fun _ => ?_) (fun _ => ?_)) <;> refine rx ?_)) : P := h
theorem Yh (h : P := by
 clear hst hB
 rintro g u ⟨g0, g3, g4, g5, g6, g7, g8, hst⟩
 rw [eq_upd g0, eq_upd g3, eq_upd g4, eq_upd g5, eq_upd g6, eq_upd g7, eq_upd g8]
 clear g0 g3 g4 g5 g6 g7 g8
 have hB := hst.2.2
 refine rx ?_
 repeat' (first
  | exact end0 rfl ⟨rfl, hst.1, hst.2.1⟩
  | (refine s_cE (argC q _ _ hst.1) ?_; rintro _ ⟨hx1, hx2⟩; have hst := hst.step hbq hx1 hx2; have hB := hst.2.2; clear hx1 hx2; refine rx ?_)
  | (refine s_call (zeroTypeC _ _ _ _ _ _) rfl ?_; rintro _ _ ⟨⟨rb, rfl⟩, hx2⟩; refine ⟨_, rfl, ?_⟩; have hst := hst.step0 hx2; have hB := hst.2.2; clear hx2; cases rb <;> refine rx ?_)
  | (refine s_call (zeroExprC _ _ _ _ _ _ _ _ _ _ _ _ _ _) rfl ?_; rintro _ _ ⟨⟨rb, rfl⟩, hx2⟩; refine ⟨_, rfl, ?_⟩; have hst := hst.step0 hx2; have hB := hst.2.2; clear hx2; cases rb <;> refine rx ?_)
  | (refine s_call (zeroGenC _ _ _ _ _ _ _ _ _ _ _ _ _) rfl ?_; rintro _ _ ⟨⟨rb, rfl⟩, hx2⟩; refine ⟨_, rfl, ?_⟩; have hst := hst.step0 hx2; have hB := hst.2.2; clear hx2; cases rb <;> refine rx ?_)
  | (first | refine s_eql rfl rfl (fun _ => ?_) (fun _ => ?_) | refine s_neq rfl rfl (fun _ => ?_) (fun _ => ?_) | refine s_lss rfl rfl (fun _ => ?_) (fun _ => ?_) | refine s_leq rfl rfl (fun _ => ?_) (fun _ => ?_) | refine s_gtr rfl rfl (fun _ => ?_) (fun _ => ?_) | refine s_geq rfl rfl (fun _ => ?_) (fun _ => ?_) | refine s_eqlE rfl rfl (fun _ => ?_) (fun _ => ?_) | refine s_neqE rfl rfl (fun _ => ?_) (fun _ => ?_)) <;> refine rx ?_)) : P := h
theorem Yk (h : P := by
 refine Ygs ?_
 (refine u_tx 7 (And.intro trivial hba) (hrun := (by (intro u hu; exact r_build ([iV 6, .string (bst t.text), zS, .slice (some ⟨k4, 0, none⟩) 1 1, .slice (some ⟨k6, 0, none⟩) 1 1, iV (atT n r)]) Yik))) ?_)
 have hd9 : RD w12 (a :: rg w2) (gnC ⟨6, bst t.text, [], [e2], [e], atT n r⟩) [iV 6, .string (bst t.text), zS, .slice (some ⟨k4, 0, none⟩) 1 1, .slice (some ⟨k6, 0, none⟩) 1 1, iV (atT n r)] :=
  gnR.2 ⟨_, _, _, rfl, .nil, drOwn (rows := [exC e2]) ho4 (.one (hd2.mono (fun b hb => .inl Yit))) (by simp [exC_len]) Yhs Yig, drOwn (rows := [gnC e]) ho6 (.one hd) (by simp [gnC_len]) Yhs Yig⟩
 (refine u_one (i := 8) rfl Yhp ?_)
 refine s_storeAggB (cs := [iV 6, .string (bst t.text), zS, .slice (some ⟨k4, 0, none⟩) 1 1, .slice (some ⟨k6, 0, none⟩) 1 1, iV (atT n r)]) rfl rfl hba Yhu hl rfl (fun w13 hba hf13 hs13 => ?_)
 (have hP13 := hP12.tr hf13 Yht; have hF13 := hF12.trans hf13 (fun x hx => .inr Yhq))
 (have hbq := hbq.tr hf13 Yho)
 have hd := hd9.old hf13 Yhs
 refine Yet ?_
 exact q_roundK (f', _, r5) Yhr ⟨by simp only; omega, hP13, hF13, by omega, hbq, ⟨_, hba, hd⟩, hops⟩ Yhw) : P := h
theorem Yr (h : P := by
 refine rx ?_
 refine s_buildS [iV 3, iV at_, zI, .string (bst (b :: T'))] rfl rfl rfl rfl (fun z1 ho1 hg1 hs1 => ?_)
 refine rx ?_
 refine s_append (hown.tr0 ((hf13).trans0 hg1)) rfl ho1.src rfl rfl Yhu Yhv Yhn (fun v' z2 hov hfv hbv _ => ?_)
 refine rx ?_
 refine s_cE (skipP S (at_ + k) z2 Yhn hl) ?_
 rintro _ rfl
 refine rx ?_
 rw [prep_prep] at he
 exact q_roundK (f', at_ + k + skipF false (S.drop (at_ + k)), acc ++ [⟨3, at_, 0, b :: T'⟩], v') Yhr ⟨rfl, rfl, hat, by simp only; omega, by simp only [List.length_append, List.length_singleton]; omega, he, by simpa [tkC] using hov, fun q hq => by
  rcases hbv q hq with h | h
  .exact hfr q h
  .have h1 := ((hf.trans0 (hf13)).trans0 hg1).size
   omega, ((hf.trans0 (hf13)).trans0 hg1).trans hfv (fun q hq => .inr (hfr q hq))⟩ Yhw) : P := h
theorem Yt (h : P := by exact q_roundK (k + 1) Yhr ⟨rfl, by omega, by omega, rfl⟩ Yhn) : P := h
theorem Yw (h : P := by
 refine rx ?_
 refine s_box rfl rfl (fun w1 hb1 hf1 hs1 => ?_)
 (refine rx ?_; repeat' ((first | refine s_eql rfl rfl (fun h => ?_) (fun h => ?_) | refine s_neq rfl rfl (fun h => ?_) (fun h => ?_) | refine s_lss rfl rfl (fun h => ?_) (fun h => ?_) | refine s_leq rfl rfl (fun h => ?_) (fun h => ?_) | refine s_gtr rfl rfl (fun h => ?_) (fun h => ?_) | refine s_geq rfl rfl (fun h => ?_) (fun h => ?_) | refine s_eqlE rfl rfl (fun h => ?_) (fun h => ?_) | refine s_neqE rfl rfl (fun h => ?_) (fun h => ?_) | refine s_lssS rfl rfl (fun h => ?_) (fun h => ?_) | refine s_gtrS rfl rfl (fun h => ?_) (fun h => ?_)) <;> refine rx ?_))
 all_goals
  refine Yfw ?_
  exact ⟨⟨_, rfl⟩, by assumption⟩) : P := h
theorem Yba (h : P := by
 simp only [hi']
 unfold wpList at h
 split
 .rename_i hw
  rw [if_pos hw] at h
  rcases h with h | ⟨h1, a, w', h2⟩
  .refine .inl ?_
   unfold Oper.wp at h ⊢
   generalize (execOp (A n f).eval o).run P w = r at h ⊢
   cases r with
   | ok x w' =>
    cases x <;> simp only [Oper.upon] at h ⊢ <;> first | exact h | (refine Calls.mono h fun e w'' he => ?_; cases e <;> exact he) | exact Rows.mono h (fun _ _ he => he)
   | halt x w' => cases x <;> simp only [Oper.upon] at h ⊢ <;> exact h
  .exact .inr ⟨h1, a, w', h2⟩
 .rename_i hw
  rw [if_neg hw] at h
  exact h) : P := h
theorem Ybb (h : P := by
 refine rx ?_
 exact Ygi) : P := h
theorem Ymc (h : P := by
 unfold den at h
 cases e : L i with
 | none => rw [e] at h; cases h
 | some b => rw [e] at h; exact ⟨b, rfl, by simpa using h.symm⟩) : P := h
theorem Ybe (h : P := by
 refine Yeo ?_
 exact ⟨_, rfl, ho, hf⟩) : P := h
theorem Yeb (h : P := by
 refine Yfw ?_
 exact ⟨rfl, rfl⟩) : P := h
theorem Ymd (h : P := by
 repeat' split at hc
 all_goals first | (cases hc; done) | skip
 all_goals (unfold cond at hc; split at hc <;> cases hc)) : P := h
theorem Ybn (h : P := by
 (refine s_c1 (gNumber p 4 _ hG0 Yhn Yhn) ?_; rintro k1 w1 ⟨hk1, hG1, hf1⟩; have hd1 : dg k1 ∈ dgs := dg_mem Yhn; have hl1 : (dg k1).length = 1 := rfl; refine rx ?_)
 refine Yfw ?_
 exact gen_out hV hd (by simp [rnd]) (.num hd1) hG1 (hV0.tr hf1) (frp hf0 hf1)) : P := h
theorem Ybp (h : P := by
 have hB := hst.2.2
 refine rx ?_
 exact q_roundK (j + 1) Yhl ⟨rfl, by omega, hst⟩ Yhn) : P := h
theorem Yme (h : P := by
 induction n using Nat.strongRecOn with
 | _ n ih =>
  by_cases h : n < 128
  .rw [uv_lt h]; intro b hb; simp at hb; omega
  .rw [uv_ge Yhn]
   intro b hb
   rcases List.mem_cons.1 hb with rfl | hb
   .omega
   .exact ih (n / 128) Yhn b hb) : P := h
theorem Ybr (h : P := by
 (refine s_indexStr rfl rfl hkx ?_; refine rx ?_; refine s_cE (classC _ w) ?_; rintro _ rfl; refine rx ?_)
 refine Yfw ?_
 rw [if_neg (by unfold p2; simp; omega)] at he
 refine ⟨?_, Fr.refl _ _⟩
 rw [<- Nat.add_assoc, <- he]; rfl) : P := h
theorem Ybv (h : P := by exact q_cutK Yhl ⟨hP4, hF4, hs4, hbz, hbq⟩) : P := h
theorem Ybw (h : P := by exact segOf Ykp (fun p n rest => by kernel_rfl)) : P := h
theorem Ymf (h : P := by
 refine enter func121 rfl ntmps121 rfl ?_
 refine rx ?_
 ((with_reducible apply s_storeB); exact rfl; (conv => lhs; whnf); exact rfl; exact hB; exact rfl)
 intro w1 h1 hf1 hs1
 refine rx ?_
 exact end0 rfl ⟨rfl, ⟨_, _, _, h1⟩, hf1⟩) : P := h
theorem Ymg (h : P := by
 have h3 := den_int (cO_spec hE en)
 have hb : (n : Int) < (l : Int) := by omega
 exact ⟨_, den_at' h1, fun d ty ps af gd w => by simp [execOp, Instr.indexAt, h2, h3, asIntOf, run_underlying hu, hl, sizeOf, typeInfo, hj, add_lit]⟩) : P := h
theorem Yby (h : P := by
 have h1 : R w (S ++ T) x cs := h.mono hr Ykc
 exact h.mono (h.tr h1 (hf.mono (fun b hb => .inl Yii))) (fun b hb => .inl Yii)) : P := h
theorem Ymh (h : P := by
 subst this
 simp [Builtin.append_, run_underlying ht, run_underlying htn, sizeOf, typeInfo, zeroValue, hi, hz, asInt, asIntOf, hw1, hneg, h0, h63', h48', h48i, hroom', Question.forced, hold, newRow, grownCap]) : P := h
theorem Ych (h : P := by
 rintro w4 ⟨h4, hf4⟩
 refine rx ?_
 exact end0 rfl ⟨rfl, h4, hF.trans hf4 (fun x hx => .inl hx)⟩) : P := h
theorem Ymi (h : P := by
 rw [List.getElem?_take] at hu
 split at hu
 .rw [List.getElem?_drop] at hu; exact hu
 .cases hu) : P := h
theorem Ymj (h : P := by
 cases e
 obtain ⟨Tr', hu'⟩ := hex Tr v
 show next ((@A nt f ⟨D⟩).put d y) w'
 rw [hput]
 exact hn L' _ D w' Tr' v ⟨hu'.er (hE.mono q3.le) q1, hD.mono q3.le, q2⟩ hu hu' q3) : P := h
theorem Yck (h : P := by
 refine Yfc ?_
 refine ⟨_, _, _, rfl, hf.trans0 (hf14), ?_⟩
 rw [he]
 exact ⟨rfl, rfl⟩) : P := h
theorem Ycp (h : P := by
 refine Yfc ?_
 exact ⟨_, _, _, rfl, Fr.refl _ _, rfl, rfl⟩) : P := h
theorem Ymk (h : P := by
 unfold den at h
 cases e : den.denL L l with
 | none => rw [e] at h; cases h
 | some xs => rw [e] at h; exact ⟨xs, e, by simpa using h.symm⟩) : P := h
theorem Ycs (h : P := by
 obtain ⟨e, h1, h2, h3⟩ := h.exp hh p n
 exact ⟨e, by unfold bD at h1; omega, h2, fun rest hr => h3 200 Ykm rest hr⟩) : P := h
theorem Yct (h : P := by
 obtain ⟨e, hu⟩ := T.u
 have := equal_ptrNil (P := P) (w := w) (a := a) hu
 exact s_run (by simp [execOp, eqGuard, binOp, hx, hy, this]) h) : P := h
theorem Yml (h : P := by
 obtain ⟨so', h1, h2⟩ := R.o i x e
 exact ⟨so', by rw [hget i hi]; exact h1, (h2.mono hle).tr (hF.block _ (R.lt i x e).2 Yhs)⟩) : P := h
theorem Ycu (h : P := by
 refine rx ?_
 exact q_cut ⟨rfl, ⟨_, rfl, hP⟩, ⟨y1, hy1, hyl1, rfl⟩, hG1, ((hF).trans0 hfv1 |>.trans hf1 Yie)⟩) : P := h
theorem Ycv (h : P := by
 obtain ⟨a2, c2, rfl, _⟩ := hk2.slice
 obtain ⟨a3, c3, rfl, _⟩ := hk3.slice
 exact ⟨_, _, _, _, _, _, _, _, _, b, rfl, ha, hb⟩) : P := h
theorem Ymm (h : P := by
 split at hk
 .rename_i hq
  unfold Instr.checkKey
  rw [Sem.run_bind, run_underlying hq, Result.andThen_ok]; rfl
 .cases hk) : P := h
theorem Ymn (h : P := by
 simp only [loadVar, Sem.run_bind, run_isAgg hd, ha, Result.andThen_ok, if_false, Bool.false_eq_true]
 simp [load, Sem.run, hc]) : P := h
theorem Ycz (h : P := by
 rw [e]
 refine s_cE (wUint p v bs (zz n) w (zz_lt h1 h2) hw hl) ?_
 rintro w' hs
 refine rn ?_
 exact end0 rfl ⟨rfl, hs⟩) : P := h
theorem Ymo (h : P := by
 cases e : P.info? t with
 | none => rw [e] at h; cases h
 | some i => rw [e] at h; exact ⟨i, rfl, by simpa using h⟩) : P := h
theorem Ymp (h : P := by
 have : h.get j = some .gone := Classical.byContradiction fun q => this q
 rw [this] at h3; cases h3; exact trivial) : P := h
theorem Ydc (h : P := by
 rcases h1 with rfl | rfl | rfl
 all_goals exact segOf Ykp (fun p n rest => by kernel_rfl)) : P := h
theorem Yde (h : P := by
 refine wpList_plain rfl fun K hK => ?_
 unfold Oper.wp
 rw [A_eval, hr]
 show K _ _
 rw [A_put]
 exact hK _ _ h) : P := h
theorem Ymq (h : P := by
 rw [updL_same] at e1; cases e1
 rw [updL_ne L _ hj] at e2
 have := (R.lt j y e2).2; simp only at hxy; omega) : P := h
theorem Ymr (h : P := by
 rintro wb hfb
 refine Yeo ?_
 exact ⟨rfl, ga.f.trans0 hfb⟩) : P := h
theorem Ydg (h : P := by
 rcases h1 with rfl | rfl
 all_goals exact segOf Ykp (fun p n rest => by kernel_rfl)) : P := h
theorem Yms (h : P := by
 refine enter func118 rfl ntmps118 rfl ?_
 refine rx ?_
 (refine s_boxN rfl rfl (fun w1 b hb hB hf1 hs1 => ?_); have hqw := hFB.lt; have hbq : b ≠ q := by omega)
 have hst : ST q b [iV d.kind, .string d.name, iV d.at_, .slice ct ctn ctc, .slice pm pmn pmc, iV d.type.kind, .string d.type.name, .slice ty tyn tyc, iV d.body.kind, .string d.body.name, iV d.body.n, .slice bo1 bon1 boc1, .slice bo2 bon2 boc2, .slice bo3 bon3 boc3, iV d.body.at_, iV d.depth, iV d.gen.kind, .string d.gen.name, .slice ge1 gen1 gec1, .slice ge2 gen2 gec2, .slice ge3 gen3 gec3, iV d.gen.at_, .slice dw dwn dwc, .slice ck ckn ckc, .slice cs csn csc, .slice cl cln clc, iV d.state.kind, .string d.state.name, .slice st stn stc, iV d.init.kind, .string d.init.name, iV d.init.n, .slice it1 itn1 itc1, .slice it2 itn2 itc2, .slice it3 itn3 itc3, iV d.init.at_, .slice cm cmn cmc, .slice op opn opc, iV d.recov.kind, .string d.recov.name, iV d.recov.n, .slice rc1 rcn1 rcc1, .slice rc2 rcn2 rcc2, .slice rc3 rcn3 rcc3, iV d.recov.at_] 53 w w1 := ⟨hFB.tr0 hf1, fr_new hf1, hB⟩
 clear hf1 hs1 hFB
 refine Yep ?_
 refine Yeq ?_
 refine Ymu ?_
 refine Ync ?_ ?_
 .refine rx ?_
  exact Ya
 clear hst hB
 rintro g u ⟨g0, g3, g4, g5, g6, g7, g8, hst⟩
 rw [eq_upd g0, eq_upd g3, eq_upd g4, eq_upd g5, eq_upd g6, eq_upd g7, eq_upd g8]
 clear g0 g3 g4 g5 g6 g7 g8
 have hB := hst.2.2
 refine wp_seq ?_
 refine Ync ?_ ?_
 .refine rx ?_
  exact Ya
 clear hst hB
 rintro g u ⟨g0, g3, g4, g5, g6, g7, g8, hst⟩
 rw [eq_upd g0, eq_upd g3, eq_upd g4, eq_upd g5, eq_upd g6, eq_upd g7, eq_upd g8]
 clear g0 g3 g4 g5 g6 g7 g8
 have hB := hst.2.2
 refine wp_seq ?_
 refine Ync ?_ ?_
 .refine rx ?_
  exact Ya
 clear hst hB
 rintro g u ⟨g0, g3, g4, g5, g6, g7, g8, hst⟩
 rw [eq_upd g0, eq_upd g3, eq_upd g4, eq_upd g5, eq_upd g6, eq_upd g7, eq_upd g8]
 clear g0 g3 g4 g5 g6 g7 g8
 have hB := hst.2.2
 refine wp_seq ?_
 refine Ync ?_ ?_
 .refine rx ?_
  exact Ya
 clear hst hB
 rintro g u ⟨g0, g3, g4, g5, g6, g7, g8, hst⟩
 rw [eq_upd g0, eq_upd g3, eq_upd g4, eq_upd g5, eq_upd g6, eq_upd g7, eq_upd g8]
 clear g0 g3 g4 g5 g6 g7 g8
 have hB := hst.2.2
 refine wp_seq ?_
 refine Ync ?_ ?_
 .refine rx ?_
  exact Ya
 clear hst hB
 rintro g u ⟨g0, g3, g4, g5, g6, g7, g8, hst⟩
 rw [eq_upd g0, eq_upd g3, eq_upd g4, eq_upd g5, eq_upd g6, eq_upd g7, eq_upd g8]
 clear g0 g3 g4 g5 g6 g7 g8
 have hB := hst.2.2
 refine wp_seq ?_
 refine Ync ?_ ?_
 .refine rx ?_
  exact Ya
 clear hst hB
 rintro g u ⟨g0, g3, g4, g5, g6, g7, g8, hst⟩
 rw [eq_upd g0, eq_upd g3, eq_upd g4, eq_upd g5, eq_upd g6, eq_upd g7, eq_upd g8]
 clear g0 g3 g4 g5 g6 g7 g8
 have hB := hst.2.2
 refine wp_seq ?_
 refine Ync ?_ ?_
 .refine rx ?_
  exact Ya
 clear hst hB
 rintro g u ⟨g0, g3, g4, g5, g6, g7, g8, hst⟩
 rw [eq_upd g0, eq_upd g3, eq_upd g4, eq_upd g5, eq_upd g6, eq_upd g7, eq_upd g8]
 clear g0 g3 g4 g5 g6 g7 g8
 have hB := hst.2.2
 refine wp_seq ?_
 refine Ync ?_ ?_
 .refine rx ?_
  exact Ya
 exact Yh) : P := h
theorem Ydx (h : P := by
 refine Yfb ?_
 refine s_rows1 rfl hl2 rfl (fun w12 k4 hk4 ho4 hf12 hs12 => ?_)
 (have hP12 := hP11.tr0 hf12; have hF12 := hF11.trans0 hf12)
 (have hbq := hbq.tr hf12 Yho)
 (have hba := hba.tr hf12 Yho)
 have hd := hd.tr0 hf12
 have hd2 := hd2.tr0 hf12
 have ho6 := ho6.tr0 hf12
 exact Yk) : P := h
theorem Ydz (h : P := by
 (refine s_indexStr rfl rfl hkx ?_; refine rx ?_; refine s_cE (classC _ w) ?_; rintro _ rfl; refine rx ?_)
 rw [if_pos (by unfold p1; rw [hc]; rfl)] at he
 exact Yt) : P := h
theorem Yem (h : P := by
 (refine s_indexStr rfl rfl hkx ?_; refine rx ?_; refine s_cE (classC _ w) ?_; rintro _ rfl; refine rx ?_)
 exact Ydz) : P := h
theorem Yen (h : Q) (k : Hd Q -> P := by
 intro zz
 (refine s_cat rfl rfl ?_ Yib; refine rx ?_)
 (refine s_cat rfl rfl ?_ Yib; refine rx ?_)
 exact zz.o) : P := k ⟨h⟩
theorem Yep (h : Q) (k : Hd Q -> P := by
 intro zz
 (refine rr ?_; refine wpList_nil ?_; refine q_then ?_; refine wp_seq ?_; refine c_region ?_)
 (refine rr ?_; refine wpList_nil ?_; refine q_then ?_; refine wp_seq ?_; refine c_region ?_)
 (refine rr ?_; refine wpList_nil ?_; refine q_then ?_; refine wp_seq ?_; refine c_region ?_)
 exact zz.o) : P := k ⟨h⟩
theorem Yeq (h : Q) (k : Hd Q -> P := by
 intro zz
 (refine rr ?_; refine wpList_nil ?_; refine q_then ?_; refine wp_seq ?_; refine c_region ?_)
 (refine rr ?_; refine wpList_nil ?_; refine q_then ?_; refine wp_seq ?_; refine c_region ?_)
 exact zz.o) : P := k ⟨h⟩
theorem Yeo (h : Q) (k : Hd Q -> P := by
 intro zz
 refine rx ?_
 (apply ret1; exact rfl; (conv => lhs; whnf))
 exact zz.o) : P := k ⟨h⟩
theorem Yer (h : Q) (k : Hd Q -> P := by
 intro zz
 refine rx ?_
 (refine s_cat rfl rfl ?_ Yib; refine rx ?_)
 exact zz.o) : P := k ⟨h⟩
theorem Yes (h : Q) (k : Hd Q -> P := by
 intro zz
 (refine s_cat rfl rfl ?_ Yib; refine rx ?_)
 (apply ret1; exact rfl; (conv => lhs; whnf))
 exact zz.o) : P := k ⟨h⟩
theorem Yex (h : Q) (k : Hd Q -> P := by
 intro zz
 refine s_fieldV (l := tkC t) rfl rfl ?_
 refine rx ?_
 exact zz.o) : P := k ⟨h⟩
theorem Yey (h : Q) (k : Hd Q -> P := by
 intro zz
 refine rx ?_
 refine s_cE (unusedC q d hk _ _ _ _ _ _ _ _ _ _ _ _ _ _ _ _ _ _ _ _ _ _ _ _ _ _ _ _ _ _ _ _ _ _ _ _ _ _ _ _ _ _ _ _ _ _ _ _ _ _ _ _ _ _ _ _ _ _ _ _ _ _ _ _ _ _ w1 hst.1) ?_
 exact zz.o) : P := k ⟨h⟩
theorem Yet (h : Q) (k : Hd Q -> P := by
 intro zz
 (refine wpList_nil (q_ue ?_))
 (refine u_done Yhp ?_)
 refine rx ?_
 exact zz.o) : P := k ⟨h⟩
theorem Yez (h : Q) (k : Hd Q -> P := by
 intro zz
 (refine wpList_nil (q_uh (And.intro hbc hbz) ?_))
 (refine u_one (i := 8) rfl Yhp ?_)
 refine s_nilCheck rfl ?_
 (refine wpList_nil (q_uh (And.intro hbc hbz) ?_))
 exact zz.o) : P := k ⟨h⟩
theorem Yfb (h : Q) (k : Hd Q -> P := by
 intro zz
 (refine wpList_nil (q_uh (And.intro trivial hba) ?_))
 (refine u_one (i := 4) rfl Yhp ?_)
 exact zz.o) : P := k ⟨h⟩
theorem Ymt (h : Q) (k : Hd Q -> P := by
 intro zz
 refine rn ?_
 (refine d_begin (fun _ => True) Yhp rfl ?_)
 (refine d_tk 0 trivial ?_)
 (refine d_tk 1 trivial ?_)
 (refine d_tk 2 trivial ?_)
 (refine d_tk 3 trivial ?_)
 refine d_tx 4 trivial ?_ (hrun := by (intro u hu; exact r_sliceLo (j := a + m) rfl rfl Yhn Yhn Yhn rfl))
 (refine d_tk 5 trivial ?_)
 (refine d_tk 6 trivial ?_)
 refine d_tx 7 trivial ?_ (hrun := by (intro u hu; exact r_sliceLo (j := a) rfl rfl Yhn Yhn Yhn rfl))
 exact zz.o) : P := k ⟨h⟩
theorem Yll (h : Q) (k : Hd Q -> P := by
 intro zz
 refine rn ?_
 (apply ret1; exact rfl; (conv => lhs; whnf))
 exact zz.o) : P := k ⟨h⟩
theorem Yfe (h : Q) (k : Hd Q -> P := by
 intro zz
 (refine wpList_nil (q_uh (And.intro trivial hba) ?_))
 (refine u_one (i := 5) rfl Yhp ?_)
 exact zz.o) : P := k ⟨h⟩
theorem Yfc (h : Q) (k : Hd Q -> P := by
 intro zz
 refine rx ?_
 (apply ret3; exact rfl; (conv => lhs; whnf); (conv => lhs; whnf); (conv => lhs; whnf))
 exact zz.o) : P := k ⟨h⟩
theorem Yff (h : Q) (k : Hd Q -> P := by
 intro zz
 refine rx ?_
 refine s_indexStr rfl rfl hix ?_
 refine rx ?_
 exact zz.o) : P := k ⟨h⟩
theorem Ymu (h : Q) (k : Hd Q -> P := by
 intro zz
 refine rr ?_
 refine wpList_nil ?_
 refine q_then ?_
 refine wp_seq ?_
 exact zz.o) : P := k ⟨h⟩
theorem Yfg (h : Q) (k : Hd Q -> P := by
 intro zz
 (refine wpList_nil (q_uh (And.intro hbc hbz) ?_))
 (refine u_one (i := 7) rfl Yhp ?_)
 exact zz.o) : P := k ⟨h⟩
theorem Yfi (h : Q) (k : Hd Q -> P := by
 intro zz
 (refine s_cat rfl rfl ?_ Yib; refine rx ?_)
 refine s_c1 (gNext p 3 _ hG Yhn) ?_
 exact zz.o) : P := k ⟨h⟩
theorem Yfj (h : Q) (k : Hd Q -> P := by
 intro zz
 (refine s_cat rfl rfl ?_ Yib; refine rx ?_)
 refine s_c1 (gNext p 2 _ hG Yhn) ?_
 exact zz.o) : P := k ⟨h⟩
theorem Yfk (h : Q) (k : Hd Q -> P := by
 intro zz
 refine rx ?_
 refine s_cE (namedC q _ 0 _ hst.1) ?_
 exact zz.o) : P := k ⟨h⟩
theorem Yfl (h : Q) (k : Hd Q -> P := by
 intro zz
 refine rx ?_
 refine s_cE (mostI q _ _ hst.1 Yhn) ?_
 exact zz.o) : P := k ⟨h⟩
theorem Ymv (h : Q) (k : Hd Q -> P := by
 intro zz
 refine enter func74 rfl ntmps74 rfl ?_
 refine rx ?_
 exact zz.o) : P := k ⟨h⟩
theorem Yfq (h : Q) (k : Hd Q -> P := by
 intro zz
 refine rx ?_
 refine s_load rfl hc ?_
 refine rx ?_
 exact zz.o) : P := k ⟨h⟩
theorem Yfs (h : Q) (k : Hd Q -> P := by
 intro zz
 refine rx ?_
 (refine d_begin (fun z => Fr [] w z) Yhp rfl ?_)
 exact zz.o) : P := k ⟨h⟩
theorem Yft (h : Q) (k : Hd Q -> P := by
 intro zz
 (refine wpList_nil (q_uh (And.intro trivial hba) ?_))
 (refine u_one (i := 6) rfl Yhp ?_)
 exact zz.o) : P := k ⟨h⟩
theorem Ymw (h : Q) (k : Hd Q -> P := by
 intro zz
 refine rn ?_
 refine s_indexAddr (j := k) rfl rfl rfl Yhn rfl ?_
 exact zz.o) : P := k ⟨h⟩
theorem Yfu (h : Q) (k : Hd Q -> P := by
 intro zz
 refine rx ?_
 refine c_loopK 5 [4] (σ := Nat) (fun i g u => g 4 = iV i /\ i <= l.length /\ FB u q /\ Fr [q] w u) (fun i => l.length - i) 0 ⟨rfl, Nat.zero_le _, h1, hf1⟩ ?_
 exact zz.o) : P := k ⟨h⟩
theorem Yfw (h : Q) (k : Hd Q -> P := by intro zz; (apply ret1; exact rfl; (conv => lhs; whnf)); exact zz.o) : P := k ⟨h⟩
theorem Ymx (h : Q) (k : Hd Q -> P := by intro zz; refine s_load rfl hcell ?_; exact zz.o) : P := k ⟨h⟩
theorem Yfx (h : Q) (k : Hd Q -> P := by intro zz; (refine d_done Yhp ?_); exact zz.o) : P := k ⟨h⟩
theorem Yfv (h : Q) (k : Hd Q -> P := by intro zz; refine ⟨ok_par _, iha 32 sep_bl, rfl, ?_, rfl, ihb 41 (.inr rfl), ok_cpar _, trivial⟩; exact zz.o) : P := k ⟨h⟩
theorem Yga (h : P := by exact q_roundK (i + 1) Yhr ⟨rfl, by omega, he, hf.trans0 hS⟩ Yhn) : P := h
theorem Ygb (h : P := by exact h v' w' ⟨ho, fun b hb hm => (hk b hb).elim (fun h => hR.2 b h hm) (fun h => by have := hX b hm; omega)⟩ hf hk) : P := h
theorem Ygr (h : Q) (k : Hd Q -> P := by intro zz; (refine u_one (i := 3) rfl Yhp ?_); exact zz.o) : P := k ⟨h⟩
theorem Ygs (h : Q) (k : Hd Q -> P := by intro zz; (refine wpList_nil (q_uh (And.intro trivial hba) ?_)); exact zz.o) : P := k ⟨h⟩
theorem Ygm (h : Q) (k : Hd Q -> P := by intro zz; (refine u_one (i := 7) rfl Yhp ?_); exact zz.o) : P := k ⟨h⟩
theorem Ygo (h : Q) (k : Hd Q -> P := by intro zz; (refine u_one (i := 10) rfl Yhp ?_); exact zz.o) : P := k ⟨h⟩
theorem Ygc (h : P := by exact end0 rfl ⟨rfl, ⟨_, _, _, h2⟩, (fr_new hf1).trans hf2 (fun x hx => .inl hx)⟩) : P := h
theorem Ygd (h : Q) (k : Hd Q -> P := by intro zz; refine s_call (gChoose p _ (V.map rnd) w0 hG0 (by rw [List.map_map, List.length_map]; exact hV0.1) (by rw [List.map_map]; exact hV0.2) (by simpa using h0) (by simpa using hV9)) rfl ?_; exact zz.o) : P := k ⟨h⟩
theorem Yge (h : Q) (k : Hd Q -> P := by intro zz; (refine s_cat rfl rfl ?_ Yib; refine rx ?_); exact zz.o) : P := k ⟨h⟩
theorem Ygf (h : Q) (k : Hd Q -> P := by intro zz; refine s_call (gChoose p _ [[32, 60, 32], [32, 60, 61, 32], [32, 61, 61, 32], [32, 33, 61, 32]] u (hG1.tr0 hfu) ho.src (hG1.off ho rfl) Yhs Yhs) rfl ?_; exact zz.o) : P := k ⟨h⟩
theorem Ygg (h : P := by exact q_roundK (i + 1) Yhl ⟨rfl, rfl, by omega, hfu.trans0 hf2⟩ Yhn) : P := h
theorem Ygh (h : P := by exact end0 rfl ⟨rfl, hst.1, hst.2.1⟩) : P := h
theorem Ygi (h : P := by exact q_roundK (i + 1) Yhl ⟨rfl, by omega, hst⟩ Yhn) : P := h
theorem Ygj (h : P := by exact q_roundK (i + 1) Yhl ⟨rfl, by omega, hq5, hF5⟩ Yhn) : P := h
theorem Ymy (h : Q) (i : R) (k : Hd Q -> Hd R -> P := by intro zz yy; refine c_cut (fun g u => g 0 = .pointer (some ⟨q, 0, none⟩) /\ g 3 = .pointer (some ⟨b, 0, none⟩) /\ g 4 = iV d.kind /\ g 5 = .bool false /\ g 6 = .bool false /\ g 7 = .bool false /\ g 8 = .bool false /\ ST q b [iV d.kind, .string d.name, iV d.at_, .slice ct ctn ctc, .slice pm pmn pmc, iV d.type.kind, .string d.type.name, .slice ty tyn tyc, iV d.body.kind, .string d.body.name, iV d.body.n, .slice bo1 bon1 boc1, .slice bo2 bon2 boc2, .slice bo3 bon3 boc3, iV d.body.at_, iV d.depth, iV d.gen.kind, .string d.gen.name, .slice ge1 gen1 gec1, .slice ge2 gen2 gec2, .slice ge3 gen3 gec3, iV d.gen.at_, .slice dw dwn dwc, .slice ck ckn ckc, .slice cs csn csc, .slice cl cln clc, iV d.state.kind, .string d.state.name, .slice st stn stc, iV d.init.kind, .string d.init.name, iV d.init.n, .slice it1 itn1 itc1, .slice it2 itn2 itc2, .slice it3 itn3 itc3, iV d.init.at_, .slice cm cmn cmc, .slice op opn opc, iV d.recov.kind, .string d.recov.name, iV d.recov.n, .slice rc1 rcn1 rcc1, .slice rc2 rcn2 rcc2, .slice rc3 rcn3 rcc3, iV d.recov.at_] 53 w u) ?_ ?_; exact zz.o; exact yy.o) : P := k ⟨h⟩ ⟨i⟩
theorem Ymz (h : Q) (i : R) (k : Hd Q -> Hd R -> P := by intro zz yy; refine c_cut (fun g u => g 0 = .pointer (some ⟨q, 0, none⟩) /\ g 3 = .pointer (some ⟨b, 0, none⟩) /\ g 4 = iV d.kind /\ g 5 = .bool true /\ g 6 = .bool false /\ g 7 = .bool false /\ g 8 = .bool false /\ ST q b [iV d.kind, .string d.name, iV d.at_, .slice ct ctn ctc, .slice pm pmn pmc, iV d.type.kind, .string d.type.name, .slice ty tyn tyc, iV d.body.kind, .string d.body.name, iV d.body.n, .slice bo1 bon1 boc1, .slice bo2 bon2 boc2, .slice bo3 bon3 boc3, iV d.body.at_, iV d.depth, iV d.gen.kind, .string d.gen.name, .slice ge1 gen1 gec1, .slice ge2 gen2 gec2, .slice ge3 gen3 gec3, iV d.gen.at_, .slice dw dwn dwc, .slice ck ckn ckc, .slice cs csn csc, .slice cl cln clc, iV d.state.kind, .string d.state.name, .slice st stn stc, iV d.init.kind, .string d.init.name, iV d.init.n, .slice it1 itn1 itc1, .slice it2 itn2 itc2, .slice it3 itn3 itc3, iV d.init.at_, .slice cm cmn cmc, .slice op opn opc, iV d.recov.kind, .string d.recov.name, iV d.recov.n, .slice rc1 rcn1 rcc1, .slice rc2 rcn2 rcc2, .slice rc3 rcn3 rcc3, iV d.recov.at_] 53 w u) ?_ ?_; exact zz.o; exact yy.o) : P := k ⟨h⟩ ⟨i⟩
theorem Yna (h : Q) (i : R) (k : Hd Q -> Hd R -> P := by intro zz yy; refine c_cut (fun g u => g 0 = .pointer (some ⟨q, 0, none⟩) /\ g 3 = .pointer (some ⟨b, 0, none⟩) /\ g 4 = iV d.kind /\ g 5 = .bool false /\ g 6 = .bool true /\ g 7 = .bool false /\ g 8 = .bool false /\ ST q b [iV d.kind, .string d.name, iV d.at_, .slice ct ctn ctc, .slice pm pmn pmc, iV d.type.kind, .string d.type.name, .slice ty tyn tyc, iV d.body.kind, .string d.body.name, iV d.body.n, .slice bo1 bon1 boc1, .slice bo2 bon2 boc2, .slice bo3 bon3 boc3, iV d.body.at_, iV d.depth, iV d.gen.kind, .string d.gen.name, .slice ge1 gen1 gec1, .slice ge2 gen2 gec2, .slice ge3 gen3 gec3, iV d.gen.at_, .slice dw dwn dwc, .slice ck ckn ckc, .slice cs csn csc, .slice cl cln clc, iV d.state.kind, .string d.state.name, .slice st stn stc, iV d.init.kind, .string d.init.name, iV d.init.n, .slice it1 itn1 itc1, .slice it2 itn2 itc2, .slice it3 itn3 itc3, iV d.init.at_, .slice cm cmn cmc, .slice op opn opc, iV d.recov.kind, .string d.recov.name, iV d.recov.n, .slice rc1 rcn1 rcc1, .slice rc2 rcn2 rcc2, .slice rc3 rcn3 rcc3, iV d.recov.at_] 53 w u) ?_ ?_; exact zz.o; exact yy.o) : P := k ⟨h⟩ ⟨i⟩
theorem Ynb (h : Q) (i : R) (k : Hd Q -> Hd R -> P := by intro zz yy; refine c_cut (fun g u => g 0 = .pointer (some ⟨q, 0, none⟩) /\ g 3 = .pointer (some ⟨b, 0, none⟩) /\ g 4 = iV d.kind /\ g 5 = .bool false /\ g 6 = .bool false /\ g 7 = .bool true /\ g 8 = .bool false /\ ST q b [iV d.kind, .string d.name, iV d.at_, .slice ct ctn ctc, .slice pm pmn pmc, iV d.type.kind, .string d.type.name, .slice ty tyn tyc, iV d.body.kind, .string d.body.name, iV d.body.n, .slice bo1 bon1 boc1, .slice bo2 bon2 boc2, .slice bo3 bon3 boc3, iV d.body.at_, iV d.depth, iV d.gen.kind, .string d.gen.name, .slice ge1 gen1 gec1, .slice ge2 gen2 gec2, .slice ge3 gen3 gec3, iV d.gen.at_, .slice dw dwn dwc, .slice ck ckn ckc, .slice cs csn csc, .slice cl cln clc, iV d.state.kind, .string d.state.name, .slice st stn stc, iV d.init.kind, .string d.init.name, iV d.init.n, .slice it1 itn1 itc1, .slice it2 itn2 itc2, .slice it3 itn3 itc3, iV d.init.at_, .slice cm cmn cmc, .slice op opn opc, iV d.recov.kind, .string d.recov.name, iV d.recov.n, .slice rc1 rcn1 rcc1, .slice rc2 rcn2 rcc2, .slice rc3 rcn3 rcc3, iV d.recov.at_] 53 w u) ?_ ?_; exact zz.o; exact yy.o) : P := k ⟨h⟩ ⟨i⟩
theorem Yhc (h : Q) (k : Hd Q -> P := by intro zz; refine s_cE (decimal1 k1 w1 Yhn) ?_; exact zz.o) : P := k ⟨h⟩
theorem Ync (h : Q) (i : R) (k : Hd Q -> Hd R -> P := by intro zz yy; refine c_cut (fun g u => g 0 = .pointer (some ⟨q, 0, none⟩) /\ g 3 = .pointer (some ⟨b, 0, none⟩) /\ g 4 = iV d.kind /\ g 5 = .bool false /\ g 6 = .bool false /\ g 7 = .bool false /\ g 8 = .bool true /\ ST q b [iV d.kind, .string d.name, iV d.at_, .slice ct ctn ctc, .slice pm pmn pmc, iV d.type.kind, .string d.type.name, .slice ty tyn tyc, iV d.body.kind, .string d.body.name, iV d.body.n, .slice bo1 bon1 boc1, .slice bo2 bon2 boc2, .slice bo3 bon3 boc3, iV d.body.at_, iV d.depth, iV d.gen.kind, .string d.gen.name, .slice ge1 gen1 gec1, .slice ge2 gen2 gec2, .slice ge3 gen3 gec3, iV d.gen.at_, .slice dw dwn dwc, .slice ck ckn ckc, .slice cs csn csc, .slice cl cln clc, iV d.state.kind, .string d.state.name, .slice st stn stc, iV d.init.kind, .string d.init.name, iV d.init.n, .slice it1 itn1 itc1, .slice it2 itn2 itc2, .slice it3 itn3 itc3, iV d.init.at_, .slice cm cmn cmc, .slice op opn opc, iV d.recov.kind, .string d.recov.name, iV d.recov.n, .slice rc1 rcn1 rcc1, .slice rc2 rcn2 rcc2, .slice rc3 rcn3 rcc3, iV d.recov.at_] 53 w u) ?_ ?_; exact zz.o; exact yy.o) : P := k ⟨h⟩ ⟨i⟩
theorem Yhm (h : P := by exact fun x hx => by first | exact .inl hx | exact .inl (List.mem_cons.2 (.inl (List.mem_singleton.1 hx)))) : P := h
theorem Yhn (h : P := by omega) : P := h
theorem Yho (h : P := by simp <;> omega) : P := h
theorem Yhl (h : P := by (repeat (first | exact Keep.refl _ _ _ | exact Keep.mrg _ _ _ _ | (refine Keep.hi rfl ?_) | (refine Keep.one rfl ?_) | exact Keep.all rfl | (refine Keep.inn rfl ?_) | (refine Keep.set rfl ?_)))) : P := h
theorem Yhr (h : P := by (repeat (first | exact Keep.mrg _ _ _ _ | (refine Keep.hi rfl ?_) | (refine Keep.one rfl ?_) | exact Keep.all rfl | (refine Keep.inn rfl ?_) | (refine Keep.set rfl ?_)))) : P := h
theorem Yhp (h : P := by kernel_rfl) : P := h
theorem Yhq (h : P := by rw [List.mem_singleton.1 hx]; omega) : P := h
theorem Yhs (h : P := by simp) : P := h
theorem Yhu (h : P := by simp [Value.oneCell']) : P := h
theorem Yht (h : P := by simp; omega) : P := h
theorem Yhx (h : P := by (try simp only [rnd_app, List.append_assoc]); kernel_rfl) : P := h
theorem Yhv (h : P := by unfold maxLen; omega) : P := h
theorem Yhz (h : P := by assumption) : P := h
theorem Yib (h : P := by simp only [List.append_eq, List.length_append, List.length_cons, List.length_nil]; omega) : P := h
theorem Yhy (h : P := by decide) : P := h
theorem Ynd (h : P := by unfold maxLen; simp only [List.length_append, List.length_cons, List.length_nil]; omega) : P := h
theorem Yhw (h : P := by simp only; omega) : P := h
theorem Yie (h : P := by simpa using hpw) : P := h
theorem Yif (h : P := by exact fun b hb => by simp at hb ⊢; rcases hb with h | h | h <;> simp [h]) : P := h
theorem Yne (h : P := by simp only [List.length_append, List.length_cons, List.length_nil]; omega) : P := h
theorem Yig (h : P := by simp [blks, Value.ownBlock, rg_mem]; omega) : P := h
theorem Yih (h : P := by simp [rg_mem] <;> omega) : P := h
theorem Yii (h : P := by simp [hb]) : P := h
theorem Yin (h : P := by intro b hb; simp [rg_mem]; omega) : P := h
theorem Yiq (h : P := by simp at hx ⊢; simp [hx]) : P := h
theorem Yit (h : P := by simp [rg_mem] at hb ⊢; omega) : P := h
theorem Yiu (h : P := by intro u hu; exact (r_loadC rfl (Cells.ofBlk hu.1) rfl)) : P := h
theorem Yiw (h : P := by cases h) : P := h
theorem Yiy (h : P := by simp [rnd, rnd_app]) : P := h
theorem Yim (h : P := by simp only [List.length_append]; omega) : P := h
theorem Yio (h : P := by rw [e]; simp [blks, Value.ownBlock]) : P := h
theorem Yji (h : P := by unfold bD; simp only [exD, exDs]; omega) : P := h
theorem Yjk (h : P := by rw [h]; exact List.mem_singleton.2 rfl) : P := h
theorem Yjl (h : P := by simp [hp5]) : P := h
theorem Yik (h : P := by rfl) : P := h
theorem Yjm (h : P := by exact fun b hb => by simp [hb]) : P := h
theorem Yil (h : P := by simpa using h) : P := h
theorem Yjo (h : P := by simp [blks, Value.ownBlock]; omega) : P := h
theorem Yjp (h : P := by rw [List.mem_singleton.1 h]; omega) : P := h
theorem Yjf (h : P := by simpa using hi) : P := h
theorem Yjs (h : P := by exact fun j u hu => by have := (Cells.ofBlk hb).sub o m j u hu; rwa [add_lit, Nat.zero_add] at this) : P := h
theorem Ykk (h : P := by split <;> omega) : P := h
theorem Yju (h : P := by simp [execOp, resolve, invoke, builtin, Builtin.len_, run_underlying S.u, hx, goInt]) : P := h
theorem Yjv (h : P := by simp [execOp, eqGuard, binOp, Op.intArith, hx, hy, hr]) : P := h
theorem Yjx (h : P := by rw [List.mem_singleton.1 hx]; exact hp) : P := h
theorem Yjy (h : P := by exact fun b hb => by have := rg_mem.1 hb; omega) : P := h
theorem Ynf (h : P := by simp only [List.length_append]; unfold maxLen; omega) : P := h
theorem Yka (h : P := by simp [rg_mem.2 hpw]) : P := h
theorem Ykb (h : P := by exact fun k hk => by rcases List.mem_append.1 hk with h | h; exact .inl h; exact hT k h) : P := h
theorem Ykc (h : P := by exact fun b hb => by rcases List.mem_append.1 hb with h | h; exact .inl h; exact hT b h) : P := h
theorem Ykd (h : P := by exact fun b hb => by rcases hT b hb with h | h; exact .inl (rg_mem.2 h); exact .inr h) : P := h
theorem Yke (h : P := by exact fun k hk hm => by have := hbl k hk; rw [List.mem_singleton.1 hm] at this; omega) : P := h
theorem Yng (h : P := by simpa using hk) : P := h
theorem Ykg (h : P := by simp [eqGuard, binOp, Op.intCmp]) : P := h
theorem Ynh (h : P := by simpa [okV] using q) : P := h
theorem Yni (h : P := by exact fun e' => by subst e'; rw [hi] at e; cases e) : P := h
theorem Ykm (h : P := by unfold bF; omega) : P := h
theorem Ykn (h : P := by unfold bD; omega) : P := h
theorem Yko (h : P := by simpa [blks, Value.ownBlock] using hb) : P := h
theorem Ykp (h : P := by exact fun nx => by kernel_rfl) : P := h
theorem Yks (h : P := by simpa using hb) : P := h
end
end Go.Rf
