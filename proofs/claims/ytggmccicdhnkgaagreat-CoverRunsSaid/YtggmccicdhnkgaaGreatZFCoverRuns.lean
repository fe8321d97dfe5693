/-
 For every input the law CoverRuns of the given program returns true and leaves its arguments as they were.
 Conditions:none beyond the statement's own.
-/
import Derived.Test.YtggmccicdhnkgaaGreatZFr
set_option linter.all false
namespace Go.Proofs.YtggmccicdhnkgaaGreat.coverRuns
open Go.ChangeShapes Go.WideShapes Go.ChangeAt Go.RowKit Go.Rf
open Go.ChangeMaps (open_string shut_string)
open Go.Proofs.Tryz
theorem own:ownKnob prog.godebug=none:=by kernel_rfl
theorem laidOut:laidOutB prog=true:=by kernel_rfl
set_option maxRecDepth 100000 in
theorem lifted(os:Os)(started:os.Started)(H:Type)(enc:TypeId×Value->H):
 ReturnsInHanded {} Tryz.checked os 4 .any (Rows.coverRunsSpec.pre6 enc prog f4 Rows.coverRunsRow.domain false) (Rows.coverRunsSpec.post enc prog f4 false true false false):=by
 refine returnsInHanded_of_change (C:=Tryz.checked) own started Yhp func4
  (ChangeSpec.witness6 (enc:=enc) (C:=Tryz.checked) false ⟨#[],#[zS,zS,zI],[]⟩ 8 Yhp Yhp Yhp Yhp) ?_
 intro W base args ds gs before hval0 hW hcnd _;have hval:∀(j:Nat) t v,f4.params[j]?=some t->args[j]?=some v->Value.okWide prog W .any base t v:=hval0;have hW':=hW;obtain⟨p,q,hA0,hV,rfl,hfz,hnd⟩:=hW;have hA:DataW.TrodAll enc prog W 0 (fun _=>true) true f4.params.toList args.toList ds p:=hA0;rw[Tryz.params4]at hA hval;obtain⟨v0,vs0,d0,ds0,p0,q0,hargs,rfl,rfl,h0,r0⟩:=trodAll_cons hA;obtain⟨v1,vs1,d1,ds1,p1,q1,rfl,rfl,rfl,h1,r1⟩:=trodAll_cons r0;obtain⟨v2,vs2,d2,ds2,p2,q2,rfl,rfl,rfl,h2,r2⟩:=trodAll_cons r1;obtain⟨rfl,rfl,rfl⟩:=trodAll_nil r2;obtain rfl:args=#[v0,v1,v2]:=by cases args;simp_all
 obtain⟨rfl,rfl⟩:=trodVars_none hV;obtain⟨a0,len0,cap0,rfl⟩:=okWide_slice underlying22 (hval 0 22 v0 rfl rfl);have k0:=h0;have lt0:∀x∈p0,x.block<W.heap.size:=by obtain⟨m,hm⟩:=k0;exact DataW.trod_lt m _ _ _ hm
 obtain⟨x0,sx0,wx0⟩:∃xs:List Int,Src W (.slice a0 len0 cap0) xs.length (xs.map (.int .i64))/\∀n∈xs,(Lit.int .i64 n).wf=true:=by
  obtain⟨fuel,hf⟩:=h0;rcases open_ints underlying22 underlying3 Yhp hf with⟨hcs,_⟩|⟨x,l,c,zs,hcs,_,hl,hm,hz,_,hcell,hwz⟩
  .simp [Value.cells]at hcs;obtain⟨rfl,rfl,rfl⟩:=hcs;exact⟨[],Src.nil _,by simp⟩
  .simp [Value.cells]at hcs;obtain⟨rfl,rfl,rfl⟩:=hcs;exact JbA hl (by simpa using hz) hcell hwz
 obtain⟨a1,len1,cap1,rfl⟩:=okWide_slice underlying22 (hval 1 22 v1 rfl rfl);have k1:=h1;have lt1:∀x∈p1,x.block<W.heap.size:=by obtain⟨m,hm⟩:=k1;exact DataW.trod_lt m _ _ _ hm
 obtain⟨x1,sx1,wx1⟩:∃xs:List Int,Src W (.slice a1 len1 cap1) xs.length (xs.map (.int .i64))/\∀n∈xs,(Lit.int .i64 n).wf=true:=by
  obtain⟨fuel,hf⟩:=h1;rcases open_ints underlying22 underlying3 Yhp hf with⟨hcs,_⟩|⟨x,l,c,zs,hcs,_,hl,hm,hz,_,hcell,hwz⟩
  .simp [Value.cells]at hcs;obtain⟨rfl,rfl,rfl⟩:=hcs;exact⟨[],Src.nil _,by simp⟩
  .simp [Value.cells]at hcs;obtain⟨rfl,rfl,rfl⟩:=hcs;exact JbA hl (by simpa using hz) hcell hwz
 obtain⟨a2,rfl,rfl,rfl,w2⟩:=open_int underlying3 (hval 2 3 v2 rfl rfl) h2;clear hA0 hval0;refine(UJ _ x0 _ x1 a2 W sx0 (fun n hn=>wf_i64 (wx0 n hn)) sx1 (fun n hn=>wf_i64 (wx1 n hn)) (wf_i64 w2)).mono fun e W' ⟨he,hfr⟩=>?_
 subst he;have bel:=hfr.below;exact⟨_,rfl,_,_,_,[],_,[],hW',trodAll_mk1 (shut_bool underlying4 _),(trodAll_cons_mk (Below.trod laidOut Yhp (of_decide_eq_true Yhp) k0 bel lt0) (trodAll_cons_mk (Below.trod laidOut Yhp (of_decide_eq_true Yhp) k1 bel lt1) (trodAll_cons_mk (shut_int underlying3 w2) trodAll_mk0))),rfl,bel.frame _,fun h=>by cases h⟩
theorem over:Rows.coverRunsRow.holds Tryz.pinned (OpenSpec.ofChange Rows.coverRunsSpec):=
 OpenClaim.holds_of_wide 4 f4 rfl rfl rfl rfl rfl rfl rfl ⟨rfl,rfl,rfl,rfl,rfl⟩ rfl rfl rfl rfl rfl Yhp func4 Yhp
  (of_decide_eq_true Yhp) (by unfold Func.isWrapper;first|(rw[if_pos (by decide+kernel)];kernel_rfl)|(rw[if_neg (by decide+kernel)];exact⟨rfl,rfl⟩))
  (fun os started H enc _=>lifted os started H enc)
theorem proved:Rows.CoverRunsSaid:=over
#print axioms proved
end Go.Proofs.YtggmccicdhnkgaaGreat.coverRuns
