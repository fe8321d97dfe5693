/-
 For every input the law CoverCopies of the given program returns true and leaves its arguments as they were.
 Conditions:none beyond the statement's own.
-/
import Derived.Test.YtggmccicdhnkgaaGreatVFr
set_option linter.all false
namespace Go.Proofs.YtggmccicdhnkgaaGreat.coverCopies
open Go.ChangeShapes Go.WideShapes Go.ChangeAt Go.RowKit Go.Rf
open Go.ChangeMaps (open_string shut_string)
open Go.Proofs.Tryz
theorem own:ownKnob prog.godebug=none:=by kernel_rfl
theorem laidOut:laidOutB prog=true:=by kernel_rfl
set_option maxRecDepth 100000 in
theorem lifted(os:Os)(started:os.Started)(H:Type)(enc:TypeId×Value->H):
 ReturnsInHanded {} Tryz.checked os 8 .any (Rows.coverCopiesSpec.pre6 enc prog f8 Rows.coverCopiesRow.domain false) (Rows.coverCopiesSpec.post enc prog f8 false true false false):=by
 refine returnsInHanded_of_change (C:=Tryz.checked) own started az func8
  (ChangeSpec.witness6 (enc:=enc) (C:=Tryz.checked) false ⟨#[],#[zS,zS,zI],[]⟩ 8 az az az az) ?_
 intro W base args ds gs before Pb hW ifx _;have oF:∀(j:Nat) t v,f8.params[j]?=some t->args[j]?=some v->Value.okWide prog W .any base t v:=Pb;have hW':=hW;obtain⟨p,q,hA0,hV,rfl,hfz,iJ⟩:=hW;have hA:DataW.TrodAll enc prog W 0 (fun _=>true) true f8.params.toList args.toList ds p:=hA0;rw[Tryz.params8]at hA oF;obtain⟨v0,vs0,d0,ds0,p0,q0,ieK,rfl,rfl,h0,r0⟩:=trodAll_cons hA;obtain⟨v1,vs1,d1,ds1,p1,q1,rfl,rfl,rfl,h1,r1⟩:=trodAll_cons r0;obtain⟨v2,vs2,d2,ds2,p2,q2,rfl,rfl,rfl,h2,r2⟩:=trodAll_cons r1;obtain⟨rfl,rfl,rfl⟩:=trodAll_nil r2;obtain rfl:args=#[v0,v1,v2]:=by cases args;simp_all
 obtain⟨rfl,rfl⟩:=trodVars_none hV;obtain⟨a0,icH,icI,rfl⟩:=okWide_slice underlying22 (oF 0 22 v0 rfl rfl);have k0:=h0;have lt0:∀x∈p0,x.block<W.heap.size:=by obtain⟨m,hm⟩:=k0;exact DataW.trod_lt m _ _ _ hm
 obtain⟨x0,sx0,wx0⟩:∃xs:List Int,Src W (.slice a0 icH icI) xs.length (xs.map (.int .i64))/\∀n∈xs,(Lit.int .i64 n).wf=true:=by
  obtain⟨fuel,hf⟩:=h0;rcases open_ints underlying22 underlying3 az hf with⟨fG,_⟩|⟨x,l,c,zs,fG,_,hl,hm,hz,_,bV,hwz⟩
  .simp [Value.cells]at fG;obtain⟨rfl,rfl,rfl⟩:=fG;exact⟨[],Src.nil _,by simp⟩
  .simp [Value.cells]at fG;obtain⟨rfl,rfl,rfl⟩:=fG;exact JbA hl (by simpa using hz) bV hwz
 obtain⟨a1,icJ,icK,rfl⟩:=okWide_slice underlying22 (oF 1 22 v1 rfl rfl);have k1:=h1;have lt1:∀x∈p1,x.block<W.heap.size:=by obtain⟨m,hm⟩:=k1;exact DataW.trod_lt m _ _ _ hm
 obtain⟨x1,sx1,wx1⟩:∃xs:List Int,Src W (.slice a1 icJ icK) xs.length (xs.map (.int .i64))/\∀n∈xs,(Lit.int .i64 n).wf=true:=by
  obtain⟨fuel,hf⟩:=h1;rcases open_ints underlying22 underlying3 az hf with⟨fG,_⟩|⟨x,l,c,zs,fG,_,hl,hm,hz,_,bV,hwz⟩
  .simp [Value.cells]at fG;obtain⟨rfl,rfl,rfl⟩:=fG;exact⟨[],Src.nil _,by simp⟩
  .simp [Value.cells]at fG;obtain⟨rfl,rfl,rfl⟩:=fG;exact JbA hl (by simpa using hz) bV hwz
 obtain⟨a2,rfl,rfl,rfl,w2⟩:=open_int underlying3 (oF 2 3 v2 rfl rfl) h2;clear hA0 Pb;refine(JlL _ x0 _ x1 a2 W sx0 (fun n hn=>wf_i64 (wx0 n hn)) sx1 (fun n hn=>wf_i64 (wx1 n hn)) (wf_i64 w2)).mono fun e W' ⟨he,fv⟩=>?_
 subst he;have bel:=fv.below;exact⟨_,rfl,_,_,_,[],_,[],hW',trodAll_mk1 (shut_bool underlying4 _),(trodAll_cons_mk (Below.trod laidOut az (DJ az) k0 bel lt0) (trodAll_cons_mk (Below.trod laidOut az (DJ az) k1 bel lt1) (trodAll_cons_mk (shut_int underlying3 w2) trodAll_mk0))),rfl,bel.frame _,fun h=>by cases h⟩
theorem over:Rows.coverCopiesRow.holds Tryz.pinned (OpenSpec.ofChange Rows.coverCopiesSpec):=
 OpenClaim.holds_of_wide 8 f8 rfl rfl rfl rfl rfl rfl rfl ⟨rfl,rfl,rfl,rfl,rfl⟩ rfl rfl rfl rfl rfl az func8 az
  (DJ az) (by unfold Func.isWrapper;first|(rw[Cb (by decide+kernel)];kernel_rfl)|(rw[SH (by decide+kernel)];exact⟨rfl,rfl⟩))
  (fun os started H enc _=>lifted os started H enc)
theorem proved:Rows.CoverCopiesSaid:=over
#print axioms proved
end Go.Proofs.YtggmccicdhnkgaaGreat.coverCopies
