/-
 For every input the law CoverBytes of the given program returns true and leaves its arguments as they were.
 Conditions:none beyond the statement's own.
-/
import Derived.Test.YtggmccicdhnkgaaGreatWFr
set_option linter.all false
namespace Go.Proofs.YtggmccicdhnkgaaGreat.coverBytes
open Go.ChangeShapes Go.WideShapes Go.ChangeAt Go.RowKit Go.Rf
open Go.ChangeMaps (open_string shut_string)
open Go.Proofs.Tryz
theorem own:ownKnob prog.godebug=none:=by kernel_rfl
theorem laidOut:laidOutB prog=true:=by kernel_rfl
set_option maxRecDepth 100000 in
theorem lifted(os:Os)(started:os.Started)(H:Type)(enc:TypeId×Value->H):
 ReturnsInHanded {} Tryz.checked os 7 .any (Rows.coverBytesSpec.pre6 enc prog f7 Rows.coverBytesRow.domain false) (Rows.coverBytesSpec.post enc prog f7 false true false false):=by
 refine returnsInHanded_of_change (C:=Tryz.checked) own started Yhp func7
  (ChangeSpec.witness6 (enc:=enc) (C:=Tryz.checked) false ⟨#[],#[zS,zS,zI,zI,zI,.int .u8 0,zS],[]⟩ 8 Yhp Yhp Yhp Yhp) ?_
 intro W base args ds gs before hval0 hW hcnd _;have hval:∀(j:Nat) t v,f7.params[j]?=some t->args[j]?=some v->Value.okWide prog W .any base t v:=hval0;have hW':=hW;obtain⟨p,q,hA0,hV,rfl,hfz,hnd⟩:=hW;have hA:DataW.TrodAll enc prog W 0 (fun _=>true) true f7.params.toList args.toList ds p:=hA0;rw[Tryz.params7]at hA hval;obtain⟨v0,vs0,d0,ds0,p0,q0,hargs,rfl,rfl,h0,r0⟩:=trodAll_cons hA;obtain⟨v1,vs1,d1,ds1,p1,q1,rfl,rfl,rfl,h1,r1⟩:=trodAll_cons r0;obtain⟨v2,vs2,d2,ds2,p2,q2,rfl,rfl,rfl,h2,r2⟩:=trodAll_cons r1;obtain⟨v3,vs3,d3,ds3,p3,q3,rfl,rfl,rfl,h3,r3⟩:=trodAll_cons r2;obtain⟨v4,vs4,d4,ds4,p4,q4,rfl,rfl,rfl,h4,r4⟩:=trodAll_cons r3;obtain⟨v5,vs5,d5,ds5,p5,q5,rfl,rfl,rfl,h5,r5⟩:=trodAll_cons r4;obtain⟨v6,vs6,d6,ds6,p6,q6,rfl,rfl,rfl,h6,r6⟩:=trodAll_cons r5;obtain⟨rfl,rfl,rfl⟩:=trodAll_nil r6;obtain rfl:args=#[v0,v1,v2,v3,v4,v5,v6]:=by cases args;simp_all
 obtain⟨rfl,rfl⟩:=trodVars_none hV;obtain⟨a0,len0,cap0,rfl⟩:=okWide_slice underlying22 (hval 0 22 v0 rfl rfl);have k0:=h0;have lt0:∀x∈p0,x.block<W.heap.size:=by obtain⟨m,hm⟩:=k0;exact DataW.trod_lt m _ _ _ hm
 obtain⟨x0,sx0,wx0⟩:∃xs:List Int,Src W (.slice a0 len0 cap0) xs.length (xs.map (.int .i64))/\∀n∈xs,(Lit.int .i64 n).wf=true:=by
  obtain⟨fuel,hf⟩:=h0;rcases open_ints underlying22 underlying3 Yhp hf with⟨hcs,_⟩|⟨x,l,c,zs,hcs,_,hl,hm,hz,_,hcell,hwz⟩
  .simp [Value.cells]at hcs;obtain⟨rfl,rfl,rfl⟩:=hcs;exact⟨[],Src.nil _,by simp⟩
  .simp [Value.cells]at hcs;exact Ymk
 obtain⟨a1,len1,cap1,rfl⟩:=okWide_slice underlying22 (hval 1 22 v1 rfl rfl);have k1:=h1;have lt1:∀x∈p1,x.block<W.heap.size:=by obtain⟨m,hm⟩:=k1;exact DataW.trod_lt m _ _ _ hm
 obtain⟨x1,sx1,wx1⟩:∃xs:List Int,Src W (.slice a1 len1 cap1) xs.length (xs.map (.int .i64))/\∀n∈xs,(Lit.int .i64 n).wf=true:=by
  obtain⟨fuel,hf⟩:=h1;rcases open_ints underlying22 underlying3 Yhp hf with⟨hcs,_⟩|⟨x,l,c,zs,hcs,_,hl,hm,hz,_,hcell,hwz⟩
  .simp [Value.cells]at hcs;obtain⟨rfl,rfl,rfl⟩:=hcs;exact⟨[],Src.nil _,by simp⟩
  .simp [Value.cells]at hcs;exact Ymk
 obtain⟨a2,rfl,rfl,rfl,w2⟩:=open_int underlying3 (hval 2 3 v2 rfl rfl) h2;obtain⟨a3,rfl,rfl,rfl,w3⟩:=open_int underlying3 (hval 3 3 v3 rfl rfl) h3;obtain⟨a4,rfl,rfl,rfl,w4⟩:=open_int underlying3 (hval 4 3 v4 rfl rfl) h4;obtain⟨a5,rfl,rfl,rfl,w5⟩:=open_int underlying5 (hval 5 5 v5 rfl rfl) h5;obtain⟨a6,len6,cap6,rfl⟩:=okWide_slice underlying64 (hval 6 64 v6 rfl rfl);have k6:=h6;have lt6:∀x∈p6,x.block<W.heap.size:=by obtain⟨m,hm⟩:=k6;exact DataW.trod_lt m _ _ _ hm
 obtain⟨x6,sx6,wx6⟩:∃xs:List Int,Src W (.slice a6 len6 cap6) xs.length (xs.map (.int .u8))/\∀n∈xs,(Lit.int .u8 n).wf=true:=by
  obtain⟨fuel,hf⟩:=h6;rcases open_ints underlying64 underlying5 Yhp hf with⟨hcs,_⟩|⟨x,l,c,zs,hcs,_,hl,hm,hz,_,hcell,hwz⟩
  .simp [Value.cells]at hcs;obtain⟨rfl,rfl,rfl⟩:=hcs;exact⟨[],Src.nil _,by simp⟩
  .simp [Value.cells]at hcs;exact Ymk
 clear hA0 hval0;refine(JnK _ x0 _ x1 a2 a3 a4 a5 _ x6 W sx0 (fun n hn=>wf_i64 (wx0 n hn)) sx1 (fun n hn=>wf_i64 (wx1 n hn)) (wf_i64 w2) (wf_i64 w3) (wf_i64 w4) (wf_u8 w5) sx6 (fun n hn=>wf_u8 (wx6 n hn))).mono fun e W' ⟨he,hfr⟩=>?_
 subst he;have bel:=hfr.below;exact⟨_,rfl,_,_,_,[],_,[],hW',trodAll_mk1 (shut_bool underlying4 _),(trodAll_cons_mk (Below.trod laidOut Yhp (DJ Yhp) k0 bel lt0) (trodAll_cons_mk (Below.trod laidOut Yhp (DJ Yhp) k1 bel lt1) (trodAll_cons_mk (shut_int underlying3 w2) (trodAll_cons_mk (shut_int underlying3 w3) (trodAll_cons_mk (shut_int underlying3 w4) (trodAll_cons_mk (shut_int underlying5 w5) (trodAll_cons_mk (Below.trod laidOut Yhp (DJ Yhp) k6 bel lt6) trodAll_mk0))))))),rfl,bel.frame _,fun h=>by cases h⟩
theorem over:Rows.coverBytesRow.holds Tryz.pinned (OpenSpec.ofChange Rows.coverBytesSpec):=
 OpenClaim.holds_of_wide 7 f7 rfl rfl rfl rfl rfl rfl rfl ⟨rfl,rfl,rfl,rfl,rfl⟩ rfl rfl rfl rfl rfl Yhp func7 Yhp
  (DJ Yhp) (by unfold Func.isWrapper;first|(rw[Cb (by decide+kernel)];kernel_rfl)|(rw[SH (by decide+kernel)];exact⟨rfl,rfl⟩))
  (fun os started H enc _=>lifted os started H enc)
theorem proved:Rows.CoverBytesSaid:=over
#print axioms proved
end Go.Proofs.YtggmccicdhnkgaaGreat.coverBytes
