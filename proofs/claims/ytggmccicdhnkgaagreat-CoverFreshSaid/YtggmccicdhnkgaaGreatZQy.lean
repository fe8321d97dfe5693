/-
 The reference's parser:a declaration.
-/
import Derived.Test.YtggmccicdhnkgaaGreatZQxo
import Derived.Test.YtggmccicdhnkgaaGreatZFd
set_option linter.all false
namespace Go.Proofs.YtggmccicdhnkgaaGreat
open Go.Proofs.Tryz
open Go.Rf Go.RowKit
variable{S:List Nat}{w:World}
attribute [local irreducible] Code.wp wpList Exit.then Exit.inBlock bodyPost A Calls execOp Addr.add
instance:ZeroT prog 105 (.agg #[zI,.string .empty,zI,zS,zS,zI,.string .empty,zS,zI,.string .empty,zI,zS,zS,zS,zI,zI,zI,.string .empty,zS,zS,zS,zI,zS,zS,zS,zS,zI,.string .empty,zS,zI,.string .empty,zI,zS,zS,zS,zI,zS,zS,zI,.string .empty,zI,zS,zS,zS,zI]):=⟨info_zero Yhf⟩
instance:BuildT prog 105 [zI,.string .empty,zI,zS,zS,zI,.string .empty,zS,zI,.string .empty,zI,zS,zS,zS,zI,zI,zI,.string .empty,zS,zS,zS,zI,zS,zS,zS,zS,zI,.string .empty,zS,zI,.string .empty,zI,zS,zS,zS,zI,zS,zS,zI,.string .empty,zI,zS,zS,zS,zI] [(0,1),(1,1),(2,1),(3,1),(4,1),(5,3),(8,7),(15,1),(16,6),(22,1),(23,1),(24,1),(25,1),(26,3),(29,7),(36,1),(37,1),(38,7)]:=⟨build_of (v:=.agg #[zI,.string .empty,zI,zS,zS,zI,.string .empty,zS,zI,.string .empty,zI,zS,zS,zS,zI,zI,zI,.string .empty,zS,zS,zS,zI,zS,zS,zS,zS,zI,.string .empty,zS,zI,.string .empty,zI,zS,zS,zS,zI,zS,zS,zI,.string .empty,zI,zS,zS,zS,zI]) Yhf rfl,⟨_,underlying105,fun w=>by kernel_rfl⟩⟩
theorem wrdT_some{r:List Tk}{k:Nat}(h:wrdT r=some k):∃hk:k<wrds.length,isT wrds[k] r=true/\∀j (hj:j<k),isT (wrds[j]'(Nat.lt_trans hj hk)) r=false:=by
 obtain⟨h1,h2,h3⟩:=List.findIdx?_eq_some_iff_getElem.1 h
 exact⟨h1,h2,fun j hj=>by simpa using h3 j hj⟩
theorem wordsC(w:World):Calls prog 116 #[] w fun e w'=>∃v,e=.returned v/\Own w' 9 1 v 6 (wrds.map fun t=>.string (bst t))/\(∀b∈blks v,w.heap.size<=b)/\Fr [] w w':=by
 refine enter func116 rfl ntmps116 rfl ?_
 refine rx ?_
 refine s_buildS (wrds.map fun t=>.string (bst t)) rfl rfl rfl rfl (fun u ho hf hs=>?_)
 refine Yei ?_
 exact⟨_,rfl,ho,fun b hb=>by simp[blks,Value.ownBlock]at hb;omega,hf⟩
theorem rdDe{d:De}{vct vpm t0 t1 t2 b0 b1 b2 b3 b4 b5 b6 g0 g1 g2 g3 g4 g5 vdw vck vcs vcl s0 s1 s2 i0 i1 i2 i3 i4 i5 i6 vcm vop r0 r1 r2 r3 r4 r5 r6:Value}(h1:DR w S (.l (d.ctors.map ctC)) vct)(h2:DR w S (.l (d.params.map pmC)) vpm)(h3:RD w S (tyC d.type) [t0,t1,t2])(h4:RD w S (exC d.body) [b0,b1,b2,b3,b4,b5,b6])(h5:RD w S (gnC d.gen) [g0,g1,g2,g3,g4,g5])(h6:DR w S (.l (d.draws.map dwC)) vdw)(h7:DR w S (.l (d.checks.map ckC)) vck)(h8:DR w S (.l (d.classes.map ckC)) vcs)(h9:DR w S (.l (d.claims.map clC)) vcl)(h10:RD w S (tyC d.state) [s0,s1,s2])(h11:RD w S (exC d.init) [i0,i1,i2,i3,i4,i5,i6])(h12:DR w S (.l (d.cmds.map cmC)) vcm)(h13:DR w S (.l (d.ops.map opC)) vop)(h14:RD w S (exC d.recov) [r0,r1,r2,r3,r4,r5,r6]):
 RD w S (deC d) [iV d.kind,.string d.name,iV d.at_,vct,vpm,t0,t1,t2,b0,b1,b2,b3,b4,b5,b6,iV d.depth,g0,g1,g2,g3,g4,g5,vdw,vck,vcs,vcl,s0,s1,s2,i0,i1,i2,i3,i4,i5,i6,vcm,vop,r0,r1,r2,r3,r4,r5,r6]:=
 .cons (.c rfl) (.cons (.c rfl) (.cons (.c rfl) (.cons h1 (.cons h2 (h3.app (h4.app (.cons (.c rfl) (h5.app (.cons h6 (.cons h7 (.cons h8 (.cons h9 (h10.app (h11.app (.cons h12 (.cons h13 h14))))))))))))))))
theorem rdTy0:RD w S (tyC ty0) [zI,zT,zS]:=tyR.2 ⟨_,rfl,.nil⟩
theorem rdEx0:RD w S (exC ex0) [zI,zT,zI,zS,zS,zS,zI]:=exR.2 ⟨_,_,_,rfl,.nil,.nil,.nil⟩
theorem rdGn0:RD w S (gnC gn0) [zI,zT,zS,zS,zS,zI]:=gnR.2 ⟨_,_,_,rfl,.nil,.nil,.nil⟩
theorem in_rg2{u:World}{p z n:Nat}(h:p<u.heap.size)(h':z<u.heap.size):∀b∈[p,z],b∈rg u\/n<=b:=fun b hb=>.inl (rg_mem.2 (by simp at hb;rcases hb with rfl|rfl<;>assumption))
set_option maxHeartbeats 32000000 in
theorem pDeclC(f:Nat)(hf:f<=1000000):PC 78 [] (fun n=>pDecl n f) deC:=by
 intro bd p n r w x r' hP hg
 have hF:Fr [p] w w:=Fr.refl _ _
 simp only[pDecl]at hg
 obtain⟨k,hk,hg⟩:=bind_some hg
 obtain⟨hk6,hkt,hkf⟩:=wrdT_some hk
 obtain⟨⟨t,r1⟩,h1,hg⟩:=bind_some hg
 have hk6':k<6:=hk6
 refine enter func78 rfl ntmps78 rfl ?_
 refine rx ?_
 refine s_allocN (l:=[zI,zT,zI,zS,zS,zI,zT,zS,zI,zT,zI,zS,zS,zS,zI,zI,zI,zT,zS,zS,zS,zI,zS,zS,zS,zS,zI,zT,zS,zI,zT,zI,zS,zS,zS,zI,zS,zS,zI,zT,zI,zS,zS,zS,zI]) rfl (fun w1 q hqq hbq hf1 hs1=>?_);have hP1:=hP.tr0 hf1;have hF1:Fr [p] w w1:=hf1.mono Yhi;have hbd:bd<=w.heap.size:=hP.le;have hpw:p<w.heap.size:=Nat.lt_of_lt_of_le hP.lt hbd
 refine rx ?_
 refine s_build [iV (-1),zT,zI,zS,zS,zI,zT,zS,zI,zT,zI,zS,zS,zS,zI,zI,zI,zT,zS,zS,zS,zI,zS,zS,zS,zS,zI,zT,zS,zI,zT,zI,zS,zS,zS,zI,zS,zS,zI,zT,zI,zS,zS,zS,zI] rfl ?_
 refine s_var (l:=[zI,zT,zI,zS,zS,zI,zT,zS,zI,zT,zI,zS,zS,zS,zI,zI,zI,zT,zS,zS,zS,zI,zS,zS,zS,zS,zI,zT,zS,zI,zT,zI,zS,zS,zS,zI,zS,zS,zI,zT,zI,zS,zS,zS,zI]) (cs:=[iV (-1),zT,zI,zS,zS,zI,zT,zS,zI,zT,zI,zS,zS,zS,zI,zI,zI,zT,zS,zS,zS,zI,zS,zS,zS,zS,zI,zT,zS,zI,zT,zI,zS,zS,zS,zI,zS,zS,zI,zT,zI,zS,zS,zS,zI]) rfl rfl rfl Yhk rfl (fun v=>rfl) (fun w2 z hqz hbz hf2 hs2=>?_);have hP2:=hP1.tr0 hf2;have hF2:=hF1.trans0 hf2
 have hbq:=hbq.tr hf2 Yhe
 refine rx ?_
 refine s_c1 (wordsC w2) ?_
 rintro v w3 ⟨ho,hbl,hf3⟩
 obtain⟨aoV,cV,rfl⟩:=ho.slice
 have hP3:=hP2.tr0 hf3;have hF3:=hF2.trans0 hf3
 have hs3:=hf3.size
 have hbz:=hbz.tr hf3 Yhe
 have hbq:=hbq.tr hf3 Yhe
 refine Yeu ?_
 refine wp_seq ?_
 refine c_cutK 6 [5] (fun g u=>PS bd u p n r.tail/\Fr [p] w u/\w3.heap.size<=u.heap.size/\Blk u z [iV k,zT,zI,zS,zS,zI,zT,zS,zI,zT,zI,zS,zS,zS,zI,zI,zI,zT,zS,zS,zS,zI,zS,zS,zS,zS,zI,zT,zS,zI,zT,zI,zS,zS,zS,zI,zS,zS,zI,zT,zI,zS,zS,zS,zI] 105/\Blk u q [zI,zT,zI,zS,zS,zI,zT,zS,zI,zT,zI,zS,zS,zS,zI,zI,zI,zT,zS,zS,zS,zI,zS,zS,zS,zS,zI,zT,zS,zI,zT,zI,zS,zS,zS,zI,zS,zS,zI,zT,zI,zS,zS,zS,zI] 105) ?_ ?_
 .refine rx ?_
  refine c_loopK 6 [5] (σ:=Nat×Bool) (fun s g u=>g 5=iV s.1/\(s.2=false->s.1<=k)/\(s.2=true->s.1=k+1)/\PS bd u p n (nextP s.2 r)/\Fr [p] w u/\w3.heap.size<=u.heap.size/\Own u 9 1 (.slice aoV 6 cV) 6 (wrds.map fun t=>.string (bst t))/\Blk u z [iV (if s.2 then(k:Int) else -1),zT,zI,zS,zS,zI,zT,zS,zI,zT,zI,zS,zS,zS,zI,zI,zI,zT,zS,zS,zS,zI,zS,zS,zS,zS,zI,zT,zS,zI,zT,zI,zS,zS,zS,zI,zS,zS,zI,zT,zI,zS,zS,zS,zI] 105/\Blk u q [zI,zT,zI,zS,zS,zI,zT,zS,zI,zT,zI,zS,zS,zS,zI,zI,zI,zT,zS,zS,zS,zI,zS,zS,zS,zS,zI,zT,zS,zI,zT,zI,zS,zS,zS,zI,zS,zS,zI,zT,zI,zS,zS,zS,zI] 105) (fun s=>7-s.1+(!s.2).toNat) (0,false) ⟨rfl,fun _=>Nat.zero_le _,(fun h=>Yik),hP3,hF3,Nat.le_refl _,ho,hbz,hbq⟩ ?_
  rintro⟨i,b⟩ g u4 ⟨h5,hb0,hb1,hP4,hF4,hs4,ho,hbz,hbq⟩
  simp only at hb0 hb1 hP4 hbz
  rw[eq_upd h5]
  cases b with
  |true=>
   have hi:=hb1 rfl
   subst hi
   simp only[nextP,if_true]at hP4 hbz
   by_cases h6:k+1<6
   .refine rx ?_
    exact Ybt
   .refine rx ?_
    exact Ybt
  |false=>
   have hi:=hb0 rfl
   simp only[nextP,Bool.false_eq_true,if_false]at hP4 hbz
   have hlt:i<wrds.length:=by omega
   obtain⟨ad,had,hcell⟩:=src_at (j:=i) (u:=.string (bst wrds[i])) ho.src (by simp[hlt])
   subst had
   refine rx ?_
   rw[Nat.mul_one]
   refine s_load rfl hcell ?_
   refine s_cE (pSkip wrds[i] p n _ _ hP4) ?_
   rintro w5 ⟨hP5,hf5⟩
   have hF5:=hF4.trans hf5 (fun x hx=>.inl hx)
   have hs5:=hf5.size
   have ho:=ho.tr hf5 Yjl
   have hbz:=hbz.tr hf5 Yhj
   have hbq:=hbq.tr hf5 Yhj
   rcases Nat.lt_or_ge i k with hik|hik
   .rw [hkf i hik]at hP5 ⊢
    simp only[nextP,Bool.false_eq_true,if_false]at hP5
    refine rx ?_
    exact q_roundK (i+1,false) Yhb ⟨rfl,fun _=>hik,(fun h=>Yik),hP5,hF5,by omega,ho,hbz,hbq⟩ Yhj
   .obtain rfl:i=k:=by omega
    rw[hkt]at hP5 ⊢
    simp only[nextP,if_true]at hP5
    refine rx ?_
    ((with_reducible apply s_storeB);exact rfl;(conv=>lhs;whnf);exact rfl;exact hbz;exact rfl)
    intro w6 hbz hf6 hs6
    replace hbz:Blk w6 z [iV i,zT,zI,zS,zS,zI,zT,zS,zI,zT,zI,zS,zS,zS,zI,zI,zI,zT,zS,zS,zS,zI,zS,zS,zS,zS,zI,zT,zS,zI,zT,zI,zS,zS,zS,zI,zS,zS,zI,zT,zI,zS,zS,zS,zI] 105:=hbz
    have hP6:=hP5.tr hf6 Yhj;have hF6:=hF5.trans hf6 (fun x hx=>.inr Yhg)
    have hbq:=hbq.tr hf6 Yhe
    have ho:=ho.tr hf6 Yjl
    refine rx ?_
    exact q_roundK (i+1,true) Yhb ⟨rfl,fun h=>Yik,fun _=>rfl,hP6,hF6,by omega,ho,hbz,hbq⟩ Yhj
 clear hbz hbq ho hP3 hF3 hP hF hkt hkf
 rintro g w5 ⟨hP5,hF5,hs5,hbz,hbq⟩
 rcases(by omega:k=0\/k=1\/k=2\/k=3\/k=4\/k=5)with rfl|rfl|rfl|rfl|rfl|rfl
 .replace hbz:Blk w5 z [zI,zT,zI,zS,zS,zI,zT,zS,zI,zT,zI,zS,zS,zS,zI,zI,zI,zT,zS,zS,zS,zI,zS,zS,zS,zS,zI,zT,zS,zI,zT,zI,zS,zS,zS,zI,zS,zS,zI,zT,zI,zS,zS,zS,zI] 105:=hbz
  replace hg:=hg
  rw[if_pos rfl]at hg
  obtain⟨r2,h2,hg⟩:=bind_some hg
  obtain⟨⟨cs,r3⟩,h3,hg⟩:=bind_some hg
  obtain⟨r4,h4,hg⟩:=bind_some hg
  simp only[Option.some.injEq,Prod.mk.injEq]at hg
  obtain⟨rfl,rfl⟩:=hg
  refine rx ?_
  refine s_cE (pAt p n _ _ hP5) ?_;rintro w6 hf6;have hP6:=hP5.tr0 hf6;have hF6:=hF5.trans0 hf6;have hs6:=hf6.size
  have hbz:=hbz.tr hf6 Yhe
  have hbq:=hbq.tr hf6 Yhe
  refine rx ?_
  ((with_reducible apply s_storeB);exact rfl;(conv=>lhs;whnf);exact rfl;exact hbz;exact rfl)
  intro w7 hbz hf7 hs7
  replace hbz:Blk w7 z [zI,zT,iV (atT n r.tail),zS,zS,zI,zT,zS,zI,zT,zI,zS,zS,zS,zI,zI,zI,zT,zS,zS,zS,zI,zS,zS,zS,zS,zI,zT,zS,zI,zT,zI,zS,zS,zS,zI,zS,zS,zI,zT,zI,zS,zS,zS,zI] 105:=hbz
  have hP7:=hP6.tr hf7 Yhj;have hF7:=hF6.trans hf7 (fun x hx=>.inr Yhg)
  have hbq:=hbq.tr hf7 Yhe
  refine rx ?_
  refine s_cE (cTok hP7 h1) ?_;rintro w8 ⟨hP8,hf8⟩;have hF8:=hF7.trans hf8 Yhc;have hs8:=hf8.size
  have hbz:=hbz.tr hf8 Yhe
  have hbq:=hbq.tr hf8 Yhe
  refine Yer ?_
  ((with_reducible apply s_storeB);exact rfl;(conv=>lhs;whnf);exact rfl;exact hbz;exact rfl)
  intro w9 hbz hf9 hs9
  replace hbz:Blk w9 z [zI,.string (bst t.text),iV (atT n r.tail),zS,zS,zI,zT,zS,zI,zT,zI,zS,zS,zS,zI,zI,zI,zT,zS,zS,zS,zI,zS,zS,zS,zS,zI,zT,zS,zI,zT,zI,zS,zS,zS,zI,zS,zS,zI,zT,zI,zS,zS,zS,zI] 105:=hbz
  have hP9:=hP8.tr hf9 Yhj;have hF9:=hF8.trans hf9 (fun x hx=>.inr Yhg)
  have hbq:=hbq.tr hf9 Yhe
  refine rx ?_
  refine s_cE (cTake hP9 h2) ?_;rintro w10 ⟨hP10,hf10⟩;have hF10:=hF9.trans hf10 Yhc;have hs10:=hf10.size
  have hbz:=hbz.tr hf10 Yhe
  have hbq:=hbq.tr hf10 Yhe
  refine rx ?_
  refine s_call ((pCtorsC f hf) bd p n _ _ _ _ hP10 h3) rfl ?_;rintro _ w11 ⟨_,rfl,hd,hP11,hf11⟩;obtain⟨aoC,cC,rfl,hcC⟩:=DR.slice hd;refine⟨_,rfl,?_⟩;have hF11:=hF10.trans hf11 Yhc;have hs11:=hf11.size
  have hbz:=hbz.tr hf11 Yhe
  have hbq:=hbq.tr hf11 Yhe
  refine rx ?_
  ((with_reducible apply s_storeB);exact rfl;(conv=>lhs;whnf);exact rfl;exact hbz;exact rfl)
  intro w12 hbz hf12 hs12
  replace hbz:Blk w12 z [zI,.string (bst t.text),iV (atT n r.tail),.slice aoC (cs.map ctC).length cC,zS,zI,zT,zS,zI,zT,zI,zS,zS,zS,zI,zI,zI,zT,zS,zS,zS,zI,zS,zS,zS,zS,zI,zT,zS,zI,zT,zI,zS,zS,zS,zI,zS,zS,zI,zT,zI,zS,zS,zS,zI] 105:=hbz
  have hP12:=hP11.tr hf12 Yhj;have hF12:=hF11.trans hf12 (fun x hx=>.inr Yhg)
  have hbq:=hbq.tr hf12 Yhe
  have hd:=hd.old hf12 (in_rg Yhd)
  refine rx ?_
  refine s_cE (cTake hP12 h4) ?_;rintro w13 ⟨hP13,hf13⟩;have hF13:=hF12.trans hf13 Yhc;have hs13:=hf13.size
  have hbz:=hbz.tr hf13 Yhe
  have hbq:=hbq.tr hf13 Yhe
  have hd:=hd.old hf13 (in_rg Yhd)
  refine rx ?_
  have hdr:RD w13 (rg w2) (deC {de0 with kind:=(0:Nat),name:=bst t.text,at_:=atT n r.tail,ctors:=cs}) [zI,.string (bst t.text),iV (atT n r.tail),.slice aoC (cs.map ctC).length cC,zS,zI,zT,zS,zI,zT,zI,zS,zS,zS,zI,zI,zI,zT,zS,zS,zS,zI,zS,zS,zS,zS,zI,zT,zS,zI,zT,zI,zS,zS,zS,zI,zS,zS,zI,zT,zI,zS,zS,zS,zI]:=rdDe (hd.down Yhd) .nil rdTy0 rdEx0 rdGn0 .nil .nil .nil .nil rdTy0 rdEx0 .nil .nil rdEx0
  refine s_storeAggB (cs:=[zI,.string (bst t.text),iV (atT n r.tail),.slice aoC (cs.map ctC).length cC,zS,zI,zT,zS,zI,zT,zI,zS,zS,zS,zI,zI,zI,zT,zS,zS,zS,zI,zS,zS,zS,zS,zI,zT,zS,zI,zT,zI,zS,zS,zS,zI,zS,zS,zI,zT,zI,zS,zS,zS,zI]) rfl rfl hbq (RD.one hdr) rfl rfl (fun u hu hfu hsu=>?_)
  refine rx ?_
  exact retB rfl rfl hu rfl (outC (w0:=w2) hqq Yhd Yhd Yhd hP13 hF13 hfu hdr)
 .replace hbz:Blk w5 z [iV 1,zT,zI,zS,zS,zI,zT,zS,zI,zT,zI,zS,zS,zS,zI,zI,zI,zT,zS,zS,zS,zI,zS,zS,zS,zS,zI,zT,zS,zI,zT,zI,zS,zS,zS,zI,zS,zS,zI,zT,zI,zS,zS,zS,zI] 105:=hbz
  rw[if_neg Yho,if_pos rfl]at hg
  obtain⟨⟨ps,r2⟩,h2,hg⟩:=bind_some hg
  obtain⟨r3,h3,hg⟩:=bind_some hg
  obtain⟨⟨ty,r4⟩,h4,hg⟩:=bind_some hg
  obtain⟨r5,h5,hg⟩:=bind_some hg
  obtain⟨⟨e,r6⟩,h6,hg⟩:=bind_some hg
  obtain⟨r7,h7,hg⟩:=bind_some hg
  simp only[Option.some.injEq,Prod.mk.injEq]at hg
  obtain⟨rfl,rfl⟩:=hg
  refine rx ?_
  refine s_cE (pAt p n _ _ hP5) ?_;rintro w6 hf6;have hP6:=hP5.tr0 hf6;have hF6:=hF5.trans0 hf6;have hs6:=hf6.size
  have hbz:=hbz.tr hf6 Yhe
  have hbq:=hbq.tr hf6 Yhe
  refine rx ?_
  ((with_reducible apply s_storeB);exact rfl;(conv=>lhs;whnf);exact rfl;exact hbz;exact rfl)
  intro w7 hbz hf7 hs7
  replace hbz:Blk w7 z [iV 1,zT,iV (atT n r.tail),zS,zS,zI,zT,zS,zI,zT,zI,zS,zS,zS,zI,zI,zI,zT,zS,zS,zS,zI,zS,zS,zS,zS,zI,zT,zS,zI,zT,zI,zS,zS,zS,zI,zS,zS,zI,zT,zI,zS,zS,zS,zI] 105:=hbz
  have hP7:=hP6.tr hf7 Yhj;have hF7:=hF6.trans hf7 (fun x hx=>.inr Yhg)
  have hbq:=hbq.tr hf7 Yhe
  refine rx ?_
  refine s_cE (cTok hP7 h1) ?_;rintro w8 ⟨hP8,hf8⟩;have hF8:=hF7.trans hf8 Yhc;have hs8:=hf8.size
  have hbz:=hbz.tr hf8 Yhe
  have hbq:=hbq.tr hf8 Yhe
  refine Yer ?_
  ((with_reducible apply s_storeB);exact rfl;(conv=>lhs;whnf);exact rfl;exact hbz;exact rfl)
  intro w9 hbz hf9 hs9
  replace hbz:Blk w9 z [iV 1,.string (bst t.text),iV (atT n r.tail),zS,zS,zI,zT,zS,zI,zT,zI,zS,zS,zS,zI,zI,zI,zT,zS,zS,zS,zI,zS,zS,zS,zS,zI,zT,zS,zI,zT,zI,zS,zS,zS,zI,zS,zS,zI,zT,zI,zS,zS,zS,zI] 105:=hbz
  have hP9:=hP8.tr hf9 Yhj;have hF9:=hF8.trans hf9 (fun x hx=>.inr Yhg)
  have hbq:=hbq.tr hf9 Yhe
  refine rx ?_
  refine s_call ((pParamsC f hf) bd p n _ _ _ _ hP9 h2) rfl ?_;rintro _ w10 ⟨_,rfl,hd,hP10,hf10⟩;obtain⟨aoP,cP,rfl,hcP⟩:=DR.slice hd;refine⟨_,rfl,?_⟩;have hF10:=hF9.trans hf10 Yhc;have hs10:=hf10.size
  have hbz:=hbz.tr hf10 Yhe
  have hbq:=hbq.tr hf10 Yhe
  refine rx ?_
  ((with_reducible apply s_storeB);exact rfl;(conv=>lhs;whnf);exact rfl;exact hbz;exact rfl)
  intro w11 hbz hf11 hs11
  replace hbz:Blk w11 z [iV 1,.string (bst t.text),iV (atT n r.tail),zS,.slice aoP (ps.map pmC).length cP,zI,zT,zS,zI,zT,zI,zS,zS,zS,zI,zI,zI,zT,zS,zS,zS,zI,zS,zS,zS,zS,zI,zT,zS,zI,zT,zI,zS,zS,zS,zI,zS,zS,zI,zT,zI,zS,zS,zS,zI] 105:=hbz
  have hP11:=hP10.tr hf11 Yhj;have hF11:=hF10.trans hf11 (fun x hx=>.inr Yhg)
  have hbq:=hbq.tr hf11 Yhe
  have hd:=hd.old hf11 (in_rg Yhd)
  refine rx ?_
  refine s_cE (cTake hP11 h3) ?_;rintro w12 ⟨hP12,hf12⟩;have hF12:=hF11.trans hf12 Yhc;have hs12:=hf12.size
  have hbz:=hbz.tr hf12 Yhe
  have hbq:=hbq.tr hf12 Yhe
  have hd:=hd.old hf12 (in_rg Yhd)
  refine rx ?_
  refine s_c1 ((pTypC f) bd p n _ _ _ _ hP12 h4) ?_;rintro cs13 w13 ⟨hdT,hP13,hf13⟩;have hF13:=hF12.trans hf13 Yhc;have hs13:=hf13.size
  have hbz:=hbz.tr hf13 Yhe
  have hbq:=hbq.tr hf13 Yhe
  have hd:=hd.old hf13 (in_rg Yhd)
  obtain⟨sT,rfl,hskT⟩:=tyR.1 hdT
  obtain⟨aoT,cT,rfl,_⟩:=hskT.slice
  refine rx ?_
  refine s_storeSubB (cs:=[iV ty.kind,.string ty.name,.slice aoT (ty.kids.map tyC).length cT]) rfl rfl hbz Yhk Yhi rfl (fun w14 hbz hf14 hs14=>?_)
  replace hbz:Blk w14 z [iV 1,.string (bst t.text),iV (atT n r.tail),zS,.slice aoP (ps.map pmC).length cP,iV ty.kind,.string ty.name,.slice aoT (ty.kids.map tyC).length cT,zI,zT,zI,zS,zS,zS,zI,zI,zI,zT,zS,zS,zS,zI,zS,zS,zS,zS,zI,zT,zS,zI,zT,zI,zS,zS,zS,zI,zS,zS,zI,zT,zI,zS,zS,zS,zI] 105:=hbz
  have hP14:=hP13.tr hf14 Yhj;have hF14:=hF13.trans hf14 (fun x hx=>.inr Yhg)
  have hbq:=hbq.tr hf14 Yhe
  have hd:=hd.old hf14 (in_rg Yhd)
  have hdT:=hdT.old hf14 (in_rg Yhd)
  refine rx ?_
  refine s_cE (cTake hP14 h5) ?_;rintro w15 ⟨hP15,hf15⟩;have hF15:=hF14.trans hf15 Yhc;have hs15:=hf15.size
  have hbz:=hbz.tr hf15 Yhe
  have hbq:=hbq.tr hf15 Yhe
  have hd:=hd.old hf15 (in_rg Yhd)
  have hdT:=hdT.old hf15 (in_rg Yhd)
  refine rx ?_
  refine s_c1 (((exI f hf).expr) bd p n _ _ _ _ hP15 h6) ?_;rintro cs16 w16 ⟨hdE,hP16,hf16⟩;have hF16:=hF15.trans hf16 Yhc;have hs16:=hf16.size
  have hbz:=hbz.tr hf16 Yhe
  have hbq:=hbq.tr hf16 Yhe
  have hd:=hd.old hf16 (in_rg Yhd)
  have hdT:=hdT.old hf16 (in_rg Yhd)
  obtain⟨sEa,sEb,sEc,rfl,hkEa,hkEb,hkEc⟩:=exR.1 hdE
  obtain⟨aoEa,cEa,rfl,_⟩:=DR.slice (rows:=_) hkEa
  obtain⟨aoEb,cEb,rfl,_⟩:=hkEb.slice
  obtain⟨aoEc,cEc,rfl,_⟩:=hkEc.slice
  refine rx ?_
  refine s_storeSubB (cs:=[iV e.kind,.string e.name,iV e.n,.slice aoEa (e.names.map strR).length cEa,.slice aoEb (e.binds.map strsR).length cEb,.slice aoEc (e.kids.map exC).length cEc,iV e.at_]) rfl rfl hbz Yhk Yhi rfl (fun w17 hbz hf17 hs17=>?_)
  replace hbz:Blk w17 z [iV 1,.string (bst t.text),iV (atT n r.tail),zS,.slice aoP (ps.map pmC).length cP,iV ty.kind,.string ty.name,.slice aoT (ty.kids.map tyC).length cT,iV e.kind,.string e.name,iV e.n,.slice aoEa (e.names.map strR).length cEa,.slice aoEb (e.binds.map strsR).length cEb,.slice aoEc (e.kids.map exC).length cEc,iV e.at_,zI,zI,zT,zS,zS,zS,zI,zS,zS,zS,zS,zI,zT,zS,zI,zT,zI,zS,zS,zS,zI,zS,zS,zI,zT,zI,zS,zS,zS,zI] 105:=hbz
  have hP17:=hP16.tr hf17 Yhj;have hF17:=hF16.trans hf17 (fun x hx=>.inr Yhg)
  have hbq:=hbq.tr hf17 Yhe
  have hd:=hd.old hf17 (in_rg Yhd)
  have hdT:=hdT.old hf17 (in_rg Yhd)
  have hdE:=hdE.old hf17 (in_rg Yhd)
  refine rx ?_
  refine s_cE (cTake hP17 h7) ?_;rintro w18 ⟨hP18,hf18⟩;have hF18:=hF17.trans hf18 Yhc;have hs18:=hf18.size
  have hbz:=hbz.tr hf18 Yhe
  have hbq:=hbq.tr hf18 Yhe
  have hd:=hd.old hf18 (in_rg Yhd)
  have hdT:=hdT.old hf18 (in_rg Yhd)
  have hdE:=hdE.old hf18 (in_rg Yhd)
  refine rx ?_
  have hdr:RD w18 (rg w2) (deC {de0 with kind:=(1:Nat),name:=bst t.text,at_:=atT n r.tail,params:=ps,type:=ty,body:=e}) [iV 1,.string (bst t.text),iV (atT n r.tail),zS,.slice aoP (ps.map pmC).length cP,iV ty.kind,.string ty.name,.slice aoT (ty.kids.map tyC).length cT,iV e.kind,.string e.name,iV e.n,.slice aoEa (e.names.map strR).length cEa,.slice aoEb (e.binds.map strsR).length cEb,.slice aoEc (e.kids.map exC).length cEc,iV e.at_,zI,zI,zT,zS,zS,zS,zI,zS,zS,zS,zS,zI,zT,zS,zI,zT,zI,zS,zS,zS,zI,zS,zS,zI,zT,zI,zS,zS,zS,zI]:=rdDe .nil (hd.down Yhd) (hdT.down Yhd) (hdE.down Yhd) rdGn0 .nil .nil .nil .nil rdTy0 rdEx0 .nil .nil rdEx0
  refine s_storeAggB (cs:=[iV 1,.string (bst t.text),iV (atT n r.tail),zS,.slice aoP (ps.map pmC).length cP,iV ty.kind,.string ty.name,.slice aoT (ty.kids.map tyC).length cT,iV e.kind,.string e.name,iV e.n,.slice aoEa (e.names.map strR).length cEa,.slice aoEb (e.binds.map strsR).length cEb,.slice aoEc (e.kids.map exC).length cEc,iV e.at_,zI,zI,zT,zS,zS,zS,zI,zS,zS,zS,zS,zI,zT,zS,zI,zT,zI,zS,zS,zS,zI,zS,zS,zI,zT,zI,zS,zS,zS,zI]) rfl rfl hbq (RD.one hdr) rfl rfl (fun u hu hfu hsu=>?_)
  refine rx ?_
  exact retB rfl rfl hu rfl (outC (w0:=w2) hqq Yhd Yhd Yhd hP18 hF18 hfu hdr)
 .replace hbz:Blk w5 z [iV 2,zT,zI,zS,zS,zI,zT,zS,zI,zT,zI,zS,zS,zS,zI,zI,zI,zT,zS,zS,zS,zI,zS,zS,zS,zS,zI,zT,zS,zI,zT,zI,zS,zS,zS,zI,zS,zS,zI,zT,zI,zS,zS,zS,zI] 105:=hbz
  rw[if_neg Yho,if_neg Yho,if_pos rfl]at hg
  obtain⟨⟨ps,r2⟩,h2,hg⟩:=bind_some hg
  obtain⟨r3,h3,hg⟩:=bind_some hg
  obtain⟨⟨ty,r4⟩,h4,hg⟩:=bind_some hg
  obtain⟨⟨dp,r5⟩,h5,hg⟩:=bind_some hg
  obtain⟨r6,h6,hg⟩:=bind_some hg
  obtain⟨⟨g1,r7⟩,h7,hg⟩:=bind_some hg
  obtain⟨r8,h8,hg⟩:=bind_some hg
  simp only[Option.some.injEq,Prod.mk.injEq]at hg
  obtain⟨rfl,rfl⟩:=hg
  refine rx ?_
  refine s_cE (pAt p n _ _ hP5) ?_;rintro w6 hf6;have hP6:=hP5.tr0 hf6;have hF6:=hF5.trans0 hf6;have hs6:=hf6.size
  have hbz:=hbz.tr hf6 Yhe
  have hbq:=hbq.tr hf6 Yhe
  refine rx ?_
  ((with_reducible apply s_storeB);exact rfl;(conv=>lhs;whnf);exact rfl;exact hbz;exact rfl)
  intro w7 hbz hf7 hs7
  replace hbz:Blk w7 z [iV 2,zT,iV (atT n r.tail),zS,zS,zI,zT,zS,zI,zT,zI,zS,zS,zS,zI,zI,zI,zT,zS,zS,zS,zI,zS,zS,zS,zS,zI,zT,zS,zI,zT,zI,zS,zS,zS,zI,zS,zS,zI,zT,zI,zS,zS,zS,zI] 105:=hbz
  have hP7:=hP6.tr hf7 Yhj;have hF7:=hF6.trans hf7 (fun x hx=>.inr Yhg)
  have hbq:=hbq.tr hf7 Yhe
  refine rx ?_
  refine s_cE (cTok hP7 h1) ?_;rintro w8 ⟨hP8,hf8⟩;have hF8:=hF7.trans hf8 Yhc;have hs8:=hf8.size
  have hbz:=hbz.tr hf8 Yhe
  have hbq:=hbq.tr hf8 Yhe
  refine Yer ?_
  ((with_reducible apply s_storeB);exact rfl;(conv=>lhs;whnf);exact rfl;exact hbz;exact rfl)
  intro w9 hbz hf9 hs9
  replace hbz:Blk w9 z [iV 2,.string (bst t.text),iV (atT n r.tail),zS,zS,zI,zT,zS,zI,zT,zI,zS,zS,zS,zI,zI,zI,zT,zS,zS,zS,zI,zS,zS,zS,zS,zI,zT,zS,zI,zT,zI,zS,zS,zS,zI,zS,zS,zI,zT,zI,zS,zS,zS,zI] 105:=hbz
  have hP9:=hP8.tr hf9 Yhj;have hF9:=hF8.trans hf9 (fun x hx=>.inr Yhg)
  have hbq:=hbq.tr hf9 Yhe
  refine rx ?_
  refine s_call ((pParamsC f hf) bd p n _ _ _ _ hP9 h2) rfl ?_;rintro _ w10 ⟨_,rfl,hd,hP10,hf10⟩;obtain⟨aoP,cP,rfl,hcP⟩:=DR.slice hd;refine⟨_,rfl,?_⟩;have hF10:=hF9.trans hf10 Yhc;have hs10:=hf10.size
  have hbz:=hbz.tr hf10 Yhe
  have hbq:=hbq.tr hf10 Yhe
  refine rx ?_
  ((with_reducible apply s_storeB);exact rfl;(conv=>lhs;whnf);exact rfl;exact hbz;exact rfl)
  intro w11 hbz hf11 hs11
  replace hbz:Blk w11 z [iV 2,.string (bst t.text),iV (atT n r.tail),zS,.slice aoP (ps.map pmC).length cP,zI,zT,zS,zI,zT,zI,zS,zS,zS,zI,zI,zI,zT,zS,zS,zS,zI,zS,zS,zS,zS,zI,zT,zS,zI,zT,zI,zS,zS,zS,zI,zS,zS,zI,zT,zI,zS,zS,zS,zI] 105:=hbz
  have hP11:=hP10.tr hf11 Yhj;have hF11:=hF10.trans hf11 (fun x hx=>.inr Yhg)
  have hbq:=hbq.tr hf11 Yhe
  have hd:=hd.old hf11 (in_rg Yhd)
  refine rx ?_
  refine s_cE (cTake hP11 h3) ?_;rintro w12 ⟨hP12,hf12⟩;have hF12:=hF11.trans hf12 Yhc;have hs12:=hf12.size
  have hbz:=hbz.tr hf12 Yhe
  have hbq:=hbq.tr hf12 Yhe
  have hd:=hd.old hf12 (in_rg Yhd)
  refine rx ?_
  refine s_c1 ((pTypC f) bd p n _ _ _ _ hP12 h4) ?_;rintro cs13 w13 ⟨hdT,hP13,hf13⟩;have hF13:=hF12.trans hf13 Yhc;have hs13:=hf13.size
  have hbz:=hbz.tr hf13 Yhe
  have hbq:=hbq.tr hf13 Yhe
  have hd:=hd.old hf13 (in_rg Yhd)
  obtain⟨sT,rfl,hskT⟩:=tyR.1 hdT
  obtain⟨aoT,cT,rfl,_⟩:=hskT.slice
  refine rx ?_
  refine s_storeSubB (cs:=[iV ty.kind,.string ty.name,.slice aoT (ty.kids.map tyC).length cT]) rfl rfl hbz Yhk Yhi rfl (fun w14 hbz hf14 hs14=>?_)
  replace hbz:Blk w14 z [iV 2,.string (bst t.text),iV (atT n r.tail),zS,.slice aoP (ps.map pmC).length cP,iV ty.kind,.string ty.name,.slice aoT (ty.kids.map tyC).length cT,zI,zT,zI,zS,zS,zS,zI,zI,zI,zT,zS,zS,zS,zI,zS,zS,zS,zS,zI,zT,zS,zI,zT,zI,zS,zS,zS,zI,zS,zS,zI,zT,zI,zS,zS,zS,zI] 105:=hbz
  have hP14:=hP13.tr hf14 Yhj;have hF14:=hF13.trans hf14 (fun x hx=>.inr Yhg)
  have hbq:=hbq.tr hf14 Yhe
  have hd:=hd.old hf14 (in_rg Yhd)
  have hdT:=hdT.old hf14 (in_rg Yhd)
  refine rx ?_
  refine s_cE (pSkip [100,101,112,116,104] p n _ _ hP14) ?_;rintro w15 ⟨hP15,hf15⟩;have hF15:=hF14.trans hf15 Yhc;have hs15:=hf15.size
  have hbz:=hbz.tr hf15 Yhe
  have hbq:=hbq.tr hf15 Yhe
  have hd:=hd.old hf15 (in_rg Yhd)
  have hdT:=hdT.old hf15 (in_rg Yhd)
  cases h9:isT [100,101,112,116,104] r4 with
  |false=>
   simp only[h9,nextP,Bool.false_eq_true,if_false,Option.some.injEq,Prod.mk.injEq]at h5 hP15
   obtain⟨rfl,rfl⟩:=h5
   refine rx ?_
   refine s_cE (cTake hP15 h6) ?_;rintro w16 ⟨hP16,hf16⟩;have hF16:=hF15.trans hf16 Yhc;have hs16:=hf16.size
   have hbz:=hbz.tr hf16 Yhe
   have hbq:=hbq.tr hf16 Yhe
   have hd:=hd.old hf16 (in_rg Yhd)
   have hdT:=hdT.old hf16 (in_rg Yhd)
   refine rx ?_
   refine s_c1 (((genI f hf).1) bd p n _ _ _ _ hP16 h7) ?_;rintro cs17 w17 ⟨hdG,hP17,hf17⟩;have hF17:=hF16.trans hf17 Yhc;have hs17:=hf17.size
   have hbz:=hbz.tr hf17 Yhe
   have hbq:=hbq.tr hf17 Yhe
   have hd:=hd.old hf17 (in_rg Yhd)
   have hdT:=hdT.old hf17 (in_rg Yhd)
   obtain⟨sGa,sGb,sGc,rfl,hkGa,hkGb,hkGc⟩:=gnR.1 hdG
   obtain⟨aoGa,cGa,rfl,_⟩:=hkGa.slice
   obtain⟨aoGb,cGb,rfl,_⟩:=hkGb.slice
   obtain⟨aoGc,cGc,rfl,_⟩:=hkGc.slice
   refine rx ?_
   refine s_storeSubB (cs:=[iV g1.kind,.string g1.name,.slice aoGa (g1.ws.map intR).length cGa,.slice aoGb (g1.args.map exC).length cGb,.slice aoGc (g1.kids.map gnC).length cGc,iV g1.at_]) rfl rfl hbz Yhk Yhi rfl (fun w18 hbz hf18 hs18=>?_)
   replace hbz:Blk w18 z [iV 2,.string (bst t.text),iV (atT n r.tail),zS,.slice aoP (ps.map pmC).length cP,iV ty.kind,.string ty.name,.slice aoT (ty.kids.map tyC).length cT,zI,zT,zI,zS,zS,zS,zI,zI,iV g1.kind,.string g1.name,.slice aoGa (g1.ws.map intR).length cGa,.slice aoGb (g1.args.map exC).length cGb,.slice aoGc (g1.kids.map gnC).length cGc,iV g1.at_,zS,zS,zS,zS,zI,zT,zS,zI,zT,zI,zS,zS,zS,zI,zS,zS,zI,zT,zI,zS,zS,zS,zI] 105:=hbz
   have hP18:=hP17.tr hf18 Yhj;have hF18:=hF17.trans hf18 (fun x hx=>.inr Yhg)
   have hbq:=hbq.tr hf18 Yhe
   have hd:=hd.old hf18 (in_rg Yhd)
   have hdT:=hdT.old hf18 (in_rg Yhd)
   have hdG:=hdG.old hf18 (in_rg Yhd)
   refine rx ?_
   refine s_cE (cTake hP18 h8) ?_;rintro w19 ⟨hP19,hf19⟩;have hF19:=hF18.trans hf19 Yhc;have hs19:=hf19.size
   have hbz:=hbz.tr hf19 Yhe
   have hbq:=hbq.tr hf19 Yhe
   have hd:=hd.old hf19 (in_rg Yhd)
   have hdT:=hdT.old hf19 (in_rg Yhd)
   have hdG:=hdG.old hf19 (in_rg Yhd)
   refine rx ?_
   have hdr:RD w19 (rg w2) (deC {de0 with kind:=(2:Nat),name:=bst t.text,at_:=atT n r.tail,params:=ps,type:=ty,depth:=0,gen:=g1}) [iV 2,.string (bst t.text),iV (atT n r.tail),zS,.slice aoP (ps.map pmC).length cP,iV ty.kind,.string ty.name,.slice aoT (ty.kids.map tyC).length cT,zI,zT,zI,zS,zS,zS,zI,zI,iV g1.kind,.string g1.name,.slice aoGa (g1.ws.map intR).length cGa,.slice aoGb (g1.args.map exC).length cGb,.slice aoGc (g1.kids.map gnC).length cGc,iV g1.at_,zS,zS,zS,zS,zI,zT,zS,zI,zT,zI,zS,zS,zS,zI,zS,zS,zI,zT,zI,zS,zS,zS,zI]:=rdDe .nil (hd.down Yhd) (hdT.down Yhd) rdEx0 (hdG.down Yhd) .nil .nil .nil .nil rdTy0 rdEx0 .nil .nil rdEx0
   refine s_storeAggB (cs:=[iV 2,.string (bst t.text),iV (atT n r.tail),zS,.slice aoP (ps.map pmC).length cP,iV ty.kind,.string ty.name,.slice aoT (ty.kids.map tyC).length cT,zI,zT,zI,zS,zS,zS,zI,zI,iV g1.kind,.string g1.name,.slice aoGa (g1.ws.map intR).length cGa,.slice aoGb (g1.args.map exC).length cGb,.slice aoGc (g1.kids.map gnC).length cGc,iV g1.at_,zS,zS,zS,zS,zI,zT,zS,zI,zT,zI,zS,zS,zS,zI,zS,zS,zI,zT,zI,zS,zS,zS,zI]) rfl rfl hbq (RD.one hdr) rfl rfl (fun u hu hfu hsu=>?_)
   refine rx ?_
   exact retB rfl rfl hu rfl (outC (w0:=w2) hqq Yhd Yhd Yhd hP19 hF19 hfu hdr)
  |true=>
   simp only[h9,nextP,if_true]at h5 hP15
   obtain⟨⟨q1,q5⟩,h10,h5⟩:=bind_some h5
   simp only[Option.some.injEq,Prod.mk.injEq]at h5
   obtain⟨rfl,rfl⟩:=h5
   refine rx ?_
   refine s_cE (cTok hP15 h10) ?_;rintro w16 ⟨hP16,hf16⟩;have hF16:=hF15.trans hf16 Yhc;have hs16:=hf16.size
   have hbz:=hbz.tr hf16 Yhe
   have hbq:=hbq.tr hf16 Yhe
   have hd:=hd.old hf16 (in_rg Yhd)
   have hdT:=hdT.old hf16 (in_rg Yhd)
   refine s_fieldV (l:=tkC q1) rfl rfl ?_
   refine rx ?_
   ((with_reducible apply s_storeB);exact rfl;(conv=>lhs;whnf);exact rfl;exact hbz;exact rfl)
   intro w17 hbz hf17 hs17
   replace hbz:Blk w17 z [iV 2,.string (bst t.text),iV (atT n r.tail),zS,.slice aoP (ps.map pmC).length cP,iV ty.kind,.string ty.name,.slice aoT (ty.kids.map tyC).length cT,zI,zT,zI,zS,zS,zS,zI,iV q1.n,zI,zT,zS,zS,zS,zI,zS,zS,zS,zS,zI,zT,zS,zI,zT,zI,zS,zS,zS,zI,zS,zS,zI,zT,zI,zS,zS,zS,zI] 105:=hbz
   have hP17:=hP16.tr hf17 Yhj;have hF17:=hF16.trans hf17 (fun x hx=>.inr Yhg)
   have hbq:=hbq.tr hf17 Yhe
   have hd:=hd.old hf17 (in_rg Yhd)
   have hdT:=hdT.old hf17 (in_rg Yhd)
   refine rx ?_
   refine s_cE (cTake hP17 h6) ?_;rintro w18 ⟨hP18,hf18⟩;have hF18:=hF17.trans hf18 Yhc;have hs18:=hf18.size
   have hbz:=hbz.tr hf18 Yhe
   have hbq:=hbq.tr hf18 Yhe
   have hd:=hd.old hf18 (in_rg Yhd)
   have hdT:=hdT.old hf18 (in_rg Yhd)
   refine rx ?_
   refine s_c1 (((genI f hf).1) bd p n _ _ _ _ hP18 h7) ?_;rintro cs19 w19 ⟨hdG,hP19,hf19⟩;have hF19:=hF18.trans hf19 Yhc;have hs19:=hf19.size
   have hbz:=hbz.tr hf19 Yhe
   have hbq:=hbq.tr hf19 Yhe
   have hd:=hd.old hf19 (in_rg Yhd)
   have hdT:=hdT.old hf19 (in_rg Yhd)
   obtain⟨sGa,sGb,sGc,rfl,hkGa,hkGb,hkGc⟩:=gnR.1 hdG
   obtain⟨aoGa,cGa,rfl,_⟩:=hkGa.slice
   obtain⟨aoGb,cGb,rfl,_⟩:=hkGb.slice
   obtain⟨aoGc,cGc,rfl,_⟩:=hkGc.slice
   refine rx ?_
   refine s_storeSubB (cs:=[iV g1.kind,.string g1.name,.slice aoGa (g1.ws.map intR).length cGa,.slice aoGb (g1.args.map exC).length cGb,.slice aoGc (g1.kids.map gnC).length cGc,iV g1.at_]) rfl rfl hbz Yhk Yhi rfl (fun w20 hbz hf20 hs20=>?_)
   replace hbz:Blk w20 z [iV 2,.string (bst t.text),iV (atT n r.tail),zS,.slice aoP (ps.map pmC).length cP,iV ty.kind,.string ty.name,.slice aoT (ty.kids.map tyC).length cT,zI,zT,zI,zS,zS,zS,zI,iV q1.n,iV g1.kind,.string g1.name,.slice aoGa (g1.ws.map intR).length cGa,.slice aoGb (g1.args.map exC).length cGb,.slice aoGc (g1.kids.map gnC).length cGc,iV g1.at_,zS,zS,zS,zS,zI,zT,zS,zI,zT,zI,zS,zS,zS,zI,zS,zS,zI,zT,zI,zS,zS,zS,zI] 105:=hbz
   have hP20:=hP19.tr hf20 Yhj;have hF20:=hF19.trans hf20 (fun x hx=>.inr Yhg)
   have hbq:=hbq.tr hf20 Yhe
   have hd:=hd.old hf20 (in_rg Yhd)
   have hdT:=hdT.old hf20 (in_rg Yhd)
   have hdG:=hdG.old hf20 (in_rg Yhd)
   refine rx ?_
   refine s_cE (cTake hP20 h8) ?_;rintro w21 ⟨hP21,hf21⟩;have hF21:=hF20.trans hf21 Yhc;have hs21:=hf21.size
   have hbz:=hbz.tr hf21 Yhe
   have hbq:=hbq.tr hf21 Yhe
   have hd:=hd.old hf21 (in_rg Yhd)
   have hdT:=hdT.old hf21 (in_rg Yhd)
   have hdG:=hdG.old hf21 (in_rg Yhd)
   refine rx ?_
   have hdr:RD w21 (rg w2) (deC {de0 with kind:=(2:Nat),name:=bst t.text,at_:=atT n r.tail,params:=ps,type:=ty,depth:=q1.n,gen:=g1}) [iV 2,.string (bst t.text),iV (atT n r.tail),zS,.slice aoP (ps.map pmC).length cP,iV ty.kind,.string ty.name,.slice aoT (ty.kids.map tyC).length cT,zI,zT,zI,zS,zS,zS,zI,iV q1.n,iV g1.kind,.string g1.name,.slice aoGa (g1.ws.map intR).length cGa,.slice aoGb (g1.args.map exC).length cGb,.slice aoGc (g1.kids.map gnC).length cGc,iV g1.at_,zS,zS,zS,zS,zI,zT,zS,zI,zT,zI,zS,zS,zS,zI,zS,zS,zI,zT,zI,zS,zS,zS,zI]:=rdDe .nil (hd.down Yhd) (hdT.down Yhd) rdEx0 (hdG.down Yhd) .nil .nil .nil .nil rdTy0 rdEx0 .nil .nil rdEx0
   refine s_storeAggB (cs:=[iV 2,.string (bst t.text),iV (atT n r.tail),zS,.slice aoP (ps.map pmC).length cP,iV ty.kind,.string ty.name,.slice aoT (ty.kids.map tyC).length cT,zI,zT,zI,zS,zS,zS,zI,iV q1.n,iV g1.kind,.string g1.name,.slice aoGa (g1.ws.map intR).length cGa,.slice aoGb (g1.args.map exC).length cGb,.slice aoGc (g1.kids.map gnC).length cGc,iV g1.at_,zS,zS,zS,zS,zI,zT,zS,zI,zT,zI,zS,zS,zS,zI,zS,zS,zI,zT,zI,zS,zS,zS,zI]) rfl rfl hbq (RD.one hdr) rfl rfl (fun u hu hfu hsu=>?_)
   refine rx ?_
   exact retB rfl rfl hu rfl (outC (w0:=w2) hqq Yhd Yhd Yhd hP21 hF21 hfu hdr)
 .replace hbz:Blk w5 z [iV 3,zT,zI,zS,zS,zI,zT,zS,zI,zT,zI,zS,zS,zS,zI,zI,zI,zT,zS,zS,zS,zI,zS,zS,zS,zS,zI,zT,zS,zI,zT,zI,zS,zS,zS,zI,zS,zS,zI,zT,zI,zS,zS,zS,zI] 105:=hbz
  rw[if_neg Yho,if_neg Yho,if_neg Yho,if_pos rfl]at hg
  obtain⟨⟨ds,r2⟩,h2,hg⟩:=bind_some hg
  obtain⟨⟨⟨k1,k2,k3⟩,r3⟩,h3,hg⟩:=bind_some hg
  simp only[Option.some.injEq,Prod.mk.injEq]at hg
  obtain⟨rfl,rfl⟩:=hg
  refine rx ?_
  refine s_cE (pAt p n _ _ hP5) ?_;rintro w6 hf6;have hP6:=hP5.tr0 hf6;have hF6:=hF5.trans0 hf6;have hs6:=hf6.size
  have hbz:=hbz.tr hf6 Yhe
  have hbq:=hbq.tr hf6 Yhe
  refine rx ?_
  ((with_reducible apply s_storeB);exact rfl;(conv=>lhs;whnf);exact rfl;exact hbz;exact rfl)
  intro w7 hbz hf7 hs7
  replace hbz:Blk w7 z [iV 3,zT,iV (atT n r.tail),zS,zS,zI,zT,zS,zI,zT,zI,zS,zS,zS,zI,zI,zI,zT,zS,zS,zS,zI,zS,zS,zS,zS,zI,zT,zS,zI,zT,zI,zS,zS,zS,zI,zS,zS,zI,zT,zI,zS,zS,zS,zI] 105:=hbz
  have hP7:=hP6.tr hf7 Yhj;have hF7:=hF6.trans hf7 (fun x hx=>.inr Yhg)
  have hbq:=hbq.tr hf7 Yhe
  refine rx ?_
  refine s_cE (cTok hP7 h1) ?_;rintro w8 ⟨hP8,hf8⟩;have hF8:=hF7.trans hf8 Yhc;have hs8:=hf8.size
  have hbz:=hbz.tr hf8 Yhe
  have hbq:=hbq.tr hf8 Yhe
  refine Yer ?_
  ((with_reducible apply s_storeB);exact rfl;(conv=>lhs;whnf);exact rfl;exact hbz;exact rfl)
  intro w9 hbz hf9 hs9
  replace hbz:Blk w9 z [iV 3,.string (bst t.text),iV (atT n r.tail),zS,zS,zI,zT,zS,zI,zT,zI,zS,zS,zS,zI,zI,zI,zT,zS,zS,zS,zI,zS,zS,zS,zS,zI,zT,zS,zI,zT,zI,zS,zS,zS,zI,zS,zS,zI,zT,zI,zS,zS,zS,zI] 105:=hbz
  have hP9:=hP8.tr hf9 Yhj;have hF9:=hF8.trans hf9 (fun x hx=>.inr Yhg)
  have hbq:=hbq.tr hf9 Yhe
  refine rx ?_
  refine s_call ((pDrawsC false f hf) bd p n _ _ _ _ hP9 h2) rfl ?_;rintro _ w10 ⟨_,rfl,hd,hP10,hf10⟩;obtain⟨aoW,cW,rfl,hcW⟩:=DR.slice hd;refine⟨_,rfl,?_⟩;have hF10:=hF9.trans hf10 Yhc;have hs10:=hf10.size
  have hbz:=hbz.tr hf10 Yhe
  have hbq:=hbq.tr hf10 Yhe
  refine rx ?_
  ((with_reducible apply s_storeB);exact rfl;(conv=>lhs;whnf);exact rfl;exact hbz;exact rfl)
  intro w11 hbz hf11 hs11
  replace hbz:Blk w11 z [iV 3,.string (bst t.text),iV (atT n r.tail),zS,zS,zI,zT,zS,zI,zT,zI,zS,zS,zS,zI,zI,zI,zT,zS,zS,zS,zI,.slice aoW (ds.map dwC).length cW,zS,zS,zS,zI,zT,zS,zI,zT,zI,zS,zS,zS,zI,zS,zS,zI,zT,zI,zS,zS,zS,zI] 105:=hbz
  have hP11:=hP10.tr hf11 Yhj;have hF11:=hF10.trans hf11 (fun x hx=>.inr Yhg)
  have hbq:=hbq.tr hf11 Yhe
  have hd:=hd.old hf11 (in_rg Yhd)
  refine rx ?_
  refine s_cE (pItemsC f hf _ _ _ bd p n _ _ _ _ z hP11 h3 hbz Yhd) ?_
  rintro w12 ⟨⟨v1,v2,v3,hbz,hd1,hd2,hd3⟩,hP12,hf12⟩
  have hF12:=hF11.trans hf12 (fun x hx=>(List.mem_cons.1 hx).elim (fun h=>.inl Yiu) (fun h=>.inr Yiz))
  have hs12:=hf12.size
  have hbq:=hbq.tr hf12 Yhe
  have hd:=hd.old hf12 (in_rg2 Yhd Yhd)
  refine rx ?_
  have hdr:RD w12 (rg w2) (deC {de0 with kind:=(3:Nat),name:=bst t.text,at_:=atT n r.tail,draws:=ds,checks:=k1,classes:=k2,claims:=k3}) [iV 3,.string (bst t.text),iV (atT n r.tail),zS,zS,zI,zT,zS,zI,zT,zI,zS,zS,zS,zI,zI,zI,zT,zS,zS,zS,zI,.slice aoW (ds.map dwC).length cW,v1,v2,v3,zI,zT,zS,zI,zT,zI,zS,zS,zS,zI,zS,zS,zI,zT,zI,zS,zS,zS,zI]:=rdDe .nil .nil rdTy0 rdEx0 rdGn0 (hd.down Yhd) (hd1.down Yhd) (hd2.down Yhd) (hd3.down Yhd) rdTy0 rdEx0 .nil .nil rdEx0
  refine s_storeAggB (cs:=[iV 3,.string (bst t.text),iV (atT n r.tail),zS,zS,zI,zT,zS,zI,zT,zI,zS,zS,zS,zI,zI,zI,zT,zS,zS,zS,zI,.slice aoW (ds.map dwC).length cW,v1,v2,v3,zI,zT,zS,zI,zT,zI,zS,zS,zS,zI,zS,zS,zI,zT,zI,zS,zS,zS,zI]) rfl rfl hbq (RD.one hdr) rfl rfl (fun u hu hfu hsu=>?_)
  refine rx ?_
  exact retB rfl rfl hu rfl (outC (w0:=w2) hqq Yhd Yhd Yhd hP12 hF12 hfu hdr)
 .replace hbz:Blk w5 z [iV 4,zT,zI,zS,zS,zI,zT,zS,zI,zT,zI,zS,zS,zS,zI,zI,zI,zT,zS,zS,zS,zI,zS,zS,zS,zS,zI,zT,zS,zI,zT,zI,zS,zS,zS,zI,zS,zS,zI,zT,zI,zS,zS,zS,zI] 105:=hbz
  rw[if_neg Yho,if_neg Yho,if_neg Yho,if_neg Yho,if_pos rfl]at hg
  obtain⟨⟨⟨ty,e⟩,r2⟩,h2,hg⟩:=bind_some hg
  obtain⟨⟨cs,r3⟩,h3,hg⟩:=bind_some hg
  simp only[Option.some.injEq,Prod.mk.injEq]at hg
  obtain⟨rfl,rfl⟩:=hg
  refine rx ?_
  refine s_cE (pAt p n _ _ hP5) ?_;rintro w6 hf6;have hP6:=hP5.tr0 hf6;have hF6:=hF5.trans0 hf6;have hs6:=hf6.size
  have hbz:=hbz.tr hf6 Yhe
  have hbq:=hbq.tr hf6 Yhe
  refine rx ?_
  ((with_reducible apply s_storeB);exact rfl;(conv=>lhs;whnf);exact rfl;exact hbz;exact rfl)
  intro w7 hbz hf7 hs7
  replace hbz:Blk w7 z [iV 4,zT,iV (atT n r.tail),zS,zS,zI,zT,zS,zI,zT,zI,zS,zS,zS,zI,zI,zI,zT,zS,zS,zS,zI,zS,zS,zS,zS,zI,zT,zS,zI,zT,zI,zS,zS,zS,zI,zS,zS,zI,zT,zI,zS,zS,zS,zI] 105:=hbz
  have hP7:=hP6.tr hf7 Yhj;have hF7:=hF6.trans hf7 (fun x hx=>.inr Yhg)
  have hbq:=hbq.tr hf7 Yhe
  refine rx ?_
  refine s_cE (cTok hP7 h1) ?_;rintro w8 ⟨hP8,hf8⟩;have hF8:=hF7.trans hf8 Yhc;have hs8:=hf8.size
  have hbz:=hbz.tr hf8 Yhe
  have hbq:=hbq.tr hf8 Yhe
  refine Yer ?_
  ((with_reducible apply s_storeB);exact rfl;(conv=>lhs;whnf);exact rfl;exact hbz;exact rfl)
  intro w9 hbz hf9 hs9
  replace hbz:Blk w9 z [iV 4,.string (bst t.text),iV (atT n r.tail),zS,zS,zI,zT,zS,zI,zT,zI,zS,zS,zS,zI,zI,zI,zT,zS,zS,zS,zI,zS,zS,zS,zS,zI,zT,zS,zI,zT,zI,zS,zS,zS,zI,zS,zS,zI,zT,zI,zS,zS,zS,zI] 105:=hbz
  have hP9:=hP8.tr hf9 Yhj;have hF9:=hF8.trans hf9 (fun x hx=>.inr Yhg)
  have hbq:=hbq.tr hf9 Yhe
  refine rx ?_
  refine s_cE (pStateC f hf _ _ _ bd p n _ _ _ _ z hP9 h2 hbz Yhd) ?_
  rintro w10 ⟨⟨aoS,cS,aoIa,cIa,aoIb,cIb,aoIc,cIc,hbz,hdS,hdI⟩,hP10,hf10⟩
  have hF10:=hF9.trans hf10 (fun x hx=>(List.mem_cons.1 hx).elim (fun h=>.inl Yiu) (fun h=>.inr Yiz))
  have hs10:=hf10.size
  have hbq:=hbq.tr hf10 Yhe
  refine rx ?_
  refine s_cE (pCmdsC f hf _ _ _ _ _ _ _ _ _ _ _ _ _ _ _ _ _ _ _ _ _ _ _ _ _ _ _ _ _ _ _ _ _ _ _ _ _ _ _ _ _ _ _ _ bd p n _ _ _ _ z hP10 h3 hbz Yhd) ?_
  rintro w11 ⟨⟨v,hbz,hdv⟩,hP11,hf11⟩
  have hF11:=hF10.trans hf11 (fun x hx=>(List.mem_cons.1 hx).elim (fun h=>.inl Yiu) (fun h=>.inr Yiz))
  have hs11:=hf11.size
  have hbq:=hbq.tr hf11 Yhe
  have hdS:=hdS.old hf11 (in_rg2 Yhd Yhd)
  have hdI:=hdI.old hf11 (in_rg2 Yhd Yhd)
  refine rx ?_
  have hdr:RD w11 (rg w2) (deC {de0 with kind:=(4:Nat),name:=bst t.text,at_:=atT n r.tail,state:=ty,init:=e,cmds:=cs}) [iV 4,.string (bst t.text),iV (atT n r.tail),zS,zS,zI,zT,zS,zI,zT,zI,zS,zS,zS,zI,zI,zI,zT,zS,zS,zS,zI,zS,zS,zS,zS,iV ty.kind,.string ty.name,.slice aoS (ty.kids.map tyC).length cS,iV e.kind,.string e.name,iV e.n,.slice aoIa (e.names.map strR).length cIa,.slice aoIb (e.binds.map strsR).length cIb,.slice aoIc (e.kids.map exC).length cIc,iV e.at_,v,zS,zI,zT,zI,zS,zS,zS,zI]:=rdDe .nil .nil rdTy0 rdEx0 rdGn0 .nil .nil .nil .nil (hdS.down Yhd) (hdI.down Yhd) (hdv.down Yhd) .nil rdEx0
  refine s_storeAggB (cs:=[iV 4,.string (bst t.text),iV (atT n r.tail),zS,zS,zI,zT,zS,zI,zT,zI,zS,zS,zS,zI,zI,zI,zT,zS,zS,zS,zI,zS,zS,zS,zS,iV ty.kind,.string ty.name,.slice aoS (ty.kids.map tyC).length cS,iV e.kind,.string e.name,iV e.n,.slice aoIa (e.names.map strR).length cIa,.slice aoIb (e.binds.map strsR).length cIb,.slice aoIc (e.kids.map exC).length cIc,iV e.at_,v,zS,zI,zT,zI,zS,zS,zS,zI]) rfl rfl hbq (RD.one hdr) rfl rfl (fun u hu hfu hsu=>?_)
  refine rx ?_
  exact retB rfl rfl hu rfl (outC (w0:=w2) hqq Yhd Yhd Yhd hP11 hF11 hfu hdr)
 .replace hbz:Blk w5 z [iV 5,zT,zI,zS,zS,zI,zT,zS,zI,zT,zI,zS,zS,zS,zI,zI,zI,zT,zS,zS,zS,zI,zS,zS,zS,zS,zI,zT,zS,zI,zT,zI,zS,zS,zS,zI,zS,zS,zI,zT,zI,zS,zS,zS,zI] 105:=hbz
  rw[if_neg Yho,if_neg Yho,if_neg Yho,if_neg Yho,if_neg Yho]at hg
  obtain⟨⟨⟨ty,e⟩,r2⟩,h2,hg⟩:=bind_some hg
  obtain⟨r3,h3,hg⟩:=bind_some hg
  obtain⟨⟨e2,r4⟩,h4,hg⟩:=bind_some hg
  obtain⟨⟨os,r5⟩,h5,hg⟩:=bind_some hg
  simp only[Option.some.injEq,Prod.mk.injEq]at hg
  obtain⟨rfl,rfl⟩:=hg
  refine rx ?_
  refine s_cE (pAt p n _ _ hP5) ?_;rintro w6 hf6;have hP6:=hP5.tr0 hf6;have hF6:=hF5.trans0 hf6;have hs6:=hf6.size
  have hbz:=hbz.tr hf6 Yhe
  have hbq:=hbq.tr hf6 Yhe
  refine rx ?_
  ((with_reducible apply s_storeB);exact rfl;(conv=>lhs;whnf);exact rfl;exact hbz;exact rfl)
  intro w7 hbz hf7 hs7
  replace hbz:Blk w7 z [iV 5,zT,iV (atT n r.tail),zS,zS,zI,zT,zS,zI,zT,zI,zS,zS,zS,zI,zI,zI,zT,zS,zS,zS,zI,zS,zS,zS,zS,zI,zT,zS,zI,zT,zI,zS,zS,zS,zI,zS,zS,zI,zT,zI,zS,zS,zS,zI] 105:=hbz
  have hP7:=hP6.tr hf7 Yhj;have hF7:=hF6.trans hf7 (fun x hx=>.inr Yhg)
  have hbq:=hbq.tr hf7 Yhe
  refine rx ?_
  refine s_cE (cTok hP7 h1) ?_;rintro w8 ⟨hP8,hf8⟩;have hF8:=hF7.trans hf8 Yhc;have hs8:=hf8.size
  have hbz:=hbz.tr hf8 Yhe
  have hbq:=hbq.tr hf8 Yhe
  refine Yer ?_
  ((with_reducible apply s_storeB);exact rfl;(conv=>lhs;whnf);exact rfl;exact hbz;exact rfl)
  intro w9 hbz hf9 hs9
  replace hbz:Blk w9 z [iV 5,.string (bst t.text),iV (atT n r.tail),zS,zS,zI,zT,zS,zI,zT,zI,zS,zS,zS,zI,zI,zI,zT,zS,zS,zS,zI,zS,zS,zS,zS,zI,zT,zS,zI,zT,zI,zS,zS,zS,zI,zS,zS,zI,zT,zI,zS,zS,zS,zI] 105:=hbz
  have hP9:=hP8.tr hf9 Yhj;have hF9:=hF8.trans hf9 (fun x hx=>.inr Yhg)
  have hbq:=hbq.tr hf9 Yhe
  refine rx ?_
  refine s_cE (pStateC f hf _ _ _ bd p n _ _ _ _ z hP9 h2 hbz Yhd) ?_
  rintro w10 ⟨⟨aoS,cS,aoIa,cIa,aoIb,cIb,aoIc,cIc,hbz,hdS,hdI⟩,hP10,hf10⟩
  have hF10:=hF9.trans hf10 (fun x hx=>(List.mem_cons.1 hx).elim (fun h=>.inl Yiu) (fun h=>.inr Yiz))
  have hs10:=hf10.size
  have hbq:=hbq.tr hf10 Yhe
  refine rx ?_
  refine s_cE (cTake hP10 h3) ?_;rintro w11 ⟨hP11,hf11⟩;have hF11:=hF10.trans hf11 Yhc;have hs11:=hf11.size
  have hbz:=hbz.tr hf11 Yhe
  have hbq:=hbq.tr hf11 Yhe
  have hdS:=hdS.old hf11 (in_rg Yhd)
  have hdI:=hdI.old hf11 (in_rg Yhd)
  refine rx ?_
  refine s_c1 (((exI f hf).expr) bd p n _ _ _ _ hP11 h4) ?_;rintro cs12 w12 ⟨hdV,hP12,hf12⟩;have hF12:=hF11.trans hf12 Yhc;have hs12:=hf12.size
  have hbz:=hbz.tr hf12 Yhe
  have hbq:=hbq.tr hf12 Yhe
  have hdS:=hdS.old hf12 (in_rg Yhd)
  have hdI:=hdI.old hf12 (in_rg Yhd)
  obtain⟨sVa,sVb,sVc,rfl,hkVa,hkVb,hkVc⟩:=exR.1 hdV
  obtain⟨aoVa,cVa,rfl,_⟩:=DR.slice (rows:=_) hkVa
  obtain⟨aoVb,cVb,rfl,_⟩:=hkVb.slice
  obtain⟨aoVc,cVc,rfl,_⟩:=hkVc.slice
  refine rx ?_
  refine s_storeSubB (cs:=[iV e2.kind,.string e2.name,iV e2.n,.slice aoVa (e2.names.map strR).length cVa,.slice aoVb (e2.binds.map strsR).length cVb,.slice aoVc (e2.kids.map exC).length cVc,iV e2.at_]) rfl rfl hbz Yhk Yhi rfl (fun w13 hbz hf13 hs13=>?_)
  replace hbz:Blk w13 z [iV 5,.string (bst t.text),iV (atT n r.tail),zS,zS,zI,zT,zS,zI,zT,zI,zS,zS,zS,zI,zI,zI,zT,zS,zS,zS,zI,zS,zS,zS,zS,iV ty.kind,.string ty.name,.slice aoS (ty.kids.map tyC).length cS,iV e.kind,.string e.name,iV e.n,.slice aoIa (e.names.map strR).length cIa,.slice aoIb (e.binds.map strsR).length cIb,.slice aoIc (e.kids.map exC).length cIc,iV e.at_,zS,zS,iV e2.kind,.string e2.name,iV e2.n,.slice aoVa (e2.names.map strR).length cVa,.slice aoVb (e2.binds.map strsR).length cVb,.slice aoVc (e2.kids.map exC).length cVc,iV e2.at_] 105:=hbz
  have hP13:=hP12.tr hf13 Yhj;have hF13:=hF12.trans hf13 (fun x hx=>.inr Yhg)
  have hbq:=hbq.tr hf13 Yhe
  have hdS:=hdS.old hf13 (in_rg Yhd)
  have hdI:=hdI.old hf13 (in_rg Yhd)
  have hdV:=hdV.old hf13 (in_rg Yhd)
  refine rx ?_
  refine s_cE (pOpsC f hf _ _ _ _ _ _ _ _ _ _ _ _ _ _ _ _ _ _ _ _ _ _ _ _ _ _ _ _ _ _ _ _ _ _ _ _ _ _ _ _ _ _ _ _ bd p n _ _ _ _ z hP13 h5 hbz Yhd) ?_
  rintro w14 ⟨⟨v,hbz,hdv⟩,hP14,hf14⟩
  have hF14:=hF13.trans hf14 (fun x hx=>(List.mem_cons.1 hx).elim (fun h=>.inl Yiu) (fun h=>.inr Yiz))
  have hs14:=hf14.size
  have hbq:=hbq.tr hf14 Yhe
  have hdS:=hdS.old hf14 (in_rg2 Yhd Yhd)
  have hdI:=hdI.old hf14 (in_rg2 Yhd Yhd)
  have hdV:=hdV.old hf14 (in_rg2 Yhd Yhd)
  refine rx ?_
  have hdr:RD w14 (rg w2) (deC {de0 with kind:=(5:Nat),name:=bst t.text,at_:=atT n r.tail,state:=ty,init:=e,recov:=e2,ops:=os}) [iV 5,.string (bst t.text),iV (atT n r.tail),zS,zS,zI,zT,zS,zI,zT,zI,zS,zS,zS,zI,zI,zI,zT,zS,zS,zS,zI,zS,zS,zS,zS,iV ty.kind,.string ty.name,.slice aoS (ty.kids.map tyC).length cS,iV e.kind,.string e.name,iV e.n,.slice aoIa (e.names.map strR).length cIa,.slice aoIb (e.binds.map strsR).length cIb,.slice aoIc (e.kids.map exC).length cIc,iV e.at_,zS,v,iV e2.kind,.string e2.name,iV e2.n,.slice aoVa (e2.names.map strR).length cVa,.slice aoVb (e2.binds.map strsR).length cVb,.slice aoVc (e2.kids.map exC).length cVc,iV e2.at_]:=rdDe .nil .nil rdTy0 rdEx0 rdGn0 .nil .nil .nil .nil (hdS.down Yhd) (hdI.down Yhd) .nil (hdv.down Yhd) (hdV.down Yhd)
  refine s_storeAggB (cs:=[iV 5,.string (bst t.text),iV (atT n r.tail),zS,zS,zI,zT,zS,zI,zT,zI,zS,zS,zS,zI,zI,zI,zT,zS,zS,zS,zI,zS,zS,zS,zS,iV ty.kind,.string ty.name,.slice aoS (ty.kids.map tyC).length cS,iV e.kind,.string e.name,iV e.n,.slice aoIa (e.names.map strR).length cIa,.slice aoIb (e.binds.map strsR).length cIb,.slice aoIc (e.kids.map exC).length cIc,iV e.at_,zS,v,iV e2.kind,.string e2.name,iV e2.n,.slice aoVa (e2.names.map strR).length cVa,.slice aoVb (e2.binds.map strsR).length cVb,.slice aoVc (e2.kids.map exC).length cVc,iV e2.at_]) rfl rfl hbq (RD.one hdr) rfl rfl (fun u hu hfu hsu=>?_)
  refine rx ?_
  exact retB rfl rfl hu rfl (outC (w0:=w2) hqq Yhd Yhd Yhd hP14 hF14 hfu hdr)
end Go.Proofs.YtggmccicdhnkgaaGreat
