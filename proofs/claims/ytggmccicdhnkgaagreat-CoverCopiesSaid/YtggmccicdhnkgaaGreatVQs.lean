/-
 The reference's parser:generators.
-/
import Derived.Test.YtggmccicdhnkgaaGreatVQn
set_option linter.all false
set_option maxHeartbeats 64000000
namespace Go.Proofs.YtggmccicdhnkgaaGreat
open Go.Proofs.Tryz
open Go.Rf Go.RowKit
attribute [local irreducible] Code.wp wpList Exit.then Exit.inBlock bodyPost A Calls execOp Addr.add
def JaV(a:Int)(f:Nat)(n:Int)(r:List Tk):Option (Ex×List Tk):=
 (J5 n f r).bind fun y=>(JB [123] y.2).bind fun r2=>(Ba n f r2).bind fun x=>(JB [125] x.2).bind fun r4=>some (⟨8,aA [],0,x.1.map fun y=>aA y.1,x.1.map fun y=>y.2.1.map aA,y.1::x.1.map fun y=>y.2.2,a⟩,r4)
abbrev Arm:=Bs×List Bs×Ex
theorem Jhe(at_:Int)(f:Nat)(hf:f<=1000000)(ih:∀f'≤f,PC 125 [] (fun n=>J5 n f') aU):PC 165 [iV at_] (JaV at_ f) aU:=by
 intro bd p n r w x r' hP hg;simp only[JaV]at hg;obtain⟨⟨e0,r1⟩,h1,hg⟩:=bind_some hg;obtain⟨r2,h2,hg⟩:=bind_some hg;obtain⟨⟨l,r3⟩,h3,hg⟩:=bind_some hg;obtain⟨r4,h4,hg⟩:=bind_some hg;simp only[Sj,Sz]at hg;obtain⟨rfl,rfl⟩:=hg;refine enter func165 rfl ntmps165 rfl ?_;refine rx ?_;refine Jm (l:=[zI,zT,zI,zS,zS,zS,zI]) rfl (fun w0 q gz ah gL mF=>?_);have eH:=hP.tr0 gL;have eG:Fr [p] w w0:=gL.mono ap;have dx:bd<=w.heap.size:=hP.le;have lV:p<w.heap.size:=SV hP.lt dx;refine rx ?_;refine Jl ((ih f (SX _)) bd p n _ _ _ _ eH h1) ?_;rintro cs w1 ⟨hd,gj,aj⟩;have ej:=eG.trans aj aX;have bh:=aj.size;have ah:=ah.tr aj ak;have hl:cs.length=7:=by rw[hd.len,Jq]
 refine JQ rfl hl rfl (fun w2 k hk ho aq cz=>?_);have dZ:=gj.tr0 aq;have aS:=ej.Jb aq;have ah:=ah.tr aq ak;have hd:=hd.tell (Y:=k::rg w0) (KU ab) aq;refine rx ?_;refine JF [iV 8,zT,zI,zS,zS,.slice (some ⟨k,0,none⟩) 1 1,iV at_] rfl ?_;refine KR (l:=[zI,zT,zI,zS,zS,zS,zI]) (cs:=[iV 8,zT,zI,zS,zS,.slice (some ⟨k,0,none⟩) 1 1,iV at_]) rfl rfl rfl dQ rfl (fun v=>rfl) (fun w3 a oq aH aF dO=>?_);have dK:=dZ.tr0 aF;have aV:=aS.Jb aF;have ah:=ah.tr aF ak;have ho:=ho.tr0 aF;have hd:=hd.tell (Y:=a::k::rg w0) (KU ab) aF;have aN:L3 (a::rg w0) w3 9 91 95 1 1 7 (fun y:Arm=>JV (aA y.1)) (fun y:Arm=>JD (y.2.1.map aA)) aU [] [] [e0] (zS) (zS) (.slice (some ⟨k,0,none⟩) 1 1):=
  ⟨LS.nil,LS.nil,LS.first ho hd (fun b hb=>.inl (by simp[ag,Value.ownBlock,Jk]at hb ⊢;omega)) y5⟩
 clear hd ho;refine rx ?_;refine Jg (JL dK h2) ?_;rintro w4 ⟨dY,aI⟩;have bq:=aV.trans aI aX;have eA:=aI.size;have ah:=ah.tr aI ak;have aH:=aH.tr aI ak;have aN:=aN.keep aI (by simp[Jk];omega);refine rx ?_;refine Jh 7 [6] (σ:=Nat×List Arm×List Tk×Bool) (fun s g u=>g 6=.bool s.2.2.2/\s.1<=f/\PS bd u p n s.2.2.1/\Fr [p] w u/\w4.heap.size<=u.heap.size/\s.2.1.length+s.1<=1000000/\(s.2.2.2=true->∃l',Ba n s.1 s.2.2.1=some (l',r3)/\s.2.1++l'=l)/\(s.2.2.2=false->s.2.1=l/\s.2.2.1=r3)/\aG u q [zI,zT,zI,zS,zS,zS,zI] 95/\∃v1 v2 v3,aG u a [iV 8,zT,zI,v1,v2,v3,iV at_] 95/\L3 (a::rg w0) u 9 91 95 1 1 7 (fun y:Arm=>JV (aA y.1)) (fun y:Arm=>JD (y.2.1.map aA)) aU s.2.1 s.2.1 (e0::s.2.1.map fun y=>y.2.2) v1 v2 v3) (fun s=>2*s.1+s.2.2.2.toNat) (f,[],r2,true) ⟨rfl,SX _,dY,bq,SX _,by simpa using hf,fun _=>⟨l,h3,rfl⟩,fun h=>mi,ah,_,_,_,aH,aN⟩ ?_;clear hP eH gj dZ dK dY eG ej aS aV bq aH ah aN;rintro⟨f',acc,r5,b⟩ g w5 ⟨h6,kP,du,bX,eV,hlen,ht,j8,ah,v1,v2,v3,aH,aN⟩;simp only at kP du bX hlen ht j8 aN;rw[Ja h6];obtain⟨S0,T0,xp,c0,i0,ln,_⟩:=id du;have fA:∀b∈a::rg w0,b<w5.heap.size:=fun b hb=>by
  rcases SC.1 hb with rfl|hb
  .exact aH.lt
  .have:=Jk.1 hb;omega
 have nD:a∈a::rg w0:=by simp
 have YT:q∈a::rg w0:=by simp[Jk];omega
 have kC:∀b,b<w.heap.size->b∈a::rg w0:=fun b hb=>by simp[Jk];omega
 have dU:∀b∈[p],b∈a::rg w0:=by simp[Jk];omega
 cases b with
 |false=>
  obtain⟨rfl,rfl⟩:=j8 rfl;obtain⟨ek,c1,rfl⟩:=aN.1.slice;obtain⟨gS,c2,rfl⟩:=aN.2.1.slice;obtain⟨nP,c3,rfl⟩:=aN.2.2.slice;refine rx ?_;refine Jg (JL du h4) ?_;rintro w6 ⟨eE,aJ⟩;have bR:=bX.trans aJ aX;have fm:=aJ.size;have ah:=ah.tr aJ ak;have aH:=aH.tr aJ ak;have aN:=aN.keep aJ (fun b hb=>.inl (dU b hb));refine rx ?_;have hd:RD w6 (rg w0) (aU ⟨8,aA [],0,acc.map fun y=>aA y.1,acc.map fun y=>y.2.1.map aA,e0::acc.map fun y=>y.2.2,at_⟩) _:=fW.2 ⟨_,_,_,rfl,by
   have:=(aN.1.dr (k:=1) (fun _=>rfl) ab).mono (T:=rg w0) (fun b hb=>.inl lr);simpa[strs,EU]using this,by
   have:=(aN.2.1.dr (k:=1) (fun _=>rfl) ab).mono (T:=rg w0) (fun b hb=>.inl lr);simpa[EU]using this,by
   have:=(aN.2.2.dr (k:=7) Jq aZ).mono (T:=rg w0) (fun b hb=>.inl lr);exact this⟩
  simp only[uS]at hd;refine Jd (cs:=[iV 8,zT,zI,.slice ek acc.length c1,.slice gS acc.length c2,.slice nP (e0::acc.map fun y=>y.2.2).length c3,iV at_]) rfl rfl ah dQ rfl rfl (fun u hu aY cI=>?_);refine rx ?_;exact Qc rfl rfl hu rfl (QJ (w0:=w0) gz ab ab ab eE bR aY hd)
 |true=>
 obtain⟨l',bZ,fw⟩:=ht rfl;cases f' with
 |zero=>simp[Ba]at bZ
 |succ f'=>
 simp only[Ba]at bZ;obtain⟨⟨t,r6⟩,h7,bZ⟩:=bind_some bZ;obtain⟨⟨bs,r7⟩,h8,bZ⟩:=bind_some bZ;obtain⟨r8,h9,bZ⟩:=bind_some bZ;obtain⟨⟨e,r9⟩,ez,bZ⟩:=bind_some bZ;obtain⟨ek,c1,rfl⟩:=aN.1.slice;refine rx ?_
 ((refine Kr 8 (fun z=>True/\aG z a [iV 8,zT,zI,.slice ek acc.length c1,v2,v3,iV at_] 95) az rfl ?_);obtain⟨w6,rf⟩:=aP w5.drew;rw[<-rf];have aJ:Fr [] w5 w6:=rf▸Fr.drew _ _;have eE:=du.tr0 aJ;have bR:=bX.Jb aJ;have fm:=aJ.size)
 have ah:=ah.tr aJ ak;have aH:=aH.tr aJ ak;have aN:=aN.keep aJ ap
 ((refine Jp 0 (And.intro trivial aH) ?_);(refine Jp 1 (And.intro trivial aH) ?_);(refine Jp 2 (And.intro trivial aH) ?_))
 refine y7 ?_;refine Jg (VF eE h7) ?_;rintro w7 ⟨fa,aQ⟩;have ed:=bR.trans aQ aX;have iF:=aQ.size;have ah:=ah.tr aQ ak;have aH:=aH.tr aQ ak;have aN:=aN.keep aQ (fun b hb=>.inl (dU b hb));refine tH ?_;refine Jp 4 (And.intro trivial aH) ?_ (aw:=(by intro u hu;exact(NP (l:=kh t) rfl rfl)));refine zn ?_;refine QO rfl rfl (fun w8 ho aM fL=>?_);have fc:=fa.tr0 aM;have dS:=ed.Jb aM;have ah:=ah.tr aM ak;have aH:=aH.tr aM ak;have aN:=aN.keep aM ap;refine Yft ?_;refine V7 aN.1 (fun _=>rfl) rfl rfl ho.src (a:=(t.text,bs,e)) (.cons (.c rfl) .nil) (fun b hb=>.inl (SE.2 hb)) dt ab (aN.sz1 (fun b hb=>SV (fA b hb) ab)) (fun v' w9 eP aW AM=>?_);have wT:=LS.ge aN.1 (w0:=w) (fun b hb=>SA _ (kC b hb));have fx:=fc.tr aW (fun k hk=>CG dx (wT k hk));have eL:=dS.trans aW (fun k hk=>.inr (wT k hk));have ju:=aW.size;have aH:=aH.tr aW (fun h=>aN.1.2 _ h (SA _ nD));have ah:=ah.tr aW (fun h=>aN.1.2 _ h (SA _ YT));have aN:=aN.JiR eP aW AM;have jI:=eP.1.one;refine tH ?_
 ((refine Jp 7 (And.intro trivial aH) ?_))
 refine Tj ?_
 ((with_reducible apply Ji);exact rfl;(conv=>lhs;whnf);exact jI;exact aH;exact rfl)
 intro fy aH aD eF;replace aH:aG fy a [iV 8,zT,zI,v',v2,v3,iV at_] 95:=aH;have bI:=fx.tr aD aZ;have bk:=eL.trans aD (fun x hx=>.inr bt);have ah:=ah.tr aD ak;have aN:=aN.keep aD (Je nD);refine kE ?_;refine rx ?_;clear jI;obtain⟨v1,iQ⟩:=aP v';rw[<-iQ]at aH aN;clear eP iQ;obtain⟨gS,c2,rfl⟩:=aN.2.1.slice;have e8:strs (bs.map aA)=.l (bs.map fun t=>JV (aA t)):=by simp[strs,EU]
 ((refine Kr 7 (fun z=>True/\aG z a [iV 8,zT,zI,v1,.slice gS acc.length c2,v3,iV at_] 95) az rfl ?_);obtain⟨eT,ibD⟩:=aP fy.drew;rw[<-ibD];have aB:Fr [] fy eT:=ibD▸Fr.drew _ _;have bL:=bI.tr0 aB;have bK:=bk.Jb aB;have eQ:=aB.size)
 have ah:=ah.tr aB ak;have aH:=aH.tr aB ak;have aN:=aN.keep aB ap
 ((refine Jp 0 (And.intro trivial aH) ?_);(refine Jp 1 (And.intro trivial aH) ?_);(refine Jp 2 (And.intro trivial aH) ?_))
 refine y7 ?_;have hz:=aN.sz2 (fun b hb=>SV (fA b hb) ab);have jB:=aN.2.1.lt;refine aT ((Jhd f' ab) bd p n _ _ _ _ bL h8) rfl ?_;rintro _ gl ⟨_,rfl,hd,dX,aK⟩;obtain⟨ao5,c5,rfl,vB⟩:=DR.slice hd;refine⟨_,rfl,?_⟩;have cj:=bK.trans aK aX;have fN:=aK.size;have ah:=ah.tr aK ak;have aH:=aH.tr aK ak;have aN:=aN.keep aK (fun b hb=>.inl (dU b hb));refine YJ ?_;refine QO rfl rfl (fun jv ho aL ia=>?_);have et:=dX.tr0 aL;have cn:=cj.Jb aL;have ah:=ah.tr aL ak;have aH:=aH.tr aL ak;have aN:=aN.keep aL ap;have hd:=DR.tr0 hd aL;refine AQ ?_;refine V7 aN.2.1 (fun _=>rfl) rfl rfl ho.src (a:=(t.text,bs,e)) (by show RD _ _ (JD (bs.map aA)) _;rw[JD,e8];exact .cons hd .nil) (fun b hb=>.inl (Jk.2 (hb.elim (jB b) (hz b)))) dt ab (aN.sz2 (fun b hb=>SV (fA b hb) ab)) (fun v' kJ eP aR zf=>?_);have lK:=LS.ge aN.2.1 (w0:=w) (fun b hb=>SA _ (kC b hb));have fu:=et.tr aR (fun k hk=>CG dx (lK k hk));have fe:=cn.trans aR (fun k hk=>.inr (lK k hk));have ko:=aR.size;have aH:=aH.tr aR (fun h=>aN.2.1.2 _ h (SA _ nD));have ah:=ah.tr aR (fun h=>aN.2.1.2 _ h (SA _ YT));have aN:=aN.Jha eP aR zf;have jI:=eP.1.one;refine tH ?_
 ((refine Jp 6 (And.intro trivial aH) ?_))
 refine xd ?_
 ((with_reducible apply Ji);exact rfl;(conv=>lhs;whnf);exact jI;exact aH;exact rfl)
 intro nV aH bf my;replace aH:aG nV a [iV 8,zT,zI,v1,v',v3,iV at_] 95:=aH;have gT:=fu.tr bf aZ;have gP:=fe.trans bf (fun x hx=>.inr bt);have ah:=ah.tr bf ak;have aN:=aN.keep bf (Je nD);refine kE ?_;refine rx ?_;clear jI;obtain⟨v2,fl⟩:=aP v';rw[<-fl]at aH aN;clear eP fl;refine Jg (JL gT h9) ?_;rintro nW ⟨iM,bp⟩;have ie:=gP.trans bp aX;have mz:=bp.size;have ah:=ah.tr bp ak;have aH:=aH.tr bp ak;have aN:=aN.keep bp (fun b hb=>.inl (dU b hb));refine rx ?_;obtain⟨nP,c3,rfl⟩:=aN.2.2.slice;have rY:(e0::acc.map fun y=>y.2.2).length=acc.length+1:=by simp
 ((refine Kr 7 (fun z=>True/\aG z a [iV 8,zT,zI,v1,v2,.slice nP (e0::acc.map fun y=>y.2.2).length c3,iV at_] 95) az rfl ?_);obtain⟨pd,ibE⟩:=aP nW.drew;rw[<-ibE];have bu:Fr [] nW pd:=ibE▸Fr.drew _ _;have jh:=iM.tr0 bu;have iI:=ie.Jb bu;have nH:=bu.size)
 have ah:=ah.tr bu ak;have aH:=aH.tr bu ak;have aN:=aN.keep bu ap
 ((refine Jp 0 (And.intro trivial aH) ?_);(refine Jp 1 (And.intro trivial aH) ?_);(refine Jp 2 (And.intro trivial aH) ?_))
 refine y7 ?_;have hz:=aN.sz3 (fun b hb=>SV (fA b hb) ab);have jB:=aN.2.2.lt;refine Jl ((ih f' ab) bd p n _ _ _ _ jh ez) ?_;rintro cs qL ⟨hd,ku,bT⟩;have jq:=iI.trans bT aX;have pG:=bT.size;have hl:cs.length=7:=by rw[hd.len,Jq]
 have ah:=ah.tr bT ak;have aH:=aH.tr bT ak;have aN:=aN.keep bT (fun b hb=>.inl (dU b hb));refine YJ ?_;refine JQ rfl hl rfl (fun xP k5 ml ho cU sK=>?_);have nf:=ku.tr0 cU;have li:=jq.Jb cU;have ah:=ah.tr cU ak;have aH:=aH.tr cU ak;have aN:=aN.keep cU ap;have hd:=RD.tr0 hd cU;refine AQ ?_;refine V7 aN.2.2 Jq rfl rfl ho.src (a:=e) hd (fun b hb=>.inl (Jk.2 (hb.elim (jB b) (hz b)))) dt ab (aN.sz3 (fun b hb=>SV (fA b hb) ab)) (fun v' xi eP ew ibF=>?_);have qi:=LS.ge aN.2.2 (w0:=w) (fun b hb=>SA _ (kC b hb));have lW:=nf.tr ew (fun k hk=>CG dx (qi k hk));have lj:=li.trans ew (fun k hk=>.inr (qi k hk));have uN:=ew.size;have aH:=aH.tr ew (fun h=>aN.2.2.2 _ h (SA _ nD));have ah:=ah.tr ew (fun h=>aN.2.2.2 _ h (SA _ YT));have aN:=aN.JjZ eP ew ibF;have jI:=eP.1.one;refine tH ?_
 ((refine Jp 6 (And.intro trivial aH) ?_))
 refine xd ?_
 ((with_reducible apply Ji);exact rfl;(conv=>lhs;whnf);exact jI;exact aH;exact rfl)
 intro xQ aH ey uP;replace aH:aG xQ a [iV 8,zT,zI,v1,v2,v',iV at_] 95:=aH;have oW:=lW.tr ey aZ;have mA:=lj.trans ey (fun x hx=>.inr bt);have ah:=ah.tr ey ak;have aN:=aN.keep ey (Je nD);refine kE ?_;refine rx ?_;refine Jg (J8 [59] p n _ _ oW) ?_;rintro w22 ⟨ieh,jy⟩;have xS:=mA.trans jy aX;have xR:=jy.size;have ah:=ah.tr jy ak;have aH:=aH.tr jy ak;have aN:=aN.keep jy (fun b hb=>.inl (dU b hb));refine rx ?_;obtain⟨z1,z2⟩:=Xg (go:=Ba n) bZ fw;have e3:(e0::(acc++[(t.text,bs,e)]).map fun y=>y.2.2)=e0::acc.map (fun y=>y.2.2)++[e]:=by simp
 exact Jc (f',acc++[(t.text,bs,e)],Jz (bg [59] r9) r9,bg [59] r9) la ⟨rfl,by simp only;omega,ieh,xS,by omega,by simp only[Sm,SI,SY];omega,z1,z2,ah,_,_,_,aH,by simp only[e3];exact aN⟩ (by cases bg [59] r9<;>simp<;>omega)
theorem Ji2(f:Nat)(hf:f<=1000000)(ih:∀f'≤f,PC 125 [] (fun n=>J5 n f') aU)(ihl:PC 166 [iV 1] (fun n=>Xp n f) aU):PC 125 [] (fun n=>J5 n (f+1)) aU:=by
 intro bd p n r w x r' hP hg;simp only[J5]at hg;have wS:=ih f (SX _);refine enter func125 rfl ntmps125 rfl ?_;refine rx ?_;refine Jm (l:=[zI,zT,zI,zS,zS,zS,zI]) rfl (fun w0 q gz ah gL mF=>?_);have eH:=hP.tr0 gL;have eG:Fr [p] w w0:=gL.mono ap;have dx:bd<=w.heap.size:=hP.le;have lV:p<w.heap.size:=SV hP.lt dx;refine rx ?_;refine Jg (tL p n _ _ eH) ?_;rintro w1 aj;have gj:=eH.tr0 aj;have ej:=eG.Jb aj;have bh:=aj.size;have ah:=ah.tr aj ak;refine rx ?_;refine Jg (J8 [105,102] p n _ _ gj) ?_;rintro w2 ⟨dZ,aq⟩;have aS:=ej.trans aq aX;have cz:=aq.size;have ah:=ah.tr aq ak;cases h1:bg [105,102] r with
 |true=>
  simp only[h1,Jz,CX]at hg dZ;obtain⟨⟨e1,r1⟩,h2,hg⟩:=bind_some hg;obtain⟨r2,h3,hg⟩:=bind_some hg;obtain⟨⟨e2,r3⟩,h4,hg⟩:=bind_some hg;obtain⟨r4,h5,hg⟩:=bind_some hg;obtain⟨⟨e3,r5⟩,h6,hg⟩:=bind_some hg;simp only[Sj,Sz]at hg;obtain⟨rfl,rfl⟩:=hg;refine rx ?_;refine Jl (wS bd p n _ _ _ _ dZ h2) ?_;rintro pz w3 ⟨ep,dK,aF⟩;have aV:=aS.trans aF aX;have dO:=aF.size;have ah:=ah.tr aF ak;have fJ:pz.length=7:=by rw[ep.len,Jq]
  refine KR (l:=[zI,zT,zI,zS,zS,zS,zI]) (cs:=pz) rfl rfl fJ ep.one rfl (fun v=>rfl) (fun w4 a oq aH aI eA=>?_);have dY:=dK.tr0 aI;have bq:=aV.Jb aI;have ah:=ah.tr aI ak;have ep:=RD.keep ep aI ak;refine rx ?_;refine Jg (JL dY h3) ?_;rintro w5 ⟨du,aO⟩;have bX:=bq.trans aO aX;have eV:=aO.size;have ah:=ah.tr aO ak;have aH:=aH.tr aO ak;have ep:=RD.keep ep aO ak;refine rx ?_;refine Jl (wS bd p n _ _ _ _ du h4) ?_;rintro gU w6 ⟨dV,eE,aJ⟩;have bR:=bX.trans aJ aX;have fm:=aJ.size;have ah:=ah.tr aJ ak;have aH:=aH.tr aJ ak;have ep:=RD.keep ep aJ ak;have gH:gU.length=7:=by rw[dV.len,Jq]
  refine KR (l:=[zI,zT,zI,zS,zS,zS,zI]) (cs:=gU) rfl rfl gH dV.one rfl (fun v=>rfl) (fun w7 b R4 ph aQ iF=>?_);have fa:=eE.tr0 aQ;have ed:=bR.Jb aQ;have ah:=ah.tr aQ ak;have aH:=aH.tr aQ ak;have ep:=RD.keep ep aQ ak;have dV:=RD.keep dV aQ ak;refine rx ?_;refine Jg (JL fa h5) ?_;rintro w8 ⟨fc,aM⟩;have dS:=ed.trans aM aX;have fL:=aM.size;have ah:=ah.tr aM ak;have aH:=aH.tr aM ak;have ph:=ph.tr aM ak;have ep:=RD.keep ep aM ak;have dV:=RD.keep dV aM ak;refine rx ?_
  ((refine JE (fun z=>Fr [p,q] w8 z) az rfl ?_);obtain⟨w9,sC⟩:=aP w8.drew;rw[<-sC];have aW:Fr [] w8 w9:=sC▸Fr.drew _ _;have mJ:Fr [p,q] w8 w9:=aW.mono ap;have fx:=fc.tr0 aW;have eL:=dS.Jb aW;have ju:=aW.size)
  refine bH 0 mJ ?_;refine Kw 1 mJ ?_ (aw:=by(intro u hu;exact(Kv rfl (Cells.VO (aH.tr hu ak)) fJ)));refine Kw 2 mJ ?_ (aw:=by(intro u hu;exact(Kv rfl (Cells.VO (ph.tr hu ak)) gH)));refine bH 3 mJ ?_;have ah:=ah.tr aW ak;have ep:=RD.keep ep aW ak;have dV:=RD.keep dV aW ak;refine zw ?_;refine Jl (wS bd p n _ _ _ _ fx h6) ?_;rintro xM fy ⟨kB,bI,aD⟩;have bk:=eL.trans aD aX;have eF:=aD.size;have Az:xM.length=7:=by rw[kB.len,Jq]
  have ah:=ah.tr aD ak;have ep:=RD.keep ep aD ak;have dV:=RD.keep dV aD ak;have je:=mJ.trans aD ap;refine wpList_nil (Jv je ?_);refine zD ?_;refine MP rfl rfl rfl fJ gH Az rfl (fun eT k hk ho aB eQ=>?_);have bL:=bI.tr0 aB;have bK:=bk.Jb aB;have ah:=ah.tr aB ak;have ep:=RD.keep ep aB ak;have dV:=RD.keep dV aB ak;have kB:=RD.keep kB aB ak;have ng:=je.trans aB ap;refine wpList_nil (Jv ng ?_);refine Kw 6 ng ?_ (v:=.agg ([iV 6,zT,zI,zS,zS,.slice (some ⟨k,0,none⟩) 3 3,iV (bj n r)]).toArray) (aw:=by(intro u hu;exact QU ([iV 6,zT,zI,zS,zS,.slice (some ⟨k,0,none⟩) 3 3,iV (bj n r)]) fD));have hd:RD eT (rg w0) (aU ⟨6,aA [],0,[],[],[e1,e2,e3],bj n r⟩) [iV 6,zT,zI,zS,zS,.slice (some ⟨k,0,none⟩) 3 3,iV (bj n r)]:=
   fW.2 ⟨_,_,_,rfl,.nil,.nil,GR (rows:=[aU e1,aU e2,aU e3]) ho (by rw[List.append_assoc];exact .cons (ep.down ab) (.cons (dV.down ab) (.one (kB.down ab)))) (by simp[Jq]) ap y5⟩
  refine Tu ?_;refine Jd (cs:=[iV 6,zT,zI,zS,zS,.slice (some ⟨k,0,none⟩) 3 3,iV (bj n r)]) rfl rfl ah dQ rfl rfl (fun u hu aY cI=>?_);refine wpList_nil (Jv (ng.trans aY ap) ?_);(refine UH az ?_);refine rx ?_;exact Qc rfl rfl hu rfl (QJ (w0:=w0) gz ab ab ab bL bK aY hd)
 |false=>
 simp only[h1,Jz,SS,CW]at hg dZ;refine rx ?_;refine Jg (J8 [108,101,116] p n _ _ dZ) ?_;rintro w3 ⟨dK,aF⟩;have aV:=aS.trans aF aX;have dO:=aF.size;have ah:=ah.tr aF ak;cases h2:bg [108,101,116] r with
 |true=>
  simp only[h2,Jz,CX]at hg dK;obtain⟨⟨t,r1⟩,h3,hg⟩:=bind_some hg;obtain⟨r2,h4,hg⟩:=bind_some hg;obtain⟨⟨e1,r3⟩,h5,hg⟩:=bind_some hg;obtain⟨r4,h6,hg⟩:=bind_some hg;obtain⟨⟨e2,r5⟩,h7,hg⟩:=bind_some hg;simp only[Sj,Sz]at hg;obtain⟨rfl,rfl⟩:=hg;refine rx ?_;refine Jg (VF dK h3) ?_;rintro w4 ⟨dY,aI⟩;have bq:=aV.trans aI aX;have eA:=aI.size;have ah:=ah.tr aI ak;refine na ?_;refine Jg (JL dY h4) ?_;rintro w5 ⟨du,aO⟩;have bX:=bq.trans aO aX;have eV:=aO.size;have ah:=ah.tr aO ak;refine rx ?_;refine Jl (wS bd p n _ _ _ _ du h5) ?_;rintro pz w6 ⟨ep,eE,aJ⟩;have bR:=bX.trans aJ aX;have fm:=aJ.size;have ah:=ah.tr aJ ak;have fJ:pz.length=7:=by rw[ep.len,Jq]
  refine KR (l:=[zI,zT,zI,zS,zS,zS,zI]) (cs:=pz) rfl rfl fJ ep.one rfl (fun v=>rfl) (fun w7 a oq aH aQ iF=>?_);have fa:=eE.tr0 aQ;have ed:=bR.Jb aQ;have ah:=ah.tr aQ ak;have ep:=RD.keep ep aQ ak;refine rx ?_;refine Jg (JL fa h6) ?_;rintro w8 ⟨fc,aM⟩;have dS:=ed.trans aM aX;have fL:=aM.size;have ah:=ah.tr aM ak;have aH:=aH.tr aM ak;have ep:=RD.keep ep aM ak;refine rx ?_
  ((refine JE (fun z=>Fr [p,q] w8 z) az rfl ?_);obtain⟨w9,sC⟩:=aP w8.drew;rw[<-sC];have aW:Fr [] w8 w9:=sC▸Fr.drew _ _;have mJ:Fr [p,q] w8 w9:=aW.mono ap;have fx:=fc.tr0 aW;have eL:=dS.Jb aW;have ju:=aW.size)
  refine JX 0 1 mJ ?_;refine Kw 2 mJ ?_ (aw:=by(intro u hu;exact(Kv rfl (Cells.VO (aH.tr hu ak)) fJ)));refine bH 3 mJ ?_;have ah:=ah.tr aW ak;have ep:=RD.keep ep aW ak;refine zw ?_;refine Jl (wS bd p n _ _ _ _ fx h7) ?_;rintro gU fy ⟨dV,bI,aD⟩;have bk:=eL.trans aD aX;have eF:=aD.size;have gH:gU.length=7:=by rw[dV.len,Jq]
  have ah:=ah.tr aD ak;have ep:=RD.keep ep aD ak;have je:=mJ.trans aD ap;refine wpList_nil (Jv je ?_);refine zD ?_;refine Xj rfl rfl fJ gH rfl (fun eT k hk ho aB eQ=>?_);have bL:=bI.tr0 aB;have bK:=bk.Jb aB;have ah:=ah.tr aB ak;have ep:=RD.keep ep aB ak;have dV:=RD.keep dV aB ak;have ng:=je.trans aB ap;refine wpList_nil (Jv ng ?_);refine Kw 6 ng ?_ (v:=.agg ([iV 7,.string (aA t.text),zI,zS,zS,.slice (some ⟨k,0,none⟩) 2 2,iV (bj n r)]).toArray) (aw:=by(intro u hu;exact QU ([iV 7,.string (aA t.text),zI,zS,zS,.slice (some ⟨k,0,none⟩) 2 2,iV (bj n r)]) fD));have hd:RD eT (rg w0) (aU ⟨7,aA t.text,0,[],[],[e1,e2],bj n r⟩) [iV 7,.string (aA t.text),zI,zS,zS,.slice (some ⟨k,0,none⟩) 2 2,iV (bj n r)]:=
   fW.2 ⟨_,_,_,rfl,.nil,.nil,GR (rows:=[aU e1,aU e2]) ho (.cons (ep.down ab) (.one (dV.down ab))) (by simp[Jq]) ap y5⟩
  refine Tu ?_;refine Jd (cs:=[iV 7,.string (aA t.text),zI,zS,zS,.slice (some ⟨k,0,none⟩) 2 2,iV (bj n r)]) rfl rfl ah dQ rfl rfl (fun u hu aY cI=>?_);refine wpList_nil (Jv (ng.trans aY ap) ?_);(refine UH az ?_);refine rx ?_;exact Qc rfl rfl hu rfl (QJ (w0:=w0) gz ab ab ab bL bK aY hd)
 |false=>
 simp only[h2,Jz,SS,CW]at hg dK;refine rx ?_;refine Jg (J8 [109,97,116,99,104] p n _ _ dK) ?_;rintro w4 ⟨dY,aI⟩;have bq:=aV.trans aI aX;have eA:=aI.size;have ah:=ah.tr aI ak;cases h3:bg [109,97,116,99,104] r with
 |true=>
  simp only[h3,Jz,CX]at hg dY;have h4:JaV (bj n r) f n r.tail=some (x,r'):=hg;refine rx ?_;refine Jl ((Jhe (bj n r) f hf ih) bd p n _ _ _ _ dY h4) ?_;rintro cs w5 ⟨hd,du,aO⟩;have bX:=bq.trans aO aX;have eV:=aO.size;have ah:=ah.tr aO ak;have hl:cs.length=7:=by rw[hd.len,Jq]
  refine Jd (cs:=cs) rfl rfl ah hd.one rfl hl (fun u hu aY cI=>?_);refine rx ?_;exact Qc rfl rfl hu hl (QJ (w0:=w0) gz ab ab ab du bX aY (hd.down ab))
 |false=>
 simp only[h3,Jz,SS,CW]at hg dY;refine rx ?_;refine Jl (ihl bd p n _ _ _ _ dY hg) ?_;rintro cs w5 ⟨hd,du,aO⟩;have bX:=bq.trans aO aX;have eV:=aO.size;have ah:=ah.tr aO ak;have hl:cs.length=7:=by rw[hd.len,Jq]
 refine Jd (cs:=cs) rfl rfl ah hd.one rfl hl (fun u hu aY cI=>?_);refine rx ?_;exact Qc rfl rfl hu hl (QJ (w0:=w0) gz ab ab ab du bX aY (hd.down ab))
structure ExI (f:Nat):Prop where
 expr:PC 125 [] (fun n=>J5 n f) aU
 lev:∀k:Nat,1<=k->k<=7->PC 166 [iV (k:Int)] (fun n=>Uu k n f) aU
 JbX:PC 210 [] (fun n=>Vj n f) aU
 exprs:∀e,PL 208 [.string (aA e)] (fun n=>Q8 n f e) (fun l=>l.map aU)
theorem JkV:ExI 0 where
 expr:=fun bd p n r w x r' hP hg=>by simp[J5]at hg
 lev:=fun k h1 h7 bd p n r w x r' hP hg=>by
  have hk:k=1\/k=2\/k=3\/k=4\/k=5\/k=6\/k=7:=by omega
  rcases hk with rfl|rfl|rfl|rfl|rfl|rfl|rfl<;>simp[Uu,Xp,VZ,Q7,Xo,VL,VD,Vj]at hg
 JbX:=fun bd p n r w x r' hP hg=>by simp[Vj]at hg
 exprs:=fun e bd p n r w x r' hP hg=>by simp[Q8]at hg
theorem JkU(f:Nat)(hf:f+1<=1000000)(ih:∀f'≤f,ExI f'):ExI (f+1):=by
 have ho:=JiY f (ih f (SX _)).expr (ih f (SX _)).exprs;refine⟨Ji2 f ab (fun f' h=>(ih f' h).expr) ((ih f (SX _)).lev 1 ab ab),fun k h1 h7=>?_,ho,fun e=>Jhg f hf (fun f' h=>(ih f' ab).expr) e⟩;have hk:k=1\/k=2\/k=3\/k=4\/k=5\/k=6\/k=7:=by omega
 rcases hk with rfl|rfl|rfl|rfl|rfl|rfl|rfl
 .exact JdL 1 ab f (fun f' h=>(ih f' h).lev 2 ab ab)
 .exact JdL 2 ab f (fun f' h=>(ih f' h).lev 3 ab ab)
 .exact Ji1 f ((ih f (SX _)).lev 3 ab ab) ((ih f (SX _)).lev 4 ab ab)
 .exact JiZ f ((ih f (SX _)).lev 5 ab ab)
 .exact JdL 5 ab f (fun f' h=>(ih f' h).lev 6 ab ab)
 .exact JdL 6 ab f (fun f' h=>(ih f' h).lev 7 ab ab)
 .exact Ji0 (f+1) ho
theorem sG:∀f,f<=1000000->ExI f:=by
 intro f
 induction f using Nat.strongRecOn with
 |_ f ih=>
  intro hf;cases f with
  |zero=>exact JkV
  |succ f=>exact JkU f hf (fun f' h=>ih f' ab ab)
theorem Jj5(f:Nat)(hf:f<=1000000)(AX:PC 124 [] (fun n=>ZY n f) eX)(ihp:PC 164 [] (fun n=>Zh n f) eX):PC 124 [] (fun n=>ZY n (f+1)) eX:=by
 intro bd p n r w x r' hP hg;simp only[ZY]at hg;refine enter func124 rfl ntmps124 rfl ?_;refine rx ?_;refine Jm (l:=[zI,zT,zS,zS,zS,zI]) rfl (fun w0 q gz ah gL mF=>?_);have eH:=hP.tr0 gL;have eG:Fr [p] w w0:=gL.mono ap;have dx:bd<=w.heap.size:=hP.le;have lV:p<w.heap.size:=SV hP.lt dx;refine rx ?_;refine Jg (tL p n _ _ eH) ?_;rintro w1 aj;have gj:=eH.tr0 aj;have ej:=eG.Jb aj;have bh:=aj.size;have ah:=ah.tr aj ak;refine rx ?_;refine Jg (J8 [108,101,116] p n _ _ gj) ?_;rintro w2 ⟨dZ,aq⟩;have aS:=ej.trans aq aX;have cz:=aq.size;have ah:=ah.tr aq ak;cases h1:bg [108,101,116] r with
 |true=>
  simp only[h1,Jz,CX]at hg dZ;obtain⟨⟨t,r1⟩,h3,hg⟩:=bind_some hg;obtain⟨r2,h4,hg⟩:=bind_some hg;obtain⟨⟨e1,r3⟩,h5,hg⟩:=bind_some hg;obtain⟨r4,h6,hg⟩:=bind_some hg;obtain⟨⟨e2,r5⟩,h7,hg⟩:=bind_some hg;simp only[Sj,Sz]at hg;obtain⟨rfl,rfl⟩:=hg;refine rx ?_;refine Jg (VF dZ h3) ?_;rintro w4 ⟨dY,aI⟩;have bq:=aS.trans aI aX;have eA:=aI.size;have ah:=ah.tr aI ak;refine na ?_;refine Jg (JL dY h4) ?_;rintro w5 ⟨du,aO⟩;have bX:=bq.trans aO aX;have eV:=aO.size;have ah:=ah.tr aO ak;refine rx ?_;refine Jl (AX bd p n _ _ _ _ du h5) ?_;rintro pz w6 ⟨ep,eE,aJ⟩;have bR:=bX.trans aJ aX;have fm:=aJ.size;have ah:=ah.tr aJ ak;have fJ:pz.length=6:=by rw[ep.len,KG]
  refine KR (l:=[zI,zT,zS,zS,zS,zI]) (cs:=pz) rfl rfl fJ ep.one rfl (fun v=>rfl) (fun w7 a oq aH aQ iF=>?_);have fa:=eE.tr0 aQ;have ed:=bR.Jb aQ;have ah:=ah.tr aQ ak;have ep:=RD.keep ep aQ ak;refine rx ?_;refine Jg (JL fa h6) ?_;rintro w8 ⟨fc,aM⟩;have dS:=ed.trans aM aX;have fL:=aM.size;have ah:=ah.tr aM ak;have aH:=aH.tr aM ak;have ep:=RD.keep ep aM ak;refine rx ?_
  ((refine JE (fun z=>Fr [p,q] w8 z) az rfl ?_);obtain⟨w9,sC⟩:=aP w8.drew;rw[<-sC];have aW:Fr [] w8 w9:=sC▸Fr.drew _ _;have mJ:Fr [p,q] w8 w9:=aW.mono ap;have fx:=fc.tr0 aW;have eL:=dS.Jb aW;have ju:=aW.size)
  refine JX 0 1 mJ ?_;refine Kw 2 mJ ?_ (aw:=by(intro u hu;exact(Kv rfl (Cells.VO (aH.tr hu ak)) fJ)));refine bH 3 mJ ?_;have ah:=ah.tr aW ak;have ep:=RD.keep ep aW ak;refine zw ?_;refine Jl (AX bd p n _ _ _ _ fx h7) ?_;rintro gU fy ⟨dV,bI,aD⟩;have bk:=eL.trans aD aX;have eF:=aD.size;have gH:gU.length=6:=by rw[dV.len,KG]
  have ah:=ah.tr aD ak;have ep:=RD.keep ep aD ak;have je:=mJ.trans aD ap;refine wpList_nil (Jv je ?_);refine zD ?_;refine Xj rfl rfl fJ gH rfl (fun eT k hk ho aB eQ=>?_);have bL:=bI.tr0 aB;have bK:=bk.Jb aB;have ah:=ah.tr aB ak;have ep:=RD.keep ep aB ak;have dV:=RD.keep dV aB ak;have ng:=je.trans aB ap;refine wpList_nil (Jv ng ?_);refine Kw 6 ng ?_ (v:=.agg ([iV 5,.string (aA t.text),zS,zS,.slice (some ⟨k,0,none⟩) 2 2,iV (bj n r)]).toArray) (aw:=by(intro u hu;exact QU ([iV 5,.string (aA t.text),zS,zS,.slice (some ⟨k,0,none⟩) 2 2,iV (bj n r)]) fD));have hd:RD eT (rg w0) (eX ⟨5,aA t.text,[],[],[e1,e2],bj n r⟩) [iV 5,.string (aA t.text),zS,zS,.slice (some ⟨k,0,none⟩) 2 2,iV (bj n r)]:=
   me.2 ⟨_,_,_,rfl,.nil,.nil,GR (rows:=[eX e1,eX e2]) ho (.cons (ep.down ab) (.one (dV.down ab))) (by simp[KG]) ap y5⟩
  refine Tu ?_;refine Jd (cs:=[iV 5,.string (aA t.text),zS,zS,.slice (some ⟨k,0,none⟩) 2 2,iV (bj n r)]) rfl rfl ah dQ rfl rfl (fun u hu aY cI=>?_);refine wpList_nil (Jv (ng.trans aY ap) ?_);(refine UH az ?_);refine rx ?_;exact Qc rfl rfl hu rfl (QJ (w0:=w0) gz ab ab ab bL bK aY hd)
 |false=>
 simp only[h1,Jz,SS,CW]at hg dZ;obtain⟨⟨g1,r1⟩,h2,hg⟩:=bind_some hg;simp only at hg;refine rx ?_;refine Jl (ihp bd p n _ _ _ _ dZ h2) ?_;rintro cs w3 ⟨hd,dK,aF⟩;have aV:=aS.trans aF aX;have dO:=aF.size;have ah:=ah.tr aF ak;have hl:cs.length=6:=by rw[hd.len,KG]
 refine KR (l:=[zI,zT,zS,zS,zS,zI]) (cs:=cs) rfl rfl hl hd.one rfl (fun v=>rfl) (fun w4 a oq aH aI eA=>?_);have dY:=dK.tr0 aI;have bq:=aV.Jb aI;have hd:=hd.tell (Y:=a::rg w2) (KU ab) aI;have ah:=ah.tr aI ak;refine rx ?_;refine Jh 8 [7] (σ:=Nat×Gn×List Tk) (fun s g u=>s.1<=f/\PS bd u p n s.2.2/\Fr [p] w u/\w4.heap.size<=u.heap.size/\aG u q [zI,zT,zS,zS,zS,zI] 98/\(∃cs,aG u a cs 98/\RD u (a::rg w2) (eX s.2.1) cs)/\Zg n s.1 (bj n r) s.2.1 s.2.2=some (x,r')) (fun s=>s.1) (f,g1,r1) ⟨SX _,dY,bq,SX _,ah,⟨cs,aH,hd⟩,hg⟩ ?_;clear hP eH gj dZ dK dY eG ej aS aV bq hd aH ah hl;rintro⟨f',e,r2⟩ g w5 ⟨kP,du,bX,eV,ah,⟨cs,aH,hd⟩,gb⟩;simp only at kP du bX eV ah aH hd gb;have hl:cs.length=6:=by rw[hd.len,KG]
 cases f' with
 |zero=>simp[Zg]at gb
 |succ f'=>
 simp only[Zg]at gb;have nD:a∈a::rg w2:=by simp
 have dU:∀b∈[p],b∈a::rg w2\/0<=b:=by simp
 have dU:p∈a::rg w2:=by simp[Jk];omega
 refine rx ?_;refine Jg (J8 [119,104,101,114,101] p n _ _ du) ?_;rintro w6 ⟨eE,aJ⟩;have bR:=bX.trans aJ aX;have fm:=aJ.size;have ah:=ah.tr aJ ak;have aH:=aH.tr aJ ak;have hd:=hd.old aJ (Je dU);cases h3:bg [119,104,101,114,101] r2 with
 |false=>
  simp only[h3,Jz,SS,CW,Sj,Sz]at gb eE;obtain⟨rfl,rfl⟩:=gb;refine rx ?_;refine KE rfl aH hl ?_;refine Jd (cs:=cs) rfl rfl ah hd.one rfl hl (fun u hu aY cI=>?_);refine rx ?_;exact Qc rfl rfl hu hl (QJ (w0:=w0) gz ab ab ab eE bR aY ((hd.mono (T:=rg w2) (fun b hb=>.inl lr)).down ab))
 |true=>
 simp only[h3,Jz,CX]at gb eE;obtain⟨⟨t,r3⟩,h4,gb⟩:=bind_some gb;obtain⟨r4,h5,gb⟩:=bind_some gb;obtain⟨⟨e2,r5⟩,h6,gb⟩:=bind_some gb;simp only at gb;refine rx ?_;refine Jg (VF eE h4) ?_;rintro w7 ⟨fa,aQ⟩;have ed:=bR.trans aQ aX;have iF:=aQ.size;have ah:=ah.tr aQ ak;have aH:=aH.tr aQ ak;have hd:=hd.old aQ (Je dU);refine na ?_;refine Jg (JL fa h5) ?_;rintro w8 ⟨fc,aM⟩;have dS:=ed.trans aM aX;have fL:=aM.size;have ah:=ah.tr aM ak;have aH:=aH.tr aM ak;have hd:=hd.old aM (Je dU);refine rx ?_
 ((refine Kr 8 (fun z=>True/\aG z a cs 98) az rfl ?_);obtain⟨w9,sC⟩:=aP w8.drew;rw[<-sC];have aW:Fr [] w8 w9:=sC▸Fr.drew _ _;have fx:=fc.tr0 aW;have eL:=dS.Jb aW;have ju:=aW.size)
 have ah:=ah.tr aW ak;have aH:=aH.tr aW ak;have hd:=hd.tr0 aW
 ((refine Jp 0 (And.intro trivial aH) ?_);(refine Jp 1 (And.intro trivial aH) ?_);(refine Jp 2 (And.intro trivial aH) ?_))
 refine Jp 5 (And.intro trivial aH) ?_ (aw:=(by intro u hu;exact(Kv rfl (Cells.VO hu.2) hl)));refine Jh2 (i:=3) (j:=6) rfl rfl az ?_ ?_
 . (refine Jl ((sG f' ab).expr bd p n _ _ _ _ fx h6) ?_;rintro gU fy ⟨dV,bI,aD⟩;have bk:=eL.trans aD aX;have eF:=aD.size)
   have gH:gU.length=7:=by rw[dV.len,Jq]
   have ah:=ah.tr aD ak;have aH:=aH.tr aD ak;have hd:=hd.old aD (Je dU);refine tH ?_;refine Jh2 (i:=4) (j:=6) rfl rfl az ?_ ?_
   .refine JQ rfl gH rfl (fun eT k4 pU jA aB eQ=>?_);have bL:=bI.tr0 aB;have bK:=bk.Jb aB;have ah:=ah.tr aB ak;have aH:=aH.tr aB ak;have hd:=hd.tr0 aB;have dV:=dV.tr0 aB;refine Yft ?_;refine JQ rfl hl rfl (fun gl k6 PA tA aK fN=>?_);have dX:=bL.tr0 aK;have cj:=bK.Jb aK;have ah:=ah.tr aK ak;have aH:=aH.tr aK ak;have hd:=hd.tr0 aK;have dV:=dV.tr0 aK;have jA:=jA.tr0 aK;exact Yk
   .refine JQ rfl hl rfl (fun eT k6 PA tA aB eQ=>?_);have bL:=bI.tr0 aB;have bK:=bk.Jb aB;have ah:=ah.tr aB ak;have aH:=aH.tr aB ak;have hd:=hd.tr0 aB;have dV:=dV.tr0 aB;exact Ydx
 .refine JQ rfl hl rfl (fun fy k6 PA tA aD eF=>?_);have bI:=fx.tr0 aD;have bk:=eL.Jb aD;have ah:=ah.tr aD ak;have aH:=aH.tr aD ak;have hd:=hd.tr0 aD;refine tH ?_;refine y7 ?_;refine Jl ((sG f' ab).expr bd p n _ _ _ _ bI h6) ?_;rintro gU eT ⟨dV,bL,aB⟩;have bK:=bk.trans aB aX;have eQ:=aB.size;have gH:gU.length=7:=by rw[dV.len,Jq]
  have ah:=ah.tr aB ak;have aH:=aH.tr aB ak;have hd:=hd.old aB (Je dU);have tA:=tA.tr aB Φ;exact Ydx
end Go.Proofs.YtggmccicdhnkgaaGreat
