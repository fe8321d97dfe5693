/-
 The reference's parser:constructors.
-/
import Derived.Test.YtggmccicdhnkgaaGreatVQs
set_option linter.all false
set_option maxHeartbeats 64000000
namespace Go.Proofs.YtggmccicdhnkgaaGreat
open Go.Proofs.Tryz
open Go.Rf Go.RowKit
attribute [local irreducible] Code.wp wpList Exit.then Exit.inBlock bodyPost A Calls execOp Addr.add
theorem Ji8{n:Int}{f:Nat}{x:Gn}{acc l l':List Gn}{b:Bool}{r3 r1:List Tk}(bZ:(if b=true then(Zl n f r3.tail).bind fun y=>some (x::y.1,y.2) else(JB [41] r3).bind fun r2=>some ([x],r2))=some (l',r1))(fw:acc++l'=l):
 (b=true->∃l',Zl n f r3.tail=some (l',r1)/\(acc++[x])++l'=l)/\(b=false->acc++[x]=l/\JB [41] r3=some r1):=by
 cases b with
 |true=>
  refine⟨fun _=>?_,fun h=>by cases h⟩;rw[Cb rfl]at bZ;obtain⟨⟨l2,r4⟩,h1,h2⟩:=bind_some bZ;simp only[Sj,Sz]at h2;obtain⟨rfl,rfl⟩:=h2;exact⟨l2,h1,by rw[<-fw];simp⟩
 |false=>
  refine⟨fun h=>mi,fun _=>?_⟩;rw[SH ap]at bZ;obtain⟨r4,h1,h2⟩:=bind_some bZ;simp only[Sj,Sz]at h2;obtain⟨rfl,rfl⟩:=h2;exact⟨fw,h1⟩
abbrev Wg:=Int×Gn
theorem JiW(f:Nat)(hf:f<=1000000)(AX:∀f'≤f,PC 124 [] (fun n=>ZY n f') eX)(ihp:PC 164 [] (fun n=>Zh n f) eX):PC 164 [] (fun n=>Zh n (f+1)) eX:=by
 intro bd p n r w x r' hP hg;simp only[Zh]at hg;have wS:=(sG f hf).expr;refine enter func164 rfl ntmps164 rfl ?_;refine rx ?_;refine Jm (l:=[zI,zT,zS,zS,zS,zI]) rfl (fun w0 q gz ah gL mF=>?_);have eH:=hP.tr0 gL;have eG:Fr [p] w w0:=gL.mono ap;have dx:bd<=w.heap.size:=hP.le;have lV:p<w.heap.size:=SV hP.lt dx;refine rx ?_;refine Jg (tL p n _ _ eH) ?_;rintro w1 aj;have gj:=eH.tr0 aj;have ej:=eG.Jb aj;have bh:=aj.size;have ah:=ah.tr aj ak;refine rx ?_;refine Jg (J8 [114,101,116,117,114,110] p n _ _ gj) ?_;rintro w2 ⟨dZ,aq⟩;have aS:=ej.trans aq aX;have cz:=aq.size;have ah:=ah.tr aq ak;cases h1:bg [114,101,116,117,114,110] r with
 |true=>
  simp only[h1,Jz,CX]at hg dZ;obtain⟨⟨e,r1⟩,h2,hg⟩:=bind_some hg;simp only[Sj,Sz]at hg;obtain⟨rfl,rfl⟩:=hg;refine rx ?_;refine Jl (wS bd p n _ _ _ _ dZ h2) ?_;rintro cs w3 ⟨hd,dK,aF⟩;have aV:=aS.trans aF aX;have dO:=aF.size;have ah:=ah.tr aF ak;have hl:cs.length=7:=by rw[hd.len,Jq]
  refine JQ rfl hl rfl (fun w4 k hk ho aI eA=>?_);have dY:=dK.tr0 aI;have bq:=aV.Jb aI;have ah:=ah.tr aI ak;have hd:=RD.keep hd aI ak;refine rx ?_;refine JF [zI,zT,zS,.slice (some ⟨k,0,none⟩) 1 1,zS,iV (bj n r)] rfl ?_;refine rx ?_;refine Jd (cs:=[zI,zT,zS,.slice (some ⟨k,0,none⟩) 1 1,zS,iV (bj n r)]) rfl rfl ah dQ rfl rfl (fun u hu aY cI=>?_);refine rx ?_;exact Qc rfl rfl hu rfl (QJ (w0:=w0) gz ab ab ab dY bq aY (me.2 ⟨_,_,_,rfl,.nil,Jgr ho (hd.down ab) Φ,.nil⟩))
 |false=>
 simp only[h1,Jz,SS,CW]at hg dZ;refine rx ?_;refine Jg (J8 [112,105,99,107] p n _ _ dZ) ?_;rintro w3 ⟨dK,aF⟩;have aV:=aS.trans aF aX;have dO:=aF.size;have ah:=ah.tr aF ak;cases h2:bg [112,105,99,107] r with
 |true=>
  simp only[h2,Jz,CX]at hg dK;obtain⟨⟨l,r1⟩,h3,hg⟩:=bind_some hg;simp only[Sj,Sz]at hg;obtain⟨rfl,rfl⟩:=hg;refine rx ?_;refine aT ((JbW f wS) bd p n _ _ _ _ dK h3) rfl ?_;rintro _ w4 ⟨_,rfl,hd,dY,aI⟩;obtain⟨ek,c1,rfl,gI⟩:=DR.slice hd;refine⟨_,rfl,?_⟩;have bq:=aV.trans aI aX;have eA:=aI.size;have ah:=ah.tr aI ak;refine rx ?_;refine JF [iV 1,zT,zS,.slice ek (l.map aU).length c1,zS,iV (bj n r)] rfl ?_;refine rx ?_;refine Jd (cs:=[iV 1,zT,zS,.slice ek (l.map aU).length c1,zS,iV (bj n r)]) rfl rfl ah dQ rfl rfl (fun u hu aY cI=>?_);refine rx ?_;exact Qc rfl rfl hu rfl (QJ (w0:=w0) gz ab ab ab dY bq aY (me.2 ⟨_,_,_,rfl,.nil,hd.down ab,.nil⟩))
 |false=>
 simp only[h2,Jz,SS,CW]at hg dK;refine rx ?_;refine Jg (J8 [108,105,115,116] p n _ _ dK) ?_;rintro w4 ⟨dY,aI⟩;have bq:=aV.trans aI aX;have eA:=aI.size;have ah:=ah.tr aI ak;cases h3:bg [108,105,115,116] r with
 |true=>
  simp only[h3,Jz,CX]at hg dY;obtain⟨⟨l,r1⟩,h4,hg⟩:=bind_some hg;obtain⟨r2,h5,hg⟩:=bind_some hg;obtain⟨⟨g1,r3⟩,h6,hg⟩:=bind_some hg;simp only[Sj,Sz]at hg;obtain⟨rfl,rfl⟩:=hg;refine rx ?_;refine aT ((JbW f wS) bd p n _ _ _ _ dY h4) rfl ?_;rintro _ w5 ⟨_,rfl,hd,du,aO⟩;obtain⟨ek,c1,rfl,gI⟩:=DR.slice hd;refine⟨_,rfl,?_⟩;have bX:=bq.trans aO aX;have eV:=aO.size;have ah:=ah.tr aO ak;refine rx ?_;refine JF [iV 3,zT,zS,.slice ek (l.map aU).length c1,zS,iV (bj n r)] rfl ?_;refine KR (l:=[zI,zT,zS,zS,zS,zI]) (cs:=[iV 3,zT,zS,.slice ek (l.map aU).length c1,zS,iV (bj n r)]) rfl rfl rfl dQ rfl (fun v=>rfl) (fun w6 a oq aH aJ fm=>?_);have eE:=du.tr0 aJ;have bR:=bX.Jb aJ;have ah:=ah.tr aJ ak;have hd:=hd.tell (Y:=a::rg w4) (KU ab) aJ;have dU:p∈a::rg w4:=by simp[Jk];omega
  refine rx ?_;refine Jg (JL eE h5) ?_;rintro w7 ⟨fa,aQ⟩;have ed:=bR.trans aQ aX;have iF:=aQ.size;have ah:=ah.tr aQ ak;have aH:=aH.tr aQ ak;have hd:=hd.old aQ (Je dU);refine rx ?_;refine Jl (ihp bd p n _ _ _ _ fa h6) ?_;rintro cs w8 ⟨dV,fc,aM⟩;have dS:=ed.trans aM aX;have fL:=aM.size;have ah:=ah.tr aM ak;have aH:=aH.tr aM ak;have hd:=hd.old aM (Je dU);have hl:cs.length=6:=by rw[dV.len,KG]
  refine JQ rfl hl rfl (fun w9 k hk ho aW ju=>?_);have fx:=fc.tr0 aW;have eL:=dS.Jb aW;have ah:=ah.tr aW ak;have aH:=aH.tr aW ak;have hd:=hd.tr0 aW;have dV:=dV.tr0 aW;have cu:DR w9 (a::rg w0) (.l [eX g1]) (.slice (some ⟨k,0,none⟩) 1 1):=GR ho (.one (dV.mono (fun b hb=>.inl y0))) (by simp[KG]) ap y5;refine rx ?_
  ((with_reducible apply Ji);exact rfl;(conv=>lhs;whnf);exact rfl;exact aH;exact rfl)
  intro fy aH aD eF;replace aH:aG fy a [iV 3,zT,zS,.slice ek (l.map aU).length c1,.slice (some ⟨k,0,none⟩) 1 1,iV (bj n r)] 98:=aH;have bI:=fx.tr aD aZ;have bk:=eL.trans aD (fun x hx=>.inr bt);have ah:=ah.tr aD ak;have hd:=hd.old aD (Je ap);have cu:=cu.old aD (Je ap);refine rx ?_;refine Jd (cs:=[iV 3,zT,zS,.slice ek (l.map aU).length c1,.slice (some ⟨k,0,none⟩) 1 1,iV (bj n r)]) rfl rfl ah dQ rfl rfl (fun u hu aY cI=>?_);refine rx ?_;exact Qc rfl rfl hu rfl (QJ (w0:=w0) gz ab ab ab bI bk aY (me.2 ⟨_,_,_,rfl,.nil,hd.mono (fun b hb=>.inl y0),cu.mono (fun b hb=>.inl lr)⟩))
 |false=>
 simp only[h3,Jz,SS,CW]at hg dY;refine rx ?_;refine Jg (J8 [40] p n _ _ dY) ?_;rintro w5 ⟨du,aO⟩;have bX:=bq.trans aO aX;have eV:=aO.size;have ah:=ah.tr aO ak;cases h4:bg [40] r with
 |true=>
  simp only[h4,Jz,CX]at hg du;obtain⟨⟨e,r1⟩,h6,hg⟩:=bind_some hg;obtain⟨r2,h7,hg⟩:=bind_some hg;simp only[Sj,Sz]at hg;obtain⟨rfl,rfl⟩:=hg;refine rx ?_;refine Jl ((AX f (SX _)) bd p n _ _ _ _ du h6) ?_;rintro cs w6 ⟨hd,eE,aJ⟩;have bR:=bX.trans aJ aX;have fm:=aJ.size;have ah:=ah.tr aJ ak;have hl:cs.length=6:=by rw[hd.len,KG]
  refine KR (l:=[zI,zT,zS,zS,zS,zI]) (cs:=cs) rfl rfl hl hd.one rfl (fun v=>rfl) (fun w7 a oq aH aQ iF=>?_);have fa:=eE.tr0 aQ;have ed:=bR.Jb aQ;have ah:=ah.tr aQ ak;have hd:=RD.keep hd aQ ak;refine rx ?_;refine Jg (JL fa h7) ?_;rintro w8 ⟨fc,aM⟩;have dS:=ed.trans aM aX;have fL:=aM.size;have ah:=ah.tr aM ak;have aH:=aH.tr aM ak;have hd:=RD.keep hd aM ak;refine rx ?_;refine KE rfl aH hl ?_;refine Jd (cs:=cs) rfl rfl ah hd.one rfl hl (fun u hu aY cI=>?_);refine rx ?_;exact Qc rfl rfl hu hl (QJ (w0:=w0) gz ab ab ab fc dS aY (hd.down ab))
 |false=>
 simp only[h4,Jz,SS,CW]at hg du;refine rx ?_;refine JF [iV 2,zT,zS,zS,zS,iV (bj n r)] rfl ?_;refine KR (l:=[zI,zT,zS,zS,zS,zI]) (cs:=[iV 2,zT,zS,zS,zS,iV (bj n r)]) rfl rfl rfl dQ rfl (fun v=>rfl) (fun w6 a oq aH aJ fm=>?_);have eE:=du.tr0 aJ;have bR:=bX.Jb aJ;have ah:=ah.tr aJ ak;have dU:p∈a::rg w0:=by simp[Jk];omega
 have nD:a∈a::rg w0:=by simp
 have YT:q∈a::rg w0:=by simp[Jk];omega
 have kC:∀b,b<w.heap.size->b∈a::rg w0:=fun b hb=>by simp[Jk];omega
 have υ:q<w0.heap.size:=by omega
 have jX:∀b∈a::rg w0,b<w6.heap.size:=fun b hb=>by
  rcases SC.1 hb with rfl|hb
  .exact aH.lt
  .have:=Jk.1 hb;omega
 refine rx ?_;refine Jg (J8 [111,110,101] p n _ _ eE) ?_;rintro w7 ⟨fa,aQ⟩;have ed:=bR.trans aQ aX;have iF:=aQ.size;have ah:=ah.tr aQ ak;have aH:=aH.tr aQ ak;cases h5:bg [111,110,101] r with
 |true=>
  simp only[h5,Jz,CX]at hg fa;obtain⟨r1,h6,hg⟩:=bind_some hg;obtain⟨⟨l,r2⟩,h7,hg⟩:=bind_some hg;obtain⟨r3,h8,hg⟩:=bind_some hg;simp only[Sj,Sz]at hg;obtain⟨rfl,rfl⟩:=hg;refine rx ?_;refine Jg (JL fa h6) ?_;rintro w8 ⟨fc,aM⟩;have dS:=ed.trans aM aX;have fL:=aM.size;have ah:=ah.tr aM ak;have aH:=aH.tr aM ak;refine rx ?_;refine Jh 9 [7] (σ:=Nat×List Wg×List Tk×Bool) (fun s g u=>g 7=.bool s.2.2.2/\s.1<=f/\PS bd u p n s.2.2.1/\Fr [p] w u/\w8.heap.size<=u.heap.size/\s.2.1.length+s.1<=1000000/\(s.2.2.2=true->∃l',y9 n s.1 s.2.2.1=some (l',r2)/\s.2.1++l'=l)/\(s.2.2.2=false->s.2.1=l/\s.2.2.1=r2)/\aG u q [zI,zT,zS,zS,zS,zI] 98/\∃v1 v2,aG u a [iV 2,zT,v1,zS,v2,iV (bj n r)] 98/\L3 (a::rg w0) u 3 98 3 1 6 1 (fun y:Wg=>KI y.1) (fun y:Wg=>eX y.2) (fun _:Unit=>KI 0) s.2.1 s.2.1 [] v1 v2 (zS)) (fun s=>2*s.1+s.2.2.2.toNat) (f,[],r1,true) ⟨rfl,SX _,fc,dS,SX _,by simpa using hf,fun _=>⟨l,h7,rfl⟩,fun h=>mi,ah,_,_,aH,LS.nil,LS.nil,LS.nil⟩ ?_;clear hP eH gj dZ dK dY du eE fa fc eG ej aS aV bq bX bR ed dS aH ah;rintro⟨f',acc,r5,b⟩ g w9 ⟨h9,kP,fx,eL,ju,hlen,ht,j8,ah,v1,v2,aH,aN⟩;simp only at kP fx eL hlen ht j8 aN;rw[Ja h9];obtain⟨S0,T0,xp,c0,i0,ln,_⟩:=id fx;have fA:∀b∈a::rg w0,b<w9.heap.size:=fun b hb=>SV (jX b hb) ab
  cases b with
  |false=>
   obtain⟨rfl,rfl⟩:=j8 rfl;obtain⟨ek,c1,rfl⟩:=aN.1.slice;obtain⟨gS,c2,rfl⟩:=aN.2.1.slice;refine rx ?_;refine Jg (JL fx h8) ?_;rintro fy ⟨bI,aD⟩;have bk:=eL.trans aD aX;have eF:=aD.size;have ah:=ah.tr aD ak;have aH:=aH.tr aD ak;have aN:=aN.keep aD (Je dU);refine rx ?_;have hd:RD fy (rg w0) (eX ⟨2,aA [],acc.map fun y=>y.1,[],acc.map fun y=>y.2,bj n r⟩) _:=me.2 ⟨_,_,_,rfl,by
    have:=(aN.1.dr (k:=1) (fun _=>rfl) ab).mono (T:=rg w0) (fun b hb=>.inl lr);simpa[EU]using this,.nil,by
    have:=(aN.2.1.dr (k:=6) (fun _=>KG _) ab).mono (T:=rg w0) (fun b hb=>.inl lr);simpa[EU]using this⟩
   simp only[yx]at hd;refine Jd (cs:=[iV 2,zT,.slice ek acc.length c1,zS,.slice gS acc.length c2,iV (bj n r)]) rfl rfl ah dQ rfl rfl (fun u hu aY cI=>?_);refine rx ?_;exact Qc rfl rfl hu rfl (QJ (w0:=w0) gz ab ab ab bI bk aY hd)
  |true=>
  obtain⟨l',bZ,fw⟩:=ht rfl;cases f' with
  |zero=>simp[y9]at bZ
  |succ f'=>
  simp only[y9]at bZ;obtain⟨⟨t,r6⟩,ez,bZ⟩:=bind_some bZ;obtain⟨r7,jH,bZ⟩:=bind_some bZ;obtain⟨⟨e,r8⟩,pZ,bZ⟩:=bind_some bZ;obtain⟨ek,c1,rfl⟩:=aN.1.slice;refine rx ?_
  ((refine Kr 8 (fun z=>True/\aG z a [iV 2,zT,.slice ek acc.length c1,zS,v2,iV (bj n r)] 98) az rfl ?_);obtain⟨fy,ibG⟩:=aP w9.drew;rw[<-ibG];have aD:Fr [] w9 fy:=ibG▸Fr.drew _ _;have bI:=fx.tr0 aD;have bk:=eL.Jb aD;have eF:=aD.size)
  have ah:=ah.tr aD ak;have aH:=aH.tr aD ak;have aN:=aN.keep aD ap
  ((refine Jp 0 (And.intro trivial aH) ?_);(refine Jp 1 (And.intro trivial aH) ?_);(refine Jp 2 (And.intro trivial aH) ?_))
  refine y7 ?_;refine Jg (VF bI ez) ?_;rintro eT ⟨bL,aB⟩;have bK:=bk.trans aB aX;have eQ:=aB.size;have ah:=ah.tr aB ak;have aH:=aH.tr aB ak;have aN:=aN.keep aB (Je dU);refine tH ?_;refine Jp 4 (And.intro trivial aH) ?_ (aw:=(by intro u hu;exact(NP (l:=kh t) rfl rfl)));refine zn ?_;refine QO rfl rfl (fun gl ho aK fN=>?_);have dX:=bL.tr0 aK;have cj:=bK.Jb aK;have ah:=ah.tr aK ak;have aH:=aH.tr aK ak;have aN:=aN.keep aK ap;refine Yft ?_;refine V7 aN.1 (fun _=>rfl) rfl rfl ho.src (a:=(t.n,e)) (.cons (.c rfl) .nil) (fun b hb=>.inl (SE.2 hb)) dt ab (aN.sz1 (fun b hb=>SV (fA b hb) ab)) (fun v' jv eP aL yr=>?_);have qj:=LS.ge aN.1 (w0:=w) (fun b hb=>SA _ (kC b hb));have et:=dX.tr aL (fun k hk=>CG dx (qj k hk));have cn:=cj.trans aL (fun k hk=>.inr (qj k hk));have ia:=aL.size;have aH:=aH.tr aL (fun h=>aN.1.2 _ h (SA _ nD));have ah:=ah.tr aL (fun h=>aN.1.2 _ h (SA _ YT));have aN:=aN.JiR eP aL yr;have jI:=eP.1.one;refine tH ?_
  ((refine Jp 7 (And.intro trivial aH) ?_))
  refine Tj ?_
  ((with_reducible apply Ji);exact rfl;(conv=>lhs;whnf);exact jI;exact aH;exact rfl)
  intro kJ aH aR ko;replace aH:aG kJ a [iV 2,zT,v',zS,v2,iV (bj n r)] 98:=aH;have fu:=et.tr aR aZ;have fe:=cn.trans aR (fun x hx=>.inr bt);have ah:=ah.tr aR ak;have aN:=aN.keep aR (Je nD);refine kE ?_;refine rx ?_;clear jI;obtain⟨v1,iQ⟩:=aP v';rw[<-iQ]at aH aN;clear eP iQ;refine Jg (JL fu jH) ?_;rintro nV ⟨gT,bf⟩;have gP:=fe.trans bf aX;have my:=bf.size;have ah:=ah.tr bf ak;have aH:=aH.tr bf ak;have aN:=aN.keep bf (Je dU);refine rx ?_;obtain⟨gS,c2,rfl⟩:=aN.2.1.slice
  ((refine Kr 7 (fun z=>True/\aG z a [iV 2,zT,v1,zS,.slice gS acc.length c2,iV (bj n r)] 98) az rfl ?_);obtain⟨nW,ibH⟩:=aP nV.drew;rw[<-ibH];have bp:Fr [] nV nW:=ibH▸Fr.drew _ _;have iM:=gT.tr0 bp;have ie:=gP.Jb bp;have mz:=bp.size)
  have ah:=ah.tr bp ak;have aH:=aH.tr bp ak;have aN:=aN.keep bp ap
  ((refine Jp 0 (And.intro trivial aH) ?_);(refine Jp 1 (And.intro trivial aH) ?_);(refine Jp 2 (And.intro trivial aH) ?_))
  refine y7 ?_;have hz:=aN.sz2 (fun b hb=>SV (fA b hb) ab);have jB:=aN.2.1.lt;refine Jl ((AX f' ab) bd p n _ _ _ _ iM pZ) ?_;rintro cs pd ⟨hd,jh,bu⟩;have iI:=ie.trans bu aX;have nH:=bu.size;have hl:cs.length=6:=by rw[hd.len,KG]
  have ah:=ah.tr bu ak;have aH:=aH.tr bu ak;have aN:=aN.keep bu (Je dU);refine YJ ?_;refine JQ rfl hl rfl (fun qL k5 ml ho bT pG=>?_);have ku:=jh.tr0 bT;have jq:=iI.Jb bT;have ah:=ah.tr bT ak;have aH:=aH.tr bT ak;have aN:=aN.keep bT ap;have hd:=hd.tr0 bT;refine AQ ?_;refine V7 aN.2.1 (fun _=>KG _) rfl rfl ho.src (a:=(t.n,e)) hd (fun b hb=>.inl (Jk.2 (hb.elim (jB b) (hz b)))) dt ab (aN.sz2 (fun b hb=>SV (fA b hb) ab)) (fun v' xP eP cU iei=>?_);have P5:=LS.ge aN.2.1 (w0:=w) (fun b hb=>SA _ (kC b hb));have nf:=ku.tr cU (fun k hk=>CG dx (P5 k hk));have li:=jq.trans cU (fun k hk=>.inr (P5 k hk));have sK:=cU.size;have aH:=aH.tr cU (fun h=>aN.2.1.2 _ h (SA _ nD));have ah:=ah.tr cU (fun h=>aN.2.1.2 _ h (SA _ YT));have aN:=aN.Jha eP cU iei;have jI:=eP.1.one;refine tH ?_
  ((refine Jp 6 (And.intro trivial aH) ?_))
  refine xd ?_
  ((with_reducible apply Ji);exact rfl;(conv=>lhs;whnf);exact jI;exact aH;exact rfl)
  intro xi aH ew uN;replace aH:aG xi a [iV 2,zT,v1,zS,v',iV (bj n r)] 98:=aH;have lW:=nf.tr ew aZ;have lj:=li.trans ew (fun x hx=>.inr bt);have ah:=ah.tr ew ak;have aN:=aN.keep ew (Je nD);refine kE ?_;refine rx ?_;clear jI;obtain⟨v2,fl⟩:=aP v';rw[<-fl]at aH aN;clear eP fl;refine Jg (J8 [59] p n _ _ lW) ?_;rintro xQ ⟨oW,ey⟩;have mA:=lj.trans ey aX;have uP:=ey.size;have ah:=ah.tr ey ak;have aH:=aH.tr ey ak;have aN:=aN.keep ey (Je dU);refine rx ?_;obtain⟨z1,z2⟩:=Xg (go:=y9 n) bZ fw;exact Jc (f',acc++[(t.n,e)],Jz (bg [59] r8) r8,bg [59] r8) la ⟨rfl,by simp only;omega,oW,mA,by omega,by simp only[Sm,SI,SY];omega,z1,z2,ah,_,_,aH,aN⟩ (by cases bg [59] r8<;>simp<;>omega)
 |false=>
 simp only[h5,Jz,SS,CW]at hg fa;refine rx ?_;refine Jg (J8 [109,97,107,101] p n _ _ fa) ?_;rintro w8 ⟨fc,aM⟩;have dS:=ed.trans aM aX;have fL:=aM.size;have ah:=ah.tr aM ak;have aH:=aH.tr aM ak;cases h6:bg [109,97,107,101] r with
 |true=>
  simp only[h6,Jz,CX]at hg fc;obtain⟨⟨t,r1⟩,h7,hg⟩:=bind_some hg;obtain⟨r2,h8,hg⟩:=bind_some hg;simp only at hg;refine rx ?_
  ((with_reducible apply Ji);exact rfl;(conv=>lhs;whnf);exact rfl;exact aH;exact rfl)
  intro w9 aH aW ju;replace aH:aG w9 a [iV 4,zT,zS,zS,zS,iV (bj n r)] 98:=aH;have fx:=fc.tr aW aZ;have eL:=dS.trans aW (fun x hx=>.inr bt);have ah:=ah.tr aW ak;refine rx ?_;refine Jg (VF fx h7) ?_;rintro fy ⟨bI,aD⟩;have bk:=eL.trans aD aX;have eF:=aD.size;have ah:=ah.tr aD ak;have aH:=aH.tr aD ak;refine na ?_
  ((with_reducible apply Ji);exact rfl;(conv=>lhs;whnf);exact rfl;exact aH;exact rfl)
  intro eT aH aB eQ;replace aH:aG eT a [iV 4,.string (aA t.text),zS,zS,zS,iV (bj n r)] 98:=aH;have bL:=bI.tr aB aZ;have bK:=bk.trans aB (fun x hx=>.inr bt);have ah:=ah.tr aB ak;refine rx ?_;refine Jg (JL bL h8) ?_;rintro gl ⟨dX,aK⟩;have cj:=bK.trans aK aX;have fN:=aK.size;have ah:=ah.tr aK ak;have aH:=aH.tr aK ak;refine rx ?_;refine Jg (J8 [41] p n _ _ dX) ?_;rintro jv ⟨et,aL⟩;have cn:=cj.trans aL aX;have ia:=aL.size;have ah:=ah.tr aL ak;have aH:=aH.tr aL ak;have hmk:∃l,x=⟨4,aA t.text,[],[],l,bj n r⟩/\(bg [41] r2=true->l=[]/\r'=r2.tail)/\(bg [41] r2=false->Zl n f r2=some (l,r')):=by
   cases h9:bg [41] r2 with
   |true=>
    simp only[h9,CX,Sj,Sz]at hg;exact⟨[],hg.1.symm,fun _=>⟨rfl,hg.2.symm⟩,fun h=>by cases h⟩
   |false=>
    simp only[h9,SS,CW]at hg;obtain⟨⟨l,r3⟩,ez,hg⟩:=bind_some hg;simp only[Sj,Sz]at hg;obtain⟨rfl,rfl⟩:=hg;exact⟨l,rfl,fun h=>mi,fun _=>ez⟩
  obtain⟨l,rfl,jY,iD⟩:=hmk;clear hg;refine rx ?_;refine Jh 9 [8] (σ:=Nat×List Gn×List Tk×Bool) (fun s g u=>g 8=.bool s.2.2.2/\s.1<=f/\PS bd u p n s.2.2.1/\Fr [p] w u/\jv.heap.size<=u.heap.size/\s.2.1.length+s.1<=1000000/\(s.2.2.2=true->∃l',Zl n s.1 s.2.2.1=some (l',r')/\s.2.1++l'=l)/\(s.2.2.2=false->s.2.1=l/\s.2.2.1=r')/\aG u q [zI,zT,zS,zS,zS,zI] 98/\∃v,aG u a [iV 4,.string (aA t.text),zS,zS,v,iV (bj n r)] 98/\LS (a::rg w0) u 98 6 eX s.2.1 v) (fun s=>2*s.1+s.2.2.2.toNat) (f,[],Jz (bg [41] r2) r2,!(bg [41] r2)) ⟨by cases bg [41] r2<;>rfl,SX _,et,cn,SX _,by simpa using hf,fun h=>(by
   have h9:bg [41] r2=false:=by simpa using h
   simp only[h9,Jz,SS,CW];exact⟨l,iD h9,rfl⟩),fun h=>(by
   have h9:bg [41] r2=true:=by simpa using h
   simp only[h9,Jz,CX];exact⟨(jY h9).1.symm,(jY h9).2.symm⟩),ah,_,aH,LS.nil⟩ ?_
  clear hP eH gj dZ dK dY du eE fa fc eG ej aS aV bq bX bR ed dS fx bI bL dX et eL bk bK cj cn aH ah;rintro⟨f',acc,r5,b⟩ g kJ ⟨h9,kP,fu,fe,ko,hlen,ht,j8,ah,v,aH,aN⟩;simp only at kP fu fe hlen ht j8 aN;rw[Ja h9];obtain⟨S0,T0,xp,c0,i0,ln,_⟩:=id fu;have fA:∀b∈a::rg w0,b<kJ.heap.size:=fun b hb=>SV (jX b hb) ab
  obtain⟨ek,c1,rfl⟩:=aN.slice;cases b with
  |false=>
   obtain⟨rfl,rfl⟩:=j8 rfl;refine rx ?_;have hd:RD kJ (rg w0) (eX ⟨4,aA t.text,[],[],acc,bj n r⟩) _:=me.2 ⟨_,_,_,rfl,.nil,.nil,(aN.dr (k:=6) (fun _=>KG _) ab).mono (T:=rg w0) (fun b hb=>.inl lr)⟩;simp only[yx]at hd;refine Jd (cs:=[iV 4,.string (aA t.text),zS,zS,.slice ek acc.length c1,iV (bj n r)]) rfl rfl ah dQ rfl rfl (fun u hu aY cI=>?_);refine rx ?_;exact Qc rfl rfl hu rfl (QJ (w0:=w0) gz ab ab ab fu fe aY hd)
  |true=>
  obtain⟨l',bZ,fw⟩:=ht rfl;cases f' with
  |zero=>simp[Zl]at bZ
  |succ f'=>
  simp only[Zl]at bZ;obtain⟨⟨e,r8⟩,pZ,bZ⟩:=bind_some bZ;refine rx ?_
  ((refine Kr 7 (fun z=>True/\aG z a [iV 4,.string (aA t.text),zS,zS,.slice ek acc.length c1,iV (bj n r)] 98) az rfl ?_);obtain⟨nV,ibI⟩:=aP kJ.drew;rw[<-ibI];have bf:Fr [] kJ nV:=ibI▸Fr.drew _ _;have gT:=fu.tr0 bf;have gP:=fe.Jb bf;have my:=bf.size)
  have ah:=ah.tr bf ak;have aH:=aH.tr bf ak;have aN:=aN.keep bf ap
  ((refine Jp 0 (And.intro trivial aH) ?_);(refine Jp 1 (And.intro trivial aH) ?_);(refine Jp 2 (And.intro trivial aH) ?_))
  refine y7 ?_;have hz:=(fun(b:Nat) (hb:b∈a::rg w0)=>SV (fA b hb) (show kJ.heap.size<=nV.heap.size by omega));have jB:=aN.lt;refine Jl ((AX f' ab) bd p n _ _ _ _ gT pZ) ?_;rintro cs nW ⟨hd,iM,bp⟩;have ie:=gP.trans bp aX;have mz:=bp.size;have hl:cs.length=6:=by rw[hd.len,KG]
  have ah:=ah.tr bp ak;have aH:=aH.tr bp ak;have aN:=aN.keep bp (Je dU);refine YJ ?_;refine JQ rfl hl rfl (fun pd k5 ml ho bu nH=>?_);have jh:=iM.tr0 bu;have iI:=ie.Jb bu;have ah:=ah.tr bu ak;have aH:=aH.tr bu ak;have aN:=aN.keep bu ap;have hd:=hd.tr0 bu;refine AQ ?_;refine V7 aN KG rfl rfl ho.src (a:=e) hd (fun b hb=>.inl (Jk.2 (hb.elim (jB b) (hz b)))) dt ab (fun b hb=>SV (fA b hb) ab) (fun v' qL eP bT igm=>?_);have P6:=LS.ge aN (w0:=w) kC;have ku:=jh.tr bT (fun k hk=>CG dx (P6 k hk));have jq:=iI.trans bT (fun k hk=>.inr (P6 k hk));have pG:=bT.size;have aH:=aH.tr bT (fun h=>aN.2 _ h nD);have ah:=ah.tr bT (fun h=>aN.2 _ h YT);have aN:=eP;have jI:=eP.1.one;refine tH ?_
  ((refine Jp 6 (And.intro trivial aH) ?_))
  refine xd ?_
  ((with_reducible apply Ji);exact rfl;(conv=>lhs;whnf);exact jI;exact aH;exact rfl)
  intro xP aH cU sK;replace aH:aG xP a [iV 4,.string (aA t.text),zS,zS,v',iV (bj n r)] 98:=aH;have nf:=ku.tr cU aZ;have li:=jq.trans cU (fun x hx=>.inr bt);have ah:=ah.tr cU ak;have aN:=aN.keep cU (Je nD);refine kE ?_;refine rx ?_;refine Jg (J8 [44] p n _ _ nf) ?_;rintro xi ⟨lW,ew⟩;have lj:=li.trans ew aX;have uN:=ew.size;have ah:=ah.tr ew ak;have aH:=aH.tr ew ak;have aN:=aN.keep ew (Je dU);obtain⟨z1,z2⟩:=Ji8 bZ fw;cases kD:bg [44] r8 with
  |true=>
   simp only[kD,Jz,CX]at lW;refine rx ?_;exact Jc (f',acc++[e],r8.tail,true) la ⟨rfl,by simp only;omega,lW,lj,by omega,by simp only[Sm,SI,SY];omega,fun _=>z1 kD,fun h=>mi,ah,_,aH,aN⟩ ak
  |false=>
   simp only[kD,Jz,SS,CW]at lW;obtain⟨z3,z4⟩:=z2 kD;refine rx ?_;refine Jg (JL lW z4) ?_;rintro xQ ⟨oW,ey⟩;have mA:=lj.trans ey aX;have uP:=ey.size;have ah:=ah.tr ey ak;have aH:=aH.tr ey ak;have aN:=aN.keep ey (Je dU);refine rx ?_;exact Jc (f',acc++[e],r',false) la ⟨rfl,by simp only;omega,oW,mA,by omega,by simp only[Sm,SI,SY];omega,fun h=>mi,fun _=>⟨z3,rfl⟩,ah,_,aH,aN⟩ ak
 |false=>
 simp only[h6,Jz,SS,CW]at hg fc;obtain⟨⟨t,r1⟩,h7,hg⟩:=bind_some hg;obtain⟨r2,h8,hg⟩:=bind_some hg;obtain⟨⟨l,r3⟩,h9,hg⟩:=bind_some hg;simp only[Sj,Sz]at hg;obtain⟨rfl,rfl⟩:=hg;refine rx ?_
 ((with_reducible apply Ji);exact rfl;(conv=>lhs;whnf);exact rfl;exact aH;exact rfl)
 intro w9 aH aW ju;replace aH:aG w9 a [iV 7,zT,zS,zS,zS,iV (bj n r)] 98:=aH;have fx:=fc.tr aW aZ;have eL:=dS.trans aW (fun x hx=>.inr bt);have ah:=ah.tr aW ak;refine rx ?_;refine Jg (VF fx h7) ?_;rintro fy ⟨bI,aD⟩;have bk:=eL.trans aD aX;have eF:=aD.size;have ah:=ah.tr aD ak;have aH:=aH.tr aD ak;refine na ?_
 ((with_reducible apply Ji);exact rfl;(conv=>lhs;whnf);exact rfl;exact aH;exact rfl)
 intro eT aH aB eQ;replace aH:aG eT a [iV 7,.string (aA t.text),zS,zS,zS,iV (bj n r)] 98:=aH;have bL:=bI.tr aB aZ;have bK:=bk.trans aB (fun x hx=>.inr bt);have ah:=ah.tr aB ak;refine rx ?_;refine Jg (JL bL h8) ?_;rintro gl ⟨dX,aK⟩;have cj:=bK.trans aK aX;have fN:=aK.size;have ah:=ah.tr aK ak;have aH:=aH.tr aK ak;refine rx ?_;refine aT (((sG f hf).exprs [41]) bd p n _ _ _ _ dX h9) rfl ?_;rintro _ jv ⟨_,rfl,hd,et,aL⟩;obtain⟨ek,c1,rfl,gI⟩:=DR.slice hd;refine⟨_,rfl,?_⟩;have cn:=cj.trans aL aX;have ia:=aL.size;have ah:=ah.tr aL ak;have aH:=aH.tr aL ak;refine rx ?_
 ((with_reducible apply Ji);exact rfl;(conv=>lhs;whnf);exact rfl;exact aH;exact rfl)
 intro kJ aH aR ko;replace aH:aG kJ a [iV 7,.string (aA t.text),zS,.slice ek (l.map aU).length c1,zS,iV (bj n r)] 98:=aH;have fu:=et.tr aR aZ;have fe:=cn.trans aR (fun x hx=>.inr bt);have ah:=ah.tr aR ak;have hd:=hd.old aR (Jf ab);refine rx ?_;refine Jd (cs:=[iV 7,.string (aA t.text),zS,.slice ek (l.map aU).length c1,zS,iV (bj n r)]) rfl rfl ah dQ rfl rfl (fun u hu aY cI=>?_);refine rx ?_;exact Qc rfl rfl hu rfl (QJ (w0:=w0) gz ab ab ab fu fe aY (me.2 ⟨_,_,_,rfl,.nil,hd.down ab,.nil⟩))
theorem Jhu:∀f,f<=1000000->PC 124 [] (fun n=>ZY n f) eX/\PC 164 [] (fun n=>Zh n f) eX:=by
 intro f
 induction f using Nat.strongRecOn with
 |_ f ih=>
  intro hf;cases f with
  |zero=>exact⟨fun bd p n r w x r' hP hg=>by simp[ZY]at hg,fun bd p n r w x r' hP hg=>by simp[Zh]at hg⟩
  |succ f=>
   have h:=ih f ab ab;exact⟨Jj5 f ab h.1 h.2,JiW f ab (fun f' h'=>(ih f' ab ab).1) h.2⟩
theorem NZ(f:Nat)(hf:f<=1000000):PL 122 [] (fun _=>WR f) (fun l=>l.map eK):=by
 intro bd p n r w x r' eH hg;have dx:bd<=w.heap.size:=eH.le;have lV:p<w.heap.size:=SV eH.lt dx;have eG:Fr [p] w w:=Fr.refl _ _;refine enter func122 rfl ntmps122 rfl ?_;refine rx ?_;simp only[WR]at hg;obtain⟨r0,h0,hg⟩:=bind_some hg;refine Jg (JL eH h0) ?_;rintro w1 ⟨gj,aj⟩;have ej:=eG.trans aj aX;have bh:=aj.size;refine rx ?_;refine Jg (J8 [41] p n _ _ gj) ?_;rintro w2 ⟨dZ,aq⟩;have aS:=ej.trans aq aX;have cz:=aq.size;cases h1:bg [41] r0 with
 |true=>
  simp only[h1,Jz,CX]at hg dZ;simp only[Sj,Sz]at hg;obtain⟨rfl,rfl⟩:=hg;refine bM ?_;exact⟨_,rfl,.nil,dZ,aS⟩
 |false=>
 simp only[h1,Jz,SS,CW]at hg dZ;obtain⟨⟨l,r1⟩,h2,hg⟩:=bind_some hg;obtain⟨r2,h3,hg⟩:=bind_some hg;simp only[Sj,Sz]at hg;obtain⟨rfl,rfl⟩:=hg;refine rx ?_;refine Jh 5 [3,4] (σ:=Nat×List Pm×List Tk×Bool) (fun s g u=>∃v,g 3=v/\g 4=.bool s.2.2.2/\s.1<=f/\LI bd p n w (rg w) 223 4 eK (Gq) l r1 s.1 s.2.1 s.2.2.1 s.2.2.2 u v) (fun s=>2*s.1+s.2.2.2.toNat) (f,[],r0,true) ⟨_,rfl,rfl,SX _,dZ,aS,.nil,by simp only[SY];omega,fun _=>⟨l,h2,rfl⟩,fun h=>by cases h⟩ ?_;rintro⟨f',acc,r,b⟩ g w3 ⟨v,h4,h5,kP,dK,aV,hL,hlen,ht,j8⟩;simp only at kP dK aV hL hlen ht j8;rw[Ja h4,Ja h5];have dO:=aV.size;obtain⟨S0,T0,xp,c0,i0,ln,_⟩:=id dK;cases b with
 |false=>
  obtain⟨rfl,rfl⟩:=j8 rfl;refine rx ?_;refine Jg (JL dK h3) ?_;rintro w4 ⟨dY,aI⟩;have bq:=aV.trans aI aX;have eA:=aI.size;have hL:=LS.keep hL aI sD;refine bM ?_;have hd:=LS.dr hL (k:=4) Xn ab;exact⟨_,rfl,hd,dY,bq⟩
 |true=>
 obtain⟨l',bZ,fw⟩:=ht rfl;cases f' with
 |zero=>simp[Gq]at bZ
 |succ f'=>
 simp only[Gq]at bZ;obtain⟨⟨t,r3⟩,h6,bZ⟩:=bind_some bZ;obtain⟨r4,h7,bZ⟩:=bind_some bZ;obtain⟨⟨ty,r5⟩,h8,bZ⟩:=bind_some bZ;have aC:=hL.lt;refine rx ?_;refine Jg (VF dK h6) ?_;rintro w4 ⟨dY,aI⟩;have bq:=aV.trans aI aX;have eA:=aI.size;have hL:=LS.keep hL aI sD;refine na ?_;refine Jg (JL dY h7) ?_;rintro w5 ⟨du,aO⟩;have bX:=bq.trans aO aX;have eV:=aO.size;have hL:=LS.keep hL aO sD;refine rx ?_;refine Jl ((NY f') bd p n _ _ _ _ du h8) ?_;rintro cs w6 ⟨hd,eE,aJ⟩;have bR:=bX.trans aJ aX;have fm:=aJ.size;have hL:=LS.keep hL aJ sD;obtain⟨s,rfl,nw⟩:=mc.1 hd;obtain⟨ao,c,rfl,_⟩:=nw.slice;refine JF [.string (aA t.text),iV ty.kind,.string ty.name,.slice ao (ty.kids.map cg).length c] rfl ?_;have hd:RD w6 (rg w5) (eK ⟨aA t.text,ty⟩) [.string (aA t.text),iV ty.kind,.string ty.name,.slice ao (ty.kids.map cg).length c]:=.cons (.c rfl) hd;refine WL hL Xn rfl rfl rfl hd (fun b hb=>.inl (Jk.2 (hb.elim (fun h=>by have:=aC b h;omega) (fun h=>by have:=Jk.1 h;omega)))) rfl rfl rfl dt ab Yjy (fun v' w7 eP aQ sw=>?_);have wU:=LS.ge hL (w0:=w) y8;have fa:=eE.tr aQ (fun k hk=>CG dx (wU k hk));have ed:=bR.trans aQ (fun k hk=>.inr (wU k hk));have iF:=aQ.size;refine rx ?_;refine Jg (J8 [44] p n _ _ fa) ?_;rintro w8 ⟨fc,aM⟩;have dS:=ed.trans aM aX;have fL:=aM.size;have eP:=LS.keep eP aM sD;refine rx ?_;obtain⟨e1,e2⟩:=Xg (go:=Gq) bZ fw;exact Jc (f',acc++[⟨aA t.text,ty⟩],Jz (bg [44] r5) r5,bg [44] r5) la ⟨_,rfl,rfl,by simp only;omega,fc,dS,eP,by simp only[Sm,SI,SY];omega,e1,e2⟩ (by cases bg [44] r5<;>simp<;>omega)
theorem JdN(cmd:Bool)(f:Nat)(hf:f<=1000000):PL 126 [.bool cmd] (fun n=>Bz n cmd f) (fun l=>l.map fj):=by
 intro bd p n r w x r' eH hg;have dx:bd<=w.heap.size:=eH.le;have lV:p<w.heap.size:=SV eH.lt dx;have eG:Fr [p] w w:=Fr.refl _ _;refine enter func126 rfl ntmps126 rfl ?_;refine rx ?_;simp only[Bz]at hg;obtain⟨r0,h0,hg⟩:=bind_some hg;refine Jg (JL eH h0) ?_;rintro w1 ⟨gj,aj⟩;have ej:=eG.trans aj aX;have bh:=aj.size;refine rx ?_;refine Jg (J8 [41] p n _ _ gj) ?_;rintro w2 ⟨dZ,aq⟩;have aS:=ej.trans aq aX;have cz:=aq.size;cases h1:bg [41] r0 with
 |true=>
  simp only[h1,Jz,CX]at hg dZ;simp only[Sj,Sz]at hg;obtain⟨rfl,rfl⟩:=hg;refine bM ?_;exact⟨_,rfl,.nil,dZ,aS⟩
 |false=>
 simp only[h1,Jz,SS,CW]at hg dZ;obtain⟨⟨l,r1⟩,h2,hg⟩:=bind_some hg;obtain⟨r2,h3,hg⟩:=bind_some hg;simp only[Sj,Sz]at hg;obtain⟨rfl,rfl⟩:=hg;refine rx ?_;refine Jh 7 [5,6] (σ:=Nat×List Dw×List Tk×Bool) (fun s g u=>∃v,g 5=v/\g 6=.bool s.2.2.2/\s.1<=f/\LI bd p n w (rg w) 230 11 fj (Zn n cmd) l r1 s.1 s.2.1 s.2.2.1 s.2.2.2 u v) (fun s=>2*s.1+s.2.2.2.toNat) (f,[],r0,true) ⟨_,rfl,rfl,SX _,dZ,aS,.nil,by simp only[SY];omega,fun _=>⟨l,h2,rfl⟩,fun h=>by cases h⟩ ?_;rintro⟨f',acc,r,b⟩ g w3 ⟨v,h4,h5,kP,dK,aV,hL,hlen,ht,j8⟩;simp only at kP dK aV hL hlen ht j8;rw[Ja h4,Ja h5];have dO:=aV.size;obtain⟨S0,T0,xp,c0,i0,ln,_⟩:=id dK;cases b with
 |false=>
  obtain⟨rfl,rfl⟩:=j8 rfl;refine rx ?_;refine Jg (JL dK h3) ?_;rintro w4 ⟨dY,aI⟩;have bq:=aV.trans aI aX;have eA:=aI.size;have hL:=LS.keep hL aI sD;refine bM ?_;have hd:=LS.dr hL (k:=11) VQ ab;exact⟨_,rfl,hd,dY,bq⟩
 |true=>
 obtain⟨l',bZ,fw⟩:=ht rfl;cases f' with
 |zero=>simp[Zn]at bZ
 |succ f'=>
 simp only[Zn]at bZ;obtain⟨⟨t,r3⟩,h6,bZ⟩:=bind_some bZ;obtain⟨r4,h7,bZ⟩:=bind_some bZ;obtain⟨⟨ty,r5⟩,h8,bZ⟩:=bind_some bZ;obtain⟨r6,h9,bZ⟩:=bind_some bZ;obtain⟨⟨dw,r7⟩,ez,bZ⟩:=bind_some bZ;simp only at bZ;have aC:=hL.lt;refine rx ?_;refine Jg (VF dK h6) ?_;rintro w4 ⟨dY,aI⟩;have bq:=aV.trans aI aX;have eA:=aI.size;have hL:=LS.keep hL aI sD;refine na ?_;refine JF [.string (aA t.text),zI,zT,zS,zI,zT,zS,zS,zS,zI,.bool false] rfl ?_;refine KR (l:=[zT,zI,zT,zS,zI,zT,zS,zS,zS,zI,.bool false]) (cs:=[.string (aA t.text),zI,zT,zS,zI,zT,zS,zS,zS,zI,.bool false]) rfl rfl rfl dQ rfl (fun v=>rfl) (fun w5 a oq aH aO eV=>?_);have du:=dY.tr0 aO;have bX:=bq.Jb aO;have hL:=(hL.mono (Y:=a::rg w) (KU ab)).tr0 aO;have nD:a∈a::rg w:=by simp
 have dU:p∈a::rg w:=by simp[Jk];omega
 have kC:∀b,b<w.heap.size->b∈a::rg w:=fun b hb=>by simp[Jk];omega
 have lX:∀b∈a::rg w,b<w5.heap.size:=fun b hb=>by
  rcases SC.1 hb with rfl|hb
  .exact aH.lt
  .have:=Jk.1 hb;omega
 refine rx ?_;refine Jg (JL du h7) ?_;rintro w6 ⟨eE,aJ⟩;have bR:=bX.trans aJ aX;have fm:=aJ.size;have aH:=aH.tr aJ ak;have hL:=hL.keep aJ (Je dU);refine rx ?_;refine Jl ((NY f') bd p n _ _ _ _ eE h8) ?_;rintro cs w7 ⟨hd,fa,aQ⟩;have ed:=bR.trans aQ aX;have iF:=aQ.size;have aH:=aH.tr aQ ak;have hL:=hL.keep aQ (Je dU);obtain⟨s,rfl,nw⟩:=mc.1 hd;obtain⟨ao,c,rfl,_⟩:=nw.slice;refine rx ?_;refine Jt (cs:=[iV ty.kind,.string ty.name,.slice ao (ty.kids.map cg).length c]) rfl rfl aH dQ ap rfl (fun w8 aH aM fL=>?_);replace aH:aG w8 a [.string (aA t.text),iV ty.kind,.string ty.name,.slice ao (ty.kids.map cg).length c,zI,zT,zS,zS,zS,zI,.bool false] 230:=aH;have fc:=fa.tr aM aZ;have dS:=ed.trans aM (fun x hx=>.inr bt);have hL:=hL.keep aM (Je nD);have hd:=hd.old aM (Jf ab);refine rx ?_;refine Jg (JL fc h9) ?_;rintro w9 ⟨fx,aW⟩;have eL:=dS.trans aW aX;have ju:=aW.size;have aH:=aH.tr aW ak;have hL:=hL.keep aW (Je dU);have hd:=hd.old aW (Jf ab);refine rx ?_;cases cmd with
 |false=>
  simp only[EZ,SS,CW]at ez;refine rx ?_;obtain⟨⟨g1,r8⟩,pZ,ez⟩:=bind_some ez;simp only[Sj,Sz]at ez;obtain⟨rfl,rfl⟩:=ez;refine Jl ((Jhu f' ab).1 bd p n _ _ _ _ fx pZ) ?_;rintro gU fy ⟨dV,bI,aD⟩;have bk:=eL.trans aD aX;have eF:=aD.size;have aH:=aH.tr aD ak;have hL:=hL.keep aD (Je dU);have hd:=hd.old aD (Jf ab);obtain⟨s1,s2,s3,rfl,kB,pO,vP⟩:=me.1 dV;obtain⟨ek,c1,rfl,_⟩:=kB.slice;obtain⟨gS,c2,rfl,_⟩:=pO.slice;obtain⟨nP,c3,rfl,_⟩:=vP.slice;refine rx ?_;refine Jt (cs:=[iV g1.kind,.string g1.name,.slice ek (g1.ws.map KI).length c1,.slice gS (g1.args.map aU).length c2,.slice nP (g1.kids.map eX).length c3,iV g1.at_]) rfl rfl aH dQ ap rfl (fun eT aH aB eQ=>?_);replace aH:aG eT a [.string (aA t.text),iV ty.kind,.string ty.name,.slice ao (ty.kids.map cg).length c,iV g1.kind,.string g1.name,.slice ek (g1.ws.map KI).length c1,.slice gS (g1.args.map aU).length c2,.slice nP (g1.kids.map eX).length c3,iV g1.at_,.bool false] 230:=aH;have bL:=bI.tr aB aZ;have bK:=bk.trans aB (fun x hx=>.inr bt);have hL:=hL.keep aB (Je nD);have hd:=hd.old aB (Jf ab);have dV:=dV.old aB (Jf ab);have cH:RD eT (rg w6) (fj ⟨aA t.text,ty,g1,false⟩) [.string (aA t.text),iV ty.kind,.string ty.name,.slice ao (ty.kids.map cg).length c,iV g1.kind,.string g1.name,.slice ek (g1.ws.map KI).length c1,.slice gS (g1.args.map aU).length c2,.slice nP (g1.kids.map eX).length c3,iV g1.at_,.bool false]:=.cons (.c rfl) (hd.app ((dV.mono (fun b hb=>.inl y0)).app (.cons (.c rfl) .nil)));refine rx ?_;refine WL hL VQ rfl rfl rfl cH (fun b hb=>.inl (Jk.2 (hb.elim (fun h=>SV (aC b h) ab) (fun h=>SV (lX b h) ab)))) rfl rfl rfl dt ab (fun b hb=>SV (lX b hb) ab) (fun v' gl eP aK T3=>?_);have qk:=LS.ge hL (w0:=w) y8;have dX:=bL.tr aK (fun k hk=>CG dx (qk k hk));have cj:=bK.trans aK (fun k hk=>.inr (qk k hk));have fN:=aK.size;refine rx ?_;refine Jg (J8 [44] p n _ _ dX) ?_;rintro jv ⟨et,aL⟩;have cn:=cj.trans aL aX;have ia:=aL.size;have eP:=(eP.keep aL (Je dU)).mono (Y:=rg w) (fun b hb=>.inl lr);refine rx ?_;obtain⟨e1,e2⟩:=Xg (go:=Zn n _) bZ fw;exact Jc (f',acc++[⟨aA t.text,ty,g1,false⟩],Jz (bg [44] r8) r8,bg [44] r8) la ⟨_,rfl,rfl,by simp only;omega,et,cn,eP,by simp only[Sm,SI,SY];omega,e1,e2⟩ (by cases bg [44] r8<;>simp<;>omega)
 |true=>
 refine rx ?_;refine Jg (J8 [114,101,115,117,108,116] p n _ _ fx) ?_;rintro fy ⟨bI,aD⟩;have bk:=eL.trans aD aX;have eF:=aD.size;have aH:=aH.tr aD ak;have hL:=hL.keep aD (Je dU);have hd:=hd.old aD (Jf ab);cases jH:bg [114,101,115,117,108,116] r6 with
 |true=>
  simp only[jH,Jz,II,CX,Sj,Sz]at ez bI;obtain⟨rfl,rfl⟩:=ez;refine rx ?_
  ((with_reducible apply Ji);exact rfl;(conv=>lhs;whnf);exact rfl;exact aH;exact rfl)
  intro eT aH aB eQ;replace aH:aG eT a [.string (aA t.text),iV ty.kind,.string ty.name,.slice ao (ty.kids.map cg).length c,zI,zT,zS,zS,zS,zI,.bool true] 230:=aH;have bL:=bI.tr aB aZ;have bK:=bk.trans aB (fun x hx=>.inr bt);have hL:=hL.keep aB (Je nD);have hd:=hd.old aB (Jf ab);have hg0:RD eT (rg w6) (eX AT) [zI,zT,zS,zS,zS,zI]:=me.2 ⟨_,_,_,rfl,.nil,.nil,.nil⟩;have cH:RD eT (rg w6) (fj ⟨aA t.text,ty,AT,true⟩) [.string (aA t.text),iV ty.kind,.string ty.name,.slice ao (ty.kids.map cg).length c,zI,zT,zS,zS,zS,zI,.bool true]:=.cons (.c rfl) (hd.app (hg0.app (.cons (.c rfl) .nil)));refine rx ?_;refine WL hL VQ rfl rfl rfl cH (fun b hb=>.inl (Jk.2 (hb.elim (fun h=>SV (aC b h) ab) (fun h=>SV (lX b h) ab)))) rfl rfl rfl dt ab (fun b hb=>SV (lX b hb) ab) (fun v' gl eP aK T3=>?_);have qk:=LS.ge hL (w0:=w) y8;have dX:=bL.tr aK (fun k hk=>CG dx (qk k hk));have cj:=bK.trans aK (fun k hk=>.inr (qk k hk));have fN:=aK.size;refine rx ?_;refine Jg (J8 [44] p n _ _ dX) ?_;rintro jv ⟨et,aL⟩;have cn:=cj.trans aL aX;have ia:=aL.size;have eP:=(eP.keep aL (Je dU)).mono (Y:=rg w) (fun b hb=>.inl lr);refine rx ?_;obtain⟨e1,e2⟩:=Xg (go:=Zn n _) bZ fw;exact Jc (f',acc++[⟨aA t.text,ty,AT,true⟩],Jz (bg [44] r6.tail) r6.tail,bg [44] r6.tail) la ⟨_,rfl,rfl,by simp only;omega,et,cn,eP,by simp only[Sm,SI,SY];omega,e1,e2⟩ (by cases bg [44] r6.tail<;>simp<;>omega)
 |false=>
  simp only[jH,Jz,EM,SS,CW]at ez bI;refine rx ?_;obtain⟨⟨g1,r8⟩,pZ,ez⟩:=bind_some ez;simp only[Sj,Sz]at ez;obtain⟨rfl,rfl⟩:=ez;refine Jl ((Jhu f' ab).1 bd p n _ _ _ _ bI pZ) ?_;rintro gU eT ⟨dV,bL,aB⟩;have bK:=bk.trans aB aX;have eQ:=aB.size;have aH:=aH.tr aB ak;have hL:=hL.keep aB (Je dU);have hd:=hd.old aB (Jf ab);obtain⟨s1,s2,s3,rfl,kB,pO,vP⟩:=me.1 dV;obtain⟨ek,c1,rfl,_⟩:=kB.slice;obtain⟨gS,c2,rfl,_⟩:=pO.slice;obtain⟨nP,c3,rfl,_⟩:=vP.slice;refine rx ?_;refine Jt (cs:=[iV g1.kind,.string g1.name,.slice ek (g1.ws.map KI).length c1,.slice gS (g1.args.map aU).length c2,.slice nP (g1.kids.map eX).length c3,iV g1.at_]) rfl rfl aH dQ ap rfl (fun gl aH aK fN=>?_);replace aH:aG gl a [.string (aA t.text),iV ty.kind,.string ty.name,.slice ao (ty.kids.map cg).length c,iV g1.kind,.string g1.name,.slice ek (g1.ws.map KI).length c1,.slice gS (g1.args.map aU).length c2,.slice nP (g1.kids.map eX).length c3,iV g1.at_,.bool false] 230:=aH;have dX:=bL.tr aK aZ;have cj:=bK.trans aK (fun x hx=>.inr bt);have hL:=hL.keep aK (Je nD);have hd:=hd.old aK (Jf ab);have dV:=dV.old aK (Jf ab);have cH:RD gl (rg w6) (fj ⟨aA t.text,ty,g1,false⟩) [.string (aA t.text),iV ty.kind,.string ty.name,.slice ao (ty.kids.map cg).length c,iV g1.kind,.string g1.name,.slice ek (g1.ws.map KI).length c1,.slice gS (g1.args.map aU).length c2,.slice nP (g1.kids.map eX).length c3,iV g1.at_,.bool false]:=.cons (.c rfl) (hd.app ((dV.mono (fun b hb=>.inl y0)).app (.cons (.c rfl) .nil)));refine rx ?_;refine WL hL VQ rfl rfl rfl cH (fun b hb=>.inl (Jk.2 (hb.elim (fun h=>SV (aC b h) ab) (fun h=>SV (lX b h) ab)))) rfl rfl rfl dt ab (fun b hb=>SV (lX b hb) ab) (fun v' jv eP aL yr=>?_);have qj:=LS.ge hL (w0:=w) y8;have et:=dX.tr aL (fun k hk=>CG dx (qj k hk));have cn:=cj.trans aL (fun k hk=>.inr (qj k hk));have ia:=aL.size;refine rx ?_;refine Jg (J8 [44] p n _ _ et) ?_;rintro kJ ⟨fu,aR⟩;have fe:=cn.trans aR aX;have ko:=aR.size;have eP:=(eP.keep aR (Je dU)).mono (Y:=rg w) (fun b hb=>.inl lr);refine rx ?_;obtain⟨e1,e2⟩:=Xg (go:=Zn n _) bZ fw;exact Jc (f',acc++[⟨aA t.text,ty,g1,false⟩],Jz (bg [44] r8) r8,bg [44] r8) la ⟨_,rfl,rfl,by simp only;omega,fu,fe,eP,by simp only[Sm,SI,SY];omega,e1,e2⟩ (by cases bg [44] r8<;>simp<;>omega)
theorem Jhi(f:Nat)(hf:f<=1000000):PL 121 [] (fun _=>Xd f) (fun l=>l.map iP):=by
 intro bd p n r0 w l r1 dZ h2;have dx:bd<=w.heap.size:=dZ.le;have lV:p<w.heap.size:=SV dZ.lt dx;have aS:Fr [p] w w:=Fr.refl _ _;simp only at h2;refine enter func121 rfl ntmps121 rfl ?_;refine rx ?_;refine Jh 5 [3,4] (σ:=Nat×List Ct×List Tk×Bool) (fun s g u=>∃v,g 3=v/\g 4=.bool s.2.2.2/\s.1<=f/\LI bd p n w (rg w) 219 2 iP Xd l r1 s.1 s.2.1 s.2.2.1 s.2.2.2 u v) (fun s=>2*s.1+s.2.2.2.toNat) (f,[],r0,true) ⟨_,rfl,rfl,SX _,dZ,aS,.nil,by simp only[SY];omega,fun _=>⟨l,h2,rfl⟩,fun h=>by cases h⟩ ?_;clear dZ aS;rintro⟨f',acc,r,b⟩ g w3 ⟨v,h4,h5,kP,dK,aV,hL,hlen,ht,j8⟩;simp only at kP dK aV hL hlen ht j8;rw[Ja h4,Ja h5];have dO:=aV.size;obtain⟨S0,T0,xp,c0,i0,ln,_⟩:=id dK;cases b with
 |false=>
  obtain⟨rfl,rfl⟩:=j8 rfl;refine bM ?_;have hd:=LS.dr hL (k:=2) VU ab;exact⟨_,rfl,hd,dK,aV⟩
 |true=>
 obtain⟨l',bZ,fw⟩:=ht rfl;cases f' with
 |zero=>simp[Xd]at bZ
 |succ f'=>
 simp only[Xd]at bZ;obtain⟨⟨t,r3⟩,h6,bZ⟩:=bind_some bZ;obtain⟨⟨args,r4⟩,h7,bZ⟩:=bind_some bZ;simp only at bZ;refine rx ?_;refine Jg (VF dK h6) ?_;rintro w4 ⟨dY,aI⟩;have bq:=aV.trans aI aX;have eA:=aI.size;have hL:=LS.keep hL aI sD;refine na ?_;refine JF [.string (aA t.text),zS] rfl ?_;refine KR (l:=[zT,zS]) (cs:=[.string (aA t.text),zS]) rfl rfl rfl dQ rfl (fun v=>rfl) (fun w5 a oq aH aO eV=>?_);have du:=dY.tr0 aO;have bX:=bq.Jb aO;have hL:=(hL.mono (Y:=a::rg w) (KU ab)).tr0 aO;have nD:a∈a::rg w:=by simp
 have dU:p∈a::rg w:=by simp[Jk];omega
 have kC:∀b,b<w.heap.size->b∈a::rg w:=fun b hb=>by simp[Jk];omega
 have lX:∀b∈a::rg w,b<w5.heap.size:=fun b hb=>by
  rcases SC.1 hb with rfl|hb
  .exact aH.lt
  .have:=Jk.1 hb;omega
 refine rx ?_;refine Jg (J8 [40] p n _ _ du) ?_;rintro w6 ⟨eE,aJ⟩;have bR:=bX.trans aJ aX;have fm:=aJ.size;have aH:=aH.tr aJ ak;have hL:=hL.keep aJ (Je dU);cases h8:bg [40] r3 with
 |false=>
  simp only[h8,Jz,SS,CW,Sj,Sz]at h7 eE;obtain⟨rfl,rfl⟩:=h7;refine rx ?_;have cH:RD w6 ((a::rg w)++ag v) (iP ⟨aA t.text,[]⟩) [.string (aA t.text),zS]:=.cons (.c rfl) (.cons .nil .nil);refine WL hL VU rfl rfl rfl cH (fun b hb=>.inl (SE.2 hb.symm)) rfl rfl rfl dt ab (fun b hb=>SV (lX b hb) ab) (fun v' w7 eP aQ sw=>?_);have wU:=LS.ge hL (w0:=w) y8;have fa:=eE.tr aQ (fun k hk=>CG dx (wU k hk));have ed:=bR.trans aQ (fun k hk=>.inr (wU k hk));have iF:=aQ.size;refine rx ?_;refine Jg (J8 [124] p n _ _ fa) ?_;rintro w8 ⟨fc,aM⟩;have dS:=ed.trans aM aX;have fL:=aM.size;have eP:=(eP.keep aM (Je dU)).mono (Y:=rg w) (fun b hb=>.inl lr);refine rx ?_;obtain⟨e1,e2⟩:=Xg (go:=Xd) bZ fw;exact Jc (f',acc++[⟨aA t.text,[]⟩],Jz (bg [124] r3) r3,bg [124] r3) a6 ⟨_,rfl,rfl,by simp only;omega,fc,dS,eP,by simp only[Sm,SI,SY];omega,e1,e2⟩ (by cases bg [124] r3<;>simp<;>omega)
 |true=>
  simp only[h8,Jz,CX]at h7 eE;obtain⟨⟨wV,r5⟩,h9,h7⟩:=bind_some h7;obtain⟨r6,ez,h7⟩:=bind_some h7;simp only[Sj,Sz]at h7;obtain⟨rfl,rfl⟩:=h7;have aN:L3 (a::rg w) w6 219 90 90 2 3 1 iP cg (fun _:Unit=>KI 0) acc [] [] v (zS) (zS):=⟨hL.mono (fun b hb=>.inl Yko),LS.nil,LS.nil⟩;refine rx ?_;refine Jh 7 [6] (σ:=Nat×List Ty×List Tk×Bool) (fun s g u=>g 6=.bool s.2.2.2/\PS bd u p n s.2.2.1/\Fr [p] w u/\w6.heap.size<=u.heap.size/\s.2.1.length+s.1<=1000000/\(s.2.2.2=true->∃l',Gp s.1 s.2.2.1=some (l',r5)/\s.2.1++l'=wV)/\(s.2.2.2=false->s.2.1=wV/\s.2.2.1=r5)/\∃v2,aG u a [.string (aA t.text),v2] 219/\L3 (a::rg w) u 219 90 90 2 3 1 iP cg (fun _:Unit=>KI 0) acc s.2.1 [] v v2 (zS)) (fun s=>2*s.1+s.2.2.2.toNat) (f',[],r3.tail,true) ⟨rfl,eE,bR,SX _,by simp only[SY];omega,fun _=>⟨wV,h9,rfl⟩,fun h=>mi,_,aH,aN⟩ ?_;clear dK dY du eE aV bq bX bR aH aN hL;rintro⟨f2,wW,r7,b⟩ g w7 ⟨jH,fa,ed,iF,iT,ht2,ibJ,v2,aH,aN⟩;simp only at fa ed iT ht2 ibJ aN;rw[Ja jH];obtain⟨S0,T0,xp,c0,i0,ln,_⟩:=id fa;obtain⟨gS,c2,rfl⟩:=aN.2.1.slice;have fA:∀b∈a::rg w,b<w7.heap.size:=fun b hb=>SV (lX b hb) ab
  cases b with
  |false=>
   obtain⟨rfl,rfl⟩:=ibJ rfl;refine rx ?_;refine Jg (JL fa ez) ?_;rintro w8 ⟨fc,aM⟩;have dS:=ed.trans aM aX;have fL:=aM.size;have aH:=aH.tr aM ak;have aN:=aN.keep aM (Je dU);have hL:=aN.1.mono (Y:=a::rg w) (fun b hb=>.inl (SA _ hb));have hda:=aN.2.1.dr (k:=3) QT ab;have cH:RD w8 ((a::rg w)++ag v) (iP ⟨aA t.text,wW⟩) [.string (aA t.text),.slice gS wW.length c2]:=.cons (.c rfl) (.cons (hda.mono (fun b hb=>.inl (by simp at hb ⊢;rcases hb with h|h|h<;>simp[h]))) .nil);refine rx ?_;refine WL hL VU rfl rfl rfl cH (fun b hb=>.inl (SE.2 hb.symm)) rfl rfl rfl dt ab (fun b hb=>SV (lX b hb) ab) (fun v' w9 eP aW AM=>?_);have wT:=LS.ge hL (w0:=w) y8;have fx:=fc.tr aW (fun k hk=>CG dx (wT k hk));have eL:=dS.trans aW (fun k hk=>.inr (wT k hk));have ju:=aW.size;refine rx ?_;refine Jg (J8 [124] p n _ _ fx) ?_;rintro fy ⟨bI,aD⟩;have bk:=eL.trans aD aX;have eF:=aD.size;have eP:=(eP.keep aD (Je dU)).mono (Y:=rg w) (fun b hb=>.inl lr);refine rx ?_;obtain⟨e1,e2⟩:=Xg (go:=Xd) bZ fw;exact Jc (f',acc++[⟨aA t.text,wW⟩],Jz (bg [124] r6) r6,bg [124] r6) a6 ⟨_,rfl,rfl,by simp only;omega,bI,bk,eP,by simp only[Sm,SI,SY];omega,e1,e2⟩ (by cases bg [124] r6<;>simp<;>omega)
  |true=>
  obtain⟨l2,wX,ibK⟩:=ht2 rfl;cases f2 with
  |zero=>simp[Gp]at wX
  |succ f2=>
  simp only[Gp]at wX;obtain⟨⟨ty,r8⟩,pZ,wX⟩:=bind_some wX;refine rx ?_
  ((refine Kr 7 (fun z=>True/\aG z a [.string (aA t.text),.slice gS wW.length c2] 219) az rfl ?_);obtain⟨w8,hw8⟩:=aP w7.drew;rw[<-hw8];have aM:Fr [] w7 w8:=hw8▸Fr.drew _ _;have fc:=fa.tr0 aM;have dS:=ed.Jb aM;have fL:=aM.size)
  have aH:=aH.tr aM ak;have aN:=aN.keep aM ap
  ((refine Jp 0 (And.intro trivial aH) ?_);(refine Jp 1 (And.intro trivial aH) ?_);(refine Jp 2 (And.intro trivial aH) ?_))
  refine y7 ?_;have hz:=aN.sz2 (fun b hb=>SV (fA b hb) ab);have jB:=aN.2.1.lt;refine Jl ((NY f2) bd p n _ _ _ _ fc pZ) ?_;rintro cs w9 ⟨hd,fx,aW⟩;have eL:=dS.trans aW aX;have ju:=aW.size;have hl:cs.length=3:=by rw[hd.len,QT]
  have aH:=aH.tr aW ak;have aN:=aN.keep aW (Je dU);refine YJ ?_;refine JQ rfl hl rfl (fun fy k5 ml ho aD eF=>?_);have bI:=fx.tr0 aD;have bk:=eL.Jb aD;have aH:=aH.tr aD ak;have aN:=aN.keep aD ap;have hd:=hd.tr0 aD;refine AQ ?_;refine V7 aN.2.1 QT rfl rfl ho.src hd (fun b hb=>.inl (Jk.2 (hb.elim (jB b) (hz b)))) dt ab (aN.sz2 (fun b hb=>SV (fA b hb) ab)) (fun v' eT eP aB iej=>?_);have P7:=LS.ge aN.2.1 (w0:=w) (fun b hb=>SA _ (kC b hb));have bL:=bI.tr aB (fun k hk=>CG dx (P7 k hk));have bK:=bk.trans aB (fun k hk=>.inr (P7 k hk));have eQ:=aB.size;have aH:=aH.tr aB (fun h=>aN.2.1.2 _ h (SA _ nD));have aN:=aN.Jha eP aB iej;have jI:=eP.1.one;refine tH ?_
  ((refine Jp 6 (And.intro trivial aH) ?_))
  refine xd ?_
  ((with_reducible apply Ji);exact rfl;(conv=>lhs;whnf);exact jI;exact aH;exact rfl)
  intro gl aH aK fN;replace aH:aG gl a [.string (aA t.text),v'] 219:=aH;have dX:=bL.tr aK aZ;have cj:=bK.trans aK (fun x hx=>.inr bt);have aN:=aN.keep aK (Je nD);refine kE ?_;refine rx ?_;refine Jg (J8 [44] p n _ _ dX) ?_;rintro jv ⟨et,aL⟩;have cn:=cj.trans aL aX;have ia:=aL.size;have aH:=aH.tr aL ak;have aN:=aN.keep aL (Je dU);refine rx ?_;obtain⟨z1,z2⟩:=Xg (go:=Gp) wX ibK;exact Jc (f2,wW++[ty],Jz (bg [44] r8) r8,bg [44] r8) la ⟨rfl,et,cn,by omega,by simp only[Sm,SI,SY];omega,z1,z2,_,aH,aN⟩ (by cases bg [44] r8<;>simp<;>omega)
end Go.Proofs.YtggmccicdhnkgaaGreat
