/-
 From the readings of arguments to the walks' premises.
-/
import Derived.Test.YtggmccicdhnkgaaGreatVJz
import Derived.Test.YtggmccicdhnkgaaGreatVJe
import Derived.Test.YtggmccicdhnkgaaGreatVJy
import Derived.Test.YtggmccicdhnkgaaGreatVQe
import Derived.Test.YtggmccicdhnkgaaGreatVWr
import Derived.OpenShut
import Derived.ShutString
import Derived.ChangeOld
set_option linter.all false
set_option maxHeartbeats 64000000
namespace Go.Rf
open Go.RowKit
structure Hid (Q:Prop):Prop where
 o:Q
end Go.Rf
namespace Go.Proofs.YtggmccicdhnkgaaGreat
section
open Go.Proofs.Tryz
open Go.Rf Go.RowKit
theorem Jnb{u:World}{p:Nat}{M R:List Nat}{P:Pp}{s t:St}(h:Wj u p M R P s)(e:Jnk s t)(eU:StOk P t):Wj u p M R P t:=by
 obtain⟨bb,pb,vr,vc,mb,mp,h1,h2,h3,h4,h5,h6,h7,h8,h9,ez,_⟩:=h;obtain⟨e1,e2,e3,e4,e5,e6,e7,e8⟩:=e;rw[e1,e2,e3,e4]at h4;rw[e5]at h6;rw[e6]at h8;rw[e8]at ez;exact⟨bb,pb,vr,vc,mb,mp,h1,h2,h3,h4,h5,h6,h7,h8,h9,ez,eU⟩
def Po(w:World)(ds:List De)(nm:ByteArray)(bs:List Int)(e:Ending)(w':World):Prop:=Fr [] w w'/\match jz ds 3 nm with
 |none=>e=.returned (.tuple #[.pointer none,.int .i64 6])
 |some d=>match xr bs with
  |none=>e=.returned (.tuple #[.pointer none,.int .i64 2])
  |some (q,s)=>if q=nm/\s.cls.length=d.classes.length then∃p M R,e=.returned (.tuple #[.pointer (some ⟨p,0,none⟩),.int .i64 0])/\Wj w' p M R ⟨nm,d.checks.length,d.classes.length,JM eO (KX ds nm)⟩ s/\(∀x∈M++R,w.heap.size<=x)
   else e=.returned (.tuple #[.pointer none,iV 22])
attribute [local irreducible] Code.wp wpList Exit.then Exit.inBlock bodyPost A Calls execOp Addr.add
theorem Jm4(ds:List De)(nm:ByteArray)(v0 x:Value)(bs:List Int)(w:World)(S0:List Nat)(fA:∀d∈ds,SzD d)(hl:ds.length<=50)(hd:DR w S0 (.l (ds.map eR)) v0)(hx:Src w x bs.length (bs.map (.int .u8)))(hB:fT bs)(hL:bs.length<=1000000000):
 Calls prog 36 #[.agg ([v0]:List Value).toArray,.string nm,x] w (Po w ds nm bs):=by
 have h01:=hd.one;obtain⟨aox,cx,rfl,_⟩:=id hx;refine enter func36 rfl ntmps36 rfl ?_;refine rx ?_;refine Ju (l:=[v0]) rfl rfl (fun w1 b3 ifB iB aj bh=>?_);refine rx ?_;refine aT (Rc ds nm v0 w1 S0 fA hl (hd.tr0 aj)) rfl ?_;rintro en w2 ⟨aq,j1⟩;have aS:=aj.Jb aq;cases jM:jz ds 3 nm with
 |none=>
  rw[jM]at j1;simp only at j1;subst j1;refine⟨_,rfl,?_⟩;refine Ymh ?_;unfold Po;rw[jM];exact⟨aS,rfl⟩
 |some d=>
 rw[jM]at j1;simp only at j1;obtain⟨p,M,R,rfl,hC,yA⟩:=j1;have lR:(J6 d.classes.length []).cls.length=d.classes.length:=by simp[J6]
 obtain⟨s0,mF⟩:=aP (J6 d.classes.length []);obtain⟨rl,k7⟩:=aP (JM eO (KX ds nm));obtain⟨nc,kY⟩:=aP d.classes.length;obtain⟨nk,hnk⟩:=aP d.checks.length;rw[<-mF,<-k7,<-kY,<-hnk]at hC;rw[<-mF,<-kY]at lR;clear mF;refine⟨_,rfl,?_⟩;refine rx ?_;refine Y9 (Jnx _ bs w2 (hx.tr0 aS) hB ab) ?_;rintro r v3 w3 ⟨yo,aF,iA,kW,hO3⟩;refine rx ?_;refine JF [.pointer (some ⟨r,0,none⟩),iV (bs.length:Nat),.bool false] rfl ?_;refine Ju (l:=[.pointer (some ⟨r,0,none⟩),iV (bs.length:Nat),.bool false]) rfl rfl (fun w4 dd tQ rc aI eA=>?_);have gm:=aF.Jb aI;have bq:=aS.Jb gm;have hC4:=hC.tr0 gm;have tg:=yo.1.lt;have hI:∃B,iX w4 dd r B v3 bs.length ⟨bs,0,false⟩:=by
  obtain⟨ao,c,rfl⟩:=hO3.slice;cases ao with
  |none=>exact⟨r,rc,⟨yo.1.tr0 aI,yo.2.1.tr0 aI,yo.2.2⟩,(fun ad n c e=>by cases e),by omega,by rw[eA];omega⟩
  |some ad=>
   have:=hO3.lt ad.block oz;exact⟨ad.block,rc,⟨yo.1.tr0 aI,yo.2.1.tr0 aI,yo.2.2⟩,(fun lC n c' e=>by cases e;rfl),by omega,by rw[eA];omega⟩
 obtain⟨B,hI⟩:=hI;refine rx ?_;refine aT (JnH hI hL) rfl ?_;rintro _ w5 ⟨p2,bb,pb,vc,v5,rfl,hI5,aO,vu,ph,pr,oM,iJ,hP,hO,bZ⟩;refine⟨_,rfl,?_⟩;have cz:=aS.size;have A':=gm.size;have Tl:=aF.size;have bX:Fr [] w w5:=bq.trans aO (fun x hx=>.inr (by simp at hx;omega));have ik:=hI5.1;have nw:(d4 bs).2.bad=false->th (d4 bs).2.bs (d4 bs).2.e=0->xr bs=some ((d1 bs).1.prop,Re (d1 bs).1 (d2 bs).1 (d3 bs).1 (d4 bs).1):=fun h1 h2=>by unfold xr;rw[SH (by simp[h1,h2])]
 have qM:(d4 bs).2.bad=true\/th (d4 bs).2.bs (d4 bs).2.e≠0->xr bs=none:=fun h=>by unfold xr;rw[Cb h]
 obtain⟨q4,e4⟩:=aP ((d4 bs).2);obtain⟨x1,e1⟩:=aP ((d1 bs).1);obtain⟨x2,e2⟩:=aP ((d2 bs).1);obtain⟨x3,e3⟩:=aP ((d3 bs).1);obtain⟨x4,e5⟩:=aP ((d4 bs).1);rw[<-e4]at hI5 bZ nw qM;rw[<-e1]at hP nw;rw[<-e2]at hO nw;rw[<-e3,<-e5]at bZ nw;rw[<-e4]at ik;clear e4 e1 e2 e3 e5;refine rx ?_;refine Jg (JnG r v5 _ _ w5 hI5.2.1) ?_;rintro _ rfl;obtain⟨re,pA⟩:=aP (th q4.bs q4.e);rw[<-pA]at nw qM ⊢;by_cases he:re=0
 case neg=>
  refine Ymh ?_;unfold Po;rw[jM,qM (.inr he)];exact⟨bX,rfl⟩
 cases fQ:q4.bad with
 |true=>
  rw[fQ]at ik;refine Ymh ?_;unfold Po;rw[jM,qM (.inl fQ)];exact⟨bX,rfl⟩
 |false=>
 rw[fQ]at ik;refine rx ?_;have mX:=nw fQ he;have Rg:=JmL hB mX;obtain⟨⟨mb,dJ,ti⟩,mp,dW,xu⟩:=bZ fQ;replace mX:=Hid.mk mX;replace Rg:=Hid.mk Rg;replace ti:=Hid.mk ti;replace xu:=Hid.mk xu;clear nw qM bZ;have Rh:=hC.lt;have hof:∀x∈M++R,x∉[dd,r]:=fun x hx hm=>by
  have:=Rh x hx;simp at hm;omega
 have hC5:=hC4.tr aO hof;obtain⟨bb0,pb0,vr,vc0,mb0,mp0,rfl,rfl,ifC,eH,gY,po,_,_,_,_,_⟩:=hC5;have iaz:=hO.one;obtain⟨iZ,cc,rfl⟩:=hO.slice;obtain⟨ifD,cc0,rfl⟩:=po.slice;rw[lR]at eH po;have ieL:p<w2.heap.size:=Rh p ap;have qu:p2≠p:=by omega
 by_cases hq:x1.prop=nm
 case neg=>
  refine Ymp ?_;obtain⟨w6,rf⟩:=aP w5.drew;rw[<-rf];have hS:Fr [] w5 w6:=rf▸Fr.drew _ _;refine An ?_;refine Kw 8 hS ?_ (aw:=by(intro u hu;exact(Jk7 (a:=x1.prop) (b:=nm) rfl rfl (SN hq))));refine Yms ?_;refine j5 ?_;refine Ri ?_;unfold Po;rw[jM,mX.o];refine⟨bX.Jb hS,?_⟩;show ite (x1.prop=nm/\x2.length=d.classes.length) _ _;rw[SH (fun h=>hq h.1)]
 by_cases hn:x2.length=nc
 case neg=>
  refine Ymp ?_;obtain⟨w6,rf⟩:=aP w5.drew;rw[<-rf];have hS:Fr [] w5 w6:=rf▸Fr.drew _ _;refine An ?_;refine Kw 8 hS ?_ (aw:=by(intro u hu;exact(Jk7 (a:=x1.prop) (b:=nm) rfl rfl (SG (fun h=>h hq)))));refine Yms ?_;refine j5 ?_;refine Ri ?_;unfold Po;rw[jM,mX.o];refine⟨bX.Jb hS,?_⟩;show ite (x1.prop=nm/\x2.length=d.classes.length) _ _;rw[SH (fun h=>hn (h.2.trans kY.symm))]
 refine Ymp ?_;obtain⟨w6,rf⟩:=aP w5.drew;rw[<-rf];have hS:Fr [] w5 w6:=rf▸Fr.drew _ _;refine An ?_;refine Kw 8 hS ?_ (aw:=by(intro u hu;exact(Jk7 (a:=x1.prop) (b:=nm) rfl rfl (SG (fun h=>h hq)))));refine Yms ?_;refine gK ?_;have bR:=bX.Jb hS;have hP:=hP.tr0 hS;have eH:=eH.tr0 hS;have hO:=hO.tr0 hS;have gY:=gY.tr0 hS;have dJ:=dJ.tr0 hS;have dW:=dW.tr0 hS;have icP:=gY.one;obtain⟨mr,cr,rfl⟩:=gY.slice;clear hS;have np2:∀y:Nat,y≠p2->y∉[p2]:=fun y h=>by simpa using h
 refine rx ?_;refine JE (fun z=>Fr [p2] w6 z) az rfl ?_;obtain⟨w7,uJ⟩:=aP w6.drew;rw[<-uJ];have rh:Fr [] w6 w7:=uJ▸Fr.drew _ _;have hS:Fr [p2] w6 w7:=rh.mono ap;refine Ae ?_;refine Kw 5 hS ?_ (aw:=by(intro u hu;exact(J7 rfl (aG.cell (eH.tr hu (np2 _ (I7 qu))) rfl))));refine JX 6 7 hS ?_;refine bH 8 hS ?_;refine Kw 9 hS ?_ (aw:=by(intro u hu;exact(J7 rfl (aG.cell (eH.tr hu (np2 _ (I7 qu))) rfl))));refine JX 10 11 hS ?_;refine JJ (i:=12) rfl az ?_
 ((with_reducible apply Ji);exact rfl;(conv=>lhs;whnf);exact rfl;exact(hP.tr0 rh);exact rfl)
 intro w8 kb aM fL;replace kb:aG w8 p2 [.string x1.prop,iV (nk:Nat),zS,iV (x1.runs:Nat),iV (x1.o0:Nat),iV (x1.o1:Nat),iV (x1.o2:Nat),.slice iZ x2.length cc,.map (some bb),.map (some pb)] _:=kb;have hS:=hS.trans aM (fun x hx=>.inl hx);refine ft ?_;refine JX 13 14 hS ?_;refine JJ (i:=15) rfl az ?_
 ((with_reducible apply Ji);exact rfl;(conv=>lhs;whnf);exact icP;exact kb;exact rfl)
 intro w9 Rj aW ju;replace Rj:aG w9 p2 [.string x1.prop,iV (nk:Nat),.slice mr rl.length cr,iV (x1.runs:Nat),iV (x1.o0:Nat),iV (x1.o1:Nat),iV (x1.o2:Nat),.slice iZ x2.length cc,.map (some bb),.map (some pb)] _:=Rj;have hS:=hS.trans aW (fun x hx=>.inl hx);refine ft ?_;refine j5 ?_;refine Ri ?_;unfold Po;rw[jM,mX.o];have dN:∀x∈[p2,bb,pb]++ag (Value.slice iZ x2.length cc),w4.heap.size<=x:=fun x hx=>by
  rcases SE.1 hx with hx|hx
  .simp at hx;rcases hx with rfl|rfl|rfl<;>omega
  .exact oM x hx
 have vh:∀x∈ag (Value.slice mr rl.length cr),x<w2.heap.size:=fun x hx=>Rh x lA
 have hRo:∀x∈ag (Value.slice mr rl.length cr),x∉[p2]:=fun x hx hm=>by
  have:=vh x hx;rw[Sv.1 hm]at this;omega
 have hnM:∀x∈ag (Value.slice iZ x2.length cc),x∉[p2]:=fun x hx hm=>(DW.1 iJ).2.2 p2 ap x hx (Sv.1 hm).symm
 have Rk:bb∉[p2]:=fun hm=>by
  have:=(DW.1 iJ).1;simp at this hm;exact this.1.1 hm.symm
 have xw:pb∉[p2]:=fun hm=>by
  have:=(DW.1 iJ).1;simp at this hm;exact this.1.2 hm.symm
 refine⟨bR.trans hS (fun x hx=>.inr bt),?_⟩;simp only;rw[Cb ⟨hq,hn.trans kY⟩,<-k7,<-hnk];subst hq;refine⟨p2,[p2,bb,pb]++ag (Value.slice iZ x2.length cc),ag (Value.slice mr rl.length cr),rfl,⟨bb,pb,_,_,mb,mp,rfl,rfl,DW.2 ⟨iJ,Ao gY,fun x hx y hy e=>?_⟩,Rj,gY.tr hS hRo,hO.tr hS hnM,dJ.tr hS Rk,ti.o,dW.tr hS xw,xu.o,?_⟩,fun x hx=>?_⟩
 .have h1:=dN x hx;have h2:=vh y hy;omega
 .have:=Rg.o.ok nk rl
  rwa [show(Re x1 x2 x3 x4).cls.length=d.classes.length from hn.trans kY]at this
 .rcases SE.1 hx with hx|hx
  .have:=dN x hx;omega
  .have:=yA x (CJ _ hx);omega
end
section
open Go.Proofs.Tryz
open Go.Rf Go.RowKit
variable{P:Pp}
theorem JlQ{α:Type}{f:α->List Int}{l:List α}(h:∀x∈l,fT (f x)):fT (l.flatMap f):=fun b hb=>by
 obtain⟨x,hx,hb⟩:=DY.1 hb;exact h x hx b hb
theorem Jl9(b:Br):fT (fZ b):=((Jms (JmC _)).append (vI _)).append (vI _)
theorem JmJ(q:ByteArray)(s:St):fT (U0 q s):=by
 unfold U0;exact(((((((((((Jms (JmC _)).append (vI _)).append (vI _)).append (vI _)).append (vI _)).append (vI _)).append (JlQ (fun _ _=>vI _))).append (vI _)).append (JlQ (fun _ _=>(Jl9 _).append (vI _)))).append (vI _)).append (JlQ (fun _ _=>(Jl9 _).append (Jl9 _))))
theorem Jnp{rs:List Rn}(hP:SmP P)(hr:xx rs)(eU:StOk P (J6 P.ncls rs)):∃s',xr (U0 P.prop (J6 P.ncls rs))=some (P.prop,s')/\Jnk s' (J6 P.ncls rs):=by
 have h2:=hr.ks (n:=P.ncls);have h1:=eU.ncls;have h3:=hP.prop;have h4:=hP.ncls;exact Jm5 eU ab (by show rs.length<=_;have:=hr.1;omega) (fun b hb=>by
  obtain⟨h5,h6,h7⟩:=Rl (h2.2.2 b hb);exact⟨by have:=(h2.2.2 b hb).1;omega,h6,h7⟩) ab ab ab
theorem Jlv{u:World}{p:Nat}{M R:List Nat}{rs:List Rn}(hC:Wj u p M R P (J6 P.ncls rs))(hP:SmP P)(hr:xx rs):
 Calls prog 27 #[.pointer (some ⟨p,0,none⟩)] u fun e u'=>∃v,e=.returned v/\bx u' 5 1 v (U0 P.prop (J6 P.ncls rs)).length ((U0 P.prop (J6 P.ncls rs)).map (.int .u8))/\Fr [] u u'/\(∀x∈ag v,u.heap.size<=x):=by
 have eU:StOk P (J6 P.ncls rs):=by obtain⟨_,_,_,_,_,_,_,_,_,_,_,_,_,_,_,_,h⟩:=hC;exact h
 have h0:=hP.ncls;have h1:=eU.ncls;have h2:=hr.ks (n:=P.ncls);have h3:=hr.1;have h4:=hP.prop;have h5:(J6 P.ncls rs).runs<=1000000:=by show rs.length<=_;omega
 exact JhG u hC ab ab ab h5 ab (fun b hb=>Rl (h2.2.2 b hb)) (Jjh hP eU h5 h2.1 h2.2.1 h2.2.2)
theorem Jlm{rs:List Rn}(hP:SmP P)(hr:xx rs)(eU:StOk P (J6 P.ncls rs)):(U0 P.prop (J6 P.ncls rs)).length<=1000000000:=by
 have h2:=hr.ks (n:=P.ncls);have h3:=hr.1;exact Jjh hP eU (by show rs.length<=_;omega) h2.1 h2.2.1 h2.2.2
attribute [local irreducible] Code.wp wpList Exit.then Exit.inBlock bodyPost A Calls execOp Addr.add
theorem JlL(x:Value)(l:List Int)(y:Value)(ms:List Int)(k:Int)(w:World)(hx:Src w x l.length (l.map (.int .i64)))(hl:∀n∈l,VE n)(hy:Src w y ms.length (ms.map (.int .i64)))(Ap:∀n∈ms,VE n)(hk:VE k):
 Calls prog 8 #[x,y,iV k] w fun e w'=>e=.returned (.bool true)/\Fr [] w w':=by
 obtain⟨ax,cx,rfl,_⟩:=id hx;obtain⟨ay,cy,rfl,_⟩:=id hy;refine enter func8 rfl ntmps8 rfl ?_;refine rx ?_;refine Y9 (Jhp _ l w hx hl) ?_;rintro ds v w1 ⟨hD,aj,hm⟩;obtain⟨av,cv,rfl,_⟩:=hD.slice;refine rx ?_;refine Jm (l:=[zS]) rfl (fun w2 b7 Aq h7 aq cz=>?_);refine rx ?_;refine Jd (cs:=[.slice av (ds.map eR).length cv]) rfl rfl h7 dQ rfl rfl (fun w3 h7 aF dO=>?_);have aL:Fr [] w1 w3:=aq.trans aF (fun x hx=>.inr bt);have hD:=hD.tr0 aL;have aV:=aj.Jb aL;have ifE:=h7.lt;refine rx ?_;refine aT (Jjx ds k _ w3 _ hk hm hD) rfl ?_;rintro _ w4 ⟨d,p,M,R,q,N,T,jM,rfl,hC,hQ,yA,hNT,TT,aI⟩;refine⟨_,rfl,?_⟩;have hP:=Jix hm jM;obtain⟨nm,lm⟩:=aP (Xm ds k);rw[<-lm]at jM hP hC hQ;obtain⟨P,hPe⟩:=aP (Rm ds nm d);have vJ:gR eO P.reach:=by rw[hPe];exact QA Qu _
 have hPn:d.classes.length=P.ncls:=by rw[hPe];rfl
 have hPp:nm=P.prop:=by rw[hPe];rfl
 rw[<-hPe]at hP hC hQ;have hp0:=hP.prop;have hp1:=hP.checks;have vu:=hP.ncls;have ri:=hP.reach;have hB:=Bo.beg hPn hC hQ TT [] ap;rw[Ce]at hB;have bq:=aV.Jb aI;have h7:=h7.tr0 aI;have Ar:∀x∈M++R,x<w4.heap.size:=hC.lt;have hlN:∀x∈N++T,x<w4.heap.size:=hQ.lt;have a1:∀x∈M++N,w3.heap.size<=x/\x<w4.heap.size:=fun x hx=>by
  rcases SE.1 hx with h|h
  .exact ⟨yA x (SA _ h),Ar x (SA _ h)⟩
  .exact ⟨hNT x (SA _ h),hlN x (SA _ h)⟩
 have icQ:=aV.size;have ifF:=aI.size;clear hC hQ;refine rx ?_;refine Jg (Jle _ ms 0 4 w w4 hB hP bq (fun x hx=>by have:=a1 x hx;omega) hy Ap ab ab ap) ?_;rintro w5 ⟨N',S',hB,aO,hN',hS'⟩;rw[CO]at hB;have bX:Fr [] w w5:=bq.trans aO (fun x hx=>.inr (by have:=a1 x hx;omega));have ls:Fr [] w3 w5:=aI.trans aO (fun x hx=>.inr (by have:=a1 x hx;omega));have h7:=h7.tr aO (fun hm=>by have:=a1 _ hm;omega);have eV:=aO.size;obtain⟨rs,As⟩:=aP (tj P ms 0 4);have k7:rs.length=4:=by rw[As,Jla]
 have hrq:∀r∈rs,(r.bs.length<=5/\∀b∈r.bs,si b)/\r.cl.length<=17:=fun r hr=>by
  rw[As]at hr;obtain⟨j,_,rfl⟩:=Du.1 hr;exact⟨⟨Jfh,JgR hP⟩,CG Jfg ab⟩
 rw[<-As]at hB;clear As;have Au:xx rs:=⟨by omega,fun r hr=>(hrq r hr).1⟩;have eU:StOk P (J6 P.ncls rs):=by obtain⟨_,_,_,_,_,_,_,_,_,_,_,_,_,_,_,_,h⟩:=hB.1;exact h
 have fg:=eU.ncls;have hel:=Jlm hP Au eU;obtain⟨s',mX,heq⟩:=Jnp hP Au eU;replace mX:=Hid.mk mX;have s8:=hB;refine rx ?_;refine aT (Jlw w5 hB.1 ab) rfl ?_;rintro _ w6 ⟨pa,Ma,rfl,hA,hMa,aJ⟩;have vK:∀x∈Ma,x<w6.heap.size:=fun x hx=>hA.lt x (SA _ hx)
 refine⟨_,rfl,?_⟩;have hB:=hB.tr0 aJ;have h7:=h7.tr0 aJ;have bR:=bX.Jb aJ;have iaA:=ls.Jb aJ;have fm:=aJ.size;refine rx ?_;refine JE (fun z=>Fr [] w6 z) az rfl ?_;obtain⟨w7,uJ⟩:=aP w6.drew;rw[<-uJ];have hS:Fr [] w6 w7:=uJ▸Fr.drew _ _;refine JX 0 1 hS ?_;refine bH 2 hS ?_;refine bH 4 hS ?_;refine JJ (i:=3) rfl az ?_;refine Jg (Jj0 ds k _ w7 _ hk hm.props (by have:=hm.len;omega) (hD.tr0 (iaA.Jb hS))) ?_;rintro w8 aM;rw[<-lm];have hS:=hS.Jb aM;refine ft ?_;refine zD ?_;refine Jl (Jlv (hB.1.tr0 hS) hP Au) ?_;rintro vE w9 ⟨hE,aW,hEg⟩;have hS:=hS.Jb aW;refine ft ?_;refine JJ (i:=6) rfl az ?_;refine aT (Jm4 ds nm _ vE _ w9 _ hm.sz (by have:=hm.len;omega) (hD.tr0 (iaA.Jb hS)) hE.src (JmJ _ _) hel) rfl ?_;intro _ fy cH;unfold Po at cH;rw[jM,mX.o]at cH;obtain⟨aD,cH⟩:=cH;have iaB:P.prop=nm/\s'.cls.length=d.classes.length:=⟨hPp.symm,by rw[heq.2.2.2.2.1,fg,hPn]⟩;simp only at cH;rw[Cb iaB]at cH;obtain⟨pb,Mb,Rb,rfl,lH,hMb⟩:=cH;refine⟨_,rfl,?_⟩;have lH:Wj fy pb Mb Rb P (J6 P.ncls rs):=Jnb (by rw[hPe];exact lH) heq eU;have hsS:=hS.size;have hS:=hS.Jb aD;refine ft ?_;refine JX 7 8 hS ?_;refine bH 9 hS ?_;refine JJ (i:=10) rfl az ?_;refine rx ?_;refine Jv hS ?_;refine JJ (i:=11) rfl az ?_;refine rx ?_;refine Jv hS ?_;refine gK ?_;have hB:=hB.tr0 hS;have hA:=hA.tr0 hS;have bk:=bR.Jb hS;have iaC:=aJ.Jb hS;have eF:=aD.size;have b1:∀x∈Ma++Mb,w5.heap.size<=x/\x<fy.heap.size:=fun x hx=>by
  rcases SE.1 hx with h|h
  .have:=hMa x h;have:=vK x h;omega
  .have:=hMb x (SA _ h);have:=lH.lt x (SA _ h);omega
 have b2:∀x∈Ma++R,x∉Mb:=fun x hx hm=>by
  have h1:=hMb x (SA _ hm);rcases SE.1 hx with h|h
  .have:=vK x h;omega
  .have:=Ar x (CJ _ h);omega
 have b3:∀x∈Mb++Rb,x∉Ma:=fun x hx hm=>by
  have h1:=hMb x hx;have:=vK x hm;omega
 have iaD:jP fy q N' T (S'++(Ma++Mb)) P rs:=(jP.mono s8.2.1 (fun x hx=>SA _ (jP.NS s8.2.1 x hx)) (fun x hx=>(SE.1 hx).elim .inl (fun h=>.inr (b1 x h).1))).tr0 iaC;have c1:∀x∈M++R,x∉Ma++Mb:=fun x hx hm=>by have:=b1 x hm;have:=Ar x hx;omega
 have c2:∀x∈N'++T,x∉Ma++Mb:=fun x hx hm=>by
  have h1:=b1 x hm;rcases SE.1 hx with h|h
  .have:=s8.2.1.lt x (SA _ h);omega
  .have:=hlN x (CJ _ h);omega
 have Ro:=hB.1;clear s8 hB TT yA hNT mX heq;refine rx ?_;refine Jl (Jlv Ro hP Au) ?_;rintro vF eT ⟨hE2,aB,icR⟩;obtain⟨aoE,cE,rfl⟩:=hE2.slice;have icS:=iaD.tr0 aB;have icT:=Ro.tr0 aB;have hA:=hA.tr0 aB;have lH:=lH.tr0 aB;have bK:=bk.Jb aB;have eQ:=aB.size;have c3:∀x∈ag (Value.slice aoE (U0 P.prop (J6 P.ncls rs)).length cE),x∉Ma++Mb:=fun x hx hm=>by have:=b1 x hm;have:=icR x hx;omega
 have hsw:=bX.size;clear hE aB iaD Ro;refine rx ?_;refine Jh 16 [15] (σ:=Nat×List Rn) (fun t g u=>g 15=iV (t.1:Nat)/\t.1<=4/\Wj u pa Ma R P (J6 P.ncls t.2)/\Wj u pb Mb Rb P (J6 P.ncls t.2)/\Av (4+t.1) t.2/\Fr (Ma++Mb) eT u) (fun t=>4-t.1) (0,rs) ⟨rfl,SL _,hA,lH,⟨by simp[k7],hrq⟩,Fr.refl _ _⟩ ?_;clear hA lH;rintro⟨i,us⟩ g u ⟨g15,hi,hA,lH,hq,hF⟩;simp only at g15 hi hA lH hq;rw[Ja g15];have lD:Fr [] w u:=bK.trans hF (fun x hx=>.inr (by have:=b1 x hx;omega));have hQu:=icS.tr hF c2 (fun x hx=>.inl (CJ _ hx));have hCu:=icT.tr hF c1;by_cases aC:i<4
 case neg=>
  have hEu:=hE2.tr hF c3;refine rx ?_;refine Jl (Jlv hCu hP Au) ?_;rintro vG u1 ⟨hG,pW,_⟩;obtain⟨aoG,cG,rfl⟩:=hG.slice;refine rx ?_;refine Jg (Jeo _ _ _ _ u1 (hEu.tr0 pW).src hG.src ab) ?_;rintro u2 oL;rw[SN rfl];have nK:=pW.Jb oL;refine rx ?_;refine Jg (JjP u2 (hCu.tr0 nK) ((hQu.tr0 nK).v ab ab) hP Au (fun r hr=>by have:=(hrq r hr).2;omega) vJ) ?_;rintro u3 vL;refine rx ?_;refine Jg (Jjb u3) ?_;rintro u4 vN;refine bM ?_;exact⟨rfl,((lD.Jb nK).Jb vL).Jb vN⟩
 have Aw:=hq.1;have jX:=hF.size;refine rx ?_;refine Y9 (JjM _ ms (50+12*(i:Int)) true u (hQu.v ab ab) (hy.tr0 lD) Ap ab ab) ?_;rintro vb vl u1 ⟨qU,vO,pR,pW⟩;have lS:=Jfh (P:=P) (l:=ms) (at_:=50+12*(i:Int)) (b:=true);have nF:=Jfg (P:=P) (l:=ms) (at_:=50+12*(i:Int)) (b:=true);have yd:=JgR hP (l:=ms) (a:=50+12*(i:Int)) (bad:=true);obtain⟨r,hr⟩:=aP (XW P ms (50+12*(i:Int)) true);rw[<-hr]at qU vO lS nF yd ⊢;obtain⟨iK,cb,rfl⟩:=qU.1.slice;obtain⟨jG,cl,rfl⟩:=vO.slice;refine rx ?_;refine Jg (Jj6 r.kind r.at_ r.code (.slice iK r.bs.length cb) (.slice jG r.cl.length cl) _ rfl rfl) ?_;rintro u2 oL;refine rx ?_;refine Jm (l:=[zI,zI,zI,zS,zS,zI]) rfl (fun u3 b16 iaw mK vL iaE=>?_);refine rx ?_;refine Jd (cs:=[iV r.kind,iV r.at_,iV r.code,.slice iK r.bs.length cb,.slice jG r.cl.length cl,zI]) rfl rfl mK dQ rfl rfl (fun u4 mK vN icU=>?_);have gm:Fr [] u2 u4:=vL.trans vN (fun x hx=>.inr bt);have aR:=oL.Jb gm;have rj:=pW.Jb aR;have qU:=qU.tr0 aR;have vO:=vO.tr0 aR;have j0:=(pW.Jb oL).size;have hbM:∀x∈ag (Value.slice iK r.bs.length cb),x∉Ma++Mb:=fun x hx hm=>by have h1:=qU.2 x hx;have h2:=b1 x hm;omega
 have iaF:∀x∈ag (Value.slice jG r.cl.length cl),x∉Ma++Mb:=fun x hx hm=>by have h1:=pR x hx;have h2:=b1 x hm;omega
 have n16:b16∉Ma++Mb:=fun hm=>by have h2:=b1 _ hm;omega
 have dB:∀{z:World},Fr (Ma++Mb) u4 z->DR z (Ma++Mb) (.l (r.bs.map jl)) (.slice iK r.bs.length cb):=fun{z} hf=>ZO (qU.1.tr hf hbM) ab hbM
 have dL:∀{z:World},Fr (Ma++Mb) u4 z->DR z (Ma++Mb) (.l (r.cl.map KI)) (.slice jG r.cl.length cl):=fun{z} hf=>Jgd (vO.tr hf iaF) ab iaF
 have hA:=hA.tr0 rj;have lH:=lH.tr0 rj;refine rx ?_;refine JE (fun z=>Fr (Ma++Mb) u4 z) az rfl ?_;obtain⟨u5,hu5⟩:=aP u4.drew;rw[<-hu5];have vP:Fr [] u4 u5:=hu5▸Fr.drew _ _;have hS:Fr (Ma++Mb) u4 u5:=vP.mono ap;have hA:=hA.tr0 vP;have lH:=lH.tr0 vP;refine bH 0 hS ?_;refine Kw 1 hS ?_ (aw:=by(intro u hu;exact(Kv rfl (Cells.VO (mK.tr hu n16)) fD)));refine bH 3 hS ?_;refine Kw 4 hS ?_ (aw:=by(intro u hu;exact(Kv rfl (Cells.VO (mK.tr hu n16)) fD)));refine JJ (i:=2) rfl az ?_;refine Jg (Jdd r (.slice iK r.bs.length cb) (.slice jG r.cl.length cl) u5 hA (dB hS) (dL hS)) ?_;rintro u6 Rp;have hS:=hS.Jb Rp;have hA:=hA.tr0 Rp;have lH:=lH.tr0 Rp;refine ft ?_;refine zD ?_;refine Jg (Jdd r (.slice iK r.bs.length cb) (.slice jG r.cl.length cl) u6 lH (dB hS) (dL hS)) ?_;rintro u7 Rq;have hS:=hS.Jb Rq;have hA:=hA.tr0 Rq;have lH:=lH.tr0 Rq;refine ft ?_;obtain⟨fb,hfb⟩:=aP ((Qd P r&&VB (J6 P.ncls us) r));rw[<-hfb];refine Kw 6 hS ?_ (aw:=by(intro u hu;exact(XP (p:=false) underlying4 rfl rfl (by cases fb<;>rfl))));refine JX 7 8 hS ?_;refine Kz 9 hS ?_ (aw:=by(intro u hu;exact(Kv rfl (Cells.VO (mK.tr hu n16)) fD)));refine bH 11 hS ?_;refine Kz 12 hS ?_ (aw:=by(intro u hu;exact(Kv rfl (Cells.VO (mK.tr hu n16)) fD)));refine uW ?_;refine rx ?_;refine Jg (Rs r (.slice iK r.bs.length cb) (.slice jG r.cl.length cl) u7 hA (fun x hx=>SA _ hx) (dB hS) (dL hS) (by show us.length<=1000000;omega) ab) ?_;rintro u8 ⟨hA,iaG⟩;have hS:=hS.trans iaG (fun x hx=>.inl (SA _ hx));have lH:=lH.tr iaG b3;refine ft ?_;refine JJ (i:=13) rfl az ?_;refine rx ?_;refine Jg (Rs r (.slice iK r.bs.length cb) (.slice jG r.cl.length cl) u8 lH (fun x hx=>CJ _ hx) (dB hS) (dL hS) (by show us.length<=1000000;omega) ab) ?_;rintro u9 ⟨lH,iaH⟩;have hS:=hS.trans iaH (fun x hx=>.inl (CJ _ hx));have hA:=hA.tr iaH b2;refine ft ?_;rw[Jiu]at hA lH;have vQ:=hq.next (P:=P) lS yd ab;obtain⟨vs,Ad⟩:=aP (xy P us r);rw[<-Ad]at hA lH vQ;have hvR:=vQ.r ab;obtain⟨ae,hae⟩:=aP (JgJ P r);rw[<-hae];have icV:StOk P (J6 P.ncls vs):=by obtain⟨_,_,_,_,_,_,_,_,_,_,_,_,_,_,_,_,h⟩:=hA;exact h
 have ifG:=Jlm hP hvR icV;refine Jj 14 15 16 17 hS ?_;refine bH 19 hS ?_;refine JJ (i:=18) rfl az ?_;refine rx ?_;refine Jl (Jlv hA hP hvR) ?_;rintro vG lF ⟨hG,vR,_⟩;have hS:=hS.Jb vR;refine ft ?_;refine JJ (i:=20) rfl az ?_;refine rx ?_;refine Jl (Jlv (lH.tr0 vR) hP hvR) ?_;rintro vH qA ⟨hH,vT,_⟩;have hS:=hS.Jb vT;refine ft ?_;refine JJ (i:=21) rfl az ?_;refine rx ?_;refine Jg (Jeo _ _ _ _ qA (hG.tr0 vT).src hH.src ab) ?_;rintro zW Pq;rw[SN rfl];have hS:=hS.Jb Pq;refine ft ?_;refine JX 22 23 hS ?_;refine gK ?_;have Ps:=(vR.Jb vT).Jb Pq;refine rx ?_;refine Jc (i+1,vs) a6 ⟨rfl,aC,hA.tr0 Ps,lH.tr0 Ps,vQ,(hF.Jb rj).trans hS (fun x hx=>.inl hx)⟩ eM
end
section
open Go.Rf Go.RowKit
theorem wf_i64{n:Int}(h:(Lit.int .i64 n).wf=true):VE n:=by
 have: -9223372036854775808<=n/\n<=9223372036854775807:=by simpa[Lit.wf,IntKind.min,IntKind.max,IntKind.signed,IntKind.bits]using h
 exact this
theorem JbA{W:World}{k:IntKind}{x:Addr}{len cap:Nat}{zs:List Int}(hl:len<=cap)(hz:zs.length=cap)(bV:∀i,i<zs.length->W.cell? (x.add i)=some (.int k (zs.getD i 0)))(hw:∀n∈zs,(Lit.int k n).wf=true):
 ∃xs:List Int,Src W (.slice (some x) len cap) xs.length (xs.map (.int k))/\∀n∈xs,(Lit.int k n).wf=true:=by
 have e:(zs.take len).length=len:=by simp;omega
 refine⟨zs.take len,⟨some x,cap,by rw[e],by rw[e];exact hl,fun h=>mi,?_⟩,fun n hn=>hw n (E5 hn)⟩;intro ad ha j u hu;simp only[Sj]at ha;subst ha;rw[ET]at hu;obtain⟨z,jB,rfl⟩:=Option.map_eq_some_iff.1 hu;obtain⟨hj,hz2⟩:=Df.1 jB;have hj2:j<zs.length:=by simp at hj;omega
 rw[bV j hj2];rw[FU]at hz2;simp[List.getD,hj2,hz2]
end
end Go.Proofs.YtggmccicdhnkgaaGreat
