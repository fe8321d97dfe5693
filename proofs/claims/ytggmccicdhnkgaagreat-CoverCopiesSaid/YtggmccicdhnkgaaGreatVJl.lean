/-
 Sizes of what is reached;lists of branches and numbers as data,off some blocks;the law's own;its example.
-/
import Derived.Test.YtggmccicdhnkgaaGreatVJe
import Derived.Test.YtggmccicdhnkgaaGreatVJc
import Derived.Test.YtggmccicdhnkgaaGreatVPw
set_option linter.all false
set_option maxHeartbeats 64000000
namespace Go.Rf
open Go.RowKit
def cF(ds:List De):List ByteArray:=(ds.filter (fun d=>decide (d.kind=3))).map De.name
def Xm(ds:List De)(k:Int):ByteArray:=(cF ds).getD (yN k (cF ds).length).toNat .empty
theorem Md{ds:List De}{i:Nat}(hi:i<ds.length):cF (ds.take (i+1))=cF (ds.take i)++(if ds[i].kind=3 then[ds[i].name] else[]):=by
 unfold cF;rw[SK hi,Ib,Dp]
 congr 1
 by_cases h:ds[i].kind=3<;>simp[h]
theorem NV(ds:List De):(cF ds).length<=ds.length:=by
 unfold cF;rw[Sr];exact D5 _ _
end Go.Rf
namespace Go.Proofs.YtggmccicdhnkgaaGreat
open Go.Proofs.Tryz
open Go.Rf Go.RowKit
attribute [local irreducible] Code.wp wpList Exit.then Exit.inBlock bodyPost A Calls execOp Addr.add
theorem JiS(ds:List De)(v0:Value)(w:World)(S:List Nat)(hl:ds.length<=1000000)(hd:DR w S (.l (ds.map eR)) v0):
 Calls prog 48 #[.agg ([v0]:List Value).toArray] w fun e w'=>∃v,e=.returned v/\bx w' 9 1 v (cF ds).length ((cF ds).map .string)/\(∀x∈ag v,w.heap.size<=x)/\Fr [] w w':=by
 have lq:(ds.map eR).length=ds.length:=Sr ..;obtain⟨ao,c,jL,_⟩:=hd.slice;rw[lq]at jL;subst jL;refine enter func48 rfl ntmps48 rfl ?_;refine rx ?_;refine Ju (l:=[.slice ao ds.length c]) rfl rfl (fun w1 b1 iaT bJ aj bh=>?_);refine rx ?_;refine Jh 5 [3,4] (σ:=Nat×Value) (fun t g u=>g 3=t.2/\g 4=iV (t.1:Nat)/\t.1<=ds.length/\bx u 9 1 t.2 (cF (ds.take t.1)).length ((cF (ds.take t.1)).map .string)/\(∀x∈ag t.2,w1.heap.size<=x)/\Fr [] w1 u) (fun t=>ds.length-t.1) (0,_) ⟨rfl,rfl,SL _,bx.nil _ _ _,by simp[ag,Value.ownBlock],Fr.refl _ _⟩ ?_;rintro⟨i,va⟩ g u ⟨g3,g4,hi,cB,hJ,hF⟩;simp only at g3 g4 hi cB hJ;rw[Ja g3,Ja g4];have bJ:=bJ.tr0 hF;have lD:=aj.Jb hF;by_cases aC:i<ds.length
 case neg=>
  rw[SQ ab]at cB;refine bM ?_;exact⟨va,rfl,cB,fun x hx=>by have:=hJ x hx;omega,lD⟩
 obtain⟨ad,cs,bi,hr,hc⟩:=DR.at KL (hd.tr0 lD) aC;subst bi;obtain⟨hk,hn⟩:=hr.kn;have pj:=NV (ds.take i);rw[C9]at pj;refine rx ?_;refine KW rfl (hc 0 _ hk) ?_;by_cases h3:ds[i].kind=3
 .refine rx ?_;refine KW rfl (hc 1 _ hn) ?_;refine rx ?_;refine QO (v:=.string ds[i].name) rfl rfl (fun u2 gu aq cz=>?_);refine rx ?_;refine JC (cB.tr0 aq) rfl gu.src rfl rfl dQ dt ab (fun v3 u3 pw aF lg _=>?_);have cI:=hF.size;refine rx ?_;refine Jc (i+1,v3) a6 ⟨rfl,rfl,aC,?_,fun x hx=>?_,(hF.Jb aq).trans aF (fun x hx=>.inr (hJ x hx))⟩ eM
  .simp only;rw[Md aC,Cb h3,Sm,Dp];exact pw
  .rcases lg x hx with h|h
   .exact hJ x h
   .omega
 .refine rx ?_;refine Jc (i+1,va) a6 ⟨rfl,rfl,aC,?_,hJ,hF⟩ eM;simp only;rw[Md aC,SH h3,Ce];exact cB
theorem Jj0(ds:List De)(k:Int)(v0:Value)(w:World)(S:List Nat)(hk:VE k)(h0:0<(cF ds).length)(hl:ds.length<=1000000)(hd:DR w S (.l (ds.map eR)) v0):
 Calls prog 12 #[.agg ([v0]:List Value).toArray,iV k] w fun e w'=>e=.returned (.string (Xm ds k))/\Fr [] w w':=by
 have h1:=hd.one;refine enter func12 rfl ntmps12 rfl ?_;refine rx ?_;refine Ju (l:=[v0]) rfl rfl (fun w1 b1 iaT bJ aj bh=>?_);refine rx ?_;refine Jl (JiS ds v0 w1 S hl (hd.tr0 aj)) ?_;rintro v w2 ⟨cB,_,aq⟩;have pj:=NV ds;obtain⟨ao,c,rfl⟩:=cB.slice;refine rx ?_;refine Jg (wk k (cF ds).length w2 hk.1 hk.2 ab) ?_;rintro _ rfl;have hr:=BI (a:=k) (m:=(cF ds).length) ab;obtain⟨j,hj⟩:∃j:Nat,(j:Int)=yN k (cF ds).length:=⟨_,Et hr.1⟩;have jm:j<(cF ds).length:=by omega
 obtain⟨ad,bi,bV⟩:=KO cB.src (JaI jm);have uc:Xm ds k=(cF ds)[j]:=by unfold Xm;rw[<-hj,EG,ff jm]
 rw[uc];refine rx ?_;refine BZ rfl rfl hj.symm jm bi ?_;refine KW rfl bV ?_;refine bM ?_;exact⟨rfl,aj.Jb aq⟩
def JgM(w:World)(ds:List De)(nm:ByteArray)(e:Ending)(w':World):Prop:=Fr [] w w'/\match jz ds 3 nm with
 |none=>e=.returned (.tuple #[.pointer none,.int .i64 6])
 |some d=>∃p M R,e=.returned (.tuple #[.pointer (some ⟨p,0,none⟩),.int .i64 0])/\jP w' p M R M ⟨nm,d.checks.length,d.classes.length,JM eO (KX ds nm)⟩ []/\∀x∈M++R,w.heap.size<=x
theorem Jg5(ds:List De)(nm:ByteArray)(v0:Value)(w:World)(S0:List Nat)(fA:∀d∈ds,SzD d)(hl:ds.length<=50)(hd:DR w S0 (.l (ds.map eR)) v0):
 Calls prog 39 #[.agg ([v0]:List Value).toArray,.string nm] w (JgM w ds nm):=by
 have h01:=hd.one;refine enter func39 rfl ntmps39 rfl ?_;refine rx ?_;refine Ju (l:=[v0]) rfl rfl (fun w1 b2 RB dN aj bh=>?_);have ep:=hd.tr0 aj;refine rx ?_;refine aT (NJ ds 3 nm v0 w1 S0 ep) rfl ?_;rintro en w2 jM;obtain⟨cs,b,rfl,hlen,rA,aq,fS⟩:=Jjf jM;refine⟨_,rfl,?_⟩;have dN:=dN.tr0 aq;have aS:=aj.Jb aq;refine rx ?_;refine Jm (l:=[zI,zT,zI,zS,zS,zI,zT,zS,zI,zT,zI,zS,zS,zS,zI,zI,zI,zT,zS,zS,zS,zI,zS,zS,zS,zS,zI,zT,zS,zI,zT,zI,zS,zS,zS,zI,zS,zS,zI,zT,zI,zS,zS,zS,zI]) rfl (fun w3 q nJ hq aF dO=>?_);have dN:=dN.tr0 aF;have cz:=aS.size;refine rx ?_;refine Jd (cs:=cs) rfl rfl hq rA rfl hlen (fun w4 mL aI eA=>?_);have dN:=dN.tr aI (by have:=RB;have:=aq.size;simp;omega);have bq:Fr [] w w4:=(aS.Jb aF).trans aI (fun x hx=>.inr bt);rcases fS with⟨hn,rfl⟩|⟨d,hsd,rfl,sg⟩
 .refine rx ?_;refine Ri ?_;unfold JgM;rw[hn];exact⟨bq,rfl⟩
 obtain⟨⟨a23,c23,h23⟩,⟨a24,c24,h24⟩,iaO⟩:=RD.cks sg;have pO:=hd.tr0 bq;have idb:=bq.size;obtain⟨rl,k7⟩:=aP (JM eO (KX ds nm));refine rx ?_;refine JE (fun z=>Fr [] w4 z) az rfl ?_;obtain⟨u0,hu0⟩:=aP w4.drew;rw[<-hu0];have sn:Fr [] w4 u0:=hu0▸Fr.drew _ _;refine JX 0 1 sn ?_;refine Kw 2 sn ?_ (aw:=by(intro u hu;exact(J7 rfl (aG.cell (mL.tr0 hu) h23))));refine JX 3 4 sn ?_;refine Kw 5 sn ?_ (aw:=by(intro u hu;exact(J7 rfl (aG.cell (mL.tr0 hu) h24))));refine JX 6 7 sn ?_;refine bH 8 sn ?_;refine TC ?_;refine Jl (Jeu ds nm v0 u0 S0 fA hl (pO.tr0 sn)) ?_;rintro vr u1 ⟨hR,aO⟩;have idg:=hR.2;have hR:=hR.1;rw[<-k7]at hR;obtain⟨mr,cr,rfl⟩:=hR.slice;have vh:=hR.lt;have tv:=sn.Jb aO;refine wpList_nil (Jv tv ?_);refine Kw 10 tv ?_ (v:=.agg (([.string nm,iV (d.checks.length:Nat),iV (d.classes.length:Nat),.slice mr rl.length cr,zS])).toArray) (aw:=by(intro u hu;exact QU (([.string nm,iV (d.checks.length:Nat),iV (d.classes.length:Nat),.slice mr rl.length cr,zS])) fD));refine zK ?_;refine Ju (l:=[.string nm,iV (d.checks.length:Nat),iV (d.classes.length:Nat),.slice mr rl.length cr,zS]) rfl rfl (fun u2 p hp kg aJ fm=>?_);have fq:=tv.Jb aJ;refine yj ?_;refine JJ (i:=12) rfl az ?_;refine rx ?_;refine Jv fq ?_;refine JJ (i:=13) rfl az ?_;refine rx ?_;refine Jv fq ?_;refine j5 ?_;refine Ri ?_;have eV:=tv.size;have hz0:=sn.size;unfold JgM;rw[hsd];refine⟨bq.Jb fq,p,[p]++ag (zS),ag (.slice mr rl.length cr),rfl,⟨.slice mr rl.length cr,zS,[],rfl,rfl,?_,fun x hx=>hx,kg,by simp only[<-k7];exact hR.tr0 aJ,bx.nil _ _ _,.nil⟩,fun x hx=>?_⟩
 .rw [DW];refine⟨by simp[ag,Value.ownBlock],Ao hR,fun x hx y hy e=>?_⟩;subst e;have:=vh x hy;simp[ag,Value.ownBlock]at hx;omega
 .rcases SE.1 hx with h|h
  .simp [ag,Value.ownBlock]at h;omega
  .have:=idg x h;omega
theorem Jhy{ds:List De}{k:Int}(h0:0<(cF ds).length):∃d,jz ds 3 (Xm ds k)=some d/\d∈ds:=by
 have hr:=BI (a:=k) (m:=(cF ds).length) ab;obtain⟨j,hj⟩:∃j:Nat,(j:Int)=yN k (cF ds).length:=⟨_,Et hr.1⟩;have jm:j<(cF ds).length:=by omega
 have uc:Xm ds k=(cF ds)[j]:=by unfold Xm;rw[<-hj,EG,ff jm]
 have hm:Xm ds k∈cF ds:=by rw[uc];exact Cj jm
 unfold cF at hm;obtain⟨d,hd,qM⟩:=Du.1 hm;obtain⟨ep,dV⟩:=Fp.1 hd;cases hf:jz ds 3 (Xm ds k)with
 |some x=>exact⟨x,rfl,(XT hf).1⟩
 |none=>
  unfold jz at hf;have:=List.find?_eq_none.1 hf d ep;simp only[Eb]at this;exact absurd ⟨DJ dV,qM⟩ this
theorem MD.props{ds:List De}(h:MD ds):0<(cF ds).length:=by
 unfold cF;rw[Sr,<-List.countP_eq_length_filter];have:(ds.map De.kind).countP (fun k=>decide (k=3))=ds.countP (fun d=>decide (d.kind=3)):=by rw[List.countP_map];rfl
 rw[<-this,h.1]
 decide
def Rm(ds:List De)(nm:ByteArray)(d:De):Pp:=⟨nm,d.checks.length,d.classes.length,JM eO (KX ds nm)⟩
def Jk5(w:World)(ds:List De)(k:Int)(e:Ending)(w':World):Prop:=∃d p M R q N T,jz ds 3 (Xm ds k)=some d/\e=.returned (.tuple #[.pointer (some ⟨p,0,none⟩),.pointer (some ⟨q,0,none⟩),.bool true])/\
 Wj w' p M R (Rm ds (Xm ds k) d) (J6 d.classes.length [])/\jP w' q N T N (Rm ds (Xm ds k) d) []/\(∀x∈M++R,w.heap.size<=x)/\(∀x∈N++T,w.heap.size<=x)/\(∀x∈N++T,x∉M++R)/\Fr [] w w'
theorem Jjx(ds:List De)(k:Int)(v0:Value)(w:World)(S:List Nat)(hk:VE k)(hm:MD ds)(hd:DR w S (.l (ds.map eR)) v0):
 Calls prog 10 #[.agg ([v0]:List Value).toArray,iV k] w (Jk5 w ds k):=by
 have h1:=hd.one;have hlen:=hm.len;obtain⟨d,jM,hdm⟩:=Jhy (k:=k) hm.props;refine enter func10 rfl ntmps10 rfl ?_;refine rx ?_;refine Ju (l:=[v0]) rfl rfl (fun w1 b1 iaT bJ aj bh=>?_);refine rx ?_;refine Jg (Jj0 ds k v0 w1 S hk hm.props ab (hd.tr0 aj)) ?_;rintro w2 aq;have aS:=aj.Jb aq;have bJ:=bJ.tr0 aq;refine rx ?_;refine aT (Rc ds (Xm ds k) v0 w2 S hm.sz ab (hd.tr0 aS)) rfl ?_;rintro _ w3 ⟨aF,hn⟩;rw[jM]at hn;obtain⟨p,M,R,rfl,hC,yA⟩:=hn;refine⟨_,rfl,?_⟩;have aV:=aS.Jb aF;have bJ:=bJ.tr0 aF;refine rx ?_;refine aT (Jg5 ds (Xm ds k) v0 w3 S hm.sz ab (hd.tr0 aV)) rfl ?_;rintro _ w4 ⟨aI,hn⟩;rw[jM]at hn;obtain⟨q,N,T,rfl,hQ,hNT⟩:=hn;refine⟨_,rfl,?_⟩;have cz:=aS.size;have dO:=aV.size;refine RF ?_;exact⟨d,p,M,R,q,N,T,jM,rfl,hC.tr0 aI,hQ,fun x hx=>by have:=yA x hx;omega,fun x hx=>by have:=hNT x hx;omega,fun x hx hm=>by have h1:=hNT x hx;have h2:=hC.lt x hm;omega,aV.Jb aI⟩
theorem Jdc(l:List Br)(b:Br)(v:Value)(w:World){S:List Nat}(hd:DR w S (.l (l.map jl)) v):
 Calls prog 19 #[v,.agg (dH b).toArray] w fun e w'=>e=.returned (.bool (decide (b∈l)))/\Fr [] w w':=by
 have dx:=hd.bound;rw[Sr]at dx;obtain⟨ao,c,rfl,_⟩:=hd.slice;rw[Sr]at hd ⊢;refine enter func19 rfl ntmps19 rfl ?_;refine rx ?_;refine Ju (l:=dH b) rfl rfl (fun w1 p hp bJ aj bh=>?_);replace bJ:aG w1 p [.string b.decl,iV b.at_,iV b.arm] _:=bJ;refine rx ?_;refine Jh 6 [5] (σ:=Nat) (fun i g u=>g 5=iV (i:Nat)/\i<=l.length/\b∉l.take i/\Fr [] w1 u) (fun i=>l.length-i) 0 ⟨rfl,SL _,by simp,Fr.refl _ _⟩ ?_;rintro i g u ⟨g5,hi,lm,hF⟩;rw[Ja g5];have lD:=aj.Jb hF;have bJ:=bJ.tr0 hF;by_cases aC:i<l.length
 case neg=>
  rw[SQ ab]at lm;refine bM ?_;exact⟨by rw[SG lm],lD⟩
 obtain⟨ad,oI,hc⟩:=JZ QN (DR.brs (hd.tr0 lD)) aC bU;subst oI;have hc:Cells u (ad.add (i*3)) [.string l[i].decl,iV l[i].at_,iV l[i].arm]:=hc;refine zB ?_;obtain⟨u1,eu⟩:=aP u.drew;rw[<-eu];have hS:Fr [] u u1:=eu▸Fr.drew _ _;refine Ae ?_;by_cases he:l[i]=b
 . (apply XU (i:=5);exact rfl;kernel_rfl;kernel_rfl;kernel_rfl;(intro u hu;exact(Zc (a:=l[i]) (b:=b) rfl rfl (SN he)));exact hS)
   refine gK ?_;refine bM ?_;exact⟨by rw[SN (by rw[<-he];exact Cj aC)],lD.Jb hS⟩
 . (apply XU (i:=5);exact rfl;kernel_rfl;kernel_rfl;kernel_rfl;(intro u hu;exact(Zc (a:=l[i]) (b:=b) rfl rfl (SG he)));exact hS)
   refine j5 ?_;refine Jc (i+1) a6 ⟨rfl,aC,?_,hF.Jb hS⟩ ab;exact Ylf
end Go.Proofs.YtggmccicdhnkgaaGreat
namespace Go.Rf
open Go.RowKit
variable{i:Nat}{α:Type}
theorem LQ{p:α->Bool}{l:List α}(h:∀i (hi:i<l.length),p l[i]=false):l.any p=false:=by
 rw[DC];intro x hx;obtain⟨i,hi,rfl⟩:=Eu hx;rw[h i hi];simp
theorem ZW{p:α->Bool}{l:List α}(hi:i<l.length)(h:p l[i]=true):l.any p=true:=by
 rw[List.any_eq_true];exact⟨l[i],Cj hi,h⟩
theorem Zr{p:α->Bool}{l:List α}(hi:i<l.length):(l.take (i+1)).filter p=(l.take i).filter p++(if p l[i]=true then[l[i]] else[]):=by
 rw[SK hi,Ib]
 congr 1
 by_cases h:p l[i]=true<;>simp[h]
end Go.Rf
namespace Go.Proofs.YtggmccicdhnkgaaGreat
open Go.Proofs.Tryz
open Go.Rf Go.RowKit
section
variable{M R:List Nat}{p:Nat}{P:Pp}{s:St}
attribute [local irreducible] Code.wp wpList Exit.then Exit.inBlock bodyPost A Calls execOp Addr.add
theorem Jig(w:World)(hC:Wj w p M R P s)(hn:P.reach.length<=1000000):
 Calls prog 18 #[.pointer (some ⟨p,0,none⟩)] w fun e w'=>∃v,e=.returned v/\BO w 50 w' (Ur P s) v/\Fr [] w w':=by
 obtain⟨bb,pb,vr,vc,mb,mp,rfl,rfl,iJ,hb,hr,hc,jN,lS,iU,rm,eU⟩:=hC;obtain⟨mr,cr,rfl⟩:=hr.slice;refine enter func18 rfl ntmps18 rfl ?_;refine rx ?_;refine Jh 11 [3,5] (σ:=Nat×Value) (fun t g u=>g 3=t.2/\g 11=iV (t.1:Nat)/\t.1<=P.reach.length/\BO w 50 u ((P.reach.take t.1).filter (fun b=>decide (s.cnt b=0))) t.2/\Fr [] w u) (fun t=>P.reach.length-t.1) (0,_) ⟨rfl,rfl,SL _,BO.nil,Fr.refl _ _⟩ ?_;rintro⟨i,va⟩ g u ⟨g3,g11,hi,hB,hF⟩;simp only at g3 g11 hi hB;rw[Ja g3,Ja g11];have cI:=hF.size;by_cases aC:i<P.reach.length
 case neg=>
  rw[SQ ab]at hB;refine bM ?_;exact⟨va,rfl,hB,hF⟩
 obtain⟨ad,rfl,gI⟩:=JZ QN (hr.src.tr0 hF) aC bU;have gI:Cells u (ad.add (i*3)) [.string P.reach[i].decl,iV P.reach[i].at_,iV P.reach[i].arm]:=gI;have gh:=hb.tr0 hF;have kA:=jN.tr0 hF;refine rx ?_;refine Jm (l:=[zT,zI,zI]) rfl (fun u1 b5 Ru h5 aj bh=>?_);refine rx ?_;refine Jd (cs:=dH P.reach[i]) rfl rfl h5 (QD _) rfl rfl (fun u2 h5 aq cz=>?_);replace h5:aG u2 b5 [.string P.reach[i].decl,iV P.reach[i].at_,iV P.reach[i].arm] _:=h5;have aS:Fr [] u u2:=aj.trans aq (fun x hx=>.inr bt);have gh:=gh.tr0 aS;have kA:=kA.tr0 aS;have nL:=hB.tr0 aS;have fN:=aS.size;have xm:((P.reach.take i).filter (fun b=>decide (s.cnt b=0))).length<=i:=by
  have:=D5 (fun b=>decide (s.cnt b=0)) (P.reach.take i);rw[C9]at this;omega
 refine rx ?_;refine JE (fun z=>Fr [] u2 z) az rfl ?_;obtain⟨u3,mg⟩:=aP u2.drew;rw[<-mg];have hS:Fr [] u2 u3:=mg▸Fr.drew _ _;refine Ae ?_;refine Kw 5 hS ?_ (aw:=by(intro u hu;refine(Ax (P:=prog) (t:=122) (a:=P.reach[i]) ?_ ?_ (kA.tr0 hu) lS);exact rfl;exact rfl));have h5:=h5.tr0 hS;have aV:=(hF.Jb aS).Jb hS;by_cases hz:s.cnt P.reach[i]=0
 . (refine bH 6 hS ?_)
   refine j5 ?_;refine JQ (c1:=dH P.reach[i]) rfl rfl rfl (fun u4 q4 mL jA aI eA=>?_);refine rx ?_;refine Bj (m:=1) (al:=[P.reach[i]]) ((nL.tr0 hS).tr0 aI) rfl rfl rfl (show Src u4 (.slice (some ⟨q4,0,none⟩) 1 1) 1 ([P.reach[i]].flatMap dH) from by simpa using jA.src) dt ab (by have:=aV.size;omega) (fun v5 u5 s8 s9=>?_);refine rx ?_;refine Jc (i+1,v5) a6 ⟨rfl,rfl,aC,?_,s9 [] (aV.Jb aI)⟩ eM;simp only;rw[Zr aC,Cb (SN hz)];exact s8
 . (refine bH 6 hS ?_)
   refine j5 ?_;refine Jc (i+1,va) a6 ⟨rfl,rfl,aC,?_,aV⟩ eM;simp only;rw[Zr aC,SH (by simpa using hz),Ce];exact nL.tr0 hS
theorem Jdd(r:Rn)(vb vl:Value)(w:World){S:List Nat}(hC:Wj w p M R P s)(eW:DR w S (.l (r.bs.map jl)) vb)(hl:DR w S (.l (r.cl.map KI)) vl):
 Calls prog 16 #[.pointer (some ⟨p,0,none⟩),.agg ([iV r.kind,iV r.at_,iV r.code,vb,vl,zI]:List Value).toArray] w fun e w'=>e=.returned (.bool (Qd P r&&VB s r))/\Fr [] w w':=by
 have hC0:=hC;have xA:=eW.one;have yC:=hl.one;obtain⟨bb,pb,vr,vc,mb,mp,rfl,rfl,iJ,hb,hr,hc,jN,lS,iU,rm,eU⟩:=hC;have Pu:=eU.ncls;obtain⟨iZ,cc,rfl⟩:=hc.slice;have vV:=hl.bound;have idc:=eW.bound;obtain⟨jG,cl,rfl,_⟩:=hl.slice;obtain⟨iK,cb,rfl,_⟩:=eW.slice;simp only[Sr]at hl eW xA yC vV idc ⊢;refine enter func16 rfl ntmps16 rfl ?_;refine rx ?_;refine Ju (l:=[iV r.kind,iV r.at_,iV r.code,(.slice iK r.bs.length cb),(.slice jG r.cl.length cl),zI]) rfl rfl (fun w1 b3 iB h3 aj bh=>?_);refine rx ?_;refine Jg (Jij r (.slice iK r.bs.length cb) (.slice jG r.cl.length cl) w1 (hC0.tr0 aj) (hl.tr0 aj) xA) ?_;rintro w2 aq;have aS:=aj.Jb aq;cases kN:Qd P r with
 |false=>
  refine bM ?_;exact⟨by simp,aS⟩
 |true=>
 have lI:=kN;unfold Qd at lI;rw[CV]at lI;have mY:=lI.2;have h3:=h3.tr0 aq;have dN:=hb.tr0 aS;have fO:=hc.tr0 aS;refine rx ?_;refine Jh 16 [6] (σ:=Nat) (fun i g u=>g 16=iV (i:Nat)/\i<=r.cl.length/\(∀j (hj:j<r.cl.length),j<i->decide (s.cls.getD r.cl[j].toNat 0=0)=false)/\Fr [] w2 u) (fun i=>r.cl.length-i) 0 ⟨rfl,SL _,fun j hj h=>by omega,Fr.refl _ _⟩ ?_;rintro i g u ⟨g16,hi,iL,hF⟩;rw[Ja g16];have eD:=aS.Jb hF;have h3:=h3.tr0 hF;have gh:=dN.tr0 hF;by_cases aC:i<r.cl.length
 .obtain ⟨adl,ru,bV⟩:=KO (VP (hl.tr0 eD)) (WS aC);subst ru;have ox:=Jdh mY (Cj aC);obtain⟨j,hj⟩:∃j:Nat,(j:Int)=r.cl[i]:=⟨r.cl[i].toNat,Et ox.1⟩;have jm:j<s.cls.length:=by omega
  obtain⟨adc,oJ,qB⟩:=KO (fO.tr0 hF).src (V9 jm);have iaP:s.cls.getD r.cl[i].toNat 0=s.cls[j]:=by rw[<-hj,EG,ff jm]
  refine Yfm ?_;refine rx ?_;refine BZ rfl rfl hj.symm jm oJ ?_;refine KW rfl qB ?_;by_cases hz:s.cls[j]=0
  .refine rx ?_;refine gZ ?_;refine⟨?_,eD⟩;unfold VB;rw[ZW aC (SN (by rw[iaP];exact hz))];simp
  .refine rx ?_;refine Jc (i+1) a6 ⟨rfl,aC,fun k hk h=>?_,hF⟩ ab;by_cases e:k=i
   .subst e;exact SG (by rw[iaP];exact hz)
   .exact iL k hk ab
 have lR:r.cl.any (fun x=>decide (s.cls.getD x.toNat 0=0))=false:=LQ (fun j hj=>iL j hj ab);have kA:=jN.tr0 eD;have wi:=iU.tr0 eD;clear iL;refine rx ?_;clear aC;refine Jh 32 [7,8] (σ:=Nat) (fun i g u'=>g 32=iV (i:Nat)/\i<=r.bs.length/\(∀j (hj:j<r.bs.length),j<i->decide (s.cnt r.bs[j]=0)=false/\∀h:j+1<r.bs.length,j+1<i->decide ((r.bs[j],r.bs[j+1])∈s.ps)=true)/\Fr [] u u') (fun i=>r.bs.length-i) 0 ⟨rfl,SL _,fun j hj h=>by omega,Fr.refl _ _⟩ ?_;rintro k g u1 ⟨g32,hk,iL,ej⟩;rw[Ja g32];have yM:=eD.Jb ej;have h3:=h3.tr0 ej;have gh:=gh.tr0 ej;by_cases aC:k<r.bs.length
 case neg=>
  refine bM ?_;refine⟨?_,yM⟩;unfold VB;rw[lR,LQ (fun j hj=>(iL j hj ab).1),LQ (fun j hj=>?_)]
  .simp
  .have pj:=QI (l:=r.bs);have hj1:j+1<r.bs.length:=by omega
   have hg:=(Df.1 (Xb hj1)).2;rw[hg,(iL j ab ab).2 hj1 ab];rfl
 obtain⟨ad,oI,gI⟩:=JZ QN (DR.brs (eW.tr0 yM)) aC bU;subst oI;have gI:Cells u1 (ad.add (k*3)) [.string r.bs[k].decl,iV r.bs[k].at_,iV r.bs[k].arm]:=gI;have kA:=kA.tr0 ej;have wi:=wi.tr0 ej;refine rx ?_;refine Jm (l:=[zT,zI,zI]) rfl (fun u2 b8 kb h8 aO eV=>?_);refine rx ?_;refine Jd (cs:=dH r.bs[k]) rfl rfl h8 (QD _) rfl rfl (fun u3 h8 aJ fm=>?_);replace h8:aG u3 b8 [.string r.bs[k].decl,iV r.bs[k].at_,iV r.bs[k].arm] _:=h8;have aV:Fr [] u1 u3:=aO.trans aJ (fun x hx=>.inr bt);have h3:=h3.tr0 aV;have gh:=gh.tr0 aV;have kA:=kA.tr0 aV;have wi:=wi.tr0 aV;refine rx ?_;refine JE (fun z=>Fr [] u3 z) az rfl ?_;obtain⟨u4,uR⟩:=aP u3.drew;rw[<-uR];have hS:Fr [] u3 u4:=uR▸Fr.drew _ _;have bq:=(yM.Jb aV).Jb hS;have iaQ:=(ej.Jb aV).Jb hS;refine Ae ?_;refine Kw 5 hS ?_ (aw:=by(intro u hu;refine(Ax (P:=prog) (t:=122) (a:=r.bs[k]) ?_ ?_ (kA.tr0 hu) lS);exact rfl;exact rfl));by_cases hz:s.cnt r.bs[k]=0
 . (refine Jj 6 7 8 9 hS ?_;refine Jj 10 11 12 13 hS ?_;refine Jj 14 15 16 17 hS ?_;refine Jj 18 19 20 21 hS ?_;refine Jj 22 23 24 25 hS ?_;refine bH 26 hS ?_)
   refine gK ?_;refine bM ?_;refine⟨?_,bq⟩;unfold VB;rw[ZW (p:=fun b=>decide (s.cnt b=0)) aC (SN hz)];simp
 by_cases j7:k=0
 . (refine Jj 6 7 8 9 hS ?_;refine Jj 10 11 12 13 hS ?_;refine Jj 14 15 16 17 hS ?_;refine Jj 18 19 20 21 hS ?_;refine Jj 22 23 24 25 hS ?_;refine bH 26 hS ?_)
   refine j5 ?_;refine Jc (k+1) a6 ⟨rfl,aC,fun j hj h=>⟨?_,fun h1 h2=>by omega⟩,iaQ⟩ ab;obtain rfl:j=k:=by omega
   exact SG hz
 obtain⟨lC,oI,fO⟩:=JZ QN (DR.brs (eW.tr0 (yM.Jb aV))) (show k-1<r.bs.length by omega) bU;cases oI
 have fO:Cells u3 (ad.add ((k-1)*3)) [.string r.bs[k-1].decl,iV r.bs[k-1].at_,iV r.bs[k-1].arm]:=fO;refine Jj 6 7 8 9 hS ?_;refine Jj 10 11 12 13 hS ?_;refine Jj 14 15 16 17 hS ?_;refine bH 18 hS ?_;rw[show((k:Int)-1)=((k-1:Nat):Int) by omega];refine JX 19 20 hS ?_;refine bH 21 hS ?_;refine Kz 22 hS ?_ (v:=.agg ((fK (r.bs[k-1],r.bs[k]))).toArray) (aw:=by(intro u hu;exact NR ((fK (r.bs[k-1],r.bs[k]))) fD));refine Kz 23 hS ?_ (aw:=by(intro u hu;refine(JjY (P:=prog) (t:=123) (q:=(· ∈s.ps)) (a:=(r.bs[k-1],r.bs[k])) ?_ ?_ (wi.tr0 hu) rm);exact rfl;exact rfl));have hkp:∃h:k-1<(Jy r.bs).length,(Jy r.bs)[k-1]=(r.bs[k-1],r.bs[k]):=by
  have hg:=Xb (l:=r.bs) (i:=k-1) ab;obtain⟨h1,h2⟩:=Df.1 hg;refine⟨h1,h2.trans ?_⟩;have:k-1+1=k:=by omega
  simp only[this]
 obtain⟨jO,hkp⟩:=hkp;by_cases ox:(r.bs[k-1],r.bs[k])∈s.ps
 .rw [SN ox];refine JX 24 25 hS ?_;refine bH 26 hS ?_;refine j5 ?_;refine Jc (k+1) a6 ⟨rfl,aC,fun j hj h=>⟨?_,fun h1 h2=>?_⟩,iaQ⟩ ab
  .by_cases e:j=k
   .subst e;exact SG hz
   .exact (iL j hj ab).1
  .by_cases e:j+1=k
   .subst e;exact SN (by simpa using ox)
   .exact (iL j hj ab).2 h1 ab
 .rw [SG ox];refine JX 24 25 hS ?_;refine bH 26 hS ?_;refine gK ?_;refine bM ?_;refine⟨?_,bq⟩;unfold VB;rw[ZW (p:=fun p=> !decide (p∈s.ps)) jO (by rw[hkp,SG ox];rfl)];simp
end
section
attribute [local irreducible] Code.wp wpList Exit.then Exit.inBlock bodyPost A Calls execOp Addr.add
theorem JbL{q:Nat}{P:Pp}{rs:List Rn}(r:Rn)(vb vl:Value)(w:World){S:List Nat}(hQ:rp w q P rs)(hl:DR w S (.l (r.cl.map KI)) vl)(xA:vb.oneCell'=true):
 Calls prog 54 #[.pointer (some ⟨q,0,none⟩),.agg ([iV r.kind,iV r.at_,iV r.code,vb,vl]:List Value).toArray] w fun e w'=>e=.returned (.bool (Qd P r))/\Fr [] w w':=by
 obtain⟨vr,vs,hb,nz,jx⟩:=hQ;have PH:=nz.one;have rF:=jx.one;have dx:=hl.bound;obtain⟨jG,cl,rfl,_⟩:=hl.slice;have yC:=hl.one;simp only[Sr]at hl dx yC ⊢;refine enter func54 rfl ntmps54 rfl ?_;refine rx ?_;refine Ju (l:=[iV r.kind,iV r.at_,iV r.code,vb,(.slice jG r.cl.length cl)]) rfl rfl (fun w1 b3 iB h3 aj bh=>?_);refine rx ?_;refine Jm (l:=[zI,zI,zI]) rfl (fun w2 b5 Ru h5 aq cz=>?_);refine rx ?_;refine Jd (cs:=[iV r.kind,iV r.at_,iV r.code]) rfl rfl h5 dQ rfl rfl (fun w3 h5 aF dO=>?_);have cn:Fr [] w1 w3:=aq.trans aF (fun x hx=>.inr bt);have h3:=h3.tr0 cn;have aV:=aj.Jb cn;have bJ:=hb.tr0 aV;have Az:=hl.tr0 aV;clear aj aq aF cn;refine rx ?_;refine KZ 7 [] (fun g u=>g 54=.bool (!Gt P.checks r)/\Fr [] w3 u) ?_ ?_
 .by_cases k1:r.kind<0
  . (refine JE (fun z=>Fr [] w3 z) az rfl ?_)
    obtain⟨u,hu⟩:=aP w3.drew;rw[<-hu];have hS:Fr [] w3 u:=hu▸Fr.drew _ _;refine JX 0 1 hS ?_;refine Kw 2 hS ?_ (aw:=by(intro u hu;exact(W9 rfl rfl (SN ab))));refine Jj 3 4 5 6 hS ?_;refine Jj 7 8 9 10 hS ?_;refine Jj 11 12 13 14 hS ?_;refine Jj 15 16 17 18 hS ?_;refine Jj 19 20 21 22 hS ?_;refine Jj 23 24 25 26 hS ?_;refine Jj 27 28 29 30 hS ?_;refine Jj 31 32 33 34 hS ?_;refine Jj 35 36 37 38 hS ?_;refine Jj 39 40 41 42 hS ?_;refine JX 43 44 hS ?_;refine bH 45 hS ?_;exact RU
  by_cases k2:2<r.kind
  . (refine JE (fun z=>Fr [] w3 z) az rfl ?_)
    obtain⟨u,hu⟩:=aP w3.drew;rw[<-hu];have hS:Fr [] w3 u:=hu▸Fr.drew _ _;refine JX 0 1 hS ?_;refine Kw 2 hS ?_ (aw:=by(intro u hu;exact(W9 rfl rfl (SG ab))));refine JX 3 4 hS ?_;refine bH 5 hS ?_;refine Kz 6 hS ?_ (aw:=by(intro u hu;exact(Z8 rfl rfl (SN ab))));refine Jj 7 8 9 10 hS ?_;refine Jj 11 12 13 14 hS ?_;refine Jj 15 16 17 18 hS ?_;refine Jj 19 20 21 22 hS ?_;refine Jj 23 24 25 26 hS ?_;refine Jj 27 28 29 30 hS ?_;refine Jj 31 32 33 34 hS ?_;refine Jj 35 36 37 38 hS ?_;refine Jj 39 40 41 42 hS ?_;refine JX 43 44 hS ?_;refine bH 45 hS ?_;exact RU
  rcases(show r.kind=0\/r.kind=1\/r.kind=2 by omega)with hk|hk|hk
  . (refine JE (fun z=>Fr [] w3 z) az rfl ?_)
    obtain⟨u,hu⟩:=aP w3.drew;rw[<-hu];have hS:Fr [] w3 u:=hu▸Fr.drew _ _;refine JX 0 1 hS ?_;refine Kw 2 hS ?_ (aw:=by(intro u hu;exact(W9 rfl rfl (SG ab))));refine JX 3 4 hS ?_;refine bH 5 hS ?_;refine Kz 6 hS ?_ (aw:=by(intro u hu;exact(Z8 rfl rfl (SG ab))));refine Jj 7 8 9 10 hS ?_;refine Kz 11 hS ?_ (aw:=by(intro u hu;exact(Zd rfl rfl (SN ab))));refine JX 12 13 hS ?_;refine bH 14 hS ?_;by_cases ha:r.at_=0
    . (apply V4 (i:=15);exact rfl;exact rfl;kernel_rfl;kernel_rfl;kernel_rfl;(intro u hu;exact(WZ rfl rfl (SG ab)));exact hS)
      refine Jj 16 17 18 19 hS ?_;refine bH 20 hS ?_;refine Kz 21 hS ?_ (aw:=by(intro u hu;exact(WZ rfl rfl (SG ab))));refine Jj 22 23 24 25 hS ?_;refine Jj 26 27 28 29 hS ?_;refine Jj 30 31 32 33 hS ?_;refine JX 34 35 hS ?_;refine bH 36 hS ?_;exact Ylg
    . (apply V4 (i:=15);exact rfl;exact rfl;kernel_rfl;kernel_rfl;kernel_rfl;(intro u hu;exact(WZ rfl rfl (SN ab)));exact hS)
      refine Jj 16 17 18 19 hS ?_;refine Jj 20 21 22 23 hS ?_;refine Jj 24 25 26 27 hS ?_;refine Jj 28 29 30 31 hS ?_;refine Jj 32 33 34 35 hS ?_;refine Jj 36 37 38 39 hS ?_;refine Jj 40 41 42 43 hS ?_;refine JX 44 45 hS ?_;exact RU
  . (refine JE (fun z=>Fr [] w3 z) az rfl ?_)
    obtain⟨u,hu⟩:=aP w3.drew;rw[<-hu];have hS:Fr [] w3 u:=hu▸Fr.drew _ _;refine JX 0 1 hS ?_;refine Kw 2 hS ?_ (aw:=by(intro u hu;exact(W9 rfl rfl (SG ab))));refine JX 3 4 hS ?_;refine bH 5 hS ?_;refine Kz 6 hS ?_ (aw:=by(intro u hu;exact(Z8 rfl rfl (SG ab))));refine Jj 7 8 9 10 hS ?_;refine Kz 11 hS ?_ (aw:=by(intro u hu;exact(Zd rfl rfl (SG ab))));refine Jj 12 13 14 15 hS ?_;refine Jj 16 17 18 19 hS ?_;refine bH 20 hS ?_;refine Kz 21 hS ?_ (aw:=by(intro u hu;exact(WZ rfl rfl (SN ab))));refine JX 22 23 hS ?_;refine bH 24 hS ?_;by_cases ha:r.at_<0
    . (apply V4 (i:=25);exact rfl;exact rfl;kernel_rfl;kernel_rfl;kernel_rfl;(intro u hu;exact(W9 rfl rfl (SN ab)));exact hS)
      exact Ylh
    refine Kz 25 hS ?_ (aw:=by(intro u hu;exact(W9 rfl rfl (SG ab))));refine Jj 26 27 28 29 hS ?_;refine JX 30 31 hS ?_;refine bH 32 hS ?_;by_cases rc:(P.checks:Int)<=r.at_
    . (apply V4 (i:=33);exact rfl;exact rfl;kernel_rfl;kernel_rfl;kernel_rfl;(intro u hu;exact(Z9 rfl rfl (SN ab)));exact hS)
      exact Ylj
    refine Kz 33 hS ?_ (aw:=by(intro u hu;exact(Z9 rfl rfl (SG ab))));refine JX 34 35 hS ?_;refine bH 36 hS ?_;exact Ylg
  . (refine JE (fun z=>Fr [] w3 z) az rfl ?_)
    obtain⟨u,hu⟩:=aP w3.drew;rw[<-hu];have hS:Fr [] w3 u:=hu▸Fr.drew _ _;refine JX 0 1 hS ?_;refine Kw 2 hS ?_ (aw:=by(intro u hu;exact(W9 rfl rfl (SG ab))));refine JX 3 4 hS ?_;refine bH 5 hS ?_;refine Kz 6 hS ?_ (aw:=by(intro u hu;exact(Z8 rfl rfl (SG ab))));refine Jj 7 8 9 10 hS ?_;refine Kz 11 hS ?_ (aw:=by(intro u hu;exact(Zd rfl rfl (SG ab))));refine Jj 12 13 14 15 hS ?_;refine Jj 16 17 18 19 hS ?_;refine bH 20 hS ?_;refine Kz 21 hS ?_ (aw:=by(intro u hu;exact(WZ rfl rfl (SN ab))));refine JX 22 23 hS ?_;refine bH 24 hS ?_;by_cases ha:r.at_<0
    . (apply V4 (i:=25);exact rfl;exact rfl;kernel_rfl;kernel_rfl;kernel_rfl;(intro u hu;exact(W9 rfl rfl (SN ab)));exact hS)
      exact Ylh
    refine Kz 25 hS ?_ (aw:=by(intro u hu;exact(W9 rfl rfl (SG ab))));refine Jj 26 27 28 29 hS ?_;refine JX 30 31 hS ?_;refine bH 32 hS ?_;by_cases rc:(P.checks:Int)<=r.at_
    . (apply V4 (i:=33);exact rfl;exact rfl;kernel_rfl;kernel_rfl;kernel_rfl;(intro u hu;exact(Z9 rfl rfl (SN ab)));exact hS)
      exact Ylj
    refine Kz 33 hS ?_ (aw:=by(intro u hu;exact(Z9 rfl rfl (SG ab))));refine JX 34 35 hS ?_;refine bH 36 hS ?_;refine JX 37 38 hS ?_;refine bH 39 hS ?_;refine Kz 40 hS ?_ (aw:=by(intro u hu;exact(Zd rfl rfl (SN ab))));refine JX 41 42 hS ?_;by_cases ia2:r.code≠0
    . (apply V4 (i:=43);exact rfl;exact rfl;kernel_rfl;kernel_rfl;kernel_rfl;(intro u hu;exact(WZ rfl rfl (SN ab)));exact hS)
      refine Kz 44 hS ?_ (aw:=by(intro u hu;refine(XP (a:=true) (b:=true) underlying4 ?_ ?_ rfl);exact rfl;exact rfl));exact Yku
    . (apply V4 (i:=43);exact rfl;exact rfl;kernel_rfl;kernel_rfl;kernel_rfl;(intro u hu;exact(WZ rfl rfl (SG ab)));exact hS)
      refine Kz 44 hS ?_ (aw:=by(intro u hu;refine(XP (a:=true) (b:=false) underlying4 ?_ ?_ rfl);exact rfl;exact rfl));refine bH 45 hS ?_;exact RU
 rintro g w4 ⟨g54,aI⟩;have bq:=aV.Jb aI;have h3:=h3.tr0 aI;have bJ:=bJ.tr0 aI;clear h5 hb;rw[Ja g54];cases rq:Gt P.checks r with
 |false=>
  refine bM ?_;exact⟨by unfold Qd;rw[rq];rfl,bq⟩
 |true=>
 refine rx ?_;refine Jh 7 [6] (σ:=Nat) (fun i g u=>g 6=iV (i:Nat)/\i<=r.cl.length/\(∀j,j<i->Bf P.ncls r.cl j=true)/\Fr [] w4 u) (fun i=>r.cl.length-i) 0 ⟨rfl,SL _,fun j h=>by omega,Fr.refl _ _⟩ ?_;rintro i g u ⟨g6,hi,iL,hF⟩;rw[Ja g6];have eD:=bq.Jb hF;have h3:=h3.tr0 hF;have bJ:=bJ.tr0 hF;by_cases aC:i<r.cl.length
 case neg=>
  refine bM ?_;exact⟨by unfold Qd;rw[rq,UK (fun j hj=>iL j ab)];rfl,eD⟩
 obtain⟨adl,ru,RV⟩:=KO (VP (hl.tr0 eD)) (WS aC);subst ru;have bV:∀{z:World},Fr [] u z->z.cell? (adl.add i)=some (iV r.cl[i]):=fun hf=>Vs ((VP (hl.tr0 eD)).tr0 hf) (WS aC)
 refine zB ?_;obtain⟨u1,eu⟩:=aP u.drew;rw[<-eu];have hS:Fr [] u u1:=eu▸Fr.drew _ _;refine Jj 0 1 2 3 hS ?_;refine Kw 4 hS ?_ (aw:=by(intro u hu;exact(J7 rfl Ylu)));by_cases c1:r.cl[i]<0
 . (apply XU (i:=5);exact rfl;kernel_rfl;kernel_rfl;kernel_rfl;(intro u hu;exact(W9 rfl rfl (SN ab)));exact hS)
   refine Jj 6 7 8 9 hS ?_;refine Jj 10 11 12 13 hS ?_;refine Jj 14 15 16 17 hS ?_;refine Jj 18 19 20 21 hS ?_;refine Jj 22 23 24 25 hS ?_;refine Jj 26 27 28 29 hS ?_;refine Jj 30 31 32 33 hS ?_;refine JX 34 35 hS ?_;exact Ylc
 refine Kw 5 hS ?_ (aw:=by(intro u hu;exact(W9 rfl rfl (SG ab))));refine Jj 6 7 8 9 hS ?_;refine bH 10 hS ?_;refine Kz 11 hS ?_ (aw:=by(intro u hu;exact(J7 rfl Ylu)));refine Jj 12 13 14 15 hS ?_;by_cases c2:(P.ncls:Int)<=r.cl[i]
 . (apply V4 (i:=16);exact rfl;exact rfl;kernel_rfl;kernel_rfl;kernel_rfl;(intro u hu;exact(Z9 rfl rfl (SN ab)));exact hS)
   refine Jj 17 18 19 20 hS ?_;refine Jj 21 22 23 24 hS ?_;refine Jj 25 26 27 28 hS ?_;refine Jj 29 30 31 32 hS ?_;refine JX 33 34 hS ?_;refine bH 35 hS ?_;exact Ylc
 refine Kz 16 hS ?_ (aw:=by(intro u hu;exact(Z9 rfl rfl (SG ab))));refine JX 17 18 hS ?_;refine bH 19 hS ?_;by_cases c3:i=0
 . (apply V4 (i:=20);exact rfl;exact rfl;kernel_rfl;kernel_rfl;kernel_rfl;(intro u hu;exact(Z8 rfl rfl (SG ab)));exact hS)
   refine Jj 21 22 23 24 hS ?_;refine Jj 25 26 27 28 hS ?_;refine Jj 29 30 31 32 hS ?_;refine JX 33 34 hS ?_;refine bH 35 hS ?_;exact Ykx
 have ry:∀{z:World},Fr [] u z->z.cell? (adl.add (i-1))=some (iV r.cl[i-1]):=fun hf=>Vs ((VP (hl.tr0 eD)).tr0 hf) (WS ab)
 refine Kz 20 hS ?_ (aw:=by(intro u hu;exact(Z8 rfl rfl (SN ab))));refine Jj 21 22 23 24 hS ?_;refine bH 25 hS ?_;refine Kz 26 hS ?_ (aw:=by(intro u hu;exact(J7 rfl Ylu)));refine Jj 27 28 29 30 hS ?_;rw[show((i:Int)-1)=((i-1:Nat):Int) by omega];refine bH 31 hS ?_;refine Kz 32 hS ?_ (aw:=by(intro u hu;exact(J7 rfl (by rw[Dq];exact ry hu))));by_cases c4:r.cl[i]<=r.cl[i-1]
 . (apply V4 (i:=33);exact rfl;exact rfl;kernel_rfl;kernel_rfl;kernel_rfl;(intro u hu;exact(L9 rfl rfl (SN ab)));exact hS)
   refine JX 34 35 hS ?_;refine gK ?_;refine bM ?_;exact⟨by unfold Qd;rw[rq,Jbb aC (fun h=>by have:=h.2.2 ab;omega)];rfl,eD.Jb hS⟩
 refine Kz 33 hS ?_ (aw:=by(intro u hu;exact(L9 rfl rfl (SG ab))));refine JX 34 35 hS ?_;exact Ykx
end
end Go.Proofs.YtggmccicdhnkgaaGreat
namespace Go.Rf
open Go.RowKit
variable{af:Array Edge}{f:Env}{a:Int}{k:IntKind}{d n t t2:Nat}{x y:Operand}{ps:String}{w:World}
theorem JiM{P:Program}{ty:TypeId}{gd:Option (Nat×Bool)}{b r:Int}(hx:ev n f x=.int k a)(hy:ev n f y=.int k b)(h0:¬b=0)(hr:k.wrap (a.tdiv b)=r):
 (execOp (ev n f) ⟨some d,.binOp .quo t x y t2,ty,ps,af,gd⟩).run P w=.ok (.value (.int k r)) w:=by simp[execOp,eqGuard,binOp,Op.intDiv,hx,hy,h0,hr]
theorem JiL{P:Program}{ty:TypeId}{gd:Option (Nat×Bool)}{b r:Int}(hx:ev n f x=.int k a)(hy:ev n f y=.int k b)(h0:¬b=0)(hr:a.tmod b=r):
 (execOp (ev n f) ⟨some d,.binOp .rem t x y t2,ty,ps,af,gd⟩).run P w=.ok (.value (.int k r)) w:=by simp[execOp,eqGuard,binOp,Op.intDiv,hx,hy,h0,hr]
end Go.Rf
namespace Go.Proofs.YtggmccicdhnkgaaGreat
open Go.Proofs.Tryz
open Go.Rf Go.RowKit
variable{a at_:Int}{l:List Int}{m:Nat}{P:Pp}{w:World}
def yR(P:Pp)(n:Int):Br:=if 0<P.reach.length/\0<n%17 then P.reach.getD (n/17%P.reach.length).toNat default else⟨aA [111,116,104,101,114],n/17%3,n/51%2⟩
def VG(P:Pp)(l:List Int)(at_:Int)(m:Nat):List Br:=(List.range m).map (fun(i:Nat)=>yR P (pk l (at_+i+1) 1000))
def Vx(l:List Int)(at_:Int)(m:Nat):List Int:=((List.range m).filter (fun(i:Nat)=>decide (pk l (at_+i+7) 3=0))).map (fun(i:Nat)=>(i:Int))
def rD(P:Pp)(k:Int):Int:=if 0<k/6%3/\0<P.checks then k/6%3 else 0
def pY(P:Pp)(k:Int):Int:=if 0<k/6%3/\0<P.checks then k/18%P.checks else 0
def XW(P:Pp)(l:List Int)(at_:Int)(bad:Bool):Rn where
 kind:=if bad=true/\pk l at_ 1000000/100%5=1 then pk l at_ 1000000/500%6-1 else rD P (pk l at_ 1000000)
 at_:=if bad=true/\pk l at_ 1000000/100%5=0 then pY P (pk l at_ 1000000)+pk l at_ 1000000/500%5-2 else pY P (pk l at_ 1000000)
 code:=if rD P (pk l at_ 1000000)=2 then 13 else 0
 bs:=VG P l at_ (pk l at_ 1000000%6).toNat
 cl:=Vx l at_ P.ncls++(if bad=true/\pk l at_ 1000000/100%5=2 then[pk l at_ 1000000/500%4-1] else[])
theorem JcV:VG P l at_ (m+1)=VG P l at_ m++[yR P (pk l (at_+m+1) 1000)]:=by
 unfold VG;rw[Fv,Dp];rfl
theorem Jaa:(VG P l at_ m).length=m:=by simp[VG]
theorem LV:Vx l at_ (m+1)=Vx l at_ m++(if pk l (at_+m+7) 3=0 then[(m:Int)] else[]):=by
 unfold Vx;rw[Fv,Ib,Dp]
 congr 1
 by_cases h:pk l (at_+m+7) 3=0<;>simp[h]
theorem Bg:(Vx l at_ m).length<=m:=by
 unfold Vx;rw[Sr];have:=D5 (fun(i:Nat)=>decide (pk l (at_+i+7) 3=0)) (List.range m);rw[FV]at this;exact this
def ints(l:List Int):List Value:=l.map (Value.int .i64)
attribute [local irreducible] Code.wp wpList Exit.then Exit.inBlock bodyPost A Calls execOp Addr.add
def sx(w:World)(b:Nat)(k a c:Int)(bs:List Br)(cl:List Int)(u:World):Prop:=∃vb vl,aG u b [iV k,iV a,iV c,vb,vl] 41/\BO w 50 u bs vb/\bx u 3 1 vl cl.length (ints cl)/\(∀x∈ag vl,w.heap.size<=x/\x≠b/\x∉ag vb)/\b∉ag vb/\w.heap.size<=b/\Fr [] w u
theorem sx.set{u u':World}{b:Nat}{k c k' a' c':Int}{bs:List Br}{cl:List Int}(h:sx w b k a c bs cl u)(hf:Fr [b] u u')(hb:∀vb vl,aG u b [iV k,iV a,iV c,vb,vl] 41->aG u' b [iV k',iV a',iV c',vb,vl] 41):sx w b k' a' c' bs cl u':=by
 obtain⟨vb,vl,h1,h2,h3,h4,h5,h6,h7⟩:=h;exact⟨vb,vl,hb _ _ h1,⟨h2.1.tr hf (fun x hx hm=>h5 qw),h2.2⟩,h3.tr hf (fun x hx hm=>(h4 x hx).2.1 (Sv.1 hm)),h4,h5,h6,h7.trans hf (fun x hx=>.inr (by rw[Sv.1 hx];exact h6))⟩
theorem JjM{q:Nat}{rs:List Rn}(x:Value)(l:List Int)(at_:Int)(bad:Bool)(w:World)(hQ:rp w q P rs)(hx:Src w x l.length (l.map (.int .i64)))(hl:∀n∈l,VE n)(ha:0<=at_/\at_<=1000)(hp:P.checks<=1000000/\P.ncls<=1000000/\P.reach.length<=1000000):
 Calls prog 14 #[.pointer (some ⟨q,0,none⟩),x,iV at_,.bool bad] w fun e w'=>∃vb vl,e=.returned (.agg ([iV (XW P l at_ bad).kind,iV (XW P l at_ bad).at_,iV (XW P l at_ bad).code,vb,vl]:List Value).toArray)/\
  BO w 50 w' (XW P l at_ bad).bs vb/\bx w' 3 1 vl (XW P l at_ bad).cl.length (ints (XW P l at_ bad).cl)/\(∀x∈ag vl,w.heap.size<=x)/\Fr [] w w':=by
 obtain⟨vr,vs,hb,hr,_⟩:=hQ;have hpc:(P.checks:Int)<=1000000:=by omega
 have uc:(P.ncls:Int)<=1000000:=by omega
 obtain⟨mr,cr,rfl,_⟩:=hr.slice;rw[Sr]at hr hb;obtain⟨aox,cx,rfl,_⟩:=id hx;obtain⟨k,hk⟩:=aP (pk l at_ 1000000);have AB:=Zf (l:=l) (i:=at_) (m:=1000000) bU;rw[<-hk]at AB;refine enter func14 rfl ntmps14 rfl ?_;refine wp_seq ?_;refine KA ?_;refine Jm (l:=[zI,zI,zI,zS,zS]) rfl (fun w1 b8 kb h8 aj bh=>?_);refine wpList_nil ?_;refine QG ?_
 (repeat refine wp_seq ?_)
 refine KA ?_;refine rr ?_;refine Jg (pick _ l at_ 1000000 w1 (hx.tr0 aj) hl bU) ?_;rintro _ rfl;rw[<-hk];refine oG ?_
 (repeat refine wp_seq ?_)
 refine KA ?_;refine rr ?_;refine JF [zI,zI,zI,zS,zS] rfl ?_;refine rr ?_;refine Jm (l:=[zI,zI,zI,zS,zS]) rfl (fun w2 kU iaY ez aq cz=>?_);have h8w:=h8;have h8:=h8.tr0 aq;refine rr ?_;refine Jd (cs:=[zI,zI,zI,zS,zS]) rfl rfl ez dQ rfl rfl (fun w3 ez aF dO=>?_);have h8:=h8.tr aF aZ;have aV:Fr [] w1 w3:=aq.trans aF (fun x hx=>.inr bt);have hI3:sx w1 kU 0 0 0 [] [] w3:=⟨_,_,ez,BO.nil,bx.nil _ _ _,by simp[ag,Value.ownBlock],by simp[ag,Value.ownBlock],by omega,aV⟩;clear ez;refine wpList_nil ?_;refine QG ?_
 (repeat refine wp_seq ?_)
 refine KA ?_;refine oG ?_
 (repeat refine wp_seq ?_)
 refine KZ 11 [] (fun g u=>sx w1 kU 0 0 0 (VG P l at_ (k%6).toNat) [] u) ?_ ?_
 .refine rx ?_;refine Jh 12 [11] (σ:=Nat) (fun i g u=>g 11=iV (i:Nat)/\(i:Int)<=k%6/\sx w1 kU 0 0 0 (VG P l at_ i) [] u) (fun i=>6-i) 0 ⟨rfl,by omega,hI3⟩ ?_;rintro i g u ⟨g11,hi,hI⟩;rw[Ja g11];by_cases aC:(i:Int)<k%6
  case neg=>
   have he:i=(k%6).toNat:=by omega
   refine rx ?_;exact JK a6 (by rw[<-he];exact hI)
  obtain⟨vb,vl,ez,hB,hC,jR,gM,uh,hF⟩:=hI;obtain⟨n,hn⟩:=aP (pk l (at_+i+1) 1000);have hnr:=Zf (l:=l) (i:=at_+i+1) (m:=1000) bU;rw[<-hn]at hnr;have eD:=aj.Jb hF;have ua:=hb.tr0 eD;have cI:=hF.size;refine rx ?_;refine Jg (pick _ l (at_+i+1) 1000 u (hx.tr0 eD) hl bU) ?_;rintro _ rfl;rw[<-hn];have wx:=hB.1.lt;have mG:=hB.1.one;have hq:=hb.lt;have wy:=ez.lt;have oD:=Jaa (P:=P) (l:=l) (at_:=at_) (m:=i);have fin:∀{br:Br} {v':Value} {u' u2:World},br=yR P n->BO w1 50 u' (VG P l at_ i++[br]) v'->(∀x∈ag v',x∈ag vb\/u.heap.size<=x)->Fr (ag vb) u u'->aG u2 kU [zI,zI,zI,v',vl] 41->Fr [kU] u' u2->sx w1 kU 0 0 0 (VG P l at_ (i+1)) [] u2:=fun{br v' u' u2} eW hB' nA aj dN aq=>by
   have PF:kU∉ag v':=fun hm=>(nA _ hm).elim gM kX
   refine⟨v',vl,dN,?_,?_,fun x hx=>⟨(jR x hx).1,(jR x hx).2.1,fun hm=>?_⟩,PF,uh,?_⟩
   .rw [JcV,<-hn,<-eW];exact⟨hB'.1.tr aq (fun x hx hm=>PF qw),hB'.2⟩
   .exact (hC.tr aj (fun x hx hm=>(jR x hx).2.2 hm)).tr aq (fun x hx hm=>(jR x hx).2.1 (Sv.1 hm))
   .rcases nA x hm with h|h
    .exact (jR x hx).2.2 h
    .have:=hC.lt x hx;omega
   .exact (hF.trans aj (fun x hx=>.inr (hB.2 x hx))).trans aq (fun x hx=>.inr RP)
  obtain⟨iK,cb,rfl⟩:=hB.1.slice;rw[oD]at ez mG wx gM jR fin hB;by_cases c1:0<P.reach.length/\0<n%17
  .obtain ⟨j,hj⟩:∃j:Nat,(j:Int)=n/17%P.reach.length:=⟨_,Et (Fq _ ab)⟩;have jm:j<P.reach.length:=by
    have:=EP (n/17) (show(0:Int)<P.reach.length by omega);omega
   have eW:P.reach[j]=yR P n:=by
    unfold yR;rw[Cb c1,<-hj,EG,ff jm]
   obtain⟨c11,c12⟩:=c1;obtain⟨adr,idz,hcr⟩:=JZ QN (DR.brs (hr.tr0 eD)) jm bU;obtain⟨ifU,iaZ,idA⟩:=JZ QN (DR.brs hr) jm bU;subst idz;cases iaZ
   have hcr:Cells u (adr.add (j*3)) [.string P.reach[j].decl,iV P.reach[j].at_,iV P.reach[j].arm]:=hcr;have ieQ:=mh (Jd6 idA);refine rx ?_;refine Kr 18 (fun z=>Fr (ag (Value.slice iK i cb)) u z) az rfl ?_;obtain⟨u3,mg⟩:=aP u.drew;rw[<-mg];have kB:Fr [] u u3:=mg▸Fr.drew _ _;have hS:Fr (ag (Value.slice iK i cb)) u u3:=kB.mono ap;have nq:q∉ag (Value.slice iK i cb):=fun hm=>by have:=hB.2 q hm;omega
   have nr:(adr.add (j*3)).block∉ag (Value.slice iK i cb):=fun hm=>by have:=hB.2 _ hm;omega
   ((refine Jp 0 hS ?_))
   refine Jp 1 hS ?_ (aw:=(by intro u hu;exact(J7 rfl (aG.cell (ez.tr hu gM) rfl))))
   ((refine Jp 2 hS ?_);(refine Jp 3 hS ?_);(refine Jp 4 hS ?_))
   refine Jp 5 hS ?_ (aw:=(by intro u hu;exact(J7 rfl (aG.cell (ua.tr hu nq) rfl))))
   ((refine Jp 6 hS ?_))
   refine Jp 7 hS ?_ (aw:=(by intro u hu;exact(JiM rfl rfl bU (IntWalk.i64_quo _ _ ab))))
   ((refine Jp 8 hS ?_);(refine Jp 9 hS ?_);(refine Jp 10 hS ?_))
   refine Jp 11 hS ?_ (aw:=(by intro u hu;exact(J7 rfl (aG.cell (ua.tr hu nq) rfl))))
   ((refine Jp 12 hS ?_))
   refine Jp 13 hS ?_ (aw:=(by intro u hu;exact(JiL rfl rfl ab (Ef ab))));rw[<-hj]
   ((refine Jp 14 hS ?_))
   refine Jp 15 hS ?_ (aw:=(by intro u hu;exact(Kv rfl (hcr.tr hu nr) fD)));refine KH (i:=16) rfl az ?_;refine JQ (c1:=dH P.reach[j]) rfl rfl rfl (fun u4 q4 mL jA aI eA=>?_);have j6:=hS.Jb aI;refine wpList_nil (Xz j6 ?_);refine KH (i:=17) rfl az ?_;refine JC ((hB.1.tr0 kB).tr0 aI) rfl jA.src rfl rfl (QD _) dt ab (fun v5 u5 kt aQ sw _=>?_);have fP:=j6.trans aQ (fun x hx=>.inl hx);have lu:=kt.one;have dO:=kB.size;refine wpList_nil (Xz fP ?_);refine KH (i:=18) rfl az ?_;refine Ku rfl ?_;rw[add_lit];refine qs ?_;refine KH (i:=19) rfl az ?_
   ((with_reducible apply Ji);exact rfl;(conv=>lhs;whnf);exact lu;exact(ez.tr fP gM);exact rfl)
   intro u6 kg aM fL;replace kg:aG u6 kU [zI,zI,zI,v5,vl] 41:=kg;refine kE ?_;exact Ydw
  .have eW:(⟨aA [111,116,104,101,114],n/17%3,n/51%2⟩:Br)=yR P n:=by
    unfold yR;rw[SH c1]
   have tl:∀{u':World},u'=u->True:=fun _=>trivial
   clear tl;by_cases c11:0<P.reach.length
   .have c12:¬0<n%17:=fun h=>c1 ⟨c11,h⟩
    refine rx ?_;exact Yq
   .refine rx ?_;exact Yq
 intro g u hI;obtain⟨m6,xD⟩:=aP ((k%6).toNat);rw[<-xD]at hI
 (repeat refine wp_seq ?_)
 refine KA ?_;refine oG ?_
 (repeat refine wp_seq ?_)
 refine KZ 11 [] (fun g u=>sx w1 kU 0 0 0 (VG P l at_ m6) (Vx l at_ P.ncls) u) ?_ ?_
 .refine rx ?_;refine Jh 14 [13] (σ:=Nat) (fun i g u=>g 13=iV (i:Nat)/\i<=P.ncls/\sx w1 kU 0 0 0 (VG P l at_ m6) (Vx l at_ i) u) (fun i=>P.ncls-i) 0 ⟨rfl,SL _,hI⟩ ?_;clear hI;rintro i g u ⟨g13,hi,hI⟩;rw[Ja g13];have yT:=hI;obtain⟨vb,vl,ez,hB,hC,jR,gM,uh,hF⟩:=hI;have eD:=aj.Jb hF;have ua:=hb.tr0 eD;by_cases aC:i<P.ncls
  case neg=>
   have he:i=P.ncls:=by omega
   refine rx ?_;exact JK a6 (by rw[<-he];exact yT)
  refine rx ?_;refine Jg (pick _ l (at_+i+7) 3 u (hx.tr0 eD) hl bU) ?_;rintro _ rfl;have fg:=Bg (l:=l) (at_:=at_) (m:=i);have hC1:=hC.one;have wy:=ez.lt;by_cases hz:pk l (at_+i+7) 3=0
  .refine rx ?_;refine QO (v:=iV (i:Nat)) rfl rfl (fun u4 jA aI eA=>?_);refine rx ?_;refine JC (hC.tr0 aI) rfl jA.src rfl rfl dQ dt ab (fun v5 u5 kt aO ml _=>?_);have rE:Fr (ag vl) u u5:=(aI.mono ap).trans aO (fun x hx=>.inl hx);have lu:=kt.one;have oP:∀x∈ag v5,x∈ag vl\/u.heap.size<=x:=fun x hx=>(ml x hx).imp id kX
   have RQ:=ez.tr rE (fun hm=>(jR kU hm).2.1 rfl);have wx:=hB.1.lt;have cI:=hF.size;refine rx ?_
   ((with_reducible apply Ji);exact rfl;(conv=>lhs;whnf);exact lu;exact RQ;exact rfl)
   intro u6 kg aJ fm;replace kg:aG u6 kU [zI,zI,zI,vb,v5] 41:=kg;refine rx ?_;refine Jc (i+1) a6 ⟨rfl,aC,vb,v5,kg,⟨(hB.1.tr rE (fun x hx hm=>(jR x hm).2.2 hx)).tr aJ (fun x hx hm=>gM qw),hB.2⟩,?_,fun x hx=>⟨?_,?_,fun hm=>?_⟩,gM,uh,(hF.trans rE (fun x hx=>.inr (jR x hx).1)).trans aJ (fun x hx=>.inr RP)⟩ ab
   .rw [LV,Cb hz];have:=kt.tr aJ (fun x hx hm=>by
     rw[Sv.1 hm]at hx;rcases oP kU hx with h|h
     .exact (jR kU h).2.1 rfl
     .omega)
    exact Ydj
   .rcases oP x hx with h|h
    .exact (jR x h).1
    .omega
   .rcases oP x hx with h|h
    .exact (jR x h).2.1
    .omega
   .rcases oP x hx with h|h
    .exact (jR x h).2.2 hm
    .have:=wx x hm;omega
  .refine rx ?_;refine Jc (i+1) a6 ⟨rfl,aC,?_⟩ ab;rw[LV,SH hz,Ce];exact yT
 clear hI;intro g u hI;refine wp_seq ?_;refine KZ 11 [] (fun g u=>sx w1 kU (rD P k) (pY P k) (if rD P k=2 then 13 else 0) (VG P l at_ m6) (Vx l at_ P.ncls) u) ?_ ?_
 .have yT:=hI;obtain⟨vb,vl,ez,hB,hC,jR,gM,uh,hF⟩:=hI;have ua:=hb.tr0 (aj.Jb hF);have mG:=hB.1.one;have hC1:=hC.one;by_cases c1:0<k/6%3
  case neg=>
   have e1:rD P k=0:=by unfold rD;rw[SH (fun h=>c1 h.1)]
   have e2:pY P k=0:=by unfold pY;rw[SH (fun h=>c1 h.1)]
   rw[e1,e2];refine rx ?_;exact Yhi
  by_cases c2:0<P.checks
  case neg=>
   have e1:rD P k=0:=by unfold rD;rw[SH (fun h=>c2 h.2)]
   have e2:pY P k=0:=by unfold pY;rw[SH (fun h=>c2 h.2)]
   rw[e1,e2];refine rx ?_;exact Yhi
  have e1:rD P k=k/6%3:=by unfold rD;rw[Cb ⟨c1,c2⟩]
  have e2:pY P k=k/18%P.checks:=by unfold pY;rw[Cb ⟨c1,c2⟩]
  rw[e1,e2];obtain⟨kd,hkd⟩:=aP (k/6%3);refine rx ?_;rw[<-hkd]at c1 ⊢;obtain⟨ca,zF⟩:=aP (k/18%(P.checks:Int));rw[<-zF];refine JF [iV kd,iV ca,zI] rfl ?_;refine rx ?_;refine Jt (cs:=[iV kd,iV ca,zI]) rfl rfl ez dQ (Dy rfl) rfl (fun u6 kg aJ fm=>?_);replace kg:aG u6 kU [iV kd,iV ca,zI,vb,vl] 41:=kg;have hI1:sx w1 kU kd ca 0 (VG P l at_ m6) (Vx l at_ P.ncls) u6:=⟨vb,vl,kg,⟨hB.1.tr aJ (fun x hx hm=>gM qw),hB.2⟩,hC.tr aJ (fun x hx hm=>(jR x hx).2.1 (Sv.1 hm)),jR,gM,uh,hF.trans aJ (fun x hx=>.inr RP)⟩;by_cases c3:kd=2
  .rw [Cb c3];refine rx ?_
   ((with_reducible apply Ji);exact rfl;(conv=>lhs;whnf);exact rfl;exact kg;exact rfl)
   intro u7 Aq aQ iF;refine rx ?_;refine JK a6 ⟨vb,vl,Aq,⟨(hB.1.tr aJ (fun x hx hm=>gM qw)).tr aQ (fun x hx hm=>gM qw),hB.2⟩,(hC.tr aJ (fun x hx hm=>(jR x hx).2.1 (Sv.1 hm))).tr aQ (fun x hx hm=>(jR x hx).2.1 (Sv.1 hm)),jR,gM,uh,(hF.trans aJ (fun x hx=>.inr RP)).trans aQ (fun x hx=>.inr RP)⟩
  .rw [SH c3];refine rx ?_;exact JK a6 hI1
 clear hI;intro g u hI;obtain⟨cd,zr⟩:∃c:Int,c=if rD P k=2 then 13 else 0:=⟨_,rfl⟩
 rw[<-zr]at hI;have RR:0<=pY P k/\pY P k<=1000000:=by
  unfold pY
  split
  .rename_i h;have h1:=Fq (k/18) (show(P.checks:Int)≠0 by omega);have h2:=EP (k/18) (show(0:Int)<P.checks by omega);omega
  .omega
 refine wp_seq ?_;refine KZ 11 [] (fun g u=>sx w1 kU (rD P k) (if bad=true/\k/100%5=0 then pY P k+k/500%5-2 else pY P k) cd (VG P l at_ m6) (Vx l at_ P.ncls) u) ?_ ?_
 .cases fQ:bad with
  |false=>
   rw[SH (fun h=>by cases h.1)];refine rx ?_;exact AD
  |true=>
  by_cases c1:k/100%5=0
  case neg=>
   rw[SH (fun h=>c1 h.2)];refine rx ?_;exact AD
  exact Yv
 clear hI;intro g u hI;obtain⟨at2,ia0⟩:∃c:Int,c=if bad=true/\k/100%5=0 then pY P k+k/500%5-2 else pY P k:=⟨_,rfl⟩
 rw[<-ia0]at hI;refine wp_seq ?_;refine KZ 11 [] (fun g u=>sx w1 kU (if bad=true/\k/100%5=1 then k/500%6-1 else rD P k) at2 cd (VG P l at_ m6) (Vx l at_ P.ncls) u) ?_ ?_
 .cases fQ:bad with
  |false=>
   rw[SH (fun h=>by cases h.1)];refine rx ?_;exact AD
  |true=>
  by_cases c1:k/100%5=1
  case neg=>
   rw[SH (fun h=>c1 h.2)];refine rx ?_;exact AD
  exact Yv
 clear hI;intro g u hI;obtain⟨kd2,ia1⟩:∃c:Int,c=if bad=true/\k/100%5=1 then k/500%6-1 else rD P k:=⟨_,rfl⟩
 rw[<-ia1]at hI;refine wp_seq ?_;refine KZ 11 [] (fun g u=>sx w1 kU kd2 at2 cd (VG P l at_ m6) (Vx l at_ P.ncls++(if bad=true/\k/100%5=2 then[k/500%4-1] else[])) u) ?_ ?_
 .cases fQ:bad with
  |false=>
   rw[SH (fun h=>by cases h.1),Ce];refine rx ?_;exact AD
  |true=>
  by_cases c1:k/100%5=2
  case neg=>
   rw[SH (fun h=>c1 h.2),Ce];refine rx ?_;exact AD
  rw[Cb ⟨rfl,c1⟩];obtain⟨vb,vl,ez,hB,hC,jR,gM,uh,hF⟩:=hI;have mG:=hB.1.one;have hC1:=hC.one;have fg:=Bg (l:=l) (at_:=at_) (m:=P.ncls);have wx:=hB.1.lt;have cI:=hF.size;have wy:=ez.lt;refine rx ?_;refine QO (v:=iV (k/500%4-1)) rfl rfl (fun u4 jA aI eA=>?_);refine rx ?_;refine JC (hC.tr0 aI) rfl jA.src rfl rfl dQ dt ab (fun v5 u5 kt aO ml _=>?_);have rE:Fr (ag vl) u u5:=(aI.mono ap).trans aO (fun x hx=>.inl hx);have lu:=kt.one;have oP:∀x∈ag v5,x∈ag vl\/u.heap.size<=x:=fun x hx=>(ml x hx).imp id kX
  have RQ:=ez.tr rE (fun hm=>(jR kU hm).2.1 rfl);refine rx ?_
  ((with_reducible apply Ji);exact rfl;(conv=>lhs;whnf);exact lu;exact RQ;exact rfl)
  intro u6 kg aJ fm;replace kg:aG u6 kU [iV kd2,iV at2,iV cd,vb,v5] 41:=kg;refine rx ?_;refine JK a6 ⟨vb,v5,kg,⟨(hB.1.tr rE (fun x hx hm=>(jR x hm).2.2 hx)).tr aJ (fun x hx hm=>gM qw),hB.2⟩,?_,fun x hx=>⟨?_,?_,fun hm=>?_⟩,gM,uh,(hF.trans rE (fun x hx=>.inr (jR x hx).1)).trans aJ (fun x hx=>.inr RP)⟩
  .have:=kt.tr aJ (fun x hx hm=>by
    rw[Sv.1 hm]at hx;rcases oP kU hx with h|h
    .exact (jR kU h).2.1 rfl
    .omega)
   exact Ydj
  .rcases oP x hx with h|h
   .exact (jR x h).1
   .omega
  .rcases oP x hx with h|h
   .exact (jR x h).2.1
   .omega
  .rcases oP x hx with h|h
   .exact (jR x h).2.2 hm
   .have:=wx x hm;omega
 clear hI;intro g u hI;have hR:XW P l at_ bad=⟨kd2,at2,cd,VG P l at_ m6,Vx l at_ P.ncls++(if bad=true/\k/100%5=2 then[k/500%4-1] else[])⟩:=by
  unfold XW;rw[<-hk,ia1,ia0,zr,xD]
 rw[hR];obtain⟨vb,vl,ez,hB,hC,jR,gM,uh,hF⟩:=hI;have h8u:=h8w.tr0 hF;have mG:=hB.1.one;have hC1:=hC.one;refine rx ?_;refine Jd (cs:=[iV kd2,iV at2,iV cd,vb,vl]) rfl rfl h8u Yis rfl rfl (fun u6 kg aJ fm=>?_);refine rx ?_;refine Qc rfl rfl kg rfl ⟨vb,vl,rfl,⟨hB.1.tr aJ (fun x hx hm=>?_),fun x hx=>?_⟩,hC.tr aJ (fun x hx hm=>?_),fun x hx=>?_,(aj.Jb hF).trans aJ (fun x hx=>.inr bt)⟩
 .have:=hB.2 x hx;rw[Sv.1 hm]at this;omega
 .have:=hB.2 x hx;omega
 .have:=(jR x hx).1;rw[Sv.1 hm]at this;omega
 .have:=(jR x hx).1;omega
end Go.Proofs.YtggmccicdhnkgaaGreat
namespace Go.Rf
open Go.RowKit
theorem JfA{P:Program}{n:Nat}{f:Env}{w:World}{d:Nat}{ty:TypeId}{ps:String}{af:Array Edge}{gd:Option (Nat×Bool)}{x:Operand}{t k e size b o:Nat}[R:ArrT P t k e size](hx:ev n f x=.pointer (some ⟨b,o,none⟩)):
 (execOp (ev n f) ⟨some d,.slice t x none none none,ty,ps,af,gd⟩).run P w=.ok (.value (.slice (some ⟨b,o,none⟩) k k)) w:=by
 obtain⟨i,hi,hs⟩:=R.inf;have e0:(⟨b,o,none⟩:Addr).add 0=⟨b,o,none⟩:=ta _;simp[execOp,hx,Instr.sliceAt,Instr.sureAddr,run_underlying R.u,Instr.sliceBounds,sizeOf,typeInfo,hi,e0]
def PD(cnt:Br->Nat)(b:Br):List Value:=dH b++[iV (cnt b:Nat)]
theorem Jjj(cnt:Br->Nat)(b:Br):(PD cnt b).length=4:=rfl
theorem JhK(cnt:Br->Nat)(b:Br):∀v∈PD cnt b,v.oneCell'=true:=by simp[PD,dH,Value.oneCell']
theorem Jfd{w:World}{b t o m:Nat}{l ys:List Value}(h:aG w b l t)(hl:∀j u,ys[j]?=some u->l[o+j]?=some u):Src w (.slice (some ⟨b,o,none⟩) m m) m ys:=by
 refine⟨some ⟨b,o,none⟩,m,rfl,SX _,fun h=>mi,fun ad e j u hj=>?_⟩;cases e
 rw[add_lit];exact h.cell (hl j u hj)
end Go.Rf
namespace Go.Proofs.YtggmccicdhnkgaaGreat
open Go.Proofs.Tryz
open Go.Rf Go.RowKit
attribute [local irreducible] Code.wp wpList Exit.then Exit.inBlock bodyPost A Calls execOp Addr.add
def Jk2(w0 w:World)(P:Pp)(s:St)(cs:List Value):Prop:=∃vk vc vo,cs=[iV (s.runs:Nat),vk,iV (s.ps.length:Nat),vc,vo]/\
 bx w 52 4 vk s.ks.length (s.ks.flatMap (PD s.cnt))/\bx w 3 1 vc s.cls.length (Vk s.cls)/\bx w 3 1 vo 3 (Vk [s.o 0,s.o 1,s.o 2])/\(∀x,x∈ag vk\/x∈ag vc\/x∈ag vo->w0.heap.size<=x)
theorem JkD{p:Nat}{M R:List Nat}{P:Pp}{s:St}(w:World)(hC:Wj w p M R P s)(hn:s.cls.length<=1000000)(hk:s.ks.length<=1000000):
 Calls prog 17 #[.pointer (some ⟨p,0,none⟩)] w fun e w'=>∃cs,e=.returned (.agg cs.toArray)/\cs.length=5/\Jk2 w w' P s cs/\Fr [] w w':=by
 obtain⟨bb,pb,vr,vc,mb,mp,rfl,rfl,iJ,hb,hr,hc,jN,lS,iU,rm,eU⟩:=hC;obtain⟨iZ,cc,rfl⟩:=hc.slice;have hlp:mp.length=s.ps.length:=GI Qy iU.nd eU.pasc (fun a=>rm.keys);have Pz:mb.length=s.ks.length:=GI Qu jN.nd eU.kasc (fun a=>lS.keys.trans (eU.cnt a));refine enter func17 rfl ntmps17 rfl ?_;refine rx ?_;refine Jm (l:=[zI,zS,zI,zS,zS]) rfl (fun w1 b2 dN h2 aj bh=>?_);have bJ:=hb.tr0 aj;have qT:=iU.tr0 aj;refine rx ?_;refine KZ 3 [3] (fun g u=>∃b3 vc vo,g 3=.pointer (some ⟨b3,0,none⟩)/\aG u b3 [iV (s.runs:Nat),zS,iV (s.ps.length:Nat),vc,vo] 47/\bx u 3 1 vc s.cls.length (Vk s.cls)/\bx u 3 1 vo 3 (Vk [s.o 0,s.o 1,s.o 2])/\w1.heap.size<=b3/\(∀x∈ag vc++ag vo,w1.heap.size<=x/\x≠b3)/\Fr [] w1 u) ?_ ?_
 . (refine JE (fun z=>Fr [] w1 z) az rfl ?_)
   obtain⟨u,hu⟩:=aP w1.drew;rw[<-hu];have hS:Fr [] w1 u:=hu▸Fr.drew _ _;have hz:=hS.size;refine An ?_;refine Kw 8 hS ?_ (aw:=by(intro u hu;exact(JfF rfl (qT.tr0 hu))));refine Jj 10 11 12 13 hS ?_;refine JX 16 17 hS ?_;refine bH 18 hS ?_;refine Kw 19 hS ?_ (aw:=by(intro u hu;exact(JfA rfl)));refine XJ (i:=9) (j:=15) (k:=22) rfl rfl rfl az ?_ ?_ ?_
   .obtain ⟨bA,xE⟩:=aP u.heap.size;refine Qr (fun u hA hf hsA=>?_);rw[<-xE]at hA ⊢;have ss:In (ag (Value.slice (some ⟨bA,0,none⟩) 0 0)) bA u.heap.size:=fun x hx=>by simp[ag,Value.ownBlock]at hx;omega
    have hz:=hf.size;have hS:=hS.Jb hf;clear hf;refine ft ?_;refine XJ (i:=14) (j:=15) (k:=22) rfl rfl rfl az ?_ ?_ ?_
    .obtain ⟨n14,RM⟩:=aP u.heap.size;refine JC hA rfl ((hc.src.tr0 aj).tr0 hS) rfl Ykf (WX _) dt ab (fun RN u hC hf wu _=>?_);rw[CO,Di]at hC;have hS:Fr [] w1 u:=hS.trans hf (fun x hx=>.inr (by have:=ss x hx;omega));have qE:∀x∈ag RN,w1.heap.size<=x/\x<u.heap.size/\(x<n14->x∈ag (Value.slice (some ⟨bA,0,none⟩) 0 0)):=fun x hx=>⟨(wu x hx).elim Yki kX,hC.lt x hx,fun h1=>(wu x hx).elim id kX⟩
     have hz:=hf.size;clear hf;refine ft ?_;refine Xt (i:=15) (j:=22) rfl rfl az ?_ ?_
     .obtain ⟨bE,qI⟩:=aP u.heap.size;refine Qr (fun u hE hf hsE=>?_);rw[<-qI]at hE ⊢;have su:In (ag (Value.slice (some ⟨bE,0,none⟩) 0 0)) bE u.heap.size:=fun x hx=>by simp[ag,Value.ownBlock]at hx;omega
      have hC:=hC.tr0 hf;have hz:=hf.size;have hS:=hS.Jb hf;exact Ydm
     .obtain ⟨bB,jQ⟩:=aP u.heap.size;refine WM (l:=[zI,zS,zI,zS,zS]) rfl (fun u hB hf sr=>?_);rw[<-jQ]at hB ⊢;have hC:=hC.tr0 hf;have hz:=hf.size;have hS:=hS.Jb hf;exact Yek
    .obtain ⟨bE,qI⟩:=aP u.heap.size;refine Qr (fun u hE hf hsE=>?_);rw[<-qI]at hE ⊢;have su:In (ag (Value.slice (some ⟨bE,0,none⟩) 0 0)) bE u.heap.size:=fun x hx=>by simp[ag,Value.ownBlock]at hx;omega
     have hA:=hA.tr0 hf;exact Yec
    .obtain ⟨bB,jQ⟩:=aP u.heap.size;refine WM (l:=[zI,zS,zI,zS,zS]) rfl (fun u hB hf sr=>?_);rw[<-jQ]at hB ⊢;have hA:=hA.tr0 hf;exact Yej
   .obtain ⟨bE,qI⟩:=aP u.heap.size;refine Qr (fun u hE hf hsE=>?_);rw[<-qI]at hE ⊢;have su:In (ag (Value.slice (some ⟨bE,0,none⟩) 0 0)) bE u.heap.size:=fun x hx=>by simp[ag,Value.ownBlock]at hx;omega
    have hz:=hf.size;have hS:=hS.Jb hf;clear hf;refine ft ?_;refine Xt (i:=9) (j:=22) rfl rfl az ?_ ?_
    .obtain ⟨bA,xE⟩:=aP u.heap.size;refine Qr (fun u hA hf hsA=>?_);rw[<-xE]at hA ⊢;have ss:In (ag (Value.slice (some ⟨bA,0,none⟩) 0 0)) bA u.heap.size:=fun x hx=>by simp[ag,Value.ownBlock]at hx;omega
     have hE:=hE.tr0 hf;exact Yec
    .obtain ⟨bB,jQ⟩:=aP u.heap.size;refine WM (l:=[zI,zS,zI,zS,zS]) rfl (fun u hB hf sr=>?_);rw[<-jQ]at hB ⊢;have hE:=hE.tr0 hf;exact Yel
   .obtain ⟨bB,jQ⟩:=aP u.heap.size;refine WM (l:=[zI,zS,zI,zS,zS]) rfl (fun u hB hf sr=>?_);rw[<-jQ]at hB ⊢;have hz:=hf.size;have hS:=hS.Jb hf;clear hf;refine ft ?_;refine Xt (i:=9) (j:=15) rfl rfl az ?_ ?_
    .obtain ⟨bA,xE⟩:=aP u.heap.size;refine Qr (fun u hA hf hsA=>?_);rw[<-xE]at hA ⊢;have ss:In (ag (Value.slice (some ⟨bA,0,none⟩) 0 0)) bA u.heap.size:=fun x hx=>by simp[ag,Value.ownBlock]at hx;omega
     have hB:=hB.tr0 hf;exact Yej
    .obtain ⟨bE,qI⟩:=aP u.heap.size;refine Qr (fun u hE hf hsE=>?_);rw[<-qI]at hE ⊢;have su:In (ag (Value.slice (some ⟨bE,0,none⟩) 0 0)) bE u.heap.size:=fun x hx=>by simp[ag,Value.ownBlock]at hx;omega
     have hB:=hB.tr0 hf;exact Yel
 rintro g w2 ⟨b3,vc,vo,g3,iB,fg,fp,ifS,hvw,aS⟩;rw[Ja g3];clear g3;have lD:=aj.Jb aS;have h2:=h2.tr0 aS;have gh:=hb.tr0 lD;have kA:=jN.tr0 lD;have hsw:=lD.size;have fN:=aS.size;refine rx ?_;refine Jl (JbB mb bb w2 kA ab) ?_;rintro vq w3 ⟨nN,aF⟩;rw[Uw Qu eU.kasc (fun a=>lS.keys.trans (eU.cnt a))]at nN;obtain⟨aoq,cq,rfl⟩:=nN.1.slice;have wb:=nN.2;have TB:=nN.1.lt;have ido:=iB.lt;have iB:=iB.tr0 aF;have h2:=h2.tr0 aF;have fg:=fg.tr0 aF;have fp:=fp.tr0 aF;have yP:=lD.Jb aF;have gh:=gh.tr0 aF;have kA:=kA.tr0 aF;have Tl:=aF.size;have idp:=fg.lt;have idq:=fp.lt;have ieP:=iB.lt;have gI:=fg.one;have ef:=fp.one;refine rx ?_;refine Jh 34 [5] (σ:=Nat×Value) (fun t g u=>g 34=iV (t.1:Nat)/\t.1<=s.ks.length/\aG u b3 [iV (s.runs:Nat),t.2,iV (s.ps.length:Nat),vc,vo] 47/\bx u 52 4 t.2 t.1 ((s.ks.take t.1).flatMap (PD s.cnt))/\(∀x∈ag t.2,x=b3\/w3.heap.size<=x)/\b3∉ag t.2/\∃T,Fr T w3 u/\∀x∈T,x=b3\/w3.heap.size<=x) (fun t=>s.ks.length-t.1) (0,zS) ⟨rfl,SL _,iB,bx.nil _ _ _,by simp[ag,Value.ownBlock],by simp[ag,Value.ownBlock],[],Fr.refl _ _,by simp⟩ ?_;clear iB;rintro⟨i,vk⟩ g u ⟨Y',hi,iB,oO,ug,lg,T,yS,hT⟩;simp only at Y' hi iB oO ug lg;rw[Ja Y'];have cI:=yS.size;have ee:=oO.one;have idr:=oO.lt;have PE:∀x,x<w3.heap.size->x≠b3->x∉T:=fun x h1 h2 hm=>(hT x hm).elim h2 kX
 have idt:Fr [] w u:=yP.trans yS (fun x hx=>.inr (by rcases hT x hx with h|h<;>omega));have idu:=fg.tr yS (fun x hx=>PE x (idp x hx) (hvw x (SA _ hx)).2);have idv:=fp.tr yS (fun x hx=>PE x (idq x hx) (hvw x (CJ _ hx)).2);by_cases aC:i<s.ks.length
 case neg=>
  have h2:=h2.tr yS (PE b2 ab ab);refine rx ?_;refine Jd (cs:=[iV (s.runs:Nat),vk,iV (s.ps.length:Nat),vc,vo]) rfl rfl h2 Yis rfl rfl (fun u1 h2' aO eV=>?_);refine rx ?_;rw[SQ ab]at oO;obtain rfl:i=s.ks.length:=by omega
  have idw:∀x∈ag vk,x∉[b2]:=fun x hx hm=>by rw[Sv.1 hm]at hx;rcases ug b2 hx with h|h<;>omega
  have iaX:∀x∈ag vc++ag vo,x∉[b2]:=fun x hx hm=>by have:=(hvw x hx).1;rw[Sv.1 hm]at this;omega
  refine Qc rfl rfl h2' rfl ?_;refine⟨_,rfl,rfl,⟨vk,vc,vo,rfl,oO.tr aO idw,idu.tr aO (fun x hx=>iaX x (SA _ hx)),idv.tr aO (fun x hx=>iaX x (CJ _ hx)),fun x hx=>?_⟩,idt.trans aO (fun x hx=>.inr bt)⟩;rcases hx with hx|hx|hx
  .rcases ug x hx with h|h<;>omega
  .have:=(hvw x (SA _ hx)).1;omega
  .have:=(hvw x (CJ _ hx)).1;omega
 obtain⟨yF,lT,ow⟩:=JZ QN (nN.1.src.tr yS (fun ad n c e _=>by
  cases e
  have h1:=wb ad.block oz;have h2:=TB ad.block oz;exact PE _ h2 ab)) aC bU
 subst lT;have ow:Cells u (yF.add (i*3)) [.string s.ks[i].decl,iV s.ks[i].at_,iV s.ks[i].arm]:=ow;have hbp:p<w.heap.size:=hb.lt;have ifT:bb<w.heap.size:=jN.lt;have gh:=gh.tr yS (PE p ab ab);have kA:=kA.tr yS (PE bb ab ab);refine rx ?_;refine Jm (l:=[zT,zI,zI]) rfl (fun u1 b5 Ru h5 aO eV=>?_);refine rx ?_;refine Jd (cs:=dH s.ks[i]) rfl rfl h5 (QD _) rfl rfl (fun u2 h5 aJ fm=>?_);replace h5:aG u2 b5 [.string s.ks[i].decl,iV s.ks[i].at_,iV s.ks[i].arm] _:=h5;have aS:Fr [] u u2:=aO.trans aJ (fun x hx=>.inr bt);have iB:=iB.tr0 aS;have oO:=oO.tr0 aS;have gh:=gh.tr0 aS;have kA:=kA.tr0 aS;have idy:=aS.size;obtain⟨wv,ck,rfl⟩:=oO.slice;refine rx ?_;refine Kr 12 (fun z=>Fr (ag (Value.slice wv i ck)) u2 z) az rfl ?_;obtain⟨u3,mg⟩:=aP u2.drew;rw[<-mg];have kB:Fr [] u2 u3:=mg▸Fr.drew _ _;have hS:Fr (ag (Value.slice wv i ck)) u2 u3:=kB.mono ap;have n3:b3∉ag (Value.slice wv i ck):=lg;have n5:b5∉ag (Value.slice wv i ck):=fun hm=>by have:=idr b5 hm;omega
 have np:p∉ag (Value.slice wv i ck):=fun hm=>by rcases ug p hm with h|h<;>omega
 have nbb:bb∉ag (Value.slice wv i ck):=fun hm=>by rcases ug bb hm with h|h<;>omega
 ((refine Jp 0 hS ?_))
 refine Jp 1 hS ?_ (aw:=(by intro u hu;exact(J7 rfl (aG.cell (iB.tr hu n3) rfl))));refine Jp 2 hS ?_ (aw:=(by intro u hu;exact(Kv rfl (Cells.VO (h5.tr hu n5)) fD)))
 ((refine Jp 3 hS ?_);(refine Jp 4 hS ?_);(refine Jp 5 hS ?_))
 refine Jp 6 hS ?_ (aw:=(by intro u hu;exact(J7 rfl (aG.cell (gh.tr hu np) rfl))));refine Jp 7 hS ?_ (aw:=(by intro u hu;exact(Kv rfl (Cells.VO (h5.tr hu n5)) fD)));refine Jp 8 hS ?_ (aw:=(by intro u hu;refine(Ax (P:=prog) (t:=122) (a:=s.ks[i]) ?_ ?_ (kA.tr hu nbb) lS);exact rfl;exact rfl));refine Jp (v:=.agg ((PD s.cnt s.ks[i])).toArray) 9 hS ?_ (aw:=(by(intro u hu;exact QU ((PD s.cnt s.ks[i])) fD)));refine tR ?_;refine JQ (c1:=PD s.cnt s.ks[i]) rfl rfl rfl (fun u4 q4 mL jA aI eA=>?_);have j6:=hS.Jb aI;refine wpList_nil (Xz j6 ?_);refine YY ?_;refine JC ((oO.tr0 kB).tr0 aI) rfl jA.src rfl rfl (JhK _ _) dt ab (fun v5 u5 kt aQ sw _=>?_);have fP:=j6.trans aQ (fun x hx=>.inl hx);have lu:=kt.one;have dO:=kB.size;have eV:=aQ.size;refine wpList_nil (Xz fP ?_);refine KH (i:=12) rfl az ?_;refine Ku rfl ?_;rw[add_lit];refine qs ?_;refine KH (i:=13) rfl az ?_
 ((with_reducible apply Ji);exact rfl;(conv=>lhs;whnf);exact lu;exact(iB.tr fP n3);exact rfl)
 intro u6 kg aM fL;replace kg:aG u6 b3 [iV (s.runs:Nat),v5,iV (s.ps.length:Nat),vc,vo] _:=kg;refine kE ?_;refine rx ?_;have RO:∀x∈ag v5,(x=b3\/w3.heap.size<=x)/\x≠b3:=fun x hx=>by
  rcases sw x hx with h|h
  .exact ⟨ug x h,fun e=>lg (e▸h)⟩
  .exact ⟨.inr ab,by omega⟩
 refine Jc (i+1,v5) a6 ⟨rfl,aC,kg,?_,fun x hx=>(RO x hx).1,fun hm=>(RO b3 hm).2 rfl,T++ag (Value.slice wv i ck)++[b3],?_,?_⟩ eM
 .simp only;rw[KP aC];exact kt.tr aM (fun x hx hm=>(RO x hx).2 (Sv.1 hm))
 .have h1:Fr (T++ag (Value.slice wv i ck)++[b3]) w3 u:=yS.mono (fun x hx=>.inl lA);have h2:=(h1.Jb aS).trans fP (fun x hx=>.inl lA);exact h2.trans aM (fun x hx=>.inl (by simp[Sv.1 hx]))
 .intro x hx;simp only[SE,Sv]at hx;rcases hx with(hx|hx)|hx
  .exact hT x hx
  .exact ug x hx
  .exact .inl hx
end Go.Proofs.YtggmccicdhnkgaaGreat
namespace Go.Rf
open Go.RowKit
variable{af:Array Edge}{f:Env}{l:List Br}{S:List Nat}{d n tb:Nat}{x:Operand}{P:Program}{ps:String}{u w:World}
theorem JaO{ty:TypeId}{gd:Option (Nat×Bool)}{o:Operand}{t:Nat}{ao:Option Addr}{l c e size eZ j:Nat}{kk:IntKind}[R:RowT P t e size eZ](hx:ev n f x=.slice ao l c)(ho:ev n f o=.int kk (j:Int))(hj:j<=l)(hl:l<=c):
 (execOp (ev n f) ⟨some d,.slice t x (some o) none none,ty,ps,af,gd⟩).run P w=.ok (.value (.slice (if c=j then ao else ao.map (·.add (j*size))) (l-j) (c-j))) w:=by
 exact Ycd
theorem JbP{ty:TypeId}{gd:Option (Nat×Bool)}{v:Value}(hx:ev n f x=v):(execOp (ev n f) ⟨some d,.assign x,ty,ps,af,gd⟩).run P w=.ok (.value v) w:=by simp[execOp,hx]
theorem L8{ds:List De}(hz:∀d∈ds,SzD d):∀(f:Nat) (s:List ByteArray×List De),(∀d∈s.2,d∈ds)->(KD ds f s).length<=f*11000
 |0,_,_=>by simp[KD]
 |f+1,(seen,[]),_=>by simp[KD]
 |f+1,(seen,d::q),h=>by
  have h1:=L8 hz f ((Js (Jw d)).foldl (Xy ds) (seen,q)) (WO (fun x hx=>h x (by simp at hx ⊢;exact .inr hx)));have h2:=(hz d (h d ap)).brs;rw[KD,Sm];omega
theorem Jex{ds:List De}{nm:ByteArray}(hz:∀d∈ds,SzD d):(JM eO (KX ds nm)).length<=(ds.length+2)*11000:=by
 have h:=KQ (lt:=eO) (l:=KX ds nm);refine CG h ?_;unfold KX;cases hr:QF ds nm with
 |none=>simp
 |some d=>exact L8 hz _ _ (fun x hx=>by rw[Sv.1 hx];exact Ei hr)
theorem ZO{v:Value}(h:bx u tb 3 v l.length (l.flatMap dH))(hl:l.length<=1000000000000)(hS:∀x∈ag v,x∉S):DR u S (.l (l.map jl)) v:=by
 refine DR.ofTyped (k:=3) (fun _=>rfl) hl ⟨l.flatMap dH,h.src,fun ad n c e _ hm=>?_,?_⟩
 .subst e;exact hS ad.block oz hm
 .clear h hl;exact Ycr
theorem Jfc{v:Value}(h:Src u v l.length (l.flatMap dH))(hl:l.length<=1000000000000)(hS:∀x∈ag v,x∉S):DR u S (.l (l.map jl)) v:=by
 refine DR.ofTyped (k:=3) (fun _=>rfl) hl ⟨l.flatMap dH,h,fun ad n c e _ hm=>?_,?_⟩
 .subst e;exact hS ad.block oz hm
 .clear h hl;exact Ycr
theorem Jgd{l:List Int}{v:Value}(h:bx u tb 1 v l.length (l.map (Value.int .i64)))(hl:l.length<=1000000000000)(hS:∀x∈ag v,x∉S):DR u S (.l (l.map KI)) v:=by
 refine DR.ofTyped (k:=1) (fun _=>rfl) hl ⟨l.map (Value.int .i64),h.src,fun ad n c e _ hm=>?_,?_⟩
 .subst e;exact hS ad.block oz hm
 .clear h hl
  induction l with
  |nil=>exact .nil
  |cons a l ih=>exact Rws.cons (cs:=[.int .i64 a]) (RD.c1 rfl .nil) ih
def eB(n:Int):Ex:=⟨1,aA [],n,[],[],[],0⟩
def eI:Ex:=⟨6,aA [],0,[],[],[eB 1,eB 1,eB 0],0⟩
def dP:De:=⟨3,aA [112],0,[],[],⟨0,aA [],[]⟩,⟨0,aA [],0,[],[],[],0⟩,0,⟨0,aA [],[],[],[],0⟩,[],[⟨aA [99],eI⟩],[],[],⟨0,aA [],[]⟩,⟨0,aA [],0,[],[],[],0⟩,[],[],⟨0,aA [],0,[],[],[],0⟩⟩
def bP(i:Int):Br:=⟨aA [112],0,i⟩
theorem Jfw:JM eO (KX [dP] (aA [112]))=[bP 0,bP 1]:=by
 have h1:QF [dP] (aA [112])=some dP:=by unfold QF;simp[dP]
 have h2:KX [dP] (aA [112])=[bP 0,bP 1]:=by
  unfold KX;rw[h1];rfl
 rw[h2];refine BP Qu ?_ (fun y=>Iff.rfl);have:eO (bP 0) (bP 1)=true:=by
  unfold eO Qe;simp[bP,XK,LP,VY]
 simpa[gR]using this
theorem szP:∀d∈[dP],SzD d:=fun d hd=>by
 rw[Sv.1 hd];refine⟨by decide,by decide,by decide,by decide,by decide⟩
end Go.Rf
namespace Go.Proofs.YtggmccicdhnkgaaGreat
open Go.Proofs.Tryz
open Go.Rf Go.RowKit
attribute [local irreducible] Code.wp wpList Exit.then Exit.inBlock bodyPost A Calls execOp Addr.add
theorem Jj6(k a c:Int){iK jG:Option Addr}{nb cb nl cl:Nat}(vb vl:Value)(w:World)(mj:vb=.slice iK nb cb)(wm:vl=.slice jG nl cl):
 Calls prog 13 #[.agg ([iV k,iV a,iV c,vb,vl]:List Value).toArray] w fun e w'=>e=.returned (.agg ([iV k,iV a,iV c,vb,vl,zI]:List Value).toArray)/\Fr [] w w':=by
 subst mj wm;refine enter func13 rfl ntmps13 rfl ?_;refine rx ?_;refine Gg (l:=[iV k,iV a,iV c,.slice iK nb cb,.slice jG nl cl]) rfl rfl (fun w1 h1 aj bh=>?_);refine rx ?_;refine Jm (l:=[zI,zI,zI,zS,zS,zI]) rfl (fun w2 b2 dN h2 aq cz=>?_);have h1:=h1.tr0 aq;refine rx ?_;refine JF [iV k,iV a,iV c,.slice iK nb cb,.slice jG nl cl,zI] rfl ?_;refine rx ?_;refine Jd (cs:=[iV k,iV a,iV c,.slice iK nb cb,.slice jG nl cl,zI]) rfl rfl h2 dQ rfl rfl (fun w3 h3 aF dO=>?_);refine rx ?_;refine Qc rfl rfl h3 rfl ⟨rfl,(aj.Jb aq).trans aF (fun x hx=>.inr bt)⟩
theorem Jjb(w:World):Calls prog 20 #[] w fun e w'=>e=.returned (.bool true)/\Fr [] w w':=by
 refine enter func20 rfl ntmps20 rfl ?_;refine rx ?_;refine JF [iV 1,zT,iV 1,zS,zS,zS,zI] rfl ?_;refine rx ?_;refine JF [iV 1,zT,iV 1,zS,zS,zS,zI] rfl ?_;refine rx ?_;refine JF [iV 1,zT,zI,zS,zS,zS,zI] rfl ?_;refine rx ?_;refine MP (c1:=[iV 1,zT,iV 1,zS,zS,zS,zI]) (c2:=[iV 1,zT,iV 1,zS,zS,zS,zI]) (c3:=[iV 1,zT,zI,zS,zS,zS,zI]) rfl rfl rfl rfl rfl rfl rfl (fun w1 q1 Py ef aj bh=>?_);refine rx ?_;refine JF [iV 6,zT,zI,zS,zS,.slice (some ⟨q1,0,none⟩) 3 3,zI] rfl ?_;have hE:∀{u:World},Fr [] w1 u->RD u [] (aU eI) [iV 6,zT,zI,zS,zS,.slice (some ⟨q1,0,none⟩) 3 3,zI]:=fun{u} hf=>by
  refine fW.2 ⟨_,_,_,rfl,DR.nil,DR.nil,?_⟩;refine DR.ofTyped (k:=7) (fun _=>Jq _) bU ⟨_,(ef.tr0 hf).src,fun ad n c e _ hm=>by simp at hm,?_⟩;have hB:∀n,RD u [] (aU (eB n)) [iV 1,zT,iV n,zS,zS,zS,zI]:=fun n=>fW.2 ⟨_,_,_,rfl,DR.nil,DR.nil,DR.nil⟩
  exact Rws.cons (cs:=[_,_,_,_,_,_,_]) (hB 1) (Rws.cons (cs:=[_,_,_,_,_,_,_]) (hB 1) (Rws.cons (cs:=[_,_,_,_,_,_,_]) (ys:=[]) (hB 0) .nil))
 refine rx ?_;refine Jm (l:=[zI,zT,zI,zS,zS,zS,zI]) rfl (fun w2 b2 dN h2 aq cz=>?_);refine rx ?_;refine Jd (cs:=[iV 6,zT,zI,zS,zS,.slice (some ⟨q1,0,none⟩) 3 3,zI]) rfl rfl h2 dQ rfl rfl (fun w3 h3 aF dO=>?_);have aV:Fr [] w1 w3:=aq.trans aF (fun x hx=>.inr bt);refine rx ?_;refine JF [.string (aA [99]),iV 6,zT,zI,zS,zS,.slice (some ⟨q1,0,none⟩) 3 3,zI] rfl ?_;refine rx ?_;refine JQ (c1:=[.string (aA [99]),iV 6,zT,zI,zS,zS,.slice (some ⟨q1,0,none⟩) 3 3,zI]) rfl rfl rfl (fun w4 q4 mL jA aI eA=>?_);refine rx ?_;refine JF [iV 3,.string (aA [112]),zI,zS,zS,zI,zT,zS,zI,zT,zI,zS,zS,zS,zI,zI,zI,zT,zS,zS,zS,zI,zS,.slice (some ⟨q4,0,none⟩) 1 1,zS,zS,zI,zT,zS,zI,zT,zI,zS,zS,zS,zI,zS,zS,zI,zT,zI,zS,zS,zS,zI] rfl ?_;refine rx ?_;refine JQ (c1:=[iV 3,.string (aA [112]),zI,zS,zS,zI,zT,zS,zI,zT,zI,zS,zS,zS,zI,zI,zI,zT,zS,zS,zS,zI,zS,.slice (some ⟨q4,0,none⟩) 1 1,zS,zS,zI,zT,zS,zI,zT,zI,zS,zS,zS,zI,zS,zS,zI,zT,zI,zS,zS,zS,zI]) rfl rfl rfl (fun w5 q5 pJ kt aO eV=>?_);have hD:∀{u:World},Fr [] w5 u->DR u [] (.l ([dP].map eR)) (.slice (some ⟨q5,0,none⟩) 1 1):=fun{u} hf=>by
  refine DR.ofTyped (k:=45) (fun _=>KL _) bU ⟨_,(kt.tr0 hf).src,fun ad n c e _ hm=>by simp at hm,?_⟩;refine Rws.cons (cs:=[iV 3,.string (aA [112]),zI,zS,zS,zI,zT,zS,zI,zT,zI,zS,zS,zS,zI,zI,zI,zT,zS,zS,zS,zI,zS,.slice (some ⟨q4,0,none⟩) 1 1,zS,zS,zI,zT,zS,zI,zT,zI,zS,zS,zS,zI,zS,zS,zI,zT,zI,zS,zS,zS,zI]) (ys:=[]) ?_ .nil;have iy:DR u [] (.l (dP.checks.map dM)) (.slice (some ⟨q4,0,none⟩) 1 1):=by
   refine DR.ofTyped (k:=8) (fun _=>QM _) bU ⟨_,((jA.tr0 aO).tr0 hf).src,fun ad n c e _ hm=>by simp at hm,?_⟩;exact Rws.cons (cs:=[_,_,_,_,_,_,_,_]) (ys:=[]) (RD.c1 rfl (hE (((aV.Jb aI).Jb aO).Jb hf))) .nil
  have hz:=fun{ra:List Dt} {vs:List Value} (x:Value) (hx:x.oneCell'=true) (h:RD u [] ra vs)=>RD.c1 hx h
  have hn:=fun{ra:List Dt} {vs:List Value} (h:RD u [] ra vs)=>RD.cons (DR.nil (w:=u) (S:=[])) h
  exact(hz (iV 3) rfl (hz (.string (aA [112])) rfl (hz (zI) rfl (hn (hn (hz (zI) rfl (hz (zT) rfl (hn (hz (zI) rfl (hz (zT) rfl (hz (zI) rfl (hn (hn (hn (hz (zI) rfl (hz (zI) rfl (hz (zI) rfl (hz (zT) rfl (hn (hn (hn (hz (zI) rfl (hn (RD.cons iy (hn (hn (hz (zI) rfl (hz (zT) rfl (hn (hz (zI) rfl (hz (zT) rfl (hz (zI) rfl (hn (hn (hn (hz (zI) rfl (hn (hn (hz (zI) rfl (hz (zT) rfl (hz (zI) rfl (hn (hn (hn (hz (zI) rfl .nil)))))))))))))))))))))))))))))))))))))))))))))
 refine rx ?_;refine JF [.slice (some ⟨q5,0,none⟩) 1 1] rfl ?_;refine rx ?_;refine Jm (l:=[zS]) rfl (fun w6 b6 kg h6 aJ fm=>?_);refine rx ?_;refine Jd (cs:=[.slice (some ⟨q5,0,none⟩) 1 1]) rfl rfl h6 dQ rfl rfl (fun w7 h7 aQ iF=>?_);have ed:Fr [] w5 w7:=aJ.trans aQ (fun x hx=>.inr bt);have hW7:Fr [] w w7:=(((aj.Jb aV).Jb aI).Jb aO).Jb ed;refine rx ?_;refine Jl (Jfx [dP] (aA [112]) (.slice (some ⟨q5,0,none⟩) 1 1) w7 [] szP bU (hD ed)) ?_;rintro va w8 ⟨hA,aM⟩;have h7:=h7.tr0 aM;rw[Jfw]at hA;refine rx ?_;refine aT (Rc [dP] (aA [112]) (.slice (some ⟨q5,0,none⟩) 1 1) w8 [] szP bU (hD (ed.Jb aM))) rfl ?_;rintro _ w9 ⟨aW,hn⟩;have jM:jz [dP] 3 (aA [112])=some dP:=by unfold jz;simp[dP]
 rw[jM,Jfw]at hn;obtain⟨p,M,R,rfl,hC,yA⟩:=hn;refine⟨_,rfl,?_⟩;have idh:=hA.1.lt;have hA:=hA.tr0 aW;obtain⟨qF,ca,RG⟩:=hA.1.slice;replace RG:va=.slice qF 2 ca:=RG;subst RG;replace hA:BO w7 50 w9 [bP 0,bP 1] (.slice qF 2 ca):=hA;have hMa:∀x∈ag (.slice qF 2 ca),x∉M:=fun x hx hm=>by
  have h1:=yA x (by simp[hm]);have h2:=idh x hx;omega
 have ifP:∀x∈ag (.slice qF 2 ca),x∉([]:List Nat):=by simp
 have eo:Src w9 (.slice qF 2 ca) 2 ([bP 0,bP 1].flatMap dH):=hA.1.src;obtain⟨zF⟩:Nonempty (2<=ca):=by obtain⟨_,_,e,h,_⟩:=eo;simp only[Value.slice.injEq]at e;obtain⟨_,_,rfl⟩:=e;exact⟨h⟩
 replace hC:Wj w9 p M R ⟨aA [112],1,0,[bP 0,bP 1]⟩ (J6 0 []):=hC;refine rx ?_;refine JR (Jam (l:=2) (c:=ca) (k:=1) (kk:=.i64) rfl rfl ab) ?_;refine rx ?_;refine JF [zI,zI,zI,.slice qF 1 ca,zS,zI] rfl ?_;have dr0:∀{u:World} {S:List Nat},Src u (.slice qF 2 ca) 2 ([bP 0,bP 1].flatMap dH)->(∀x∈ag (.slice qF 2 ca),x∉S)->DR u S (.l ([bP 0].map jl)) (.slice qF 1 ca):=fun{u S} h hS=>Jfc (l:=[bP 0]) (Src.to (k:=1) (size:=3) h bU) bU (fun x hx=>hS x (by cases qF<;>simpa[ag,Value.ownBlock]using hx))
 have dr1:∀{u:World} {S:List Nat},Src u (.slice qF 2 ca) 2 ([bP 0,bP 1].flatMap dH)->DR u [] (.l ([bP 1].map jl)) (.slice (if ca=1 then qF else qF.map (·.add (1*3))) 1 (ca-1)):=fun{u S} h=>Jfc (l:=[bP 1]) (Src.cut (j:=1) (k:=2) (size:=3) h rfl bU bU) bU ap
 refine rx ?_;refine aT (Jkr ⟨0,0,0,[bP 0],[]⟩ (.slice qF 1 ca) (zS) w9 (S:=M) hC (fun x hx=>hx) (dr0 eo hMa) DR.nil bU bU) rfl ?_;intro _ fy tw;rw[Cb (show Qd ⟨aA [112],1,0,[bP 0,bP 1]⟩ ⟨0,0,0,[bP 0],[]⟩=true from rfl)]at tw;obtain⟨rfl,hC,aD⟩:=tw;refine⟨_,rfl,?_⟩;have hFn:Fr [] w fy:=((hW7.Jb aM).Jb aW).trans aD (fun x hx=>.inr (by have:=yA x lA;have h1:=hW7.size;have h2:=aM.size;omega));have iz:bP 1≠bP 0:=by simp[bP]
 obtain⟨s1,RH⟩:=aP (Qb (J6 0 []) ⟨0,0,0,[bP 0],[]⟩);rw[<-RH]at hC;have po:s1.cnt (bP 0)=1:=by rw[RH];simp[Qb,J6,k8]
 have gI:s1.cnt (bP 1)=0:=by rw[RH];simp[Qb,J6,k8,iz]
 replace eo:=eo.tr aD (fun ad n c e _=>hMa ad.block (by cases e;simp[ag,Value.ownBlock]));refine rx ?_;refine Jl (Jig fy hC bU) ?_;rintro vm eT ⟨hB,aB⟩;have Ap:Ur ⟨aA [112],1,0,[bP 0,bP 1]⟩ s1=[bP 1]:=by unfold Ur;simp[po,gI]
 rw[Ap]at hB;have hC:=hC.tr0 aB;have eo:=eo.tr0 aB;obtain⟨aom,cm,RG⟩:=hB.1.slice;replace RG:vm=.slice aom 1 cm:=RG;subst RG;replace hB:BO fy 50 eT [bP 1] (.slice aom 1 cm):=hB;obtain⟨adm,idi,gO⟩:=JZ QN (l:=[bP 1]) (m:=1) (i:=0) hB.1.src bU bU;obtain⟨wo,RI,iaU⟩:=JZ QN (l:=[bP 0,bP 1]) (i:=1) eo bU bU;subst idi RI;have gO:Cells eT (adm.add (0*3)) [.string (aA [112]),zI,iV 1]:=gO;have iaU:Cells eT (wo.add (1*3)) [.string (aA [112]),zI,iV 1]:=iaU;refine rx ?_;refine JE (fun z=>Fr [] eT z) az rfl ?_;obtain⟨gl,mx⟩:=aP eT.drew;rw[<-mx];have hS:Fr [] eT gl:=mx▸Fr.drew _ _;refine Ae ?_;refine Kz 5 hS ?_ (aw:=by(intro u hu;exact(Qs (j:=0) rfl rfl rfl ab rfl)));refine JX 6 7 hS ?_;refine Kz 8 hS ?_ (aw:=by(intro u hu;exact(Qs (j:=1) rfl rfl rfl ab rfl)));refine bH 9 hS ?_;refine Kz 10 hS ?_ (aw:=by(intro u hu;exact(Zc (a:=bP 1) (b:=bP 1) rfl rfl (SN rfl))));refine Jj 11 12 13 14 hS ?_;refine Kz 15 hS ?_ (aw:=by(intro u hu;exact(Jam (k:=1) (kk:=.i64) rfl rfl ab)));refine Kz 16 hS ?_ (v:=.agg (([zI,zI,zI,.slice (some wo) 1 ca,zS,zI])).toArray) (aw:=by(intro u hu;exact QU (([zI,zI,zI,.slice (some wo) 1 ca,zS,zI])) fD));refine JJ (i:=17) rfl az ?_;refine rx ?_;refine Jg (Jdd ⟨0,0,0,[bP 0],[]⟩ (.slice (some wo) 1 ca) (zS) gl (S:=[]) (hC.tr0 hS) (dr0 (eo.tr0 hS) ap) DR.nil) ?_;rintro jv aL;have hS:=hS.Jb aL;refine ft ?_;have gY:(Qd ⟨aA [112],1,0,[bP 0,bP 1]⟩ ⟨0,0,0,[bP 0],[]⟩&&VB s1 ⟨0,0,0,[bP 0],[]⟩)=false:=by
  have:VB s1 ⟨0,0,0,[bP 0],[]⟩=false:=by unfold VB;simp[po,Jy]
  rw[this,Bool.and_false]
 have eN:(Qd ⟨aA [112],1,0,[bP 0,bP 1]⟩ ⟨0,0,0,[bP 1],[]⟩&&VB s1 ⟨0,0,0,[bP 1],[]⟩)=true:=by
  have:VB s1 ⟨0,0,0,[bP 1],[]⟩=true:=by unfold VB;simp[gI]
  rw[this,FY];rfl
 rw[gY];refine Jj 18 19 20 21 hS ?_;refine bH 22 hS ?_;refine Kz 23 hS ?_ (aw:=by(intro u hu;exact(JaO (j:=1) (kk:=.i64) rfl rfl ab ab)));refine Kz 24 hS ?_ (v:=.agg (([zI,zI,zI,.slice (if ca=1 then some wo else(some wo).map (·.add (1*3))) 1 (ca-1),zS,zI])).toArray) (aw:=by(intro u hu;exact QU (([zI,zI,zI,.slice (if ca=1 then some wo else(some wo).map (·.add (1*3))) 1 (ca-1),zS,zI])) fD));refine JJ (i:=25) rfl az ?_;refine rx ?_;refine Jg (Jdd ⟨0,0,0,[bP 1],[]⟩ (.slice (if ca=1 then some wo else(some wo).map (·.add (1*3))) 1 (ca-1)) (zS) jv (S:=[]) (hC.tr0 hS) (dr1 (S:=[]) (eo.tr0 hS)) DR.nil) ?_;rintro kJ aR;have hS:=hS.Jb aR;refine ft ?_;rw[eN];refine bH 26 hS ?_;refine Kw 27 hS ?_ (aw:=by(intro u hu;exact(JbP rfl)));refine gK ?_;refine bM ?_;exact⟨rfl,(hFn.Jb aB).Jb hS⟩
end Go.Proofs.YtggmccicdhnkgaaGreat
