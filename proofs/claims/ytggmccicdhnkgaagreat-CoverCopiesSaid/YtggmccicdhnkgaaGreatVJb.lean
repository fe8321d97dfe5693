/-
 Covers in memory:the package's and the reference's.
-/
import Derived.Test.YtggmccicdhnkgaaGreatVQy
import Derived.Test.YtggmccicdhnkgaaGreatVFi
import Derived.Test.YtggmccicdhnkgaaGreatVPv
import Derived.Test.YtggmccicdhnkgaaGreatVFgu2
import Derived.Test.YtggmccicdhnkgaaGreatVCq
set_option linter.all false
set_option maxHeartbeats 64000000
namespace Go.Rf
open Go.RowKit
theorem JjT{P:Program}{fn:Func}{R:Ending->World->Prop}{n:Nat}{f:Env}{w:World}{t ty m q tb u s:Nat}{cs:List Value}{x y:Value}[G:AggT P ty m](hr:fn.results=#[.cell t ty,.tmp u,.tmp s])(hv:ev n f (.tmp t)=.pointer (some ⟨q,0,none⟩))(hb:aG w q cs tb)(hl:cs.length=m)(hx:ev n f (.tmp u)=x)(hy:ev n f (.tmp s)=y)
 (h:R (.returned (.tuple #[.agg cs.toArray,x,y])) w):bodyPost P fn R .ret (A n f) w:=
 ⟨rfl,.tuple #[.agg cs.toArray,x,y],by
  have η:(loadVar ty ⟨q,0,none⟩).run P w=.ok (.agg cs.toArray) w:=AggT.load _ cs hl Yjn;have e:(A n f).tmps.getD t undef=.pointer (some ⟨q,0,none⟩):=by rw[Wl];exact hv
  have e2:(A n f).tmps.getD u undef=x:=by rw[Wl];exact hx
  have e3:(A n f).tmps.getD s undef=y:=by rw[Wl];exact hy
  rw[DU]at e e2 e3;simp[results,hr,e,e2,e3,asAddr,η],h⟩
theorem Jaw:∀(f:Nat) (a:Int) (r:Bs) (T:List Tk),V3 f a r=.ok T->T.length<=f
 |0,a,r,T,h=>by simp[V3]at h
 |f+1,a,r,T,h=>by
  simp only[V3]at h
  split at h
  .simp only[HY]at h;subst h;simp
  .split at h
   .cases h
   .split at h
    .cases h
    .split at h
     .rename_i l hl;simp only[HY]at h;subst h;have:=Jaw f _ _ _ hl;simp only[SI];omega
     .cases h
theorem Jgb{s:Bs}{T:List Tk}(h:BG s=.ok T):T.length<=1000000:=by
 unfold BG at h
 split at h
 .cases h
 .have:=Jaw _ _ _ _ h;omega
end Go.Rf
namespace Go.Proofs.YtggmccicdhnkgaaGreat
open Go.Proofs.Tryz
open Go.Rf Go.RowKit
attribute [local irreducible] Code.wp wpList Exit.then Exit.inBlock bodyPost A Calls execOp Addr.add
instance:RowZ prog 23 105 45 768 [zI,.string .empty,zI,zS,zS,zI,.string .empty,zS,zI,.string .empty,zI,zS,zS,zS,zI,zI,zI,.string .empty,zS,zS,zS,zI,zS,zS,zS,zS,zI,.string .empty,zS,zI,.string .empty,zI,zS,zS,zS,zI,zS,zS,zI,.string .empty,zI,zS,zS,zS,zI]:=⟨inferInstance,KT (v:=.agg #[zI,.string .empty,zI,zS,zS,zI,.string .empty,zS,zI,.string .empty,zI,zS,zS,zS,zI,zI,zI,.string .empty,zS,zS,zS,zI,zS,zS,zS,zS,zI,.string .empty,zS,zI,.string .empty,zI,zS,zS,zS,zI,zS,zS,zI,.string .empty,zI,zS,zS,zS,zI]) az rfl rfl⟩
theorem JkK(p:Nat)(n:Int)(w:World){bd:Nat}(h:PS bd w p n []):
 Calls prog 80 #[.pointer (some ⟨p,0,none⟩),.bool false] w fun e w'=>e=.returned (.tuple #[zI,zI])/\Fr [] w w':=by
 obtain⟨S,T,ao,c,i,hb,hs,ho,hr,hi,hn,hT,pr,jd,kZ⟩:=h;have aC:T.length<=i:=by
  have:=CZ List.length hr;simp at this;omega
 refine enter func80 rfl ntmps80 rfl ?_;refine Yfs ?_;have hS:Fr [] w w.drew:=Fr.drew _ _;refine Jj 0 1 2 3 hS ?_;refine Jj 4 5 6 7 hS ?_;refine Jj 8 9 10 11 hS ?_;refine Jj 12 13 14 15 hS ?_;refine j5 ?_;refine Ri ?_;exact⟨rfl,hS⟩
theorem JiT(S:Bs)(T:List Tk)(ds:List De)(hS:S.length<=8192)(hl:BG S=.ok T)(hm:∀f,100<f->Xc (S.length:Int) 200 f T=some ds)(bO:Pn ds=false)(hk:∀d∈ds,0<=d.kind/\d.kind<=5)(w:World):
 Calls prog 37 #[.string (aA S)] w fun e w'=>∃v,e=.returned (.tuple #[.agg ([v]:List Value).toArray,zI,zI])/\DR w' (rg w) (.l (ds.map eR)) v/\Fr [] w w':=by
 have hTl:=Jgb hl;have PE:=Jga hl;refine enter func37 rfl ntmps37 rfl ?_;refine rx ?_;refine Jm (l:=[zS]) rfl (fun w1 rr nz eW aj bh=>?_);refine rx ?_;refine aT (Jdq S w1 ab) rfl ?_;rintro _ w2 ⟨v,a,er,rfl,aq,hr⟩;refine⟨_,rfl,?_⟩;rw[hl]at hr;obtain⟨ho,oD,rfl,rfl⟩:=hr;obtain⟨ao,c,rfl⟩:=ho.slice;have eW:=eW.tr0 aq;have cz:=aq.size;refine rx ?_;refine JF [.string (aA S),.slice ao T.length c,zI,.bool false] rfl ?_;refine rx ?_;refine Ju rfl rfl (fun w3 p hp hbp aF dO=>?_);have eW:=eW.tr0 aF;refine rx ?_;refine Jm (l:=[zS]) rfl (fun w4 a ha aH aI eA=>?_);have eW:=eW.tr0 aI;have hbp:=hbp.tr0 aI;have nM:=ho.lt;have dY:PS w3.heap.size w4 p (S.length:Int) T:=⟨S,T,ao,c,0,hbp,((ho.src.tr0 aF).tr0 aI),fun ad n c' e _ hm=>by
  have h1:=nM ad.block zt;rw[Sv.1 hm]at h1;omega,by simp,by omega,rfl,⟨hTl,PE⟩,by omega,by omega,fun ad e=>by
  have h1:=nM ad.block zt;omega⟩
 have bq:Fr [] w w4:=((aj.Jb aq).Jb aF).Jb aI;have dx:=dY.le;have igs:p<w4.heap.size:=by omega
 refine rx ?_;refine Jh 11 [] (σ:=Nat×List De×List Tk) (fun s g u=>PS w3.heap.size u p (S.length:Int) s.2.2/\Fr [p,a] w4 u/\s.2.1.length+s.1<=1000001/\aG u rr [zS] 25/\(∃l',Xc (S.length:Int) 200 s.1 s.2.2=some l'/\s.2.1++l'=ds)/\∃v,aG u a [v] 25/\LS (rg w4) u 105 45 eR s.2.1 v) (fun s=>s.1) (1000001,[],T) ⟨dY,Fr.refl _ _,by simp,eW,⟨ds,hm _ ab,rfl⟩,_,aH,LS.nil⟩ ?_;clear dY eW aH hbp;rintro⟨f,acc,r⟩ g w5 ⟨du,bX,yU,eW,⟨l',bZ,fw⟩,v,aH,hL⟩;simp only at du bX yU bZ fw hL;obtain⟨gS,c2,rfl⟩:=hL.slice;cases f with
 |zero=>simp[Xc]at bZ
 |succ f=>
 have eV:=bX.size;obtain⟨S0,T0,xp,c0,i0,ln,mF,ho0,gY,lp,hn0,hT0,P1⟩:=id du;have igt:=hT0.1;cases r with
 |nil=>
  simp only[Xc,Sj]at bZ;subst bZ;have aC:T0.length<=i0:=by
   have:=CZ List.length gY;simp at this;omega
  refine rx ?_;refine Ymp ?_;have fP:Fr [] w5 w5.drew:=Fr.drew _ _;refine Jj 0 1 2 3 fP ?_;refine Jj 4 5 6 7 fP ?_;refine Jj 8 9 10 11 fP ?_;refine Jj 12 13 14 15 fP ?_;refine bH 16 fP ?_;refine gK ?_;obtain⟨w6,rf⟩:=aP w5.drew;rw[<-rf]at fP ⊢;have eE:=du.tr0 fP;have eW:=eW.tr0 fP;have aH:=aH.tr0 fP;have hL:=hL.tr0 fP;refine rx ?_;have hd6:=hL.dr KL ab;have rh:DR w6 (rg w4) (.l (ds.map eR)) (.slice gS acc.length c2):=by rw[<-fw,Ce];exact hd6
  refine aT (JhA ds bO hk w6 _ _ rh) rfl ?_;rintro _ w7 ⟨⟨b1,b2,b3,rfl⟩,aQ⟩;refine⟨_,rfl,?_⟩;refine rx ?_;refine KR (l:=[.bool false,.bool false,.bool false,.bool false]) (cs:=[.bool false,.bool b1,.bool b2,.bool b3]) rfl rfl rfl dQ rfl (fun v=>rfl) (fun w8 fb hqf hbf aM fL=>?_);refine rx ?_;have fc:=(eE.tr0 aQ).tr0 aM;have eW:=(eW.tr0 aQ).tr0 aM;have aH:=(aH.tr0 aQ).tr0 aM;have hd8:=(rh.tr0 aQ).tr0 aM;refine Jg (JkK p _ w8 fc) ?_;rintro w9 aW;have eW:=eW.tr0 aW;have aH:=aH.tr0 aW;have PN:=hd8.tr0 aW;refine rx ?_;refine Jd (cs:=[.slice gS acc.length c2]) rfl rfl eW dQ rfl rfl (fun fy YX aD eF=>?_);refine rx ?_;have nn:rr∈rg w4:=Jk.2 ab;refine JjT rfl rfl YX rfl rfl rfl ⟨_,rfl,(PN.old aD (Je nn)).down ab,?_⟩;have eL:Fr [p,a] w4 w9:=(((bX.Jb fP).Jb aQ).Jb aM).Jb aW;exact((bq.trans eL (fun x hx=>.inr (by simp at hx;omega))).trans aD (fun x hx=>.inr (by simp at hx;omega)))
 |cons t r=>
 have aC:i0<T0.length:=by
  rcases DF i0 T0.length with h|h
  .exact h
  .rw [Ci h]at gY;cases gY
 simp only[Xc]at bZ;obtain⟨⟨d,r1⟩,g1,bZ⟩:=bind_some bZ;obtain⟨l2,g2,bZ⟩:=bind_some bZ;simp only[Sj]at bZ;subst bZ;refine rx ?_;refine Ymp ?_;have fP:Fr [] w5 w5.drew:=Fr.drew _ _;refine Jj 0 1 2 3 fP ?_;refine Jj 4 5 6 7 fP ?_;refine Jj 8 9 10 11 fP ?_;refine Jj 12 13 14 15 fP ?_;refine bH 16 fP ?_;refine gK ?_;obtain⟨w6,rf⟩:=aP w5.drew;rw[<-rf]at fP ⊢;have eE:=du.tr0 fP;have bR:=bX.Jb fP;have eW:=eW.tr0 fP;have aH:=aH.tr0 fP;have hL:=hL.tr0 fP;have fm:=fP.size;refine rx ?_
 ((refine Kr 7 (fun z=>True/\aG z a [.slice gS acc.length c2] 25) az rfl ?_);obtain⟨w7,uJ⟩:=aP w6.drew;rw[<-uJ];have aQ:Fr [] w6 w7:=uJ▸Fr.drew _ _;have fa:=eE.tr0 aQ;have ed:=bR.Jb aQ;have iF:=aQ.size)
 have eW:=eW.tr0 aQ;have aH:=aH.tr0 aQ;have hL:=hL.keep aQ ap;have ha4:a∈rg w4:=Jk.2 ab;have hp4:p∈rg w4:=Jk.2 ab
 ((refine Jp 0 (And.intro trivial aH) ?_);(refine Jp 1 (And.intro trivial aH) ?_);(refine Jp 2 (And.intro trivial aH) ?_))
 refine y7 ?_;have jB:=hL.lt;refine Jl (Ji3 200 ab _ p _ _ w7 d r1 fa g1) ?_;rintro cs w8 ⟨hd,fc,aM⟩;have dS:=ed.trans aM (fun x hx=>.inl wJ);have fL:=aM.size;have hl:cs.length=45:=by rw[hd.len,KL]
 have eW:=eW.tr aM aZ;have aH:=aH.tr aM aZ;have hL:=hL.keep aM (Je hp4);refine YJ ?_;refine JQ rfl hl rfl (fun w9 k5 ml ho9 aW ju=>?_);have fx:=fc.tr0 aW;have eL:=dS.Jb aW;have eW:=eW.tr0 aW;have aH:=aH.tr0 aW;have hL:=hL.keep aW ap;have hd:=hd.tr0 aW;refine AQ ?_;refine V7 hL KL rfl rfl ho9.src hd (fun b hb=>.inl (Jk.2 (hb.elim (jB b) (fun h=>by have:=Jk.1 h;omega)))) dt ab Yjy (fun v' fy eP aD igu=>?_);have hJ:=LS.ge hL (w0:=w4) (fun b hb=>Jk.2 hb);have bI:=fx.tr aD (fun k hk=>CG dx (hJ k hk));have bk:=eL.trans aD (fun k hk=>.inr (hJ k hk));have eW:=eW.tr aD (fun h=>by have:=hJ _ h;omega);have aH:=aH.tr aD (fun h=>by have:=hJ _ h;omega);have jI:=eP.1.one;refine tH ?_
 ((refine Jp 6 (And.intro trivial aH) ?_))
 refine xd ?_
 ((with_reducible apply Ji);exact rfl;(conv=>lhs;whnf);exact jI;exact aH;exact rfl)
 intro eT aH aB eQ;replace aH:aG eT a [v'] 25:=aH;have bL:=bI.tr aB aZ;have bK:=bk.trans aB (fun x hx=>.inl wJ);have eW:=eW.tr aB aZ;have hL:=eP.keep aB (Je ha4);refine kE ?_;refine rx ?_;refine Jc (f,acc++[d],r1) a6 ?_ ?_
 .refine ⟨bL,bK,?_,eW,⟨l2,g2,?_⟩,_,aH,hL⟩
  .simp only[Sm,SI,SY]<;>omega
  .simpa using fw
 .simp only;omega
def kinds:List Int:=[0,0,1,1,1,1,1,2,2,2,2,2,3,3,3,3,3,4,5,4,5]
def MD(ds:List De):Prop:=ds.map De.kind=kinds/\(∀d∈ds,AW d)/\∃n f t,(0<=n/\n<=8192)/\TkK t/\Xc n 200 f t=some ds
theorem Jhp(x:Value)(l:List Int)(w:World)(hx:Src w x l.length (l.map (.int .i64)))(hl:∀n∈l,VE n):
 Calls prog 9 #[x] w fun e w'=>∃ds v,e=.returned (.agg ([v]:List Value).toArray)/\DR w' (rg w) (.l (ds.map eR)) v/\Fr [] w w'/\MD ds:=by
 refine enter func9 rfl ntmps9 rfl ?_;refine rx ?_;refine Jm (l:=[zS]) rfl (fun w1 rr nz eW aj bh=>?_);refine rx ?_;refine Jl (program x l w1 (hx.tr0 aj) hl) ?_;rintro S w2 ⟨hP,aq⟩;have eW:=eW.tr0 aq;obtain⟨lU,T,ds,h1,h2,h3,h4,h5,h6⟩:=hP.JjW bU ab (S.length:Int);have hk:∀d∈ds,0<=d.kind/\d.kind<=5:=fun d hd=>by
  have h:=Fg (f:=De.kind) hd;rw[h2]at h;simp only[SC,S9,CU]at h;omega
 refine rx ?_;refine Jl (JiT S T ds ab h1 (fun f hf=>h5 f (Nat.lt_trans bU hf)) h4 hk w2) ?_;rintro v w3 ⟨hd,aF⟩;have eW:=eW.tr0 aF;have cz:=aq.size;have dO:=aF.size;obtain⟨ao,c,rfl,_⟩:=hd.slice;refine rx ?_;refine KR (l:=[zS]) (cs:=[.slice ao (ds.map eR).length c]) rfl rfl rfl dQ rfl (fun v=>rfl) (fun w4 m hm jw aI eA=>?_);have eW:=eW.tr0 aI;have hd:=hd.tr0 aI;refine rx ?_;refine Jd (cs:=[.slice ao (ds.map eR).length c]) rfl rfl eW dQ rfl rfl (fun w5 YX aO eV=>?_);refine rx ?_;refine Qc rfl rfl YX rfl ⟨ds,_,rfl,(hd.old aO (Jf ab)).down ab,?_,h2,h3,(S.length:Int),40,T,⟨by omega,by omega⟩,h6,h5 40 bU⟩;exact((((aj.Jb aq).Jb aF).Jb aI).trans aO (fun x hx=>.inr bt))
end Go.Proofs.YtggmccicdhnkgaaGreat
namespace Go.Rf
open Go.RowKit
variable{c:ByteArray}{l:List ByteArray}
theorem Ls{a:ByteArray}:Vu c (a::l)=(decide (a=c)||Vu c l):=rfl
theorem JeJ:getM (l.map (fun x=>(x,true))) c=if Vu c l=true then some true else none:=by
 induction l with
 |nil=>rfl
 |cons a l ih=>
  simp only[DL,getM,ih,Ls];by_cases h:c=a
  .subst h;simp
  .have:decide (a=c)=false:=by simp;exact fun e=>h e.symm
   have hm:Vu c (a::l)=Vu c l:=by rw[Ls,this];rfl
   simp only[Ls]at hm;rw[SH h];simp only[hm]
theorem Jey(h:Vu c l=false):VJ (l.map (fun x=>(x,true))) c true=(l++[c]).map (fun x=>(x,true)):=by
 rw[Gm]
 .simp
 .simp only[Io,Du,Function.comp];rintro⟨x,hx,rfl⟩;have:=Jf3.2 hx;rw[h]at this;cases this
end Go.Rf
namespace Go.Proofs.YtggmccicdhnkgaaGreat
open Go.Proofs.Tryz
open Go.Rf Go.RowKit
variable{c:ByteArray}{l:List ByteArray}{q:List De}{S:List Nat}{u u' w:World}
attribute [local irreducible] Code.wp wpList Exit.then Exit.inBlock bodyPost A Calls execOp Addr.add
instance:MapT prog 107 9 4:=⟨underlying107⟩
def QW(S:List Nat)(u:World)(q:List De)(v:Value):Prop:=∃xs,XC u 105 45 v q.length xs/\Rws (fun d cs=>RD u (S++ag v) (eR d) cs) q xs
theorem QW.tr{T:List Nat}{v:Value}(h:QW S u q v)(hf:Fr T u u')(hT:∀x∈T,x∈S\/u.heap.size<=x)(hv:∀x∈ag v,x∉T):QW S u' q v:=by
 obtain⟨xs,h1,h2⟩:=h;exact⟨xs,h1.tr hf hv,h2.imp (fun d cs _ hr=>RD.old hr hf (fun b hb=>(hT b hb).imp (SA _) id))⟩
theorem QW.tr0{v:Value}(h:QW S u q v)(hf:Fr [] u u'):QW S u' q v:=h.tr hf ap ap
def LW(l:List ByteArray):List (ByteArray×Bool):=l.map (fun x=>(x,true))
theorem JfB{n:Nat}{f:Env}{d:Nat}{ty:TypeId}{ps:String}{af:Array Edge}{gd:Option (Nat×Bool)}{x y:Operand}{mb:Nat}{b:Bool}(hx:ev n f x=.map (some mb))(hy:ev n f y=.string c)(hm:Mp Value.string Value.bool w mb (LW l))(hb:Vu c l=b):
 (execOp (ev n f) ⟨some d,.lookup 107 x y false,ty,ps,af,gd⟩).run prog w=.ok (.value (.bool b)) w:=by
 have:=Jc3 (P:=prog) (t:=107) (d:=d) (ty:=ty) (ps:=ps) (af:=af) (gd:=gd) (ok:=false) (key:=Value.string) (val:=Value.bool) (a:=c) hx hy hm;rw[LW,JeJ,hb]at this;cases b<;>exact this
theorem fdX{w':World}{r:Option De}{e:Ending}(h:FdR w r e w'):∃(cs:List Value) (b:Bool),e=.returned (.tuple #[.agg cs.toArray,.bool b])/\cs.length=45/\(∀c∈cs,c.oneCell'=true)/\Fr [] w w'/\((r=none/\b=false)\/∃d,r=some d/\b=true/\RD w' (rg w) (eR d) cs):=by
 exact Ybq
def RcI(ds:List De)(mb ql tq:Nat)(w0:World)(S T:List Nat)(Z:List Nat)(s:List ByteArray×List De)(u:World):Prop:=
 Mp Value.string Value.bool u mb (LW s.1)/\(∃v,aG u ql [v] tq/\QW S u s.2 v/\(∀x∈ag v,x∈T\/w0.heap.size<=x)/\(∀x∈ag v,x∉Z)/\mb∉ag v/\ql∉ag v)/\mb∉Z/\ql∉Z/\(∀x∈Z,x<u.heap.size)/\mu ds s<=1000
theorem Jg9(ds:List De)(h6:∀d∈ds,d.cmds.length<=1000000)(mb ql tq tm ttm bm tbm:Nat)(S T:List Nat)(w0:World)(vM:Value)(zA:∀x∈T,x∈S)(uU:∀x∈S,x<w0.heap.size)(hmT:mb∈T)(hqT:ql∈T)(φ:mb≠ql)(qv:aG w0 tm [.map (some mb)] ttm)(ib1:tm∉T)(jw:aG w0 bm [vM] tbm)(χ:bm∉T)(hdM:DR w0 S (.l (ds.map eR)) vM):
 SeeC 45 [.pointer (some ⟨tm,0,none⟩),.pointer (some ⟨bm,0,none⟩),.pointer (some ⟨ql,0,none⟩)] (RcI ds mb ql tq w0 S T) (fun _ _=>True) (Xy ds) T S w0 where
 sub:=zA
 lt:=fun x hx=>uU x (zA x hx)
 more:=fun Z Z' s u u' ⟨h1,⟨v,h2,h3,h4,h5,h5',ib2⟩,h7,h8,h9,ez⟩ hf hZ=>by
  have fA:=hf.size;have aC:∀x,x<u.heap.size->x∉Z->x∉Z':=fun x hx hn hm=>by
   rcases hZ x hm with h|h
   .exact hn h
   .omega
  obtain⟨xs,hw,hr⟩:=h3;refine⟨h1.tr0 hf,⟨v,h2.tr0 hf,QW.tr0 ⟨xs,hw,hr⟩ hf,h4,fun x hx=>aC x (hw.lt x hx) (h5 x hx),h5',ib2⟩,aC _ h1.lt h7,aC _ h2.lt h8,fun x hx=>?_,ez⟩;rcases hZ x hx with h|h
  .have:=h9 x h;omega
  .exact h.2
 fn:=inferInstance
 call:=by
  rintro Z s e u a cs ⟨hM,⟨v,gJ,hQ,hvT,tX,ψ,uV⟩,hmZ,Tw,qP,kA⟩ _ eG hd hc Y3;have haT:a.block∉T:=fun h=>Y3 (zA _ h)
  obtain⟨s1,s2,s3,rfl,ee,cu,hk⟩:=fW.1 hd;have hc:Cells w0 a [iV e.kind,.string e.name,iV e.n,s1,s2,s3,iV e.at_]:=hc;have mB:=hc.tr eG haT;have htu:=qv.tr eG ib1;have yg:=jw.tr eG χ;have jX:=eG.size;refine enter func45 rfl ntmps45 rfl ?_;refine zB ?_;obtain⟨u1,eu⟩:=aP u.drew;rw[<-eu];have hS:Fr [] u u1:=eu▸Fr.drew _ _;have keep:∀u',Fr [] u u'->RcI ds mb ql tq w0 S T Z s u'/\FZ Z u u'/\Fr T w0 u':=fun u' hf=>⟨⟨hM.tr0 hf,⟨v,gJ.tr0 hf,hQ.tr0 hf,hvT,tX,ψ,uV⟩,hmZ,Tw,fun x hx=>by have:=qP x hx;have:=hf.size;omega,kA⟩,.of0 hf,eG.Jb hf⟩
  by_cases h3:e.kind=3
  case neg=>
   refine Jj 0 1 2 3 hS ?_;refine Jj 4 5 6 7 hS ?_;refine Jj 8 9 10 11 hS ?_;refine bH 12 hS ?_;refine j5 ?_;have he:Xy ds s e=s:=by unfold Xy;rw[SH h3]
   rw[he];exact JjV rfl ⟨rfl,keep _ hS⟩
  refine Jj 0 1 2 3 hS ?_;refine Jj 4 5 6 7 hS ?_;refine JX 8 9 hS ?_;refine bH 10 hS ?_;cases mD:Vu e.name s.1 with
  |true=>
   refine Kz 11 hS ?_ (aw:=by(intro u hu;exact(JfB rfl rfl (hM.tr0 hu) mD)));refine bH 12 hS ?_;refine j5 ?_;have he:Xy ds s e=s:=by unfold Xy sZ;rw[Cb h3,Cb mD]
   rw[he];exact JjV rfl ⟨rfl,keep _ hS⟩
  |false=>
  refine Kz 11 hS ?_ (aw:=by(intro u hu;exact(JfB rfl rfl (hM.tr0 hu) mD)));refine bH 12 hS ?_;refine gK ?_;have htu:=htu.tr0 hS;have mB:=mB.tr0 hS;have yg:=yg.tr0 hS;refine rx ?_;refine Kr 5 (fun z=>Fr [] u1 z) az rfl ?_;obtain⟨u2,qO⟩:=aP u1.drew;rw[<-qO];have fq:Fr [] u1 u2:=qO▸Fr.drew _ _;have nK:=hS.Jb fq
  ((refine Jp 0 fq ?_);(refine Jp 1 fq ?_);(refine Jp 2 fq ?_);(refine Jp 3 fq ?_);(refine Jp 4 fq ?_))
  refine zn ?_;refine BX (key:=Value.string) (val:=Value.bool) (a:=e.name) (v:=true) (hM.tr0 nK) rfl rfl rfl (fun u3 hM3 aF dO=>?_);refine kE ?_;have hM3:Mp Value.string Value.bool u3 mb (LW (s.1++[e.name])):=by
   have:=hM3;unfold LW at this;rw[Jey mD]at this;exact this
  have ib3:aG u3 ql [v] tq:=(gJ.tr0 nK).tr aF (by simpa using fun h=>φ h.symm);have hQ3:QW S u3 s.2 v:=(hQ.tr0 nK).tr aF (fun x hx=>.inl (by rw[Sv.1 hx];exact zA _ hmT)) (fun x hx hm=>ψ qw);have aV:Fr T w0 u3:=(eG.Jb nK).trans aF (fun x hx=>.inl (by rw[Sv.1 hx];exact hmT));have hZ3:FZ Z u u3:=(FZ.of0 nK).trans ⟨_,aF,fun x hx=>by rw[Sv.1 hx];exact hmZ⟩;have ife:=aF.size;have ieA:=nK.size;have pM:∀x∈ag v,x<u.heap.size:=by obtain⟨xs,hw,_⟩:=hQ;exact hw.lt
  have ib4:=hM.lt;have TB:=gJ.lt;have pN:mu ds (Xy ds s e)<=1000:=CG (JdR ds s e) kA;have ieB:s.2.length<=1000:=by unfold mu at kA;omega
  clear htu mB yg;have mB:=hc.tr aV haT;have yg:=jw.tr aV χ;have kB:DR u3 S (.l (ds.map eR)) vM:=hdM.old aV (fun b hb=>.inl (zA b hb));refine rx ?_;refine JE (fun z=>Fr [] u3 z) az rfl ?_;obtain⟨u4,uR⟩:=aP u3.drew;rw[<-uR];have j6:Fr [] u3 u4:=uR▸Fr.drew _ _;have ifg:=j6.size;have pO:=kB.tr0 j6;refine Jj 0 1 2 3 j6 ?_;refine bH 4 j6 ?_;refine Xt (i:=5) (j:=9) rfl rfl az ?_ ?_
  .refine aT (NW ds 1 e.name vM u4 S h6 pO) rfl ?_;rintro en u5 jM;obtain⟨s4,b5,rfl,zC,jo,aO,fS⟩:=fdX jM;refine⟨_,rfl,?_⟩;have fP:=j6.Jb aO;refine wpList_nil (Jv fP ?_);refine JX 6 7 fP ?_;refine bH 8 fP ?_;refine TC ?_;refine Jm (l:=[zI,zT,zI,zS,zS,zI,zT,zS,zI,zT,zI,zS,zS,zS,zI,zI,zI,zT,zS,zS,zS,zI,zS,zS,zS,zS,zI,zT,zS,zI,zT,zI,zS,zS,zS,zI,zS,zS,zI,zT,zI,zS,zS,zS,zI]) rfl (fun u6 q nJ yh aJ fm=>?_);have ot:=fP.Jb aJ;refine wpList_nil (Jv ot ?_);refine uW ?_;refine Jd (cs:=s4) rfl rfl yh jo rfl zC (fun u7 TE aQ iF=>?_);have eV:=aO.size;have pf:Fr [] u3 u7:=ot.trans aQ (fun x hx=>.inr bt);refine wpList_nil (Jv pf ?_);refine JJ (i:=11) rfl az ?_;refine rx ?_;refine Jv pf ?_;refine gK ?_;have fS:(jz ds 1 e.name=none/\b5=false)\/∃d,jz ds 1 e.name=some d/\b5=true/\RD u7 (rg u3) (eR d) s4:=fS.imp id (fun⟨d,h1,h2,h3⟩=>⟨d,h1,h2,(((h3.mono (KU (a:=q) ab)).tr0 aJ).old aQ (fun b hb=>.inl ω)).mono (fun b hb=>.inl (CY _ (Jk.2 (by have:=Jk.1 hb;omega))))⟩);exact Yj
  .refine Jm (l:=[zI,zT,zI,zS,zS,zI,zT,zS,zI,zT,zI,zS,zS,zS,zI,zI,zI,zT,zS,zS,zS,zI,zS,zS,zS,zS,zI,zT,zS,zI,zT,zI,zS,zS,zS,zI,zS,zS,zI,zT,zI,zS,zS,zS,zI]) rfl (fun u5 q nJ pJ aO eV=>?_);have fP:=j6.Jb aO;refine wpList_nil (Jv fP ?_);refine zD ?_;refine aT (NW ds 1 e.name vM u5 S h6 (pO.tr0 aO)) rfl ?_;rintro en u6 jM;obtain⟨s4,b5,rfl,zC,jo,aJ,fS⟩:=fdX jM;refine⟨_,rfl,?_⟩;have ot:=fP.Jb aJ;have yh:=pJ.tr0 aJ;refine wpList_nil (Jv ot ?_);refine JX 6 7 ot ?_;refine bH 8 ot ?_;refine uW ?_;refine Jd (cs:=s4) rfl rfl yh jo rfl zC (fun u7 TE aQ iF=>?_);have fm:=aJ.size;have pf:Fr [] u3 u7:=ot.trans aQ (fun x hx=>.inr bt);refine wpList_nil (Jv pf ?_);refine JJ (i:=11) rfl az ?_;refine rx ?_;refine Jv pf ?_;refine gK ?_;have fS:(jz ds 1 e.name=none/\b5=false)\/∃d,jz ds 1 e.name=some d/\b5=true/\RD u7 (rg u3) (eR d) s4:=fS.imp id (fun⟨d,h1,h2,h3⟩=>⟨d,h1,h2,(h3.old aQ (Jf ab)).down ab⟩);exact Yj
end Go.Proofs.YtggmccicdhnkgaaGreat
namespace Go.Rf
open Go.RowKit
theorem VI(ds:List De):∀(n n':Nat) (s:List ByteArray×List De),mu ds s<=n->mu ds s<=n'->KD ds n s=KD ds n' s
 |0,0,s,_,_=>rfl
 |0,n'+1,(seen,q),h,_=>by
  have:q=[]:=by unfold mu at h;exact Dj (by simp only at h;omega)
  subst this;rfl
 |n+1,0,(seen,q),_,h=>by
  have:q=[]:=by unfold mu at h;exact Dj (by simp only at h;omega)
  subst this;rfl
 |n+1,n'+1,(seen,[]),_,_=>rfl
 |n+1,n'+1,(seen,d::q),h,h'=>by
  have hm:=Ja3 ds (Js (Jw d)) (seen,q);have hp:mu ds (seen,d::q)=mu ds (seen,q)+1:=by simp only[mu,SI];omega
  simp only[KD];rw[VI ds n n' _ ab ab]
structure SzD (d:De):Prop where
 parts:(Jw d).length<=100000
 brs:(mf d).length<=11000
 dep:∀e∈Jw d,jc e<=1000
 cmds:d.cmds.length<=1000000
 calls:(KY (Js (Jw d))).length<=10000
theorem JdV(ds:List De)(seen:List ByteArray):Y7 ds seen<=ds.length:=D5 ..
theorem NI{ds:List De}{nm:ByteArray}{i:Nat}(hi:i<ds.length):QF (ds.drop i) nm=if ds[i].name=nm/\ds[i].kind≠0/\ds[i].kind≠2 then some ds[i] else QF (ds.drop (i+1)) nm:=by
 unfold QF;rw[Dh hi,Ho];by_cases h:ds[i].name=nm/\ds[i].kind≠0/\ds[i].kind≠2<;>simp[h]
theorem JgA{w:World}{a:Addr}{l l':List Value}(h:Cells w a l)(h':Cells w a l')(hl:l.length=l'.length):l=l':=by
 apply Ew hl;intro i h1 h2;have e1:=h i l[i] (Dc h1);have e2:=h' i l'[i] (Dc h2);rw[e1]at e2;exact Dl e2
theorem Jfo{α:Type}{R:α->List Value->Prop}{x:α}{l:List α}{ys:List Value}(h:Rws R (x::l) ys):∃cs zL,ys=cs++zL/\R x cs/\Rws R l zL:=by
 cases h with
 |cons h1 h2=>exact⟨_,_,rfl,h1,h2⟩
theorem Zb(ds:List De)(n:Nat)(seen:List ByteArray):KD ds n (seen,[])=[]:=by cases n<;>rfl
def Jk4(w:World)(ds:List De)(nm:ByteArray)(e:Ending)(w':World):Prop:=Fr [] w w'/\((e=.returned (iV (-1))/\QF ds nm=none)\/∃i,∃h:i<ds.length,e=.returned (iV (i:Int))/\QF ds nm=some ds[i])
end Go.Rf
namespace Go.Proofs.YtggmccicdhnkgaaGreat
open Go.Proofs.Tryz
open Go.Rf Go.RowKit
attribute [local irreducible] Code.wp wpList Exit.then Exit.inBlock bodyPost A Calls execOp Addr.add
theorem JbI{σ:Type}{step:σ->Ex->σ}:∀{l:List Ex} {s:σ},oC (fun _ _=>True) step s l
 |[],s=>trivial
 |e::l,s=>⟨trivial,JbI⟩
theorem JiJ(d:De)(nm:ByteArray)(bn tbn:Nat)(cs:List Value)(w:World)(S:List Nat)(gM:aG w bn [.string nm] tbn)(hd:RD w S (eR d) cs):
 Calls prog 41 #[.agg cs.toArray,.pointer (some ⟨bn,0,none⟩)] w fun e w'=>e=.returned (.bool (decide (d.name=nm/\d.kind≠0/\d.kind≠2)))/\Fr [] w w':=by
 obtain⟨_,rfl,r1⟩:=RD.JI (x:=iV d.kind) hd;obtain⟨_,rfl,r2⟩:=RD.JI (x:=.string d.name) r1;obtain⟨_,rfl,r3⟩:=RD.JI (x:=iV d.at_) r2;obtain⟨ct,iO,_,rfl,ni,r4⟩:=RD.lst (rows:=d.ctors.map iP) r3;obtain⟨pm,iG,_,rfl,tS,r5⟩:=RD.lst (rows:=d.params.map eK) r4;obtain⟨xN,_,rfl,nR,ee,r6⟩:=RD.ty (t:=d.type) r5;obtain⟨ty,ix,rfl,_⟩:=ee.slice;obtain⟨gV,dy,dz,gW,dA,dC,gX,dD,dE,_,rfl,qt,r7⟩:=RD.ex (e:=d.body) r6;obtain⟨_,rfl,r8⟩:=RD.JI (x:=iV d.depth) r7;obtain⟨gA,cY,cZ,gB,c8,c9,gC,da,de,_,rfl,hJ,r9⟩:=RD.gn (g:=d.gen) r8;obtain⟨dw,gv,_,rfl,uI,kx⟩:=RD.lst (rows:=d.draws.map fj) r9;obtain⟨ck,fX,_,rfl,iy,ky⟩:=RD.lst (rows:=d.checks.map dM) kx;obtain⟨cs,fR,_,rfl,fG,kz⟩:=RD.lst (rows:=d.classes.map dM) ky;obtain⟨cl,fY,_,rfl,fg,km⟩:=RD.lst (rows:=d.claims.map iw) kz;obtain⟨xO,_,rfl,lP,cu,kF⟩:=RD.ty (t:=d.state) km;obtain⟨st,ig,rfl,_⟩:=cu.slice;obtain⟨gD,df,dh,gE,dj,dl,gF,dm,dn,_,rfl,dq,kG⟩:=RD.ex (e:=d.init) kF;obtain⟨cm,fM,_,rfl,gO,kH⟩:=RD.lst (rows:=d.cmds.map gf) kG;obtain⟨op,fH,_,rfl,lh,nT⟩:=RD.lst (rows:=d.ops.map fV) kH;obtain⟨gw,cJ,cK,gx,cL,cM,gy,cO,cQ,_,rfl,nF,kI⟩:=RD.ex (e:=d.recov) (ds:=[]) xe;obtain rfl:=kI.inv0;clear r1 r2 r3 r4 r5 r6 r7 r8 r9 kx ky kz km kF kG kH nT kI ee cu;refine enter func41 rfl ntmps41 rfl ?_;refine rx ?_;refine Ju (l:=[iV d.kind,.string d.name,iV d.at_,.slice ct (d.ctors.map iP).length iO,.slice pm (d.params.map eK).length iG,iV d.type.kind,.string d.type.name,.slice ty (d.type.kids.map cg).length ix,iV d.body.kind,.string d.body.name,iV d.body.n,.slice gV dy dz,.slice gW dA dC,.slice gX dD dE,iV d.body.at_,iV d.depth,iV d.gen.kind,.string d.gen.name,.slice gA cY cZ,.slice gB c8 c9,.slice gC da de,iV d.gen.at_,.slice dw (d.draws.map fj).length gv,.slice ck (d.checks.map dM).length fX,.slice cs (d.classes.map dM).length fR,.slice cl (d.claims.map iw).length fY,iV d.state.kind,.string d.state.name,.slice st (d.state.kids.map cg).length ig,iV d.init.kind,.string d.init.name,iV d.init.n,.slice gD df dh,.slice gE dj dl,.slice gF dm dn,iV d.init.at_,.slice cm (d.cmds.map gf).length fM,.slice op (d.ops.map fV).length fH,iV d.recov.kind,.string d.recov.name,iV d.recov.n,.slice gw cJ cK,.slice gx cL cM,.slice gy cO cQ,iV d.recov.at_]) rfl rfl (fun w1 b nQ hb aj bh=>?_);have gM:=gM.tr0 aj;by_cases e1:d.name=nm
 case neg=>
  refine bM ?_;exact⟨by simp[e1],aj⟩
 by_cases e2:d.kind=0
 .refine rx ?_;refine gZ ?_;exact⟨by simp[e2],aj⟩
 by_cases e3:d.kind=2
 .refine rx ?_;refine gZ ?_;exact⟨by simp[e3],aj⟩
 refine bM ?_;exact⟨by simp[e1,e2,e3],aj⟩
theorem JkR(ds:List De)(nm:ByteArray)(bn tbn:Nat)(v:Value)(w:World)(S:List Nat)(gM:aG w bn [.string nm] tbn)(hd:DR w S (.l (ds.map eR)) v)(hl:ds.length<=1000000):
 Calls prog 40 #[v,.func (.func 41) #[] #[.pointer (some ⟨bn,0,none⟩)]] w (Jk4 w ds nm):=by
 have lq:(ds.map eR).length=ds.length:=Sr ..;obtain⟨ao,c,rfl,_⟩:=hd.slice;rw[lq]at hd ⊢;refine enter func40 rfl ntmps40 rfl ?_;refine rx ?_;refine Jh 5 [] (σ:=Nat) (fun i g u=>g 7=iV ds.length/\g 8=iV i/\i<=ds.length/\QF (ds.drop i) nm=QF ds nm/\Fr [] w u) (fun i=>ds.length-i) 0 ⟨rfl,rfl,SL _,rfl,Fr.refl _ _⟩ ?_;rintro i g u ⟨g7,g8,hi,he,hF⟩;rw[Ja g7,Ja g8];by_cases aC:i<ds.length
 case neg=>
  refine bM ?_;refine⟨hF,.inl ⟨rfl,?_⟩⟩;rw[<-he,Ci ab];rfl
 obtain⟨ad,cs,bi,hr,hc⟩:=DR.at KL (hd.tr0 hF) aC;subst bi;have hlen:cs.length=45:=by rw[hr.len,KL]
 rw[NI aC]at he;refine Ξ ?_;refine ZF (first:=[]) (cap:=[.pointer (some ⟨bn,0,none⟩)]) (JiJ ds[i] nm bn tbn cs u S (gM.tr0 hF) hr) rfl rfl rfl ?_;rintro _ u1 ⟨rfl,aj⟩;refine⟨_,rfl,?_⟩;by_cases hk:ds[i].name=nm/\ds[i].kind≠0/\ds[i].kind≠2
 .rw [SN hk];rw[Cb hk]at he;refine bM ?_;exact⟨hF.Jb aj,.inr ⟨i,aC,rfl,he.symm⟩⟩
 .rw [SG hk];rw[SH hk]at he;refine rx ?_;exact Jc (i+1) a6 ⟨rfl,rfl,aC,he,hF.Jb aj⟩ ab
def Jk3(ds:List De)(w:World)(bm tbm tm ttm mb ql tq:Nat)(vM:Value)(tot:List Br)(s:(List ByteArray×List De)×List Br×Value)(u:World):Prop:=
 Fr [] w u/\aG u bm [vM] tbm/\aG u tm [.map (some mb)] ttm/\Mp Value.string Value.bool u mb (LW s.1.1)/\
 (∃v,aG u ql [v] tq/\QW ([mb,ql]++ag s.2.2) u s.1.2 v/\(∀x∈ag v,w.heap.size<=x/\x≠mb/\x≠ql/\x≠bm/\x≠tm/\x∉ag s.2.2))/\
 BO w 50 u s.2.1 s.2.2/\(∀x∈ag s.2.2,x≠mb/\x≠ql/\x≠bm/\x≠tm)/\(∀d∈s.1.2,d∈ds)/\s.2.1++KD ds (mu ds s.1) s.1=tot/\mu ds s.1<=ds.length+1/\s.2.1.length+mu ds s.1*11000<=(ds.length+1)*11000
theorem Jfx(ds:List De)(nm:ByteArray)(v0:Value)(w:World)(S0:List Nat)(fA:∀d∈ds,SzD d)(hl:ds.length<=50)(hd:DR w S0 (.l (ds.map eR)) v0):
 Calls prog 11 #[.agg ([v0]:List Value).toArray,.string nm] w fun e w'=>∃v,e=.returned v/\BO w 50 w' (JM eO (KX ds nm)) v/\Fr [] w w':=by
 have dx:=hd.bound;have lq:(ds.map eR).length=ds.length:=Sr ..;obtain⟨ao,c,jL,_⟩:=hd.slice;rw[lq]at jL;refine enter func11 rfl ntmps11 rfl ?_;refine rx ?_;refine Ju (l:=[v0]) rfl rfl (fun w1 bm ib7 jw aj bh=>?_);refine rx ?_;refine Ju (l:=[.string nm]) rfl rfl (fun w2 bn ifh gM aq cz=>?_);have jw:=jw.tr0 aq;have aS:=aj.Jb aq;refine rx ?_;refine XM (a:=[]) (b:=[.pointer (some ⟨bn,0,none⟩)]) rfl rfl ?_;refine rx ?_;refine aT (JkR ds nm bn _ v0 w2 S0 gM (hd.tr0 aS) ab) rfl ?_;rintro _ w3 ⟨aF,fS⟩;have aV:=aS.Jb aF;have jw:=jw.tr0 aF;have dO:=aF.size;rcases fS with⟨rfl,hn⟩|⟨i,hi,rfl,hn⟩
 .refine ⟨_,rfl,?_⟩;refine bM ?_;refine⟨_,rfl,?_,aV⟩;unfold KX;rw[hn];exact BO.nil
 refine⟨_,rfl,?_⟩;refine rx ?_;refine Kt (key:=Value.string) (val:=Value.bool) (fun w4 iU aI eA=>?_);obtain⟨mb,jN⟩:=aP w3.heap.size;rw[<-jN]at iU ⊢;refine rx ?_;refine Jm (l:=[.map none]) rfl (fun w5 tm ifi qv aO eV=>?_);have iU:=iU.tr0 aO;refine rx ?_
 ((with_reducible apply Ji);exact rfl;(conv=>lhs;whnf);exact rfl;exact qv;exact rfl)
 intro w6 qv aJ fm;replace qv:aG w6 tm [.map (some mb)] _:=qv;have iU:=iU.tr aJ aZ;have jw:=((jw.tr0 aI).tr0 aO).tr aJ aZ;have bR:Fr [] w w6:=((aV.Jb aI).Jb aO).trans aJ (fun x hx=>.inr bt);have hd6:=hd.tr0 bR;obtain⟨ad,cs,bi,hr,hc⟩:=DR.at KL (jL▸hd6) hi;subst bi;have hlen:cs.length=45:=by rw[hr.len,KL]
 subst jL;refine Ξ ?_;refine JQ (c1:=cs) rfl hlen rfl (fun w7 qq gz ho aQ iF=>?_);have jw:=jw.tr0 aQ;have qv:=qv.tr0 aQ;have iU:=iU.tr0 aQ;refine rx ?_;refine Jm (l:=[zS]) rfl (fun w8 ql ifj pn aM fL=>?_);have jw:=jw.tr0 aM;have qv:=qv.tr0 aM;have iU:=iU.tr0 aM;have ho:=ho.tr0 aM;refine rx ?_
 ((with_reducible apply Ji);exact rfl;(conv=>lhs;whnf);exact rfl;exact pn;exact rfl)
 intro w9 pn aW ju;replace pn:aG w9 ql [.slice (some ⟨qq,0,none⟩) 1 1] _:=pn;have eL:Fr [] w w9:=((bR.Jb aQ).Jb aM).trans aW (fun x hx=>.inr bt);have hr9:RD w9 ([mb,ql]++ag (.slice (some ⟨qq,0,none⟩) 1 1)) (eR ds[i]) cs:=by
  have h1:=DR.at KL hd hi;have h2:=(hd.mono (T:=[mb,ql]++ag (.slice (some ⟨qq,0,none⟩) 1 1)) (fun b hb=>by
   right;simp[ag,Value.ownBlock]at hb;omega))
  obtain⟨lC,bS,e1,h3,h4⟩:=DR.at KL (h2.tr0 bR) hi;cases e1
  have e2:bS=cs:=JgA h4 hc (by rw[h3.len,hr.len]);rw[e2]at h3;exact((h3.tr0 aQ).tr0 aM).old aW (fun b hb=>.inl ω)
 have hQ9:QW ([mb,ql]++ag (zS)) w9 [ds[i]] (.slice (some ⟨qq,0,none⟩) 1 1):=⟨cs,(XC.Jie ho ap).tr aW Φ,Rws.one hr9⟩;have TJ:mu ds ([],[ds[i]])<=ds.length+1:=by have:=JdV ds [];simp only[mu,Dx];omega
 have jZ:[]++KD ds (mu ds ([],[ds[i]])) ([],[ds[i]])=KX ds nm:=by
  unfold KX;rw[hn];exact VI ds _ _ _ (SX _) ab
 have yl:Mp Value.string Value.bool w9 mb (LW []):=iU.tr aW aZ;have Ψ:=jw.tr aW aZ;have Ω:=qv.tr aW aZ;refine rx ?_;refine Jh 9 [6] (σ:=(List ByteArray×List De)×List Br×Value) (fun s g u=>g 6=s.2.2/\Jk3 ds w bm _ tm _ mb ql _ _ (KX ds nm) s u) (fun s=>mu ds s.1) (([],[ds[i]]),[],zS) ⟨rfl,eL,Ψ,Ω,yl,⟨_,pn,hQ9,fun x hx=>?_⟩,BO.nil,by simp[ag,Value.ownBlock],by simp,jZ,TJ,by simp only[SY];omega⟩ ?_
 .simp [ag,Value.ownBlock]at hx;simp[ag,Value.ownBlock];omega
 have ib8:w.heap.size<=mb/\w.heap.size<=ql/\w.heap.size<=bm/\w.heap.size<=tm/\ql≠bm/\ql≠tm:=by omega
 clear eL Ψ Ω yl hQ9 hr9 pn ho jw qv iU aj aq aF aI aO aJ aQ aM aW hr hc gM hd6 jZ aS aV bR;rintro⟨⟨seen,q⟩,acc,va⟩ g u ⟨g6,hF,jw,qv,iU,⟨v,pn,hQ,hv⟩,hB,TK,hq,jZ,kA,qS⟩;simp only at g6 iU hQ hB TK hq jZ kA qS hv;rw[Ja g6];have zM:=hQ;obtain⟨xs,hw,lO⟩:=hQ;cases q with
 |nil=>
  obtain⟨_,g0,o0,cap,eS,rfl,_⟩:=hw;simp only[mu,Zb,Ce]at jZ;replace pn:aG u ql [.slice (some ⟨g0,o0,none⟩) 0 cap] _:=pn;refine rx ?_;refine Jl (JjN acc va u (hB.dr ab) ab) ?_;rintro v1 u1 ⟨mG,aj⟩;refine bM ?_;rw[jZ]at mG;exact⟨v1,rfl,⟨mG.1,fun x hx=>by have:=mG.2 x hx;have:=hF.size;omega⟩,hF.Jb aj⟩
 |cons d q=>
  obtain⟨cs,xs',rfl,hr,ib9⟩:=Jfo lO;simp only[SI]at hw;have hlen:cs.length=45:=by rw[hr.len,KL]
  have j0:=fA d (hq d ap);have hw0:=hw;obtain⟨_,g0,o0,cap,eS,rfl,_,kY,gO,_⟩:=hw0;have qT:mu ds (seen,d::q)=mu ds (seen,q)+1:=by simp only[mu,SI];omega
  have zr:Cells u ((⟨g0,o0,none⟩:Addr).add (0*45)) cs:=fun j x hx=>by
   have:=hw.cells j x (by rw[Ej (Df.1 hx).1];exact hx);rw[add_lit,add_lit];rw[add_lit]at this;rw[D8,En];exact this
  have hgu:g0<u.heap.size:=hw.lt g0 oz;have hgv:=hv g0 oz;have cI:=hF.size;have ib4:=iU.lt;have TB:=pn.lt;have φ:mb≠ql:=iU.ne pn;have ica:mb≠bm:=iU.ne jw;have icb:mb≠tm:=iU.ne qv;have pM:∀x∈ag va,x<u.heap.size:=hB.1.lt;refine rx ?_;refine Wq (j:=0) rfl rfl rfl ab rfl ?_;refine Vz rfl zr hlen ?_;refine rx ?_;refine Jm (l:=[zI,zT,zI,zS,zS,zI,zT,zS,zI,zT,zI,zS,zS,zS,zI,zI,zI,zT,zS,zS,zS,zI,zS,zS,zS,zS,zI,zT,zS,zI,zT,zI,zS,zS,zS,zI,zS,zS,zI,zT,zI,zS,zS,zS,zI]) rfl (fun u1 bd ifk icc aj bh=>?_);refine rx ?_;refine Jd (cs:=cs) rfl rfl icc (RD.one hr) rfl hlen (fun u2 ι aq cz=>?_);have aS:Fr [] u u2:=aj.trans aq (fun x hx=>.inr bt);have icd:=pn.tr0 aS;refine rx ?_;refine JiF (hw.tr0 aS) hlen rfl rfl (fun v' hw2 mD=>?_);have h1v:v'.oneCell'=true:=by obtain⟨_,_,_,_,_,rfl,_⟩:=hw2;rfl
  refine rx ?_
  ((with_reducible apply Ji);exact rfl;(conv=>lhs;whnf);exact h1v;exact icd;exact rfl)
  intro u3 TL aF dO;replace TL:aG u3 ql [v'] _:=TL;have iB:∀x∈ag v',x∉[ql]:=fun x hx hm=>by rw[mD]at hx;have:=hv x hx;rw[Sv.1 hm]at this;exact this.2.2.1 rfl
  have xL:=hw2.tr aF iB;have iaa:=ι.tr aF aZ;have aV:Fr [ql] u u3:=(aS.mono ap).trans aF (fun x hx=>.inl hx);obtain⟨im,iq,ib,it,iqb,iqt⟩:=ib8;have mj:∀x∈ag v',x<u.heap.size/\w.heap.size<=x/\x≠mb/\x≠ql/\x≠bm/\x≠tm/\x∉ag va:=fun x hx=>by
   rw[mD]at hx;exact⟨hw.lt x hx,hv x hx⟩
  have ia:=aV.size;have oE:∀x∈([mb,ql]++ag va)++ag v',x<u3.heap.size:=fun x hx=>by
   simp only[SE,SC,S9,CU]at hx;rcases hx with((rfl|rfl)|hx)|hx
   .omega
   .omega
   .have:=pM x hx;omega
   .have:=(mj x hx).1;omega
  have iA:RD u3 (([mb,ql]++ag va)++ag v') (eR d) cs:=by rw[mD];exact hr.old aV (fun b hb=>.inl ω)
  refine rx ?_;refine KE rfl iaa hlen ?_;refine rx ?_;refine Jl (ofC d (by have:=j0.parts;omega) (by have:=j0.brs;omega) j0.dep cs u3 _ oE iA) ?_;rintro vo u4 ⟨qU,aI⟩;have bq:Fr [ql] u u4:=aV.Jb aI;have ice:∀x∈ag va,x∉[ql]:=fun x hx hm=>(TK x hx).2.1 (Sv.1 hm)
  have eA:=bq.size;have icf:=j0.brs;refine rx ?_;refine JC (hB.1.tr bq ice) rfl qU.1.src rfl (XL _) (Jbn _) dt ab (fun ym u5 hoa aO ml _=>?_);have bX:Fr ([ql]++ag va) u u5:=(bq.mono ap).trans aO (fun x hx=>.inl lA);have eV:=aO.size;have qV:∀x∈ag ym,w.heap.size<=x/\x≠mb/\x≠ql/\x≠bm/\x≠tm/\x∉ag v':=fun x hx=>by
   have ieF:=jw.lt;have ieG:=qv.lt;rcases ml x hx with h|h
   .have h1:=TK x h;have h2:=hB.2 x h;exact⟨h2,h1.1,h1.2.1,h1.2.2.1,h1.2.2.2,fun hm=>(mj x hm).2.2.2.2.2.2 h⟩
   .refine ⟨by omega,by omega,by omega,by omega,by omega,fun hm=>by have:=(mj x hm).1;omega⟩
  have oF:∀x∈ag ym,x<u5.heap.size:=hoa.lt;obtain⟨S6,ot⟩:=aP (([mb,ql]++ag ym)++ag v');obtain⟨T6,hT6⟩:=aP ([mb,ql]++ag v');have uY:∀{x:Nat},x∈T6->x=mb\/x=ql\/x∈ag v':=fun{x} hx=>by
   rw[hT6]at hx;simpa[or_assoc]using hx
  have zA:∀x∈T6,x∈S6:=fun x hx=>by
   rw[ot];rcases uY hx with rfl|rfl|h
   .simp
   .simp
   .simp [h]
  have uU:∀x∈S6,x<u5.heap.size:=fun x hx=>by
   rw[ot]at hx;simp only[SE,SC,S9,CU]at hx;rcases hx with((rfl|rfl)|hx)|hx
   .omega
   .omega
   .exact oF x hx
   .have:=(mj x hx).1;omega
  have hold:∀{dd:De} {cc:List Value},RD u (([mb,ql]++ag va)++ag (Value.slice (some ⟨g0,o0,none⟩) (q.length+1) cap)) (eR dd) cc->RD u5 S6 (eR dd) cc:=fun{dd cc} hh=>by
   have h1:=hh.old (T:=[ql]++ag va) bX (fun b hb=>.inl (by
    rcases SE.1 hb with h|h
    .rw [Sv.1 h];simp
    .simp [h]))
   have h2:=hh.mono (T:=(([mb,ql]++ag va)++ag ym)++ag v') (fun b hb=>by
    simp only[SE]at hb;rcases hb with((h|h)|h)|h
    .exact .inl (SA _ (SA _ h))
    .exact .inl xn
    .rcases ml b h with h|h
     .exact .inl xn
     .exact .inr ab
    .rw [mD]at h;exact .inl xn)
   have h3:=h2.old (T:=[ql]++ag va) bX (fun b hb=>.inl (by
    rcases SE.1 hb with h|h
    .rw [Sv.1 h];simp
    .simp [h]))
   exact h3.mono (fun b hb=>.inl (by rw[ot]at hb;rw[SE,SE]at hb;rcases hb with(h|h)|h;exact SA _ (SA _ (SA _ h));exact SA _ (CJ _ h);exact CJ _ h))
  have nt:=hold hr;have TM:Rws (fun d cs=>RD u5 S6 (eR d) cs) q xs':=ib9.imp (fun dd cc _ h=>hold h);have ieH:bd≠ql:=by omega
  have icg:=(iaa.tr0 aI).tr aO (fun hm=>by have:=pM bd hm;omega);have ich:=(TL.tr0 aI).tr aO (fun hm=>(TK ql hm).2.1 rfl);have zo:=(xL.tr0 aI).tr aO (fun x hx hm=>(mj x hx).2.2.2.2.2.2 hm);have s7:Mp Value.string Value.bool u5 mb (LW seen):=iU.tr bX (fun hm=>by
   rcases SE.1 hm with h|h
   .exact φ (Sv.1 h)
   .exact (TK mb h).1 rfl)
  have uZ:=jw.tr bX (fun hm=>by
   rcases SE.1 hm with h|h
   .exact iqb (Sv.1 h).symm
   .exact (TK bm h).2.2.1 rfl)
  have TN:=qv.tr bX (fun hm=>by
   rcases SE.1 hm with h|h
   .exact iqt (Sv.1 h).symm
   .exact (TK tm h).2.2.2 rfl)
  have ici:Fr [] w u5:=hF.trans bX (fun x hx=>.inr (by
   rcases SE.1 hx with h|h
   .rw [Sv.1 h];exact iq
   .exact hB.2 x h))
  refine rx ?_;refine KE rfl icg hlen ?_;refine rx ?_;refine aT (JfL d (by have:=j0.parts;omega) cs u5 S6 nt) rfl ?_;rintro _ u6 ⟨w61,vp,iab,rfl,uT,iac⟩;refine⟨_,rfl,?_⟩;have ifl:=iab.size;have aJ:=iab.Jb iac;have fm:=aJ.size;have pj:=j0.parts;have yb:=uT.dr Jq ab iac ap (fun x hx=>by have:=uU x hx;omega);refine rx ?_;refine XM (a:=[]) (b:=[.pointer (some ⟨tm,0,none⟩),.pointer (some ⟨bm,0,none⟩),.pointer (some ⟨ql,0,none⟩)]) rfl rfl ?_;refine rx ?_;have bR:=ici.Jb aJ;have hdM:DR u6 S6 (.l (ds.map eR)) _:=(hd.mono (T:=S6) (fun x hx=>.inr (by
   rw[ot]at hx;simp only[SE,SC,S9,CU]at hx;rcases hx with((rfl|rfl)|hx)|hx
   .exact im
   .exact iq
   .exact (qV x hx).1
   .exact (mj x hx).2.1))).tr0 bR
  have yh:∀x∈q,x∈ds:=fun x hx=>hq x lA
  have H:=Jg9 ds (fun d hd=>(fA d hd).cmds) mb ql 23 tm _ bm _ S6 T6 u6 _ zA (fun x hx=>by have:=uU x hx;omega) (by rw[hT6];simp) (by rw[hT6];simp) φ (TN.tr0 aJ) Yjg (uZ.tr0 aJ) Yjh hdM;have hI:RcI ds mb ql 23 u6 S6 T6 [] (seen,q) u6:=by
   refine⟨s7.tr0 aJ,⟨v',ich.tr0 aJ,⟨xs',zo.tr0 aJ,TM.imp (fun dd cc _ h=>(h.tr0 aJ).mono (fun b hb=>.inl (by rcases SE.1 hb with h|h;exact h;rw[ot];simp[h])))⟩,fun x hx=>.inl (by rw[hT6];simp[hx]),by simp,fun hm=>(mj mb hm).2.2.1 rfl,fun hm=>(mj ql hm).2.2.2.1 rfl⟩,by simp,by simp,by simp,by omega⟩
  refine Jg (JeZ H (Jw d) j0.dep vp u6 (Fr.refl _ _) [] ap (seen,q) JbI hI yb) ?_;rintro u7 ⟨⟨Z',_,⟨vd,⟨v7,icj,TO,ick,_,icl,icm⟩,_,_,_,_⟩⟩,_,aQ⟩;obtain⟨s',se⟩:=aP ((Js (Jw d)).foldl (Xy ds) (seen,q));rw[<-se]at vd TO;have TP:mu ds s'<=mu ds (seen,q):=se▸Ja3 ds _ _;have bZ:KD ds (mu ds (seen,d::q)) (seen,d::q)=mf d++KD ds (mu ds s') s':=by
   rw[qT,KD,<-se,VI ds _ (mu ds s') s' TP (SX _)]
  have ifm:=uZ.lt;have html:=TN.lt;have hT7:∀x∈T6,w.heap.size<=x:=fun x hx=>by
   rcases uY hx with rfl|rfl|h
   .exact im
   .exact iq
   .exact (mj x h).2.1
  have iad:∀x∈ag ym,x∉T6:=fun x hx hm=>by
   have h1:=qV x hx;rcases uY hm with h|h|h
   .exact h1.2.1 h
   .exact h1.2.2.1 h
   .exact h1.2.2.2.2.2 h
  have hv7:∀x∈ag v7,w.heap.size<=x/\x≠mb/\x≠ql/\x≠bm/\x≠tm/\x∉ag ym:=fun x hx=>by
   have e1:x≠mb:=fun e=>icl (e▸hx)
   have e2:x≠ql:=fun e=>icm (e▸hx)
   rcases ick x hx with h|h
   .refine ⟨hT7 x h,e1,e2,?_,?_,fun hm=>iad x hm h⟩
    .rcases uY h with h|h|h
     .exact absurd h e1
     .exact absurd h e2
     .exact (mj x h).2.2.2.2.1
    .rcases uY h with h|h|h
     .exact absurd h e1
     .exact absurd h e2
     .exact (mj x h).2.2.2.2.2.1
   .exact ⟨by omega,e1,e2,by omega,by omega,fun hm=>by have:=oF x hm;omega⟩
  refine rx ?_;have hB7:BO w 50 u7 (acc++mf d) ym:=⟨by rw[Sm,List.flatMap_append];exact(hoa.tr0 aJ).tr aQ iad,fun x hx=>(qV x hx).1⟩;have icn:QW ([mb,ql]++ag ym) u7 s'.2 v7:=by
   obtain⟨ys,h1,h2⟩:=TO;refine⟨ys,h1,h2.imp (fun dd cc _ h=>h.mono (fun b hb=>.inl (by rw[ot];rw[SE,SE]at hb;rcases hb with(h|h)|h;exact SA _ (SA _ (SA _ h));exact SA _ (SA _ (CJ _ h));exact CJ _ h)))⟩
  refine Jc (s',acc++mf d,ym) a6 ?_ ?_
  .refine ⟨rfl,bR.trans aQ (fun x hx=>.inr (hT7 x hx)),(uZ.tr0 aJ).tr aQ Yjh,(TN.tr0 aJ).tr aQ Yjg,vd,⟨v7,icj,icn,hv7⟩,hB7,fun x hx=>⟨(qV x hx).2.1,(qV x hx).2.2.1,(qV x hx).2.2.2.1,(qV x hx).2.2.2.2.1⟩,?_,?_,?_,?_⟩
   .rw [se];exact WO yh
   .rw [List.append_assoc];show acc++(mf d++KD ds (mu ds s') s')=_;rw[<-bZ];exact jZ
   .show mu ds s'<=_;omega
   .show (acc++mf d).length+mu ds s'*11000<=_;rw[Sm];omega
  .show mu ds s'<mu ds (seen,d::q);omega
end Go.Proofs.YtggmccicdhnkgaaGreat
namespace Go.Rf
open Go.RowKit
variable{M R S T l:List Nat}{i n p:Nat}{P:Pp}{s:St}{α β:Type}{u u':World}
def Vk(l:List Nat):List Value:=l.map (fun n=>Value.int .i64 (n:Nat))
theorem JeE(l:List Nat):(Vk l).length=l.length:=by simp[Vk]
theorem WX(l:List Nat):∀u∈Vk l,u.oneCell'=true:=fun u hu=>by
 obtain⟨n,_,rfl⟩:=Du.1 hu;rfl
theorem V9(h:i<l.length):(Vk l)[i]?=some (iV (l[i]:Nat)):=by
 unfold Vk;rw[ET,Dc h];rfl
theorem JeD:(Vk l).set i (iV (n:Nat))=Vk (l.set i n):=by
 unfold Vk;rw[List.map_set]
def fE(m:List (Br×Int))(cnt:Br->Nat):Prop:=∀b,getM m b=if cnt b=0 then none else some (cnt b:Int)
def BJ(m:List (Pr×Bool))(ps:Pr->Prop):Prop:=∀p,(ps p->getM m p=some true)/\(¬ps p->getM m p=none)
theorem fE.nil:fE [] (fun _=>0):=fun b=>rfl
theorem BJ.nil:BJ [] (fun _=>False):=fun p=>⟨fun h=>h.elim,fun _=>rfl⟩
theorem fE.keys{m:List (Br×Int)}{cnt:Br->Nat}(h:fE m cnt){b:Br}:b∈m.map Prod.fst↔cnt b≠0:=by
 have:=h b;by_cases h0:cnt b=0
 .rw [Cb h0]at this;have:=getM_none.1 this;simp only[h0,ne_eq,Ob,iff_false];exact this
 .rw [SH h0]at this;simp only[ne_eq,h0,not_false_eq_true,iff_true];apply DZ;intro hn;rw[getM_none.2 hn]at this;cases this
theorem BJ.keys{m:List (Pr×Bool)}{ps:Pr->Prop}(h:BJ m ps){p:Pr}:p∈m.map Prod.fst↔ps p:=by
 constructor
 .intro hm;apply DZ;intro hn;exact getM_none.1 ((h p).2 hn) hm
 .intro hp;apply DZ;intro hn;have:=(h p).1 hp;rw[getM_none.2 hn]at this;cases this
theorem fE.look{m:List (Br×Int)}{cnt:Br->Nat}(h:fE m cnt)(b:Br):(getM m b).getD 0=(cnt b:Int):=by
 rw[h b]
 split
 .next h0=>rw[h0];rfl
 .rfl
theorem fE.put{m:List (Br×Int)}{cnt:Br->Nat}(h:fE m cnt){b:Br}(hn:n≠0):fE (VJ m b (n:Int)) (fun x=>if x=b then n else cnt x):=fun x=>by
 rw[GK];by_cases e:x=b
 .simp [e,hn]
 .simp only[SH e];exact h x
theorem BJ.put{m:List (Pr×Bool)}{ps:Pr->Prop}(h:BJ m ps){b:Pr}:BJ (VJ m b true) (fun x=>x=b\/ps x):=fun x=>by
 rw[GK];by_cases e:x=b
 .simp [e]
 .simp only[SH e,e,false_or];exact h x
theorem fE.congr{m:List (Br×Int)}{cnt Rt:Br->Nat}(h:fE m cnt)(e:∀b,cnt b=Rt b):fE m Rt:=by
 obtain rfl:cnt=Rt:=funext e;exact h
theorem BJ.congr{m:List (Pr×Bool)}{ps ps':Pr->Prop}(h:BJ m ps)(e:∀b,ps b↔ps' b):BJ m ps':=by
 obtain rfl:ps=ps':=funext (fun b=>propext (e b));exact h
theorem GI{lt:α->α->Bool}[DecidableEq α](T:Tot lt){m:List (α×β)}{l:List α}(hn:(m.map Prod.fst).Nodup)(hl:gR lt l)(h:∀a,a∈m.map Prod.fst↔a∈l):m.length=l.length:=by
 have hp:(m.map Prod.fst).Perm l:=(List.perm_ext_iff_of_nodup hn (gR.nd T hl)).2 h;have:=hp.length_eq;rw[Sr]at this;exact this
theorem Uw{lt:α->α->Bool}[DecidableEq α](T:Tot lt){m:List (α×β)}{l:List α}(hl:gR lt l)(h:∀a,a∈m.map Prod.fst↔a∈l):JM lt (m.map Prod.fst)=l:=BP T hl (fun y=>(h y).symm)
def vU(r:Rn):List Dt:=[.c (iV r.kind),.c (iV r.at_),.c (iV r.code),.l (r.bs.map jl),.l (r.cl.map KI)]
theorem Gi(r:Rn):(vU r).length=5:=rfl
def Wj(u:World)(p:Nat)(M R:List Nat)(P:Pp)(s:St):Prop:=
 ∃bb pb vr vc mb mp,M=[p,bb,pb]++ag vc/\R=ag vr/\(M++R).Nodup/\
  aG u p [.string P.prop,iV (P.checks:Nat),vr,iV (s.runs:Nat),iV (s.o 0:Nat),iV (s.o 1:Nat),iV (s.o 2:Nat),vc,.map (some bb),.map (some pb)] 125/\
  bx u 50 3 vr P.reach.length (P.reach.flatMap dH)/\bx u 3 1 vc s.cls.length (Vk s.cls)/\
  Mp gg (Value.int .i64) u bb mb/\fE mb s.cnt/\Mp iC Value.bool u pb mp/\BJ mp (· ∈s.ps)/\StOk P s
theorem Wj.tr(h:Wj u p M R P s)(hf:Fr T u u')(hT:∀x∈M++R,x∉T):Wj u' p M R P s:=by
 obtain⟨bb,pb,vr,vc,mb,mp,rfl,rfl,iJ,hb,hr,hc,jN,lS,iU,rm,eU⟩:=h;exact⟨bb,pb,vr,vc,mb,mp,rfl,rfl,iJ,hb.tr hf (hT p ap),hr.tr hf (fun k hk=>hT k yB),hc.tr hf (fun k hk=>hT k yB),jN.tr hf (hT bb ap),lS,iU.tr hf (hT pb ap),rm,eU⟩
theorem Wj.tr0(h:Wj u p M R P s)(hf:Fr [] u u'):Wj u' p M R P s:=h.tr hf ap
theorem Wj.lt(h:Wj u p M R P s):∀x∈M++R,x<u.heap.size:=by
 obtain⟨bb,pb,vr,vc,mb,mp,rfl,rfl,iJ,hb,hr,hc,jN,lS,iU,rm,eU⟩:=h;intro x hx;simp only[SE,SC,S9,CU]at hx;rcases hx with((rfl|rfl|rfl)|hx)|hx
 .exact hb.lt
 .exact jN.lt
 .exact iU.lt
 .exact hc.lt x hx
 .exact hr.lt x hx
def rp(u:World)(p:Nat)(P:Pp)(rs:List Rn):Prop:=
 ∃vr vs,aG u p [.string P.prop,iV (P.checks:Nat),iV (P.ncls:Nat),vr,vs] 120/\DR u [] (.l (P.reach.map jl)) vr/\DR u [] (.l (rs.map vU)) vs
theorem rp.tr0{rs:List Rn}(h:rp u p P rs)(hf:Fr [] u u'):rp u' p P rs:=by
 obtain⟨vr,vs,h1,h2,h3⟩:=h;exact⟨vr,vs,h1.tr0 hf,h2.tr0 hf,h3.tr0 hf⟩
def jP(u:World)(p:Nat)(M R S:List Nat)(P:Pp)(rs:List Rn):Prop:=
 ∃vr vs xs,M=[p]++ag vs/\R=ag vr/\(M++R).Nodup/\(∀x∈M,x∈S)/\
  aG u p [.string P.prop,iV (P.checks:Nat),iV (P.ncls:Nat),vr,vs] 120/\
  bx u 50 3 vr P.reach.length (P.reach.flatMap dH)/\
  bx u 41 5 vs rs.length xs/\Rws (fun r cs=>RD u S (vU r) cs) rs xs
theorem jP.tr{rs:List Rn}(h:jP u p M R S P rs)(hf:Fr T u u')(hT:∀x∈M++R,x∉T)(hS:∀x∈T,x∈S\/u.heap.size<=x):jP u' p M R S P rs:=by
 obtain⟨vr,vs,xs,rfl,rfl,iJ,pX,hb,hr,hs,hw⟩:=h;exact⟨vr,vs,xs,rfl,rfl,iJ,pX,hb.tr hf (hT p ap),hr.tr hf (fun k hk=>hT k yB),hs.tr hf (fun k hk=>hT k yB),hw.imp (fun r cs _ h=>h.old hf hS)⟩
theorem jP.tr0{rs:List Rn}(h:jP u p M R S P rs)(hf:Fr [] u u'):jP u' p M R S P rs:=h.tr hf ap ap
theorem jP.mono{S':List Nat}{rs:List Rn}(h:jP u p M R S P rs)(hM:∀x∈M,x∈S')(hS:∀x∈S',x∈S\/u.heap.size<=x):jP u p M R S' P rs:=by
 obtain⟨vr,vs,xs,rfl,rfl,iJ,pX,hb,hr,hs,hw⟩:=h;exact⟨vr,vs,xs,rfl,rfl,iJ,hM,hb,hr,hs,hw.imp (fun r cs _ h=>h.mono hS)⟩
theorem jP.lt{rs:List Rn}(h:jP u p M R S P rs):∀x∈M++R,x<u.heap.size:=by
 obtain⟨vr,vs,xs,rfl,rfl,iJ,pX,hb,hr,hs,hw⟩:=h;intro x hx;simp only[SE,SC,S9,CU]at hx;rcases hx with(rfl|hx)|hx
 .exact hb.lt
 .exact hs.lt x hx
 .exact hr.lt x hx
theorem jP.v{rs:List Rn}(h:jP u p M R S P rs)(h1:P.reach.length<=1000000000000)(h2:rs.length<=1000000000000):rp u p P rs:=by
 obtain⟨vr,vs,xs,rfl,rfl,iJ,pX,hb,hr,hs,hw⟩:=h;refine⟨vr,vs,hb,JfS hr h1,DR.ofTyped (k:=5) (fun _=>rfl) h2 ⟨xs,hs.src,fun ad n c e _ hm=>by simp at hm,hw.imp (fun r cs _ h=>h.mono ap)⟩⟩
end Go.Rf
