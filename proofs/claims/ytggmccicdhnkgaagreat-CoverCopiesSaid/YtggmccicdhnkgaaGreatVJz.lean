/-
 Package cover's decoder.
-/
import Derived.Test.YtggmccicdhnkgaaGreatVJd
import Derived.Test.YtggmccicdhnkgaaGreatVJc
import Derived.Test.YtggmccicdhnkgaaGreatVQe
set_option linter.all false
set_option maxHeartbeats 64000000
namespace Go.Rf
open Go.RowKit
end Go.Rf
namespace Go.Proofs.YtggmccicdhnkgaaGreat
open Go.Proofs.Tryz
open Go.Rf Go.RowKit
variable{m:Int}{T:List Nat}{B d k:Nat}{α:Type}{u u':World}
theorem Jm9{el:DS->α×DS}{q:DS}(h:q.bad=true):∀k,lJ el k q=([],q)
 |0=>rfl
 |k+1=>by rw[lJ,Cb h]
theorem Jnr{el:DS->α×DS}{q:DS}(h:q.bad=false):lJ el (k+1) q=((el q).1::(lJ el k (el q).2).1,(lJ el k (el q).2).2):=by rw[lJ,SH xn]
theorem Jme{el:DS->α×DS}{ok:Option α->α->Bool}{last:Option α}{q:DS}(h:q.bad=true):∀k,kf el ok k last q=([],q)
 |0=>rfl
 |k+1=>by rw[kf,Cb h]
theorem Jmv{el:DS->α×DS}{ok:Option α->α->Bool}{last:Option α}{q:DS}(h:q.bad=false):kf el ok (k+1) last q=((el q).1::(kf el ok k (some (el q).1) ⟨(el q).2.bs,(el q).2.e,(el q).2.bad|| !ok last (el q).1⟩).1,(kf el ok k (some (el q).1) ⟨(el q).2.bs,(el q).2.e,(el q).2.bad|| !ok last (el q).1⟩).2):=by rw[kf,SH xn]
def JlW{α β:Type}(lt:β->β->Bool)(g:α->β)(l:List α)(last:Option α):Prop:=gR lt (l.map g)/\(last=none->l=[])/\∀y,last=some y->∀z∈l,z=y\/lt (g z) (g y)=true
theorem JlW.next{β:Type}{lt:β->β->Bool}(T:Tot lt){g:α->β}{l:List α}{last:Option α}{x:α}(h:JlW lt g l last)(hx:∀y,last=some y->lt (g y) (g x)=true):JlW lt g (l++[x]) (some x)/\g x∉l.map g:=by
 obtain⟨h1,h2,h3⟩:=h;have rI:∀z∈l,lt (g z) (g x)=true:=fun z hz=>by
  cases hl:last with
  |none=>rw[h2 hl]at hz;cases hz
  |some y=>
   rcases h3 y hl z hz with rfl|h
   .exact hx _ hl
   .exact T.tr h (hx y hl)
 refine⟨⟨?_,(fun h=>by cases h),fun y hy z hz=>?_⟩,fun hm=>?_⟩
 .simp only[gR,Dp,DL,Ec];refine List.pairwise_append.2 ⟨h1,by simp,fun a ha b hb=>?_⟩;obtain⟨z,hz,rfl⟩:=Du.1 ha;rw[Sv.1 hb];exact rI z hz
 .cases hy
  rcases SE.1 hz with hz|hz
  .exact .inr (rI z hz)
  .exact .inl (Sv.1 hz)
 .obtain ⟨z,hz,e⟩:=Du.1 hm;have:=rI z hz;rw[e,T.irr]at this;cases this
theorem JmO{m:Nat}{s:DS}(h:(fo m s).2.bad=false):s.bad=false:=by
 unfold fo at h
 split at h
 .cases h
 .exact h
theorem nd3{p bb pb:Nat}{v:Value}(h1:p≠bb)(h2:p≠pb)(h3:bb≠pb)(k1:p∉ag v)(k2:bb∉ag v)(k3:pb∉ag v):([p,bb,pb]++ag v).Nodup:=by
 have:(ag v).Nodup:=by
  unfold ag;cases v.ownBlock<;>simp
 simp_all
theorem yV{a b:List Value}{j:Nat}{x:Value}(h:a[j]?=some x):(a++b)[j]?=some x:=by
 rw[Ej (by
  obtain⟨hj,_⟩:=Df.1 h;exact hj)]
 exact h
def iX(w:World)(d r B:Nat)(v:Value)(m:Int)(s:DS):Prop:=aG w d [.pointer (some ⟨r,0,none⟩),iV m,.bool s.bad] 154/\qJ w r v s.bs s.e/\(∀ad n c,v=.slice (some ad) n c->ad.block=B)/\d≠B/\B<w.heap.size
theorem JnB{v:Value}(h:∀ad n c,v=.slice (some ad) n c->ad.block=B){ys:List Value}(hB:B∉T):mn v ys T:=fun ad n c e _=>by rw[h ad n c e];exact hB
theorem iX.tr{r:Nat}{v:Value}{s:DS}(h:iX u d r B v m s)(hf:Fr T u u')(hd:d∉T)(hr:r∉T)(hB:B∉T):iX u' d r B v m s:=
 ⟨h.1.tr hf hd,⟨h.2.1.1.tr hf hr,h.2.1.2.1.tr hf (JnB h.2.2.1 hB),h.2.1.2.2.1,h.2.1.2.2.2⟩,h.2.2.1,h.2.2.2.1,SV h.2.2.2.2 hf.size⟩
theorem iX.tr0{r:Nat}{v:Value}{s:DS}(h:iX u d r B v m s)(hf:Fr [] u u'):iX u' d r B v m s:=h.tr hf ap ap ap
theorem iX.ne{r:Nat}{v:Value}{s:DS}(h:iX u d r B v m s):d≠r:=h.1.ne h.2.1.1 bU
theorem iX.Jnf{r:Nat}{v:Value}{s:DS}{tz:List Int}{e':Int}(h:iX u d r B v m s)(hs:rJ r u v tz e' u'):∃v',iX u' d r B v' m ⟨tz,e',s.bad⟩/\Fr [d,r] u u':=by
 obtain⟨v',h1,h2,h3⟩:=hs;refine⟨v',⟨h.1.tr h2 (by simp[h.ne]),h1,fun ad n c e=>?_,h.2.2.2.1,SV h.2.2.2.2 h2.size⟩,h2.mono (fun b hb=>.inl (by simp at hb;simp[hb]))⟩;obtain⟨ad0,n0,c0,e0,eb⟩:=h3 ad n c e;rw[eb];exact h.2.2.1 ad0 n0 c0 e0
theorem iX.JlD{r:Nat}{v:Value}{s:DS}{b:Bool}(h:iX u d r B v m s)(hb:aG u' d [.pointer (some ⟨r,0,none⟩),iV m,.bool b] 154)(hf:Fr [d] u u'):iX u' d r B v m ⟨s.bs,s.e,b⟩:=
 ⟨hb,⟨h.2.1.1.tr hf (by simp[I7 h.ne]),h.2.1.2.1.tr hf (JnB h.2.2.1 (by simp[I7 h.2.2.2.1])),h.2.1.2.2.1,h.2.1.2.2.2⟩,h.2.2.1,h.2.2.2.1,SV h.2.2.2.2 hf.size⟩
theorem iX.bys{r:Nat}{v:Value}{s:DS}(h:iX u d r B v m s):fT s.bs:=h.2.1.2.2.2
theorem Jns{r:Nat}{v:Value}{s:DS}(h:iX u d r B v m s):
 Calls prog 34 #[.pointer (some ⟨r,0,none⟩)] u fun e u'=>e=.returned (iV (dI s).1)/\∃v',iX u' d r B v' m (dI s).2/\Fr [d,r] u u':=
 (JnF r v s.bs s.e u h.2.1).mono fun e u' ⟨h1,h2⟩=>⟨h1,h.Jnf h2⟩
theorem Jni{r:Nat}{v:Value}{s:DS}(h:iX u d r B v m s)(hl:s.bs.length<=1000000000000):
 Calls prog 33 #[.pointer (some ⟨r,0,none⟩)] u fun e u'=>e=.returned (.string (dT s).1)/\∃v',iX u' d r B v' m (dT s).2/\Fr [d,r] u u':=
 (Jnz r v s.bs s.e u h.2.1 hl).mono fun e u' ⟨h1,h2⟩=>⟨h1,h.Jnf h2⟩
attribute [local irreducible] Code.wp wpList Exit.then Exit.inBlock bodyPost A Calls execOp Addr.add
theorem R0{r:Nat}{v:Value}{s:DS}(h:iX u d r B v m s)(M:Nat):
 Calls prog 110 #[.pointer (some ⟨d,0,none⟩),iV (M:Nat)] u fun e u'=>e=.returned (iV ((fo M s).1:Nat))/\∃v',iX u' d r B v' m (fo M s).2/\Fr [d,r] u u':=by
 have hd:=h.1;refine enter func110 rfl ntmps110 rfl ?_;refine rx ?_;refine Jg (Jns h) ?_;rintro u1 ⟨v1,h1,aj⟩;have ep:=h1.1;unfold fo;obtain⟨n,hn⟩:=aP ((dI s).1);obtain⟨s1,bh⟩:=aP ((dI s).2);rw[<-bh]at h1 ep;rw[<-hn,<-bh];by_cases c:n<0\/(M:Int)<n
 .rw [Cb c];by_cases c1:n<0
  all_goals
   refine rx ?_
   ((with_reducible apply Ji);exact rfl;(conv=>lhs;whnf);exact rfl;exact ep;exact rfl)
   intro u2 dN aq cz;refine bM ?_;exact⟨rfl,v1,h1.JlD dN aq,aj.trans aq (fun x hx=>.inl Ymw)⟩
 .rw [SH c];have hn0:((n.toNat:Nat):Int)=n:=Et ab;refine bM ?_;exact⟨by rw[hn0],v1,h1,aj⟩
theorem Jnt{r:Nat}{v:Value}{s:DS}(h:iX u d r B v m s)(hl:s.bs.length<=1000000000000):
 Calls prog 111 #[.pointer (some ⟨d,0,none⟩)] u fun e u'=>e=.returned (.agg (dH (oy s).1).toArray)/\∃v',iX u' d r B v' m (oy s).2/\Fr [d,r] u u':=by
 have hdl:=h.1.lt;have k7:=h.2.1.1.lt;have hBl:=h.2.2.2.2;refine enter func111 rfl ntmps111 rfl ?_;refine rx ?_;refine Jm (l:=[zT,zI,zI]) rfl (fun u1 b2 dN h2 aj bh=>?_);have h:=h.tr0 aj;have hBb:B≠b2:=by omega
 refine rx ?_;refine Kr 16 (fun z=>True/\aG z d [.pointer (some ⟨r,0,none⟩),iV m,.bool s.bad] 154) az rfl ?_;obtain⟨u2,qO⟩:=aP u1.drew;rw[<-qO];have dV:Fr [] u1 u2:=qO▸Fr.drew _ _;have h:=h.tr0 dV;have h2:=h2.tr0 dV;have hF:=aj.Jb dV;have hS:True/\aG u2 d [.pointer (some ⟨r,0,none⟩),iV m,.bool s.bad] 154:=⟨trivial,h.1⟩
 ((refine Jp 0 hS ?_);(refine Jp 1 hS ?_);(refine Jp 2 hS ?_);(refine Jp 3 hS ?_))
 ((refine Jp 5 hS ?_);(refine Jp 6 hS ?_);(refine Jp 7 hS ?_);(refine Jp 8 hS ?_))
 ((refine Jp 10 hS ?_);(refine Jp 11 hS ?_);(refine Jp 12 hS ?_);(refine Jp 13 hS ?_))
 have nb:b2∉[d,r]:=by simp;omega
 refine KH (i:=4) rfl az ?_;refine Jg (Jni h hl) ?_;rintro u3 ⟨v3,h3,aF⟩;have oE:True/\aG u3 d [.pointer (some ⟨r,0,none⟩),iV m,.bool s.bad] 154:=⟨trivial,h3.1⟩;refine wpList_nil (Xz oE ?_);refine KH (i:=9) rfl az ?_;refine Jg (Jns h3) ?_;rintro u4 ⟨v4,h4,aI⟩;have j6:True/\aG u4 d [.pointer (some ⟨r,0,none⟩),iV m,.bool s.bad] 154:=⟨trivial,h4.1⟩;refine wpList_nil (Xz j6 ?_);refine KH (i:=14) rfl az ?_;refine Jg (Jns h4) ?_;rintro u5 ⟨v5,h5,aO⟩;have fP:True/\aG u5 d [.pointer (some ⟨r,0,none⟩),iV m,.bool s.bad] 154:=⟨trivial,h5.1⟩;refine wpList_nil (Xz fP ?_);refine Jp (v:=.agg (([.string (dT s).1,iV (dI (dT s).2).1,iV (dI (dI (dT s).2).2).1])).toArray) 15 fP ?_ (aw:=(by(intro u hu;exact QU (([.string (dT s).1,iV (dI (dT s).2).1,iV (dI (dI (dT s).2).2).1])) fD)));refine KH (i:=16) rfl az ?_;have xU:Fr [d,r] u2 u5:=(aF.trans aI (fun x hx=>.inl hx)).trans aO (fun x hx=>.inl hx);refine Jd (cs:=[.string (dT s).1,iV (dI (dT s).2).1,iV (dI (dI (dT s).2).2).1]) rfl rfl (h2.tr xU nb) dQ rfl rfl (fun u6 h6 aJ fm=>?_);refine kE ?_;refine rx ?_;refine Qc rfl rfl h6 rfl ⟨rfl,v5,h5.tr aJ aZ aZ (by simp[hBb]),((hF.mono ap).trans xU (fun x hx=>.inl hx)).trans aJ (fun x hx=>.inr bt)⟩
theorem JnH{w:World}{r:Nat}{v0:Value}{b:List Int}(h:iX w d r B v0 b.length ⟨b,0,false⟩)(hL:b.length<=1000000000):
 Calls prog 75 #[.pointer (some ⟨d,0,none⟩)] w fun e w'=>∃p bb pb vc v,e=.returned (.pointer (some ⟨p,0,none⟩))/\iX w' d r B v b.length (d4 b).2/\Fr [d,r] w w'/\w.heap.size<=p/\w.heap.size<=bb/\w.heap.size<=pb/\(∀x∈ag vc,w.heap.size<=x)/\([p,bb,pb]++ag vc).Nodup/\
  aG w' p [.string (d1 b).1.prop,zI,zS,iV ((d1 b).1.runs:Nat),iV ((d1 b).1.o0:Nat),iV ((d1 b).1.o1:Nat),iV ((d1 b).1.o2:Nat),vc,.map (some bb),.map (some pb)] 125/\
  bx w' 3 1 vc (d2 b).1.length (Vk (d2 b).1)/\((d4 b).2.bad=false->(∃mb,Mp gg (Value.int .i64) w' bb mb/\fE mb (fun x=>(getM (d3 b).1 x).getD 0))/\∃mp,Mp iC Value.bool w' pb mp/\BJ mp (· ∈(d4 b).1)):=by
 have hd:=h.1;have hdl:=h.1.lt;have k7:=h.2.1.1.lt;have hBl:=h.2.2.2.2;refine enter func75 rfl ntmps75 rfl ?_;refine rx ?_;refine Jg (Jni h (by show b.length<=_;omega)) ?_;rintro w1 ⟨v1,h1,aj⟩;obtain⟨nm,lm⟩:=aP ((dT ⟨b,0,false⟩).1);obtain⟨q0,hq0⟩:=aP ((dT ⟨b,0,false⟩).2);have k0:=(Jmd ⟨b,0,false⟩ h.bys).len;rw[<-hq0]at h1 k0;rw[<-lm];have bh:=aj.size;refine rx ?_;refine Kt (key:=gg) (val:=Value.int .i64) (fun w2 dJ aq cz=>?_);obtain⟨bb,ph⟩:=aP w1.heap.size;rw[<-ph]at dJ ⊢;refine rx ?_;refine Kt (key:=iC) (val:=Value.bool) (fun w3 dW aF dO=>?_);obtain⟨pb,pr⟩:=aP w2.heap.size;rw[<-pr]at dW ⊢;have dJ:=dJ.tr0 aF;refine rx ?_;refine JF [.string nm,zI,zS,zI,zI,zI,zI,zS,.map (some bb),.map (some pb)] rfl ?_;refine Ju (l:=[.string nm,zI,zS,zI,zI,zI,zI,zS,.map (some bb),.map (some pb)]) rfl rfl (fun w4 p hpe hp aI eA=>?_);have dJ:=dJ.tr0 aI;have dW:=dW.tr0 aI;have gm:=(aq.Jb aF).Jb aI;have h1:=h1.tr0 gm;have hF:Fr [d,r] w w4:=aj.Jb gm;have nbb:bb≠p/\pb≠p/\bb≠pb:=by omega
 have np:p∉[d,r]:=by simp;omega
 have nb:bb∉[d,r]:=by simp;omega
 have wD:pb∉[d,r]:=by simp;omega
 have rK:d∉[p]/\r∉[p]/\B∉[p]:=by simp;omega
 have pj:p<w4.heap.size:=hp.lt;have hwp:w.heap.size<=p/\w.heap.size<=bb/\w.heap.size<=pb:=by omega
 clear aj aq aF aI gm hd;refine rx ?_;refine Jg (R0 h1 pv) ?_;rintro w5 ⟨v2,h2,aO⟩;obtain⟨rn,hrn⟩:=aP ((fo pv q0).1);obtain⟨q1,Py⟩:=aP ((fo pv q0).2);have k1:=(ny pv q0 h1.bys).len;have ibb:=Pw pv q0;rw[<-Py]at h2 k1;rw[<-hrn]at ibb ⊢;have hp:=hp.tr aO np;have dJ:=dJ.tr aO nb;have dW:=dW.tr aO wD;refine rx ?_
 ((with_reducible apply Ji);exact rfl;(conv=>lhs;whnf);exact rfl;exact hp;exact rfl)
 intro w6 PK aJ fm;replace PK:aG w6 p [.string nm,zI,zS,iV (rn:Nat),zI,zI,zI,zS,.map (some bb),.map (some pb)] 125:=PK;have h2:=h2.tr aJ rK.1 rK.2.1 rK.2.2;have dJ:=dJ.tr aJ aZ;have dW:=dW.tr aJ aZ;have hF:Fr [d,r] w w6:=(hF.trans aO (fun x hx=>.inl hx)).trans aJ (fun x hx=>.inr bt);clear hp aO aJ;have e1:∀q,(fo rn q).1<=rn:=fun q=>Pw rn q
 obtain⟨a0,R1⟩:=aP ((fo rn q1).1);obtain⟨q2,nv⟩:=aP ((fo rn q1).2);obtain⟨a1,jS⟩:=aP ((fo rn q2).1);obtain⟨q3,Pe⟩:=aP ((fo rn q2).2);obtain⟨a2,nB⟩:=aP ((fo rn q3).1);obtain⟨q4,mL⟩:=aP ((fo rn q3).2);have l0:a0<=rn:=R1▸e1 q1;have l1:a1<=rn:=jS▸e1 q2;have l2:a2<=rn:=nB▸e1 q3;have hsp:rn<=1099511627776:=ibb;have hH:d1 b=(⟨nm,rn,a0,a1,a2⟩,⟨q4.bs,q4.e,q4.bad||decide (a0+a1+a2≠rn)⟩):=by
  subst lm hq0 hrn Py R1 nv jS Pe nB mL;rfl
 refine rx ?_;refine Jh 29 [4,5] (σ:=Nat) (fun i g u=>g 29=iV (i:Nat)/\i<=3/\g 4=iV ((if i=0 then 0 else if i=1 then a0 else if i=2 then a0+a1 else a0+a1+a2:Nat))/\(∃v,iX u d r B v b.length (if i=0 then q1 else if i=1 then q2 else if i=2 then q3 else q4))/\
  aG u p [.string nm,zI,zS,iV (rn:Nat),iV ((if 0<i then a0 else 0:Nat)),iV ((if 1<i then a1 else 0:Nat)),iV ((if 2<i then a2 else 0:Nat)),zS,.map (some bb),.map (some pb)] 125/\Mp gg (Value.int .i64) u bb []/\Mp iC Value.bool u pb []/\Fr [d,r] w u) (fun i=>3-i) 0 ⟨rfl,SL _,rfl,⟨v2,h2⟩,PK,dJ,dW,hF⟩ ?_
 clear h2 PK dJ dW hF;rintro i g u ⟨g29,hi,g4,⟨v,hI⟩,hp,dJ,dW,hF⟩;have cI:=hF.size;by_cases aC:i<3
 case pos=>
  rcases(show i=0\/i=1\/i=2 by omega)with rfl|rfl|rfl
  .replace hp:aG u p [.string nm,zI,zS,iV (rn:Nat),iV ((0:Nat):Nat),iV ((0:Nat):Nat),iV ((0:Nat):Nat),zS,.map (some bb),.map (some pb)] 125:=hp;replace hI:iX u d r B v b.length q1:=hI;replace g4:g 4=iV ((0:Nat)):=g4;rw[Ja g29,Ja g4];refine rx ?_;refine JE (fun z=>Cells z ⟨p,0,none⟩ [.string nm,zI,zS,iV (rn:Nat)]) az rfl ?_;obtain⟨u1,eu⟩:=aP u.drew;rw[<-eu];have ep:Fr [] u u1:=eu▸Fr.drew _ _;have hF:=hF.Jb ep;have hp:=hp.tr0 ep;have hI:=hI.tr0 ep;have dJ:=dJ.tr0 ep;have dW:=dW.tr0 ep;have hS:Cells u1 ⟨p,0,none⟩ [.string nm,zI,zS,iV (rn:Nat)]:=fun j x hx=>Cells.VO hp j x (yV hx)
   refine Jj 0 1 2 3 hS ?_;refine JX 4 5 hS ?_;refine Kw 6 hS ?_ (aw:=by(intro u hu;exact(J7 rfl Ymu)));refine Ymn ?_;rintro u2 ⟨v',hI,aq⟩;rw[<-nv]at hI;rw[<-R1];have hp:=hp.tr aq np;have dJ:=dJ.tr aq nb;have dW:=dW.tr aq wD;have hS:Cells u2 ⟨p,0,none⟩ [.string nm,zI,zS,iV (rn:Nat)]:=fun j x hx=>Cells.VO hp j x (yV hx)
   refine ft ?_;refine uW ?_;refine ZH (j:=0) rfl rfl bU ?_;refine ft ?_;refine zK ?_
   ((with_reducible apply Ji);exact rfl;(conv=>lhs;whnf);exact rfl;exact hp;exact rfl)
   intro u3 ri aF dO;have hS:Cells u3 ⟨p,0,none⟩ [.string nm,zI,zS,iV (rn:Nat)]:=fun j x hx=>Cells.VO ri j x (yV hx)
   refine ui ?_;replace ri:aG u3 p [.string nm,zI,zS,iV (rn:Nat),iV (a0:Nat),iV ((0:Nat):Nat),iV ((0:Nat):Nat),zS,.map (some bb),.map (some pb)] 125:=ri;have hI:=hI.tr aF rK.1 rK.2.1 rK.2.2;have dJ:=dJ.tr aF aZ;have dW:=dW.tr aF aZ;have aV:Fr [d,r] w u3:=(hF.trans aq (fun x hx=>.inl hx)).trans aF (fun x hx=>.inr bt);refine rx ?_;refine ZH (j:=0) rfl rfl bU ?_;refine rx ?_;refine Jc 1 a6 ?_ bU;exact Ymc
  .replace hp:aG u p [.string nm,zI,zS,iV (rn:Nat),iV (a0:Nat),iV ((0:Nat):Nat),iV ((0:Nat):Nat),zS,.map (some bb),.map (some pb)] 125:=hp;replace hI:iX u d r B v b.length q2:=hI;replace g4:g 4=iV (a0:Nat):=g4;rw[Ja g29,Ja g4];refine rx ?_;refine JE (fun z=>Cells z ⟨p,0,none⟩ [.string nm,zI,zS,iV (rn:Nat)]) az rfl ?_;obtain⟨u1,eu⟩:=aP u.drew;rw[<-eu];have ep:Fr [] u u1:=eu▸Fr.drew _ _;have hF:=hF.Jb ep;have hp:=hp.tr0 ep;have hI:=hI.tr0 ep;have dJ:=dJ.tr0 ep;have dW:=dW.tr0 ep;have hS:Cells u1 ⟨p,0,none⟩ [.string nm,zI,zS,iV (rn:Nat)]:=fun j x hx=>Cells.VO hp j x (yV hx)
   refine Jj 0 1 2 3 hS ?_;refine JX 4 5 hS ?_;refine Kw 6 hS ?_ (aw:=by(intro u hu;exact(J7 rfl Ymu)));refine Ymn ?_;rintro u2 ⟨v',hI,aq⟩;rw[<-Pe]at hI;rw[<-jS];have hp:=hp.tr aq np;have dJ:=dJ.tr aq nb;have dW:=dW.tr aq wD;have hS:Cells u2 ⟨p,0,none⟩ [.string nm,zI,zS,iV (rn:Nat)]:=fun j x hx=>Cells.VO hp j x (yV hx)
   refine ft ?_;refine uW ?_;refine ZH (j:=1) rfl rfl bU ?_;refine ft ?_;refine zK ?_
   ((with_reducible apply Ji);exact rfl;(conv=>lhs;whnf);exact rfl;exact hp;exact rfl)
   intro u3 ri aF dO;have hS:Cells u3 ⟨p,0,none⟩ [.string nm,zI,zS,iV (rn:Nat)]:=fun j x hx=>Cells.VO ri j x (yV hx)
   refine ui ?_;replace ri:aG u3 p [.string nm,zI,zS,iV (rn:Nat),iV (a0:Nat),iV (a1:Nat),iV ((0:Nat):Nat),zS,.map (some bb),.map (some pb)] 125:=ri;have hI:=hI.tr aF rK.1 rK.2.1 rK.2.2;have dJ:=dJ.tr aF aZ;have dW:=dW.tr aF aZ;have aV:Fr [d,r] w u3:=(hF.trans aq (fun x hx=>.inl hx)).trans aF (fun x hx=>.inr bt);refine rx ?_;refine ZH (j:=1) rfl rfl bU ?_;refine rx ?_;refine Jc 2 a6 ?_ bU;exact Ymc
  .replace hp:aG u p [.string nm,zI,zS,iV (rn:Nat),iV (a0:Nat),iV (a1:Nat),iV ((0:Nat):Nat),zS,.map (some bb),.map (some pb)] 125:=hp;replace hI:iX u d r B v b.length q3:=hI;replace g4:g 4=iV ((a0+a1:Nat)):=g4;rw[Ja g29,Ja g4];refine rx ?_;refine JE (fun z=>Cells z ⟨p,0,none⟩ [.string nm,zI,zS,iV (rn:Nat)]) az rfl ?_;obtain⟨u1,eu⟩:=aP u.drew;rw[<-eu];have ep:Fr [] u u1:=eu▸Fr.drew _ _;have hF:=hF.Jb ep;have hp:=hp.tr0 ep;have hI:=hI.tr0 ep;have dJ:=dJ.tr0 ep;have dW:=dW.tr0 ep;have hS:Cells u1 ⟨p,0,none⟩ [.string nm,zI,zS,iV (rn:Nat)]:=fun j x hx=>Cells.VO hp j x (yV hx)
   refine Jj 0 1 2 3 hS ?_;refine JX 4 5 hS ?_;refine Kw 6 hS ?_ (aw:=by(intro u hu;exact(J7 rfl Ymu)));refine Ymn ?_;rintro u2 ⟨v',hI,aq⟩;rw[<-mL]at hI;rw[<-nB];have hp:=hp.tr aq np;have dJ:=dJ.tr aq nb;have dW:=dW.tr aq wD;have hS:Cells u2 ⟨p,0,none⟩ [.string nm,zI,zS,iV (rn:Nat)]:=fun j x hx=>Cells.VO hp j x (yV hx)
   refine ft ?_;refine uW ?_;refine ZH (j:=2) rfl rfl bU ?_;refine ft ?_;refine zK ?_
   ((with_reducible apply Ji);exact rfl;(conv=>lhs;whnf);exact rfl;exact hp;exact rfl)
   intro u3 ri aF dO;have hS:Cells u3 ⟨p,0,none⟩ [.string nm,zI,zS,iV (rn:Nat)]:=fun j x hx=>Cells.VO ri j x (yV hx)
   refine ui ?_;replace ri:aG u3 p [.string nm,zI,zS,iV (rn:Nat),iV (a0:Nat),iV (a1:Nat),iV (a2:Nat),zS,.map (some bb),.map (some pb)] 125:=ri;have hI:=hI.tr aF rK.1 rK.2.1 rK.2.2;have dJ:=dJ.tr aF aZ;have dW:=dW.tr aF aZ;have aV:Fr [d,r] w u3:=(hF.trans aq (fun x hx=>.inl hx)).trans aF (fun x hx=>.inr bt);refine rx ?_;refine ZH (j:=2) rfl rfl bU ?_;refine rx ?_;refine Jc 3 a6 ?_ bU;exact Ymc
 obtain rfl:i=3:=by omega
 replace hp:aG u p [.string nm,zI,zS,iV (rn:Nat),iV (a0:Nat),iV (a1:Nat),iV (a2:Nat),zS,.map (some bb),.map (some pb)] 125:=hp;replace hI:iX u d r B v b.length q4:=hI;replace g4:g 4=iV ((a0+a1+a2:Nat)):=g4;obtain⟨sm,hsm⟩:∃z:Nat,z=a0+a1+a2:=⟨_,rfl⟩;rw[<-hsm]at g4;rw[Ja g29,Ja g4];clear g4 g29 aC hi;have ik:=hI.1;refine rx ?_;refine JaE 15 [] (fun g z=>iX z d r B v b.length (d1 b).2/\Fr [d] u z) ?_ ?_
 .rw [hH];cases hq:q4.bad with
  |true=>
   rw[hq]at ik;refine rx ?_
   ((with_reducible apply Ji);exact rfl;(conv=>lhs;whnf);exact rfl;exact ik;exact rfl)
   intro u2 dN aq cz;exact wpList_nil<|JK a6 ⟨hI.JlD dN aq,aq⟩
  |false=>
   rw[hq]at ik;by_cases hs:sm=rn
   .refine rx ?_
    ((with_reducible apply Ji);exact rfl;(conv=>lhs;whnf);exact rfl;exact ik;exact rfl)
    intro u2 dN aq cz;refine wpList_nil<|JK a6 ⟨?_,aq⟩;rw[<-hsm,SG ab];exact hI.JlD dN aq
   .refine rx ?_
    ((with_reducible apply Ji);exact rfl;(conv=>lhs;whnf);exact rfl;exact ik;exact rfl)
    intro u2 dN aq cz;refine wpList_nil<|JK a6 ⟨?_,aq⟩;rw[<-hsm,SN ab];exact hI.JlD dN aq
 rintro g1 u5 ⟨hI,aO⟩;have hp:=hp.tr aO aZ;have dJ:=dJ.tr aO aZ;have dW:=dW.tr aO aZ;have hF:=hF.trans aO (fun x hx=>.inl Ymw);have hHf:(d1 b).1=⟨nm,rn,a0,a1,a2⟩:=by rw[hH]
 have hdk:(d1 b).2.bs.length<=b.length:=(Jl3 ⟨b,0,false⟩ h.bys).len;clear aO ik hH;obtain⟨qh,hqh⟩:=aP ((d1 b).2);rw[<-hqh]at hI hdk;have ik:=hI.1;refine rx ?_;refine Jg (R0 hI b.length) ?_;rintro u6 ⟨v6,hI,aJ⟩;have hp:=hp.tr aJ np;have dJ:=dJ.tr aJ nb;have dW:=dW.tr aJ wD;have hF:=hF.trans aJ (fun x hx=>.inl hx);have Rk:=Pw b.length qh;have hD2:d2 b=lJ (fo rn) (fo b.length qh).1 (fo b.length qh).2:=by
  unfold d2 xC;rw[<-hqh,hHf]
 obtain⟨n1,ibc⟩:=aP ((fo b.length qh).1);obtain⟨qa,oq⟩:=aP ((fo b.length qh).2);have if4:qa.bs.length<=b.length:=by
  have:=(ny b.length qh (hqh▸(Jl3 ⟨b,0,false⟩ h.bys).bys)).len;rw[<-oq]at this;omega
 rw[<-oq]at hI hD2;rw[<-ibc]at Rk hD2 ⊢;clear ik aJ ibc oq;refine oG ?_;refine KZ 15 [6] (fun g z=>∃vc v,iX z d r B v b.length (d2 b).2/\bx z 3 1 vc (d2 b).1.length (Vk (d2 b).1)/\(∀x∈ag vc,w.heap.size<=x/\x≠p/\x≠bb/\x≠pb)/\aG z p [.string nm,zI,zS,iV (rn:Nat),iV (a0:Nat),iV (a1:Nat),iV (a2:Nat),vc,.map (some bb),.map (some pb)] 125/\Mp gg (Value.int .i64) z bb []/\Mp iC Value.bool z pb []/\Fr [d,r] w z) ?_ ?_
 .refine rx ?_;refine Jh 15 [6] (σ:=Nat×DS×List Nat×Value) (fun t g z=>g 6=iV (t.1:Nat)/\t.2.2.1.length+t.1<=n1/\(∃v,iX z d r B v b.length t.2.1)/\bx z 3 1 t.2.2.2 t.2.2.1.length (Vk t.2.2.1)/\(∀x∈ag t.2.2.2,w.heap.size<=x/\x≠p/\x≠bb/\x≠pb)/\aG z p [.string nm,zI,zS,iV (rn:Nat),iV (a0:Nat),iV (a1:Nat),iV (a2:Nat),t.2.2.2,.map (some bb),.map (some pb)] 125/\Mp gg (Value.int .i64) z bb []/\Mp iC Value.bool z pb []/\Fr [d,r] w z/\
   t.2.2.1++(lJ (fo rn) t.1 t.2.1).1=(d2 b).1/\(lJ (fo rn) t.1 t.2.1).2=(d2 b).2) (fun t=>t.1) (n1,qa,[],zS) ⟨rfl,by simp,⟨v6,hI⟩,bx.nil _ _ _,by simp[ag,Value.ownBlock],hp,dJ,dW,hF,by rw[hD2];rfl,by rw[hD2]⟩ ?_
  clear hI hp dJ dW hF;rintro⟨k,q,l,vc⟩ g z ⟨g6,hk,⟨v,hI⟩,ho,oM,hp,dJ,dW,hF,jY,iD⟩;simp only at g6 hk hI ho oM hp jY iD;rw[Ja g6];have ik:=hI.1;have fA:=hF.size;by_cases j7:k=0
  .subst j7;simp only[lJ,Ce]at jY iD;subst jY iD;refine rx ?_;exact Ymr
  cases hq:q.bad with
  |true=>
   rw[Jm9 hq]at jY iD;simp only[Ce]at jY iD;subst jY iD;rw[hq]at ik;refine rx ?_;exact Ymr
  |false=>
   rw[hq]at ik;obtain⟨k,rfl⟩:∃j,k=j+1:=⟨k-1,by omega⟩;rw[Jnr hq]at jY iD;have ef:=ho.one;have hol:=ho.lt;obtain⟨iZ,cc,rfl⟩:=ho.slice;refine rx ?_;have R2:∀{y:Nat},(y=p\/y=bb\/y=pb\/y<w.heap.size)->y∉ag (Value.slice iZ l.length cc):=fun hy hm=>by
    have:=oM _ hm;omega
   have npv:p∉[d,r]++ag (Value.slice iZ l.length cc):=fun hm=>(SE.1 hm).elim np (R2 (.inl rfl))
   have R3:∀x∈ag (Value.slice iZ l.length cc),x∉[d,r]:=fun x hx hm=>by have:=(oM x hx).1;simp at hm;omega
   have hSV:∀{y:World},Fr [d,r] z y->Fr ([d,r]++ag (Value.slice iZ l.length cc)) z y:=fun h=>h.mono (fun x hx=>.inl (SA _ hx))
   refine Kr 13 (fun z'=>Fr ([d,r]++ag (Value.slice iZ l.length cc)) z z') az rfl ?_;obtain⟨z1,jB⟩:=aP z.drew;rw[<-jB];have ep:Fr [] z z1:=jB▸Fr.drew _ _;have hT:Fr [d,r] z z1:=ep.mono ap;have hS:=hSV hT;have hI:=hI.tr0 ep
   ((refine Jp 0 hS ?_);(refine Jp 1 hS ?_);(refine Jp 2 hS ?_);(refine Jp 3 hS ?_))
   refine Jp 4 hS ?_ (aw:=(by intro u hu;exact(J7 rfl (aG.cell (hp.tr hu npv) rfl))))
   ((refine Jp 5 hS ?_);(refine Jp 6 hS ?_);(refine Jp 7 hS ?_);(refine Jp 8 hS ?_))
   refine Jp 9 hS ?_ (aw:=(by intro u hu;exact(J7 rfl (aG.cell (hp.tr hu npv) rfl))));refine tR ?_;refine Jg (R0 hI rn) ?_;rintro z2 ⟨v',hI,aq⟩;have hT:=hT.trans aq (fun x hx=>.inl hx);have hS:=hSV hT;refine yD ?_;refine YY ?_;refine J3 [iV ((fo rn q).1:Nat)] rfl rfl rfl rfl (fun z3 pw aF dO=>?_);have hT:=hT.Jb aF;have hS:=hSV hT;have hI:=hI.tr0 aF;refine yD ?_;refine KH (i:=12) rfl az ?_;refine JC (ho.tr hT R3) rfl pw.src rfl rfl dQ dt ab (fun v5 z5 kt aO ml _=>?_);have hS:=hS.trans aO (fun x hx=>.inl (CJ _ hx));refine yD ?_;have hvp:∀x∈ag v5,w.heap.size<=x/\x≠p/\x≠bb/\x≠pb:=fun x hx=>by
    have icQ:=hT.size;have:=hp.lt;have:=dJ.lt;have:=dW.lt;rcases ml x hx with h|h
    .exact oM x h
    .omega
   have hp5:=(hp.tr hT np).tr aO (R2 (.inl rfl));have idH:=(dJ.tr hT nb).tr aO (R2 (.inr (.inl rfl)));have idI:=(dW.tr hT wD).tr aO (R2 (.inr (.inr (.inl rfl))));have hI:=hI.tr aO (R2 ab) (R2 ab) (R2 ab);have bX:Fr [d,r] w z5:=(hF.trans hT (fun x hx=>.inl hx)).trans aO (fun x hx=>.inr (oM x hx).1);have lu:=kt.one;refine KH (i:=13) rfl az ?_;refine Vy rfl ?_;refine qs ?_;refine KH (i:=14) rfl az ?_;refine Ku rfl ?_;rw[add_lit];refine qs ?_;refine KH (i:=15) rfl az ?_
   ((with_reducible apply Ji);exact rfl;(conv=>lhs;whnf);exact lu;exact hp5;exact rfl)
   intro z6 PK aJ fm;replace PK:aG z6 p [.string nm,zI,zS,iV (rn:Nat),iV (a0:Nat),iV (a1:Nat),iV (a2:Nat),v5,.map (some bb),.map (some pb)] _:=PK;refine kE ?_;have hI:=hI.tr aJ rK.1 rK.2.1 rK.2.2;have idJ:=idH.tr aJ aZ;have idK:=idI.tr aJ aZ;have bR:Fr [d,r] w z6:=bX.trans aJ (fun x hx=>.inr bt);have tA:=kt.tr aJ (fun x hx hm=>(hvp x hx).2.1 (Sv.1 hm));refine rx ?_;refine Jc (k,(fo rn q).2,l++[(fo rn q).1],v5) a6 ?_ eM;refine⟨?_,?_,⟨v',hI⟩,?_,hvp,PK,idJ,idK,bR,?_,iD⟩
   .show Value.int _ _=Value.int _ _
    congr 1
    simp only;omega
   .simp only[Sm,SI,SY];omega
   .simp only;rw[show Vk (l++[(fo rn q).1])=Vk l++[iV ((fo rn q).1:Nat)] by simp[Vk],Sm];exact tA
   .simp only;rw[List.append_assoc];exact jY
 clear hI hp dJ dW hF;rintro g2 u7 ⟨vc,v7,hI,ho,oM,hp,dJ,dW,hF⟩;have iaz:=ho.one;obtain⟨iZ,cc,rfl⟩:=ho.slice;obtain⟨lc,xG⟩:=aP ((d2 b).1);rw[<-xG]at ho oM hp iaz ⊢;have cu:(d2 b).2.bs.length<=b.length/\fT (d2 b).2.bs:=by
  have h0:=(Jl3 ⟨b,0,false⟩ h.bys);have h1:=ny b.length (d1 b).2 h0.bys;have h2:=Jml (ny (d1 b).1.runs) (fo b.length (d1 b).2).1 _ h1.bys;exact⟨((h0.trans h1).trans h2).len,h2.bys⟩
 obtain⟨qc,Pl⟩:=aP ((d2 b).2);rw[<-Pl]at hI cu;have idG:=hF.size;have ik:=hI.1;have Rv:=hp.lt;have vW:=dJ.lt;have vZ:=dW.lt;have pM:=ho.lt;refine rx ?_;refine Jm (l:=[zT,zI,zI]) rfl (fun u8 b7 Aq h7 aM fL=>?_);have hI:=hI.tr0 aM;have hp:=hp.tr0 aM;have ho:=ho.tr0 aM;have dJ:=dJ.tr0 aM;have dW:=dW.tr0 aM;have hF:=hF.Jb aM;have ik:=hI.1;clear aM;refine rx ?_;refine Jg (R0 hI b.length) ?_;rintro u9 ⟨v9,hI,aW⟩;have n7:b7∉[d,r]:=by simp;omega
 have R3:∀x∈ag (Value.slice iZ lc.length cc),x∉[d,r]:=fun x hx hm=>by have:=(oM x hx).1;simp at hm;omega
 have hp:=hp.tr aW np;have ho:=ho.tr aW R3;have dJ:=dJ.tr aW nb;have dW:=dW.tr aW wD;have h7:=h7.tr aW n7;have hF:=hF.trans aW (fun x hx=>.inl hx);have xw:=Pw b.length qc;have AI:d3 b=kf (xB rn) okB (fo b.length qc).1 none (fo b.length qc).2:=by
  unfold d3 we;rw[<-Pl,hHf]
 obtain⟨n2,ibd⟩:=aP ((fo b.length qc).1);obtain⟨qb,R4⟩:=aP ((fo b.length qc).2);have yW:qb.bs.length<=b.length/\fT qb.bs:=by
  have:=ny b.length qc cu.2;rw[<-R4]at this;exact⟨CG this.len cu.1,this.bys⟩
 rw[<-R4]at hI AI;rw[<-ibd]at xw AI ⊢;clear ik aW ibd R4 cu;have if5:w.heap.size<=b7:=by omega
 have ibe:b7≠p/\b7≠bb/\b7≠pb/\b7∉ag (Value.slice iZ lc.length cc):=⟨by omega,by omega,by omega,fun hm=>by have:=pM _ hm;omega⟩;replace h7:aG u9 b7 (dH (((none:Option (Br×Nat)).map Prod.fst).getD ⟨aA [],0,0⟩)) 50:=h7;refine oG ?_;refine KZ 15 [8,10] (fun g z=>∃v mb,iX z d r B v b.length (d3 b).2/\bx z 3 1 (.slice iZ lc.length cc) lc.length (Vk lc)/\aG z p [.string nm,zI,zS,iV (rn:Nat),iV (a0:Nat),iV (a1:Nat),iV (a2:Nat),(.slice iZ lc.length cc),.map (some bb),.map (some pb)] 125/\Mp gg (Value.int .i64) z bb mb/\((d3 b).2.bad=false->fE mb (fun x=>(getM (d3 b).1 x).getD 0))/\Mp iC Value.bool z pb []/\Fr [d,r] w z) ?_ ?_
 .refine rx ?_;refine Jh 15 [8,10] (σ:=Nat×DS×List (Br×Nat)×Option (Br×Nat)×List (Br×Int)) (fun t g z=>g 8=iV (t.2.2.1.length:Nat)/\t.2.2.1.length+t.1=n2/\((∃v,iX z d r B v b.length t.2.1)/\t.2.1.bs.length<=b.length)/\bx z 3 1 (.slice iZ lc.length cc) lc.length (Vk lc)/\aG z p [.string nm,zI,zS,iV (rn:Nat),iV (a0:Nat),iV (a1:Nat),iV (a2:Nat),(.slice iZ lc.length cc),.map (some bb),.map (some pb)] 125/\Mp gg (Value.int .i64) z bb t.2.2.2.2/\(t.2.1.bad=false->fE t.2.2.2.2 (fun x=>(getM t.2.2.1 x).getD 0)/\JlW eO Prod.fst t.2.2.1 t.2.2.2.1)/\(t.2.2.2.1=none↔t.2.2.1=[])/\aG z b7 (dH ((t.2.2.2.1.map Prod.fst).getD ⟨aA [],0,0⟩)) 50/\Mp iC Value.bool z pb []/\Fr [d,r] w z/\
   t.2.2.1++(kf (xB rn) okB t.1 t.2.2.2.1 t.2.1).1=(d3 b).1/\(kf (xB rn) okB t.1 t.2.2.2.1 t.2.1).2=(d3 b).2) (fun t=>t.1) (n2,qb,[],none,[]) ⟨rfl,by simp,⟨⟨v9,hI⟩,yW.1⟩,ho,hp,dJ,fun _=>⟨fE.nil,by simp[JlW,gR]⟩,by simp,h7,dW,hF,by rw[AI];rfl,by rw[AI]⟩ ?_
  clear hI hp dJ dW hF ho h7;rintro⟨k,q,l,last,mb⟩ g z ⟨g8,hk,⟨⟨v,hI⟩,pn⟩,ho,hp,dJ,ti,pR,h7,dW,hF,jY,iD⟩;simp only at g8 hk hI pn dJ ti pR h7 jY iD;rw[Ja g8];have ik:=hI.1;have fA:=hF.size;by_cases j7:k=0
  .subst j7;simp only[kf,Ce]at jY iD;refine rx ?_;exact JK a6 ⟨v,mb,iD▸hI,ho,hp,dJ,(fun hb=>by rw[<-jY];exact(ti (iD▸hb)).1),dW,hF⟩
  cases hq:q.bad with
  |true=>
   rw[Jme hq]at jY iD;simp only[Ce]at jY iD;rw[hq]at ik;refine rx ?_;exact JK a6 ⟨v,mb,iD▸hI,ho,hp,dJ,(fun hb=>by rw[<-iD,hq]at hb;cases hb),dW,hF⟩
  |false=>
   rw[hq]at ik;obtain⟨ti,uT⟩:=ti hq;obtain⟨k,rfl⟩:∃j,k=j+1:=⟨k-1,by omega⟩;rw[Jmv hq]at jY iD;have yT:=hI.bys;refine rx ?_;refine Jg (Jnt hI ab) ?_;rintro z1 ⟨v1,hI,aj⟩;obtain⟨x,hx⟩:=aP ((oy q).1);obtain⟨qx,yX⟩:=aP ((oy q).2);have if6:qx.bad=false:=by rw[yX];exact hq
   have idL:xB rn q=((x,(fo rn qx).1),(fo rn qx).2):=by rw[hx,yX];rfl
   rw[idL]at jY iD;rw[<-yX]at hI;rw[<-hx];refine rx ?_;refine Jm (l:=[zT,zI,zI]) rfl (fun z2 kU iaY ez aq cz=>?_);refine rx ?_;refine Jd (cs:=dH x) rfl rfl ez (QD _) rfl rfl (fun z3 ez aF dO=>?_);replace ez:aG z3 kU [.string x.decl,iV x.at_,iV x.arm] _:=ez;have aL:Fr [] z1 z3:=aq.trans aF (fun x hx=>.inr bt);have hT:Fr [d,r] z z3:=aj.Jb aL;have ieR:z.heap.size<=kU:=by rw[iaY];exact aj.size
   have pj:=hp.lt;have oD:=dJ.lt;have idM:=dW.lt;have wm:=ho.lt;have h7l:=h7.lt;have hI:=hI.tr0 aL;have hp:=hp.tr hT np;have ho:=ho.tr hT R3;have dJ:=dJ.tr hT nb;have dW:=dW.tr hT wD;have h7:=h7.tr hT n7;have hF:=hF.trans hT (fun x hx=>.inl hx);have if7:=hF.size;have n10:kU∉[d,r]:=by simp;omega
   have if8:qx.bs.length<=b.length:=by rw[yX];exact CG (wc q yT).len pn
   clear aj aq aF hT;refine rx ?_;refine Kr 11 (fun y=>Fr [d,r] z3 y) az rfl ?_;obtain⟨z4,hz4⟩:=aP z3.drew;rw[<-hz4];have pO:Fr [] z3 z4:=hz4▸Fr.drew _ _;have hS:Fr [d,r] z3 z4:=pO.mono ap;have hI:=hI.tr0 pO
   ((refine Jp 0 hS ?_);(refine Jp 1 hS ?_);(refine Jp 2 hS ?_))
   refine Jp 3 hS ?_ (aw:=(by intro u hu;exact(J7 rfl (aG.cell (hp.tr hu np) rfl))));refine Jp 4 hS ?_ (aw:=(by intro u hu;exact(Kv rfl (Cells.VO (ez.tr hu n10)) fD)))
   ((refine Jp 5 hS ?_);(refine Jp 6 hS ?_);(refine Jp 7 hS ?_);(refine Jp 8 hS ?_))
   refine Jp 9 hS ?_ (aw:=(by intro u hu;exact(J7 rfl (aG.cell (hp.tr hu np) rfl))));refine tR ?_;refine Jg (R0 hI rn) ?_;rintro z5 ⟨v5,hI,aO⟩;have hS:=hS.trans aO (fun x hx=>.inl hx);obtain⟨c,hc⟩:=aP ((fo rn qx).1);obtain⟨qn,vQ⟩:=aP ((fo rn qx).2);rw[<-hc,<-vQ]at jY iD;rw[<-vQ]at hI;rw[<-hc];have hp:=hp.tr hS np;have ho:=ho.tr hS R3;have dJ:=dJ.tr hS nb;have dW:=dW.tr hS wD;have h7:=h7.tr hS n7;have ez:=ez.tr hS n10;have hF:=hF.trans hS (fun x hx=>.inl hx);have if9:=hF.size;refine yD ?_;refine YY ?_;refine BX (key:=gg) (val:=Value.int .i64) (a:=x) (v:=(c:Int)) dJ rfl rfl rfl (fun z6 dJ aJ fm=>?_);refine kE ?_;have PM:∀y:Nat,y≠bb->y∉[bb]:=fun y h=>by simpa using h
   have hI:=hI.tr aJ (PM _ ab) (PM _ ab) (PM _ ab);have hp:=hp.tr aJ (PM _ ab);have ho:=ho.tr aJ (fun x hx=>PM _ (oM x hx).2.2.1);have dW:=dW.tr aJ (PM _ ab);have h7:=h7.tr aJ (PM _ ibe.2.1);have ez:=ez.tr aJ (PM _ ab);have hF:=hF.trans aJ (fun x hx=>.inr bt);have ik:=hI.1;have hgm:(getM (VJ mb x (c:Int)) x).getD 0=(c:Int):=by rw[GK,Cb rfl];rfl
   clear hS aO aJ pO;refine rx ?_;have nd:∀y:Nat,y≠d->y∉[d]:=fun y h=>by simpa using h
   refine KZ 15 [] (fun g y=>iX y d r B v5 b.length ⟨qn.bs,qn.e,qn.bad|| !okB last (x,c)⟩/\Fr [d] z6 y) ?_ ?_
   . (refine JE (fun y=>Fr [d] z6 y) az rfl ?_)
     obtain⟨z7,hz7⟩:=aP z6.drew;rw[<-hz7];have rh:Fr [] z6 z7:=hz7▸Fr.drew _ _;have hS:Fr [d] z6 z7:=rh.mono ap;have p4:=ik.tr0 rh;have tB:=hI.tr0 rh;refine Jj 0 1 2 3 hS ?_;refine zw ?_;refine VH rfl p4 rfl ?_;refine ft ?_;cases wF:qn.bad with
     |true=>
      rw[wF]at p4;refine Jj 5 6 7 8 hS ?_;refine Jj 9 10 11 12 hS ?_;refine Jj 13 14 15 16 hS ?_;refine Jj 17 18 19 20 hS ?_;refine JX 21 22 hS ?_;refine bH 23 hS ?_;refine Ymj ?_;rw[add_lit];refine Ymm ?_
      ((with_reducible apply Ji);exact rfl;(conv=>lhs;whnf);exact rfl;exact p4;exact rfl)
      intro z8 kb aM fL;have hS:=hS.trans aM (fun x hx=>.inl hx);refine ui ?_;refine JK a6 ⟨?_,hS⟩;exact tB.JlD kb aM
     |false=>
      rw[wF]at p4;refine Jj 5 6 7 8 hS ?_;refine Kz 9 hS ?_ (aw:=by(intro u hu;exact(J7 rfl (aG.cell (hp.tr hu (nd _ ab)) rfl))));refine Kz 10 hS ?_ (aw:=by(intro u hu;exact(Kv rfl (Cells.VO (ez.tr hu (nd _ ab))) fD)));refine Kz 11 hS ?_ (aw:=by(intro u hu;refine(JfH (P:=prog) (t:=122) (a:=x) (c:=c) ?_ ?_ (dJ.tr hu (nd _ ab)) hgm);exact rfl;exact rfl));by_cases po:c=0
      . (apply V4 (i:=12);exact rfl;exact rfl;kernel_rfl;kernel_rfl;kernel_rfl;(intro u hu;exact(Zd rfl rfl (SN ab)));exact hS)
        refine Jj 13 14 15 16 hS ?_;refine Jj 17 18 19 20 hS ?_;refine JX 21 22 hS ?_;refine bH 23 hS ?_;refine Ymj ?_;rw[add_lit];refine Ymm ?_
        ((with_reducible apply Ji);exact rfl;(conv=>lhs;whnf);exact rfl;exact p4;exact rfl)
        intro z8 kb aM fL;have hS:=hS.trans aM (fun x hx=>.inl hx);refine ui ?_;refine JK a6 ⟨?_,hS⟩;have:=tB.JlD kb aM
        rwa [show okB last (x,c)=false by unfold okB;rw[SG (by simpa using po)];rfl]
      refine Kz 12 hS ?_ (aw:=by(intro u hu;exact(Zd rfl rfl (SG ab))));refine JX 13 14 hS ?_;refine bH 15 hS ?_;cases last with
      |none=>
       have hl0:l.length=0:=by rw[pR.1 rfl];rfl
       refine Kz 16 hS ?_ (aw:=by(intro u hu;exact(Z8 rfl rfl (SG ab))));refine Jj 17 18 19 20 hS ?_;refine JX 21 22 hS ?_;refine bH 23 hS ?_;refine Ymj ?_;rw[add_lit];refine Ymm ?_
       ((with_reducible apply Ji);exact rfl;(conv=>lhs;whnf);exact rfl;exact p4;exact rfl)
       intro z8 kb aM fL;have hS:=hS.trans aM (fun x hx=>.inl hx);refine ui ?_;refine JK a6 ⟨?_,hS⟩;have:=tB.JlD kb aM
       rwa [show okB none (x,c)=true by unfold okB;rw[SN (by simpa using po)];rfl]
      |some y=>
       have hl0:0<l.length:=by
        cases l with
        |nil=>exact absurd (pR.2 rfl) ap
        |cons _ _=>simp
       refine Kz 16 hS ?_ (aw:=by(intro u hu;exact(Z8 rfl rfl (SN ab))));refine bH 17 hS ?_;refine Kz 18 hS ?_ (aw:=by(intro u hu;exact(Kv rfl (Cells.VO (h7.tr hu (nd _ ab))) fD)));refine Kz 19 hS ?_ (aw:=by(intro u hu;exact(Kv rfl (Cells.VO (ez.tr hu (nd _ ab))) fD)));refine JJ (i:=20) rfl az ?_;refine rx ?_;refine Jg (Jgw y.1 x z7) ?_;rintro z9 aW;have hS:=hS.Jb aW;have p4:=p4.tr0 aW;have tB:=tB.tr0 aW;refine ft ?_;refine Kz 21 hS ?_ (aw:=by(intro u hu;exact(Z9 rfl rfl rfl)));refine JX 22 23 hS ?_;refine Ymj ?_;rw[add_lit];refine Ymm ?_
       ((with_reducible apply Ji);exact rfl;(conv=>lhs;whnf);exact rfl;exact p4;exact rfl)
       intro z8 kb aM fL;have hS:=hS.trans aM (fun x hx=>.inl hx);refine ui ?_;refine JK a6 ⟨?_,hS⟩;have:=tB.JlD kb aM
       rwa [show(!okB (some y) (x,c))=decide (Qe y.1 x≥0) by unfold okB kT eO;rw[SN (by simpa using po)];by_cases h:Qe y.1 x<0<;>simp[h]<;>omega]
   rintro g3 z8 ⟨hI,aM⟩;have hp:=hp.tr aM (nd _ ab);have ho:=ho.tr aM (fun x hx=>nd _ (fun e=>by have:=(oM x hx).1;omega));have dJ:=dJ.tr aM (nd _ ab);have dW:=dW.tr aM (nd _ ab);have h7:=h7.tr aM (nd _ ab);have ez:=ez.tr aM (nd _ ab);have hF:=hF.trans aM (fun x hx=>.inl Ymw);have idN:qn.bs.length<=b.length:=by
    have h1:=(wc q yT);rw[<-yX]at h1;have h2:=(ny rn qx h1.bys).len;rw[<-vQ]at h2;omega
   refine rx ?_;refine Jd (cs:=dH x) rfl rfl h7 (QD _) rfl rfl (fun z9 h7 aW ju=>?_);have rL:∀y:Nat,y≠b7->y∉[b7]:=fun y h=>by simpa using h
   have hI:=hI.tr aW (rL _ ab) (rL _ ab) (rL _ ab);have hp:=hp.tr aW (rL _ ab);have ho:=ho.tr aW (fun x hx=>rL _ (fun e=>ibe.2.2.2 (e▸hx)));have dJ:=dJ.tr aW (rL _ ab);have dW:=dW.tr aW (rL _ ab);have hF:=hF.trans aW (fun x hx=>.inr bt);refine rx ?_;refine Jc (k,⟨qn.bs,qn.e,qn.bad|| !okB last (x,c)⟩,l++[(x,c)],some (x,c),VJ mb x (c:Int)) a6 ?_ eM;refine⟨?_,?_,⟨⟨v5,hI⟩,idN⟩,ho,hp,dJ,fun hb=>?_,by simp,h7,dW,hF,?_,iD⟩
   .show Value.int _ _=Value.int _ _
    congr 1
    simp
   .simp only[Sm,SI,SY];omega
   .simp only[Cc,Oi]at hb;obtain⟨h1,h2⟩:=JlM.1 hb.2;have h3:=uT.next Qu (x:=(x,c)) (fun y hy=>h2 y hy);refine⟨(ti.put (n:=c) h1).congr (fun y=>?_),h3.1⟩;simp only;rw[Jay (getM_none.2 h3.2)]
    split<;>rfl
   .simp only;rw[List.append_assoc];exact jY
 rintro g4 lF ⟨v10,mb,hI,ho,hp,dJ,ti,dW,hF⟩;have lg:(d3 b).2.bs.length<=b.length/\fT (d3 b).2.bs:=by
  rw[AI];have h2:=Jl6 (ok:=okB) (Jmn rn) n2 none _ yW.2;exact⟨CG h2.len yW.1,h2.bys⟩
 clear AI yW xw h7;have Rv:=hp.lt;have vW:=dJ.lt;have vZ:=dW.lt;have pM:=ho.lt;have ieS:=hF.size;obtain⟨R,hR⟩:=aP ((d3 b).1);obtain⟨qd,hqd⟩:=aP ((d3 b).2);rw[<-hR,<-hqd]at ti;rw[<-hqd]at hI lg;rw[<-hR];have ik:=hI.1;refine rx ?_;refine Jm (l:=[zT,zI,zI,zT,zI,zI]) rfl (fun qA xH iga jH aB eQ=>?_);have hI:=hI.tr0 aB;have hp:=hp.tr0 aB;have ho:=ho.tr0 aB;have dJ:=dJ.tr0 aB;have dW:=dW.tr0 aB;have hF:=hF.Jb aB;have ik:=hI.1;clear aB;refine rx ?_;refine Jg (R0 hI b.length) ?_;rintro zW ⟨v12,hI,aK⟩;have n11:xH∉[d,r]:=by simp;omega
 have hp:=hp.tr aK np;have ho:=ho.tr aK R3;have dJ:=dJ.tr aK nb;have dW:=dW.tr aK wD;have jH:=jH.tr aK n11;have hF:=hF.trans aK (fun x hx=>.inl hx);have hn3:=Pw b.length qd;have hD4:d4 b=kf yJ (qD R) (fo b.length qd).1 none (fo b.length qd).2:=by
  unfold d4 wg;rw[<-hqd,<-hR]
 have ibf:(fo b.length qd).2.bad=false->qd.bad=false:=JmO;obtain⟨n3,ibg⟩:=aP ((fo b.length qd).1);obtain⟨qe,nJ⟩:=aP ((fo b.length qd).2);have idO:qe.bs.length<=b.length:=by
  have:=ny b.length qd lg.2;rw[<-nJ]at this;exact CG this.len lg.1
 rw[<-nJ]at hI hD4 ibf;rw[<-ibg]at hn3 hD4 ⊢;clear ik aK ibg nJ lg;have ieT:w.heap.size<=xH:=by omega
 have ibh:xH≠p/\xH≠bb/\xH≠pb/\xH∉ag (Value.slice iZ lc.length cc):=⟨by omega,by omega,by omega,fun hm=>by have:=pM _ hm;omega⟩;replace jH:aG zW xH (fK ((none:Option Pr).getD (⟨aA [],0,0⟩,⟨aA [],0,0⟩))) 128:=jH;refine oG ?_;refine KZ 15 [12,14] (fun g z=>∃v mp,iX z d r B v b.length (d4 b).2/\bx z 3 1 (.slice iZ lc.length cc) lc.length (Vk lc)/\aG z p [.string nm,zI,zS,iV (rn:Nat),iV (a0:Nat),iV (a1:Nat),iV (a2:Nat),(.slice iZ lc.length cc),.map (some bb),.map (some pb)] 125/\Mp gg (Value.int .i64) z bb mb/\((d4 b).2.bad=false->qd.bad=false)/\Mp iC Value.bool z pb mp/\BJ mp (· ∈(d4 b).1)/\Fr [d,r] w z) ?_ ?_
 .refine rx ?_;refine Jh 15 [12,14] (σ:=Nat×DS×List Pr×Option Pr×List (Pr×Bool)) (fun t g z=>g 12=iV (t.2.2.1.length:Nat)/\t.2.2.1.length+t.1=n3/\((∃v,iX z d r B v b.length t.2.1)/\t.2.1.bs.length<=b.length)/\bx z 3 1 (.slice iZ lc.length cc) lc.length (Vk lc)/\aG z p [.string nm,zI,zS,iV (rn:Nat),iV (a0:Nat),iV (a1:Nat),iV (a2:Nat),(.slice iZ lc.length cc),.map (some bb),.map (some pb)] 125/\Mp gg (Value.int .i64) z bb mb/\(t.2.1.bad=false->qd.bad=false)/\(t.2.2.2.1=none↔t.2.2.1=[])/\aG z xH (fK (t.2.2.2.1.getD (⟨aA [],0,0⟩,⟨aA [],0,0⟩))) 128/\Mp iC Value.bool z pb t.2.2.2.2/\BJ t.2.2.2.2 (· ∈t.2.2.1)/\Fr [d,r] w z/\
   t.2.2.1++(kf yJ (qD R) t.1 t.2.2.2.1 t.2.1).1=(d4 b).1/\(kf yJ (qD R) t.1 t.2.2.2.1 t.2.1).2=(d4 b).2) (fun t=>t.1) (n3,qe,[],none,[]) ⟨rfl,by simp,⟨⟨v12,hI⟩,idO⟩,ho,hp,dJ,ibf,by simp,jH,dW,BJ.nil.congr ap,hF,by rw[hD4];rfl,by rw[hD4]⟩ ?_
  clear hI hp dJ dW hF ho jH;rintro⟨k,q,l,last,mp⟩ g z ⟨g12,hk,⟨⟨v,hI⟩,pn⟩,ho,hp,dJ,dx,pR,jH,dW,xu,hF,jY,iD⟩;simp only at g12 hk hI pn dx pR jH dW xu jY iD;rw[Ja g12];have ik:=hI.1;have fA:=hF.size;by_cases j7:k=0
  .subst j7;simp only[kf,Ce]at jY iD;refine rx ?_;exact JK a6 ⟨v,mp,iD▸hI,ho,hp,dJ,(fun hb=>dx (iD▸hb)),dW,by rw[<-jY];exact xu,hF⟩
  cases hq:q.bad with
  |true=>
   rw[Jme hq]at jY iD;simp only[Ce]at jY iD;rw[hq]at ik;refine rx ?_;exact JK a6 ⟨v,mp,iD▸hI,ho,hp,dJ,(fun hb=>dx (iD▸hb)),dW,by rw[<-jY];exact xu,hF⟩
  |false=>
   rw[hq]at ik;have ibi:=ti (dx hq);obtain⟨k,rfl⟩:∃j,k=j+1:=⟨k-1,by omega⟩;rw[Jmv hq]at jY iD;have yT:=hI.bys;refine rx ?_;refine Jg (Jnt hI ab) ?_;rintro z1 ⟨v1,hI,aj⟩;obtain⟨x,hx⟩:=aP ((oy q).1);obtain⟨qx,yX⟩:=aP ((oy q).2);have hxk:=wc q yT;rw[<-yX]at hI hxk;rw[<-hx];refine rx ?_;refine Jg (Jnt hI (by have:=hxk.len;omega)) ?_;rintro z2 ⟨v2,hI,aq⟩;obtain⟨y,hy⟩:=aP ((oy qx).1);obtain⟨qn,vQ⟩:=aP ((oy qx).2);have hnk:=hxk.trans (wc qx hxk.bys);have wF:qn.bad=false:=by rw[vQ];show qx.bad=false;rw[yX];exact hq
   have idP:yJ q=((x,y),qn):=by rw[hx,hy,vQ,yX];rfl
   rw[idP]at jY iD;rw[<-vQ]at hI hnk;rw[<-hy];refine rx ?_;refine JmD (fK (x,y)) rfl ?_;refine rx ?_;refine Jm (l:=[zT,zI,zI,zT,zI,zI]) rfl (fun z3 b14 idQ js aF dO=>?_);refine rx ?_;refine Jd (cs:=fK (x,y)) rfl rfl js (Wu _) rfl rfl (fun z4 js aI eA=>?_);replace js:aG z4 b14 [.string x.decl,iV x.at_,iV x.arm,.string y.decl,iV y.at_,iV y.arm] _:=js;have gm:Fr [] z2 z4:=aF.trans aI (fun x hx=>.inr bt);have hT2:Fr [d,r] z z2:=aj.trans aq (fun x hx=>.inl hx);have hT:Fr [d,r] z z4:=hT2.Jb gm;have ieU:z.heap.size<=b14:=by rw[idQ];exact hT2.size
   have pj:=hp.lt;have oD:=dJ.lt;have idM:=dW.lt;have wm:=ho.lt;have igb:=jH.lt;have hI:=hI.tr0 gm;have hp:=hp.tr hT np;have ho:=ho.tr hT R3;have dJ:=dJ.tr hT nb;have dW:=dW.tr hT wD;have jH:=jH.tr hT n11;have hF:=hF.trans hT (fun x hx=>.inl hx);have idR:=hF.size;clear aj aq aF aI hT hT2 gm;have nd:∀y:Nat,y≠d->y∉[d]:=fun y h=>by simpa using h
   have ik:=hI.1;rw[wF]at ik;refine rx ?_;refine KZ 15 [] (fun g y'=>iX y' d r B v2 b.length ⟨qn.bs,qn.e,qn.bad|| !qD R last (x,y)⟩/\Fr [d] z4 y') ?_ ?_
   .rw [wF,Ih];refine JE (fun y'=>Fr [d] z4 y') az rfl ?_;obtain⟨z7,hz7⟩:=aP z4.drew;rw[<-hz7];have rh:Fr [] z4 z7:=hz7▸Fr.drew _ _;have hS:Fr [d] z4 z7:=rh.mono ap;have p4:=ik.tr0 rh;have tB:=hI.tr0 rh;refine Jj 0 1 2 3 hS ?_;refine zw ?_;refine VH rfl p4 rfl ?_;refine ft ?_;refine Jj 5 6 7 8 hS ?_;refine Kz 9 hS ?_ (aw:=by(intro u hu;exact(J7 rfl (aG.cell (hp.tr hu (nd _ ab)) rfl))));refine Kz 10 hS ?_ (aw:=by(intro u hu;exact(QV (j:=0) rfl rfl bU)));refine Kz 11 hS ?_ (aw:=by(intro u hu;exact(NM rfl (js.tr hu (nd _ ab)) fD)));refine Kz 12 hS ?_ (aw:=by(intro u hu;refine(Ax (P:=prog) (t:=122) (a:=x) ?_ ?_ (dJ.tr hu (nd _ ab)) ibi);exact rfl;exact rfl));by_cases po:(getM R x).getD 0=0
    . (apply V4 (i:=13);exact rfl;exact rfl;kernel_rfl;kernel_rfl;kernel_rfl;(intro u hu;exact(Zd rfl rfl (SN ab)));exact hS)
      refine Jj 14 15 16 17 hS ?_;refine Jj 18 19 20 21 hS ?_;refine Jj 22 23 24 25 hS ?_;refine Jj 26 27 28 29 hS ?_;refine Jj 30 31 32 33 hS ?_;refine bH 34 hS ?_;refine Ymi ?_;rw[add_lit];refine Yml ?_
      ((with_reducible apply Ji);exact rfl;(conv=>lhs;whnf);exact rfl;exact p4;exact rfl)
      intro z8 kb aM fL;have hS:=hS.trans aM (fun x hx=>.inl hx);refine ui ?_;refine JK a6 ⟨?_,hS⟩;have:=tB.JlD kb aM
      rwa [show qD R last (x,y)=false by unfold qD hasB;simp[po]]
    refine Kz 13 hS ?_ (aw:=by(intro u hu;exact(Zd rfl rfl (SG ab))));refine Jj 14 15 16 17 hS ?_;refine bH 18 hS ?_;refine Kz 19 hS ?_ (aw:=by(intro u hu;exact(J7 rfl (aG.cell (hp.tr hu (nd _ ab)) rfl))));refine Kz 20 hS ?_ (aw:=by(intro u hu;exact(QV (j:=1) rfl rfl bU)));refine Kz 21 hS ?_ (aw:=by(intro u hu;exact(NM rfl (js.tr hu (nd _ ab)) fD)));refine Kz 22 hS ?_ (aw:=by(intro u hu;refine(Ax (P:=prog) (t:=122) (a:=y) ?_ ?_ (dJ.tr hu (nd _ ab)) ibi);exact rfl;exact rfl));by_cases gI:(getM R y).getD 0=0
    . (apply V4 (i:=23);exact rfl;exact rfl;kernel_rfl;kernel_rfl;kernel_rfl;(intro u hu;exact(Zd rfl rfl (SN ab)));exact hS)
      refine Jj 24 25 26 27 hS ?_;refine Jj 28 29 30 31 hS ?_;refine JX 32 33 hS ?_;refine bH 34 hS ?_;refine Ymi ?_;rw[add_lit];refine Yml ?_
      ((with_reducible apply Ji);exact rfl;(conv=>lhs;whnf);exact rfl;exact p4;exact rfl)
      intro z8 kb aM fL;have hS:=hS.trans aM (fun x hx=>.inl hx);refine ui ?_;refine JK a6 ⟨?_,hS⟩;have:=tB.JlD kb aM
      rwa [show qD R last (x,y)=false by unfold qD hasB;simp[gI]]
    refine Kz 23 hS ?_ (aw:=by(intro u hu;exact(Zd rfl rfl (SG ab))));refine JX 24 25 hS ?_;refine bH 26 hS ?_;cases last with
    |none=>
     have hl0:l.length=0:=by rw[pR.1 rfl];rfl
     refine Kz 27 hS ?_ (aw:=by(intro u hu;exact(Z8 rfl rfl (SG ab))));refine Jj 28 29 30 31 hS ?_;refine JX 32 33 hS ?_;refine bH 34 hS ?_;refine Ymi ?_;rw[add_lit];refine Yml ?_
     ((with_reducible apply Ji);exact rfl;(conv=>lhs;whnf);exact rfl;exact p4;exact rfl)
     intro z8 kb aM fL;have hS:=hS.trans aM (fun x hx=>.inl hx);refine ui ?_;refine JK a6 ⟨?_,hS⟩;have:=tB.JlD kb aM
     rwa [show qD R none (x,y)=true by unfold qD hasB kT;simp[po,gI]]
    |some w'=>
     have hl0:0<l.length:=by
      cases l with
      |nil=>exact absurd (pR.2 rfl) ap
      |cons _ _=>simp
     refine Kz 27 hS ?_ (aw:=by(intro u hu;exact(Z8 rfl rfl (SN ab))));refine bH 28 hS ?_;refine Kz 29 hS ?_ (aw:=by(intro u hu;exact(Kv rfl (Cells.VO (jH.tr hu (nd _ ab))) fD)));refine Kz 30 hS ?_ (aw:=by(intro u hu;exact(Kv rfl (Cells.VO (js.tr hu (nd _ ab))) fD)));refine JJ (i:=31) rfl az ?_;refine rx ?_;refine Jg (Jjl w' (x,y) z7) ?_;rintro z9 aW;have hS:=hS.Jb aW;have p4:=p4.tr0 aW;have tB:=tB.tr0 aW;refine ft ?_;refine Kz 32 hS ?_ (aw:=by(intro u hu;exact(Z9 rfl rfl rfl)));refine JX 33 34 hS ?_;refine Ymi ?_;rw[add_lit];refine Yml ?_
     ((with_reducible apply Ji);exact rfl;(conv=>lhs;whnf);exact rfl;exact p4;exact rfl)
     intro z8 kb aM fL;have hS:=hS.trans aM (fun x hx=>.inl hx);refine ui ?_;refine JK a6 ⟨?_,hS⟩;have:=tB.JlD kb aM
     rwa [show(!qD R (some w') (x,y))=decide (XB w' (x,y)≥0) by unfold qD hasB kT eC;by_cases h:XB w' (x,y)<0<;>simp[h,po,gI]<;>omega]
   rintro g3 z8 ⟨hI,aM⟩;have hp:=hp.tr aM (nd _ ab);have ho:=ho.tr aM (fun x hx=>nd _ (fun e=>by have:=(oM x hx).1;omega));have dJ:=dJ.tr aM (nd _ ab);have dW:=dW.tr aM (nd _ ab);have jH:=jH.tr aM (nd _ ab);have js:=js.tr aM (nd _ ab);have hF:=hF.trans aM (fun x hx=>.inl Ymw);have xI:∀y:Nat,y≠pb->y∉[pb]:=fun y h=>by simpa using h
   refine rx ?_;refine JE (fun y'=>Fr [pb] z8 y') az rfl ?_;obtain⟨z9,hz9⟩:=aP z8.drew;rw[<-hz9];have PN:Fr [] z8 z9:=hz9▸Fr.drew _ _;have hS:Fr [pb] z8 z9:=PN.mono ap;refine JX 0 1 hS ?_;refine bH 2 hS ?_;refine Kw 3 hS ?_ (aw:=by(intro u hu;exact(J7 rfl (aG.cell (hp.tr hu (xI _ ab)) rfl))));refine Kw 4 hS ?_ (aw:=by(intro u hu;exact(Kv rfl (Cells.VO (js.tr hu (xI _ ab))) fD)));refine zD ?_;refine BX (key:=iC) (val:=Value.bool) (a:=(x,y)) (v:=true) (dW.tr0 PN) rfl rfl rfl (fun tC dW aD eF=>?_);have hS:=hS.trans aD (fun x hx=>.inl hx);refine ui ?_;have hI:=hI.tr hS (xI _ ab) (xI _ ab) (xI _ ab);have hp:=hp.tr hS (xI _ ab);have ho:=ho.tr hS (fun x hx=>xI _ (oM x hx).2.2.2);have dJ:=dJ.tr hS (xI _ ab);have jH:=jH.tr hS (xI _ ab);have js:=js.tr hS (xI _ ab);have hF:=hF.trans hS (fun x hx=>.inr bt);refine rx ?_;refine Jd (cs:=fK (x,y)) rfl rfl jH (Wu _) rfl rfl (fun tD jH aB eQ=>?_);have rL:∀y:Nat,y≠xH->y∉[xH]:=fun y h=>by simpa using h
   have hI:=hI.tr aB (rL _ ab) (rL _ ab) (rL _ ab);have hp:=hp.tr aB (rL _ ab);have ho:=ho.tr aB (fun x hx=>rL _ (fun e=>ibh.2.2.2 (e▸hx)));have dJ:=dJ.tr aB (rL _ ab);have dW:=dW.tr aB (rL _ ab);have hF:=hF.trans aB (fun x hx=>.inr bt);refine rx ?_;refine Jc (k,⟨qn.bs,qn.e,qn.bad|| !qD R last (x,y)⟩,l++[(x,y)],some (x,y),VJ mp (x,y) true) a6 ?_ eM;refine⟨?_,?_,⟨⟨v2,hI⟩,CG hnk.len pn⟩,ho,hp,dJ,fun _=>dx hq,by simp,jH,dW,xu.put.congr (fun b=>by simp[or_comm]),hF,?_,iD⟩
   .show Value.int _ _=Value.int _ _
    congr 1
    simp
   .simp only[Sm,SI,SY];omega
   .simp only;rw[List.append_assoc];exact jY
 rintro g5 u13 ⟨v13,mp,hI,ho,hp,dJ,dx,dW,xu,hF⟩;refine bM ?_;refine⟨p,bb,pb,.slice iZ lc.length cc,v13,rfl,hI,hF,hwp.1,hwp.2.1,hwp.2.2,fun x hx=>(oM x hx).1,nd3 nbb.1.symm nbb.2.1.symm nbb.2.2 (fun hm=>(oM _ hm).2.1 rfl) (fun hm=>(oM _ hm).2.2.1 rfl) (fun hm=>(oM _ hm).2.2.2 rfl),by rw[hHf];exact hp,ho,fun hb=>⟨⟨mb,dJ,ti (dx hb)⟩,mp,dW,xu⟩⟩
end Go.Proofs.YtggmccicdhnkgaaGreat
