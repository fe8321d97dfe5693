/-
 Package cover's decoder.
-/
import Derived.Test.YtggmccicdhnkgaaGreatWJd
import Derived.Test.YtggmccicdhnkgaaGreatWJc
import Derived.Test.YtggmccicdhnkgaaGreatWQf
set_option linter.all false
set_option maxHeartbeats 64000000
namespace Go.Rf
open Go.RowKit
end Go.Rf
namespace Go.Proofs.YtggmccicdhnkgaaGreat
open Go.Proofs.Tryz
open Go.Rf Go.RowKit
variable{m:Int}{T:List Nat}{B d k:Nat}{α:Type}{u u':World}
theorem Jm9{el:DS->α×DS}{q:DS}(h:q.bad=true):∀k,dGo el k q=([],q)
 |0=>rfl
 |k+1=>by rw[dGo,Cb h]
theorem Jnr{el:DS->α×DS}{q:DS}(h:q.bad=false):dGo el (k+1) q=((el q).1::(dGo el k (el q).2).1,(dGo el k (el q).2).2):=by rw[dGo,SH Ynn]
theorem Jme{el:DS->α×DS}{ok:Option α->α->Bool}{last:Option α}{q:DS}(h:q.bad=true):∀k,JlA el ok k last q=([],q)
 |0=>rfl
 |k+1=>by rw[JlA,Cb h]
theorem Jmv{el:DS->α×DS}{ok:Option α->α->Bool}{last:Option α}{q:DS}(h:q.bad=false):JlA el ok (k+1) last q=((el q).1::(JlA el ok k (some (el q).1) ⟨(el q).2.bs,(el q).2.e,(el q).2.bad|| !ok last (el q).1⟩).1,(JlA el ok k (some (el q).1) ⟨(el q).2.bs,(el q).2.e,(el q).2.bad|| !ok last (el q).1⟩).2):=by rw[JlA,SH Ynn]
def JlW{α β:Type}(lt:β->β->Bool)(g:α->β)(l:List α)(last:Option α):Prop:=Asc lt (l.map g)/\(last=none->l=[])/\∀y,last=some y->∀z∈l,z=y\/lt (g z) (g y)=true
theorem JlW.next{β:Type}{lt:β->β->Bool}(T:Tot lt){g:α->β}{l:List α}{last:Option α}{x:α}(h:JlW lt g l last)(hx:∀y,last=some y->lt (g y) (g x)=true):JlW lt g (l++[x]) (some x)/\g x∉l.map g:=by
 obtain⟨h1,h2,h3⟩:=h;have hall:∀z∈l,lt (g z) (g x)=true:=fun z hz=>by
  cases hl:last with
  |none=>rw[h2 hl]at hz;cases hz
  |some y=>
   rcases h3 y hl z hz with rfl|h
   .exact hx _ hl
   .exact T.tr h (hx y hl)
 refine⟨⟨?_,(fun h=>by cases h),fun y hy z hz=>?_⟩,fun hm=>?_⟩
 .simp only[Asc,Dp,DL,Ec];refine List.pairwise_append.2 ⟨h1,by simp,fun a ha b hb=>?_⟩;obtain⟨z,hz,rfl⟩:=Du.1 ha;rw[Sv.1 hb];exact hall z hz
 .cases hy
  rcases SE.1 hz with hz|hz
  .exact .inr (hall z hz)
  .exact .inl (Sv.1 hz)
 .obtain ⟨z,hz,e⟩:=Du.1 hm;have:=hall z hz;rw[e,T.irr]at this;cases this
theorem JmO{m:Nat}{s:DS}(h:(Jlx m s).2.bad=false):s.bad=false:=by
 unfold Jlx at h
 split at h
 .cases h
 .exact h
theorem nd3{p bb pb:Nat}{v:Value}(h1:p≠bb)(h2:p≠pb)(h3:bb≠pb)(k1:p∉blks v)(k2:bb∉blks v)(k3:pb∉blks v):([p,bb,pb]++blks v).Nodup:=by
 have:(blks v).Nodup:=by
  unfold blks;cases v.ownBlock<;>simp
 simp_all
theorem JlE{a b:List Value}{j:Nat}{x:Value}(h:a[j]?=some x):(a++b)[j]?=some x:=by
 rw[Ej (by
  obtain⟨hj,_⟩:=Df.1 h;exact hj)]
 exact h
def IsC(w:World)(d r B:Nat)(v:Value)(m:Int)(s:DS):Prop:=Blk w d [.pointer (some ⟨r,0,none⟩),iV m,.bool s.bad] 154/\IsR w r v s.bs s.e/\(∀ad n c,v=.slice (some ad) n c->ad.block=B)/\d≠B/\B<w.heap.size
theorem JnB{v:Value}(h:∀ad n c,v=.slice (some ad) n c->ad.block=B){ys:List Value}(hB:B∉T):Off v ys T:=fun ad n c e _=>by rw[h ad n c e];exact hB
theorem IsC.tr{r:Nat}{v:Value}{s:DS}(h:IsC u d r B v m s)(hf:Fr T u u')(hd:d∉T)(hr:r∉T)(hB:B∉T):IsC u' d r B v m s:=
 ⟨h.1.tr hf hd,⟨h.2.1.1.tr hf hr,h.2.1.2.1.tr hf (JnB h.2.2.1 hB),h.2.1.2.2.1,h.2.1.2.2.2⟩,h.2.2.1,h.2.2.2.1,SV h.2.2.2.2 hf.size⟩
theorem IsC.tr0{r:Nat}{v:Value}{s:DS}(h:IsC u d r B v m s)(hf:Fr [] u u'):IsC u' d r B v m s:=h.tr hf Yhs Yhs Yhs
theorem IsC.ne{r:Nat}{v:Value}{s:DS}(h:IsC u d r B v m s):d≠r:=h.1.ne h.2.1.1 Yhy
theorem IsC.Jnf{r:Nat}{v:Value}{s:DS}{bs':List Int}{e':Int}(h:IsC u d r B v m s)(hs:JgK r u v bs' e' u'):∃v',IsC u' d r B v' m ⟨bs',e',s.bad⟩/\Fr [d,r] u u':=by
 obtain⟨v',h1,h2,h3⟩:=hs;refine⟨v',⟨h.1.tr h2 (by simp[h.ne]),h1,fun ad n c e=>?_,h.2.2.2.1,SV h.2.2.2.2 h2.size⟩,h2.mono (fun b hb=>.inl (by simp at hb;simp[hb]))⟩;obtain⟨ad0,n0,c0,e0,eb⟩:=h3 ad n c e;rw[eb];exact h.2.2.1 ad0 n0 c0 e0
theorem IsC.JlD{r:Nat}{v:Value}{s:DS}{b:Bool}(h:IsC u d r B v m s)(hb:Blk u' d [.pointer (some ⟨r,0,none⟩),iV m,.bool b] 154)(hf:Fr [d] u u'):IsC u' d r B v m ⟨s.bs,s.e,b⟩:=
 ⟨hb,⟨h.2.1.1.tr hf (by simp[I7 h.ne]),h.2.1.2.1.tr hf (JnB h.2.2.1 (by simp[I7 h.2.2.2.1])),h.2.1.2.2.1,h.2.1.2.2.2⟩,h.2.2.1,h.2.2.2.1,SV h.2.2.2.2 hf.size⟩
theorem IsC.bys{r:Nat}{v:Value}{s:DS}(h:IsC u d r B v m s):Bys s.bs:=h.2.1.2.2.2
theorem Jns{r:Nat}{v:Value}{s:DS}(h:IsC u d r B v m s):
 Calls prog 34 #[.pointer (some ⟨r,0,none⟩)] u fun e u'=>e=.returned (iV (dI s).1)/\∃v',IsC u' d r B v' m (dI s).2/\Fr [d,r] u u':=
 (JnF r v s.bs s.e u h.2.1).mono fun e u' ⟨h1,h2⟩=>⟨h1,h.Jnf h2⟩
theorem Jni{r:Nat}{v:Value}{s:DS}(h:IsC u d r B v m s)(hl:s.bs.length<=1000000000000):
 Calls prog 33 #[.pointer (some ⟨r,0,none⟩)] u fun e u'=>e=.returned (.string (dT s).1)/\∃v',IsC u' d r B v' m (dT s).2/\Fr [d,r] u u':=
 (Jnz r v s.bs s.e u h.2.1 hl).mono fun e u' ⟨h1,h2⟩=>⟨h1,h.Jnf h2⟩
attribute [local irreducible] Code.wp wpList Exit.then Exit.inBlock bodyPost A Calls execOp Addr.add
theorem Jmj{r:Nat}{v:Value}{s:DS}(h:IsC u d r B v m s)(M:Nat):
 Calls prog 110 #[.pointer (some ⟨d,0,none⟩),iV (M:Nat)] u fun e u'=>e=.returned (iV ((Jlx M s).1:Nat))/\∃v',IsC u' d r B v' m (Jlx M s).2/\Fr [d,r] u u':=by
 have hd:=h.1;refine enter func110 rfl ntmps110 rfl ?_;refine rx ?_;refine Jg (Jns h) ?_;rintro u1 ⟨v1,h1,hf1⟩;have hd1:=h1.1;unfold Jlx;obtain⟨n,hn⟩:=exq ((dI s).1);obtain⟨s1,hs1⟩:=exq ((dI s).2);rw[<-hs1]at h1 hd1;rw[<-hn,<-hs1];by_cases c:n<0\/(M:Int)<n
 .rw [Cb c];by_cases c1:n<0
  all_goals
   refine rx ?_
   ((with_reducible apply Ji);exact rfl;(conv=>lhs;whnf);exact rfl;exact hd1;exact rfl)
   intro u2 hb2 hf2 hs2;refine Yeo ?_;exact⟨rfl,v1,h1.JlD hb2 hf2,hf1.trans hf2 (fun x hx=>.inl Yno)⟩
 .rw [SH c];have hn0:((n.toNat:Nat):Int)=n:=Et Yhn;refine Yeo ?_;exact⟨by rw[hn0],v1,h1,hf1⟩
theorem Jnt{r:Nat}{v:Value}{s:DS}(h:IsC u d r B v m s)(hl:s.bs.length<=1000000000000):
 Calls prog 111 #[.pointer (some ⟨d,0,none⟩)] u fun e u'=>e=.returned (.agg (brV (dBr s).1).toArray)/\∃v',IsC u' d r B v' m (dBr s).2/\Fr [d,r] u u':=by
 have hdl:=h.1.lt;have hrl:=h.2.1.1.lt;have hBl:=h.2.2.2.2;refine enter func111 rfl ntmps111 rfl ?_;refine rx ?_;refine Jm (l:=[zT,zI,zI]) rfl (fun u1 b2 hb2 h2 hf1 hs1=>?_);have h:=h.tr0 hf1;have hBb:B≠b2:=by omega
 refine rx ?_;refine Kr 16 (fun z=>True/\Blk z d [.pointer (some ⟨r,0,none⟩),iV m,.bool s.bad] 154) Yhp rfl ?_;obtain⟨u2,hu2⟩:=exq u1.drew;rw[<-hu2];have hd2:Fr [] u1 u2:=hu2▸Fr.drew _ _;have h:=h.tr0 hd2;have h2:=h2.tr0 hd2;have hF:=hf1.Jb hd2;have hS:True/\Blk u2 d [.pointer (some ⟨r,0,none⟩),iV m,.bool s.bad] 154:=⟨trivial,h.1⟩
 ((refine Jp 0 hS ?_);(refine Jp 1 hS ?_);(refine Jp 2 hS ?_);(refine Jp 3 hS ?_))
 ((refine Jp 5 hS ?_);(refine Jp 6 hS ?_);(refine Jp 7 hS ?_);(refine Jp 8 hS ?_))
 ((refine Jp 10 hS ?_);(refine Jp 11 hS ?_);(refine Jp 12 hS ?_);(refine Jp 13 hS ?_))
 have nb:b2∉[d,r]:=by simp;omega
 refine KH (i:=4) rfl Yhp ?_;refine Jg (Jni h hl) ?_;rintro u3 ⟨v3,h3,hf3⟩;have hS3:True/\Blk u3 d [.pointer (some ⟨r,0,none⟩),iV m,.bool s.bad] 154:=⟨trivial,h3.1⟩;refine wpList_nil (Xz hS3 ?_);refine KH (i:=9) rfl Yhp ?_;refine Jg (Jns h3) ?_;rintro u4 ⟨v4,h4,hf4⟩;have hS4:True/\Blk u4 d [.pointer (some ⟨r,0,none⟩),iV m,.bool s.bad] 154:=⟨trivial,h4.1⟩;refine wpList_nil (Xz hS4 ?_);refine KH (i:=14) rfl Yhp ?_;refine Jg (Jns h4) ?_;rintro u5 ⟨v5,h5,hf5⟩;have hS5:True/\Blk u5 d [.pointer (some ⟨r,0,none⟩),iV m,.bool s.bad] 154:=⟨trivial,h5.1⟩;refine wpList_nil (Xz hS5 ?_);refine Jp (v:=.agg (([.string (dT s).1,iV (dI (dT s).2).1,iV (dI (dI (dT s).2).2).1])).toArray) 15 hS5 ?_ (hrun:=(by(intro u hu;exact QU (([.string (dT s).1,iV (dI (dT s).2).1,iV (dI (dI (dT s).2).2).1])) Yik)));refine KH (i:=16) rfl Yhp ?_;have hF25:Fr [d,r] u2 u5:=(hf3.trans hf4 (fun x hx=>.inl hx)).trans hf5 (fun x hx=>.inl hx);refine Jd (cs:=[.string (dT s).1,iV (dI (dT s).2).1,iV (dI (dI (dT s).2).2).1]) rfl rfl (h2.tr hF25 nb) Yhu rfl rfl (fun u6 h6 hf6 hs6=>?_);refine Yeu ?_;refine rx ?_;refine Qc rfl rfl h6 rfl ⟨rfl,v5,h5.tr hf6 Yht Yht (by simp[hBb]),((hF.mono Yhs).trans hF25 (fun x hx=>.inl hx)).trans hf6 (fun x hx=>.inr Yhq)⟩
theorem JnH{w:World}{r:Nat}{v0:Value}{b:List Int}(h:IsC w d r B v0 b.length ⟨b,0,false⟩)(hL:b.length<=1000000000):
 Calls prog 75 #[.pointer (some ⟨d,0,none⟩)] w fun e w'=>∃p bb pb vc v,e=.returned (.pointer (some ⟨p,0,none⟩))/\IsC w' d r B v b.length (d4 b).2/\Fr [d,r] w w'/\w.heap.size<=p/\w.heap.size<=bb/\w.heap.size<=pb/\(∀x∈blks vc,w.heap.size<=x)/\([p,bb,pb]++blks vc).Nodup/\
  Blk w' p [.string (d1 b).1.prop,zI,zS,iV ((d1 b).1.runs:Nat),iV ((d1 b).1.o0:Nat),iV ((d1 b).1.o1:Nat),iV ((d1 b).1.o2:Nat),vc,.map (some bb),.map (some pb)] 125/\
  Own w' 3 1 vc (d2 b).1.length (Vk (d2 b).1)/\((d4 b).2.bad=false->(∃mb,Mp brK (Value.int .i64) w' bb mb/\RelB mb (fun x=>(getM (d3 b).1 x).getD 0))/\∃mp,Mp prK Value.bool w' pb mp/\BJ mp (· ∈(d4 b).1)):=by
 have hd:=h.1;have hdl:=h.1.lt;have hrl:=h.2.1.1.lt;have hBl:=h.2.2.2.2;refine enter func75 rfl ntmps75 rfl ?_;refine rx ?_;refine Jg (Jni h (by show b.length<=_;omega)) ?_;rintro w1 ⟨v1,h1,hf1⟩;obtain⟨nm,hnm⟩:=exq ((dT ⟨b,0,false⟩).1);obtain⟨q0,hq0⟩:=exq ((dT ⟨b,0,false⟩).2);have k0:=(Jmd ⟨b,0,false⟩ h.bys).len;rw[<-hq0]at h1 k0;rw[<-hnm];have hs1:=hf1.size;refine rx ?_;refine Kt (key:=brK) (val:=Value.int .i64) (fun w2 hMB hf2 hs2=>?_);obtain⟨bb,hbb⟩:=exq w1.heap.size;rw[<-hbb]at hMB ⊢;refine rx ?_;refine Kt (key:=prK) (val:=Value.bool) (fun w3 hMP hf3 hs3=>?_);obtain⟨pb,hpb⟩:=exq w2.heap.size;rw[<-hpb]at hMP ⊢;have hMB:=hMB.tr0 hf3;refine rx ?_;refine JF [.string nm,zI,zS,zI,zI,zI,zI,zS,.map (some bb),.map (some pb)] rfl ?_;refine Ju (l:=[.string nm,zI,zS,zI,zI,zI,zI,zS,.map (some bb),.map (some pb)]) rfl rfl (fun w4 p hpe hp hf4 hs4=>?_);have hMB:=hMB.tr0 hf4;have hMP:=hMP.tr0 hf4;have hf24:=(hf2.Jb hf3).Jb hf4;have h1:=h1.tr0 hf24;have hF:Fr [d,r] w w4:=hf1.Jb hf24;have nbb:bb≠p/\pb≠p/\bb≠pb:=by omega
 have np:p∉[d,r]:=by simp;omega
 have nb:bb∉[d,r]:=by simp;omega
 have npb:pb∉[d,r]:=by simp;omega
 have ndp:d∉[p]/\r∉[p]/\B∉[p]:=by simp;omega
 have hpl:p<w4.heap.size:=hp.lt;have hwp:w.heap.size<=p/\w.heap.size<=bb/\w.heap.size<=pb:=by omega
 clear hf1 hf2 hf3 hf4 hf24 hd;refine rx ?_;refine Jg (Jmj h1 JlC) ?_;rintro w5 ⟨v2,h2,hf5⟩;obtain⟨rn,hrn⟩:=exq ((Jlx JlC q0).1);obtain⟨q1,hq1⟩:=exq ((Jlx JlC q0).2);have k1:=(Jly JlC q0 h1.bys).len;have hrl':=JlI JlC q0;rw[<-hq1]at h2 k1;rw[<-hrn]at hrl' ⊢;have hp:=hp.tr hf5 np;have hMB:=hMB.tr hf5 nb;have hMP:=hMP.tr hf5 npb;refine rx ?_
 ((with_reducible apply Ji);exact rfl;(conv=>lhs;whnf);exact rfl;exact hp;exact rfl)
 intro w6 hp6 hf6 hs6;replace hp6:Blk w6 p [.string nm,zI,zS,iV (rn:Nat),zI,zI,zI,zS,.map (some bb),.map (some pb)] 125:=hp6;have h2:=h2.tr hf6 ndp.1 ndp.2.1 ndp.2.2;have hMB:=hMB.tr hf6 Yht;have hMP:=hMP.tr hf6 Yht;have hF:Fr [d,r] w w6:=(hF.trans hf5 (fun x hx=>.inl hx)).trans hf6 (fun x hx=>.inr Yhq);clear hp hf5 hf6;have e1:∀q,(Jlx rn q).1<=rn:=fun q=>JlI rn q
 obtain⟨a0,ha0⟩:=exq ((Jlx rn q1).1);obtain⟨q2,hq2⟩:=exq ((Jlx rn q1).2);obtain⟨a1,ha1⟩:=exq ((Jlx rn q2).1);obtain⟨q3,hq3⟩:=exq ((Jlx rn q2).2);obtain⟨a2,ha2⟩:=exq ((Jlx rn q3).1);obtain⟨q4,hq4⟩:=exq ((Jlx rn q3).2);have l0:a0<=rn:=ha0▸e1 q1;have l1:a1<=rn:=ha1▸e1 q2;have l2:a2<=rn:=ha2▸e1 q3;have hsp:rn<=1099511627776:=hrl';have hH:d1 b=(⟨nm,rn,a0,a1,a2⟩,⟨q4.bs,q4.e,q4.bad||decide (a0+a1+a2≠rn)⟩):=by
  subst hnm hq0 hrn hq1 ha0 hq2 ha1 hq3 ha2 hq4;rfl
 refine rx ?_;refine Jh 29 [4,5] (σ:=Nat) (fun i g u=>g 29=iV (i:Nat)/\i<=3/\g 4=iV ((if i=0 then 0 else if i=1 then a0 else if i=2 then a0+a1 else a0+a1+a2:Nat))/\(∃v,IsC u d r B v b.length (if i=0 then q1 else if i=1 then q2 else if i=2 then q3 else q4))/\
  Blk u p [.string nm,zI,zS,iV (rn:Nat),iV ((if 0<i then a0 else 0:Nat)),iV ((if 1<i then a1 else 0:Nat)),iV ((if 2<i then a2 else 0:Nat)),zS,.map (some bb),.map (some pb)] 125/\Mp brK (Value.int .i64) u bb []/\Mp prK Value.bool u pb []/\Fr [d,r] w u) (fun i=>3-i) 0 ⟨rfl,SL _,rfl,⟨v2,h2⟩,hp6,hMB,hMP,hF⟩ ?_
 clear h2 hp6 hMB hMP hF;rintro i g u ⟨g29,hi,g4,⟨v,hI⟩,hp,hMB,hMP,hF⟩;have hsu:=hF.size;by_cases hlt:i<3
 case pos=>
  rcases(show i=0\/i=1\/i=2 by omega)with rfl|rfl|rfl
  .replace hp:Blk u p [.string nm,zI,zS,iV (rn:Nat),iV ((0:Nat):Nat),iV ((0:Nat):Nat),iV ((0:Nat):Nat),zS,.map (some bb),.map (some pb)] 125:=hp;replace hI:IsC u d r B v b.length q1:=hI;replace g4:g 4=iV ((0:Nat)):=g4;rw[Ja g29,Ja g4];refine rx ?_;refine JE (fun z=>Cells z ⟨p,0,none⟩ [.string nm,zI,zS,iV (rn:Nat)]) Yhp rfl ?_;obtain⟨u1,hu1⟩:=exq u.drew;rw[<-hu1];have hd1:Fr [] u u1:=hu1▸Fr.drew _ _;have hF:=hF.Jb hd1;have hp:=hp.tr0 hd1;have hI:=hI.tr0 hd1;have hMB:=hMB.tr0 hd1;have hMP:=hMP.tr0 hd1;have hS:Cells u1 ⟨p,0,none⟩ [.string nm,zI,zS,iV (rn:Nat)]:=fun j x hx=>Cells.VO hp j x (JlE hx)
   refine Jj 0 1 2 3 hS ?_;refine JX 4 5 hS ?_;refine Kw 6 hS ?_ (hrun:=by(intro u hu;exact(J7 rfl Ynm)));refine Yna ?_;rintro u2 ⟨v',hI,hf2⟩;rw[<-hq2]at hI;rw[<-ha0];have hp:=hp.tr hf2 np;have hMB:=hMB.tr hf2 nb;have hMP:=hMP.tr hf2 npb;have hS:Cells u2 ⟨p,0,none⟩ [.string nm,zI,zS,iV (rn:Nat)]:=fun j x hx=>Cells.VO hp j x (JlE hx)
   refine Yfz ?_;refine Ylq ?_;refine ZH (j:=0) rfl rfl Yhy ?_;refine Ymz ?_
   ((with_reducible apply Ji);exact rfl;(conv=>lhs;whnf);exact rfl;exact hp;exact rfl)
   intro u3 hp3 hf3 hs3;have hS:Cells u3 ⟨p,0,none⟩ [.string nm,zI,zS,iV (rn:Nat)]:=fun j x hx=>Cells.VO hp3 j x (JlE hx)
   refine Yms ?_;replace hp3:Blk u3 p [.string nm,zI,zS,iV (rn:Nat),iV (a0:Nat),iV ((0:Nat):Nat),iV ((0:Nat):Nat),zS,.map (some bb),.map (some pb)] 125:=hp3;have hI:=hI.tr hf3 ndp.1 ndp.2.1 ndp.2.2;have hMB:=hMB.tr hf3 Yht;have hMP:=hMP.tr hf3 Yht;have hF3:Fr [d,r] w u3:=(hF.trans hf2 (fun x hx=>.inl hx)).trans hf3 (fun x hx=>.inr Yhq);refine rx ?_;refine ZH (j:=0) rfl rfl Yhy ?_;refine rx ?_;refine Jc 1 Yhl ?_ Yhy;exact Ymg
  .replace hp:Blk u p [.string nm,zI,zS,iV (rn:Nat),iV (a0:Nat),iV ((0:Nat):Nat),iV ((0:Nat):Nat),zS,.map (some bb),.map (some pb)] 125:=hp;replace hI:IsC u d r B v b.length q2:=hI;replace g4:g 4=iV (a0:Nat):=g4;rw[Ja g29,Ja g4];refine rx ?_;refine JE (fun z=>Cells z ⟨p,0,none⟩ [.string nm,zI,zS,iV (rn:Nat)]) Yhp rfl ?_;obtain⟨u1,hu1⟩:=exq u.drew;rw[<-hu1];have hd1:Fr [] u u1:=hu1▸Fr.drew _ _;have hF:=hF.Jb hd1;have hp:=hp.tr0 hd1;have hI:=hI.tr0 hd1;have hMB:=hMB.tr0 hd1;have hMP:=hMP.tr0 hd1;have hS:Cells u1 ⟨p,0,none⟩ [.string nm,zI,zS,iV (rn:Nat)]:=fun j x hx=>Cells.VO hp j x (JlE hx)
   refine Jj 0 1 2 3 hS ?_;refine JX 4 5 hS ?_;refine Kw 6 hS ?_ (hrun:=by(intro u hu;exact(J7 rfl Ynm)));refine Yna ?_;rintro u2 ⟨v',hI,hf2⟩;rw[<-hq3]at hI;rw[<-ha1];have hp:=hp.tr hf2 np;have hMB:=hMB.tr hf2 nb;have hMP:=hMP.tr hf2 npb;have hS:Cells u2 ⟨p,0,none⟩ [.string nm,zI,zS,iV (rn:Nat)]:=fun j x hx=>Cells.VO hp j x (JlE hx)
   refine Yfz ?_;refine Ylq ?_;refine ZH (j:=1) rfl rfl Yhy ?_;refine Ymz ?_
   ((with_reducible apply Ji);exact rfl;(conv=>lhs;whnf);exact rfl;exact hp;exact rfl)
   intro u3 hp3 hf3 hs3;have hS:Cells u3 ⟨p,0,none⟩ [.string nm,zI,zS,iV (rn:Nat)]:=fun j x hx=>Cells.VO hp3 j x (JlE hx)
   refine Yms ?_;replace hp3:Blk u3 p [.string nm,zI,zS,iV (rn:Nat),iV (a0:Nat),iV (a1:Nat),iV ((0:Nat):Nat),zS,.map (some bb),.map (some pb)] 125:=hp3;have hI:=hI.tr hf3 ndp.1 ndp.2.1 ndp.2.2;have hMB:=hMB.tr hf3 Yht;have hMP:=hMP.tr hf3 Yht;have hF3:Fr [d,r] w u3:=(hF.trans hf2 (fun x hx=>.inl hx)).trans hf3 (fun x hx=>.inr Yhq);refine rx ?_;refine ZH (j:=1) rfl rfl Yhy ?_;refine rx ?_;refine Jc 2 Yhl ?_ Yhy;exact Ymg
  .replace hp:Blk u p [.string nm,zI,zS,iV (rn:Nat),iV (a0:Nat),iV (a1:Nat),iV ((0:Nat):Nat),zS,.map (some bb),.map (some pb)] 125:=hp;replace hI:IsC u d r B v b.length q3:=hI;replace g4:g 4=iV ((a0+a1:Nat)):=g4;rw[Ja g29,Ja g4];refine rx ?_;refine JE (fun z=>Cells z ⟨p,0,none⟩ [.string nm,zI,zS,iV (rn:Nat)]) Yhp rfl ?_;obtain⟨u1,hu1⟩:=exq u.drew;rw[<-hu1];have hd1:Fr [] u u1:=hu1▸Fr.drew _ _;have hF:=hF.Jb hd1;have hp:=hp.tr0 hd1;have hI:=hI.tr0 hd1;have hMB:=hMB.tr0 hd1;have hMP:=hMP.tr0 hd1;have hS:Cells u1 ⟨p,0,none⟩ [.string nm,zI,zS,iV (rn:Nat)]:=fun j x hx=>Cells.VO hp j x (JlE hx)
   refine Jj 0 1 2 3 hS ?_;refine JX 4 5 hS ?_;refine Kw 6 hS ?_ (hrun:=by(intro u hu;exact(J7 rfl Ynm)));refine Yna ?_;rintro u2 ⟨v',hI,hf2⟩;rw[<-hq4]at hI;rw[<-ha2];have hp:=hp.tr hf2 np;have hMB:=hMB.tr hf2 nb;have hMP:=hMP.tr hf2 npb;have hS:Cells u2 ⟨p,0,none⟩ [.string nm,zI,zS,iV (rn:Nat)]:=fun j x hx=>Cells.VO hp j x (JlE hx)
   refine Yfz ?_;refine Ylq ?_;refine ZH (j:=2) rfl rfl Yhy ?_;refine Ymz ?_
   ((with_reducible apply Ji);exact rfl;(conv=>lhs;whnf);exact rfl;exact hp;exact rfl)
   intro u3 hp3 hf3 hs3;have hS:Cells u3 ⟨p,0,none⟩ [.string nm,zI,zS,iV (rn:Nat)]:=fun j x hx=>Cells.VO hp3 j x (JlE hx)
   refine Yms ?_;replace hp3:Blk u3 p [.string nm,zI,zS,iV (rn:Nat),iV (a0:Nat),iV (a1:Nat),iV (a2:Nat),zS,.map (some bb),.map (some pb)] 125:=hp3;have hI:=hI.tr hf3 ndp.1 ndp.2.1 ndp.2.2;have hMB:=hMB.tr hf3 Yht;have hMP:=hMP.tr hf3 Yht;have hF3:Fr [d,r] w u3:=(hF.trans hf2 (fun x hx=>.inl hx)).trans hf3 (fun x hx=>.inr Yhq);refine rx ?_;refine ZH (j:=2) rfl rfl Yhy ?_;refine rx ?_;refine Jc 3 Yhl ?_ Yhy;exact Ymg
 obtain rfl:i=3:=by omega
 replace hp:Blk u p [.string nm,zI,zS,iV (rn:Nat),iV (a0:Nat),iV (a1:Nat),iV (a2:Nat),zS,.map (some bb),.map (some pb)] 125:=hp;replace hI:IsC u d r B v b.length q4:=hI;replace g4:g 4=iV ((a0+a1+a2:Nat)):=g4;obtain⟨sm,hsm⟩:∃z:Nat,z=a0+a1+a2:=⟨_,rfl⟩;rw[<-hsm]at g4;rw[Ja g29,Ja g4];clear g4 g29 hlt hi;have hdI:=hI.1;refine rx ?_;refine JaE 15 [] (fun g z=>IsC z d r B v b.length (d1 b).2/\Fr [d] u z) ?_ ?_
 .rw [hH];cases hq:q4.bad with
  |true=>
   rw[hq]at hdI;refine rx ?_
   ((with_reducible apply Ji);exact rfl;(conv=>lhs;whnf);exact rfl;exact hdI;exact rfl)
   intro u2 hb2 hf2 hs2;exact wpList_nil<|JK Yhl ⟨hI.JlD hb2 hf2,hf2⟩
  |false=>
   rw[hq]at hdI;by_cases hs:sm=rn
   .refine rx ?_
    ((with_reducible apply Ji);exact rfl;(conv=>lhs;whnf);exact rfl;exact hdI;exact rfl)
    intro u2 hb2 hf2 hs2;refine wpList_nil<|JK Yhl ⟨?_,hf2⟩;rw[<-hsm,SG Yhn];exact hI.JlD hb2 hf2
   .refine rx ?_
    ((with_reducible apply Ji);exact rfl;(conv=>lhs;whnf);exact rfl;exact hdI;exact rfl)
    intro u2 hb2 hf2 hs2;refine wpList_nil<|JK Yhl ⟨?_,hf2⟩;rw[<-hsm,SN Yhn];exact hI.JlD hb2 hf2
 rintro g1 u5 ⟨hI,hf5⟩;have hp:=hp.tr hf5 Yht;have hMB:=hMB.tr hf5 Yht;have hMP:=hMP.tr hf5 Yht;have hF:=hF.trans hf5 (fun x hx=>.inl Yno);have hHf:(d1 b).1=⟨nm,rn,a0,a1,a2⟩:=by rw[hH]
 have hdk:(d1 b).2.bs.length<=b.length:=(Jl3 ⟨b,0,false⟩ h.bys).len;clear hf5 hdI hH;obtain⟨qh,hqh⟩:=exq ((d1 b).2);rw[<-hqh]at hI hdk;have hdI:=hI.1;refine rx ?_;refine Jg (Jmj hI b.length) ?_;rintro u6 ⟨v6,hI,hf6⟩;have hp:=hp.tr hf6 np;have hMB:=hMB.tr hf6 nb;have hMP:=hMP.tr hf6 npb;have hF:=hF.trans hf6 (fun x hx=>.inl hx);have hn1:=JlI b.length qh;have hD2:d2 b=dGo (Jlx rn) (Jlx b.length qh).1 (Jlx b.length qh).2:=by
  unfold d2 JlY;rw[<-hqh,hHf]
 obtain⟨n1,hn1e⟩:=exq ((Jlx b.length qh).1);obtain⟨qa,hqa⟩:=exq ((Jlx b.length qh).2);have hqal:qa.bs.length<=b.length:=by
  have:=(Jly b.length qh (hqh▸(Jl3 ⟨b,0,false⟩ h.bys).bys)).len;rw[<-hqa]at this;omega
 rw[<-hqa]at hI hD2;rw[<-hn1e]at hn1 hD2 ⊢;clear hdI hf6 hn1e hqa;refine Yfa ?_;refine KZ 15 [6] (fun g z=>∃vc v,IsC z d r B v b.length (d2 b).2/\Own z 3 1 vc (d2 b).1.length (Vk (d2 b).1)/\(∀x∈blks vc,w.heap.size<=x/\x≠p/\x≠bb/\x≠pb)/\Blk z p [.string nm,zI,zS,iV (rn:Nat),iV (a0:Nat),iV (a1:Nat),iV (a2:Nat),vc,.map (some bb),.map (some pb)] 125/\Mp brK (Value.int .i64) z bb []/\Mp prK Value.bool z pb []/\Fr [d,r] w z) ?_ ?_
 .refine rx ?_;refine Jh 15 [6] (σ:=Nat×DS×List Nat×Value) (fun t g z=>g 6=iV (t.1:Nat)/\t.2.2.1.length+t.1<=n1/\(∃v,IsC z d r B v b.length t.2.1)/\Own z 3 1 t.2.2.2 t.2.2.1.length (Vk t.2.2.1)/\(∀x∈blks t.2.2.2,w.heap.size<=x/\x≠p/\x≠bb/\x≠pb)/\Blk z p [.string nm,zI,zS,iV (rn:Nat),iV (a0:Nat),iV (a1:Nat),iV (a2:Nat),t.2.2.2,.map (some bb),.map (some pb)] 125/\Mp brK (Value.int .i64) z bb []/\Mp prK Value.bool z pb []/\Fr [d,r] w z/\
   t.2.2.1++(dGo (Jlx rn) t.1 t.2.1).1=(d2 b).1/\(dGo (Jlx rn) t.1 t.2.1).2=(d2 b).2) (fun t=>t.1) (n1,qa,[],zS) ⟨rfl,by simp,⟨v6,hI⟩,Own.nil _ _ _,by simp[blks,Value.ownBlock],hp,hMB,hMP,hF,by rw[hD2];rfl,by rw[hD2]⟩ ?_
  clear hI hp hMB hMP hF;rintro⟨k,q,l,vc⟩ g z ⟨g6,hk,⟨v,hI⟩,ho,hvc,hp,hMB,hMP,hF,hm1,hm2⟩;simp only at g6 hk hI ho hvc hp hm1 hm2;rw[Ja g6];have hdI:=hI.1;have hsz:=hF.size;by_cases hk0:k=0
  .subst hk0;simp only[dGo,Ce]at hm1 hm2;subst hm1 hm2;refine rx ?_;exact Ynf
  cases hq:q.bad with
  |true=>
   rw[Jm9 hq]at hm1 hm2;simp only[Ce]at hm1 hm2;subst hm1 hm2;rw[hq]at hdI;refine rx ?_;exact Ynf
  |false=>
   rw[hq]at hdI;obtain⟨k,rfl⟩:∃j,k=j+1:=⟨k-1,by omega⟩;rw[Jnr hq]at hm1 hm2;have ho1:=ho.one;have hol:=ho.lt;obtain⟨aoc,cc,rfl⟩:=ho.slice;refine rx ?_;have hnS:∀{y:Nat},(y=p\/y=bb\/y=pb\/y<w.heap.size)->y∉blks (Value.slice aoc l.length cc):=fun hy hm=>by
    have:=hvc _ hm;omega
   have npv:p∉[d,r]++blks (Value.slice aoc l.length cc):=fun hm=>(SE.1 hm).elim np (hnS (.inl rfl))
   have hvn:∀x∈blks (Value.slice aoc l.length cc),x∉[d,r]:=fun x hx hm=>by have:=(hvc x hx).1;simp at hm;omega
   have hSV:∀{y:World},Fr [d,r] z y->Fr ([d,r]++blks (Value.slice aoc l.length cc)) z y:=fun h=>h.mono (fun x hx=>.inl (SA _ hx))
   refine Kr 13 (fun z'=>Fr ([d,r]++blks (Value.slice aoc l.length cc)) z z') Yhp rfl ?_;obtain⟨z1,hz1⟩:=exq z.drew;rw[<-hz1];have hd1:Fr [] z z1:=hz1▸Fr.drew _ _;have hT:Fr [d,r] z z1:=hd1.mono Yhs;have hS:=hSV hT;have hI:=hI.tr0 hd1
   ((refine Jp 0 hS ?_);(refine Jp 1 hS ?_);(refine Jp 2 hS ?_);(refine Jp 3 hS ?_))
   refine Jp 4 hS ?_ (hrun:=(by intro u hu;exact(J7 rfl (Blk.cell (hp.tr hu npv) rfl))))
   ((refine Jp 5 hS ?_);(refine Jp 6 hS ?_);(refine Jp 7 hS ?_);(refine Jp 8 hS ?_))
   refine Jp 9 hS ?_ (hrun:=(by intro u hu;exact(J7 rfl (Blk.cell (hp.tr hu npv) rfl))));refine Ygo ?_;refine Jg (Jmj hI rn) ?_;rintro z2 ⟨v',hI,hf2⟩;have hT:=hT.trans hf2 (fun x hx=>.inl hx);have hS:=hSV hT;refine Yhe ?_;refine KH (i:=11) rfl Yhp ?_;refine J3 [iV ((Jlx rn q).1:Nat)] rfl rfl rfl rfl (fun z3 ho3 hf3 hs3=>?_);have hT:=hT.Jb hf3;have hS:=hSV hT;have hI:=hI.tr0 hf3;refine Yhe ?_;refine KH (i:=12) rfl Yhp ?_;refine JC (ho.tr hT hvn) rfl ho3.src rfl rfl Yhu Yhv Yhn (fun v5 z5 ho5 hf5 hk5 _=>?_);have hS:=hS.trans hf5 (fun x hx=>.inl (CJ _ hx));refine Yhe ?_;have hvp:∀x∈blks v5,w.heap.size<=x/\x≠p/\x≠bb/\x≠pb:=fun x hx=>by
    have hs3':=hT.size;have:=hp.lt;have:=hMB.lt;have:=hMP.lt;rcases hk5 x hx with h|h
    .exact hvc x h
    .omega
   have hp5:=(hp.tr hT np).tr hf5 (hnS (.inl rfl));have hMB5:=(hMB.tr hT nb).tr hf5 (hnS (.inr (.inl rfl)));have hMP5:=(hMP.tr hT npb).tr hf5 (hnS (.inr (.inr (.inl rfl))));have hI:=hI.tr hf5 (hnS Yhn) (hnS Yhn) (hnS Yhn);have hF5:Fr [d,r] w z5:=(hF.trans hT (fun x hx=>.inl hx)).trans hf5 (fun x hx=>.inr (hvc x hx).1);have hv51:=ho5.one;refine KH (i:=13) rfl Yhp ?_;refine Vy rfl ?_;refine Ygp ?_;refine KH (i:=14) rfl Yhp ?_;refine Ku rfl ?_;rw[add_lit];refine Ygp ?_;refine KH (i:=15) rfl Yhp ?_
   ((with_reducible apply Ji);exact rfl;(conv=>lhs;whnf);exact hv51;exact hp5;exact rfl)
   intro z6 hp6 hf6 hs6;replace hp6:Blk z6 p [.string nm,zI,zS,iV (rn:Nat),iV (a0:Nat),iV (a1:Nat),iV (a2:Nat),v5,.map (some bb),.map (some pb)] _:=hp6;refine Yeu ?_;have hI:=hI.tr hf6 ndp.1 ndp.2.1 ndp.2.2;have hMB6:=hMB5.tr hf6 Yht;have hMP6:=hMP5.tr hf6 Yht;have hF6:Fr [d,r] w z6:=hF5.trans hf6 (fun x hx=>.inr Yhq);have ho6:=ho5.tr hf6 (fun x hx hm=>(hvp x hx).2.1 (Sv.1 hm));refine rx ?_;refine Jc (k,(Jlx rn q).2,l++[(Jlx rn q).1],v5) Yhl ?_ Yhw;refine⟨?_,?_,⟨v',hI⟩,?_,hvp,hp6,hMB6,hMP6,hF6,?_,hm2⟩
   .show Value.int _ _=Value.int _ _
    congr 1
    simp only;omega
   .simp only[Sm,SI,SY];omega
   .simp only;rw[show Vk (l++[(Jlx rn q).1])=Vk l++[iV ((Jlx rn q).1:Nat)] by simp[Vk],Sm];exact ho6
   .simp only;rw[List.append_assoc];exact hm1
 clear hI hp hMB hMP hF;rintro g2 u7 ⟨vc,v7,hI,ho,hvc,hp,hMB,hMP,hF⟩;have hvc1:=ho.one;obtain⟨aoc,cc,rfl⟩:=ho.slice;obtain⟨lc,hlc⟩:=exq ((d2 b).1);rw[<-hlc]at ho hvc hp hvc1 ⊢;have hk2:(d2 b).2.bs.length<=b.length/\Bys (d2 b).2.bs:=by
  have h0:=(Jl3 ⟨b,0,false⟩ h.bys);have h1:=Jly b.length (d1 b).2 h0.bys;have h2:=Jml (Jly (d1 b).1.runs) (Jlx b.length (d1 b).2).1 _ h1.bys;exact⟨((h0.trans h1).trans h2).len,h2.bys⟩
 obtain⟨qc,hqc⟩:=exq ((d2 b).2);rw[<-hqc]at hI hk2;have hsz7:=hF.size;have hdI:=hI.1;have hplt:=hp.lt;have hbblt:=hMB.lt;have hpblt:=hMP.lt;have hvlt:=ho.lt;refine rx ?_;refine Jm (l:=[zT,zI,zI]) rfl (fun u8 b7 hb7 h7 hf8 hs8=>?_);have hI:=hI.tr0 hf8;have hp:=hp.tr0 hf8;have ho:=ho.tr0 hf8;have hMB:=hMB.tr0 hf8;have hMP:=hMP.tr0 hf8;have hF:=hF.Jb hf8;have hdI:=hI.1;clear hf8;refine rx ?_;refine Jg (Jmj hI b.length) ?_;rintro u9 ⟨v9,hI,hf9⟩;have n7:b7∉[d,r]:=by simp;omega
 have hvn:∀x∈blks (Value.slice aoc lc.length cc),x∉[d,r]:=fun x hx hm=>by have:=(hvc x hx).1;simp at hm;omega
 have hp:=hp.tr hf9 np;have ho:=ho.tr hf9 hvn;have hMB:=hMB.tr hf9 nb;have hMP:=hMP.tr hf9 npb;have h7:=h7.tr hf9 n7;have hF:=hF.trans hf9 (fun x hx=>.inl hx);have hn2:=JlI b.length qc;have hD3:d3 b=JlA (dBc rn) okB (Jlx b.length qc).1 none (Jlx b.length qc).2:=by
  unfold d3 JlT;rw[<-hqc,hHf]
 obtain⟨n2,hn2e⟩:=exq ((Jlx b.length qc).1);obtain⟨qb,hqb⟩:=exq ((Jlx b.length qc).2);have hqbl:qb.bs.length<=b.length/\Bys qb.bs:=by
  have:=Jly b.length qc hk2.2;rw[<-hqb]at this;exact⟨CG this.len hk2.1,this.bys⟩
 rw[<-hqb]at hI hD3;rw[<-hn2e]at hn2 hD3 ⊢;clear hdI hf9 hn2e hqb hk2;have hwb7:w.heap.size<=b7:=by omega
 have hb7n:b7≠p/\b7≠bb/\b7≠pb/\b7∉blks (Value.slice aoc lc.length cc):=⟨by omega,by omega,by omega,fun hm=>by have:=hvlt _ hm;omega⟩;replace h7:Blk u9 b7 (brV (((none:Option (Br×Nat)).map Prod.fst).getD ⟨bst [],0,0⟩)) 50:=h7;refine Yfa ?_;refine KZ 15 [8,10] (fun g z=>∃v mb,IsC z d r B v b.length (d3 b).2/\Own z 3 1 (.slice aoc lc.length cc) lc.length (Vk lc)/\Blk z p [.string nm,zI,zS,iV (rn:Nat),iV (a0:Nat),iV (a1:Nat),iV (a2:Nat),(.slice aoc lc.length cc),.map (some bb),.map (some pb)] 125/\Mp brK (Value.int .i64) z bb mb/\((d3 b).2.bad=false->RelB mb (fun x=>(getM (d3 b).1 x).getD 0))/\Mp prK Value.bool z pb []/\Fr [d,r] w z) ?_ ?_
 .refine rx ?_;refine Jh 15 [8,10] (σ:=Nat×DS×List (Br×Nat)×Option (Br×Nat)×List (Br×Int)) (fun t g z=>g 8=iV (t.2.2.1.length:Nat)/\t.2.2.1.length+t.1=n2/\((∃v,IsC z d r B v b.length t.2.1)/\t.2.1.bs.length<=b.length)/\Own z 3 1 (.slice aoc lc.length cc) lc.length (Vk lc)/\Blk z p [.string nm,zI,zS,iV (rn:Nat),iV (a0:Nat),iV (a1:Nat),iV (a2:Nat),(.slice aoc lc.length cc),.map (some bb),.map (some pb)] 125/\Mp brK (Value.int .i64) z bb t.2.2.2.2/\(t.2.1.bad=false->RelB t.2.2.2.2 (fun x=>(getM t.2.2.1 x).getD 0)/\JlW ltB Prod.fst t.2.2.1 t.2.2.2.1)/\(t.2.2.2.1=none↔t.2.2.1=[])/\Blk z b7 (brV ((t.2.2.2.1.map Prod.fst).getD ⟨bst [],0,0⟩)) 50/\Mp prK Value.bool z pb []/\Fr [d,r] w z/\
   t.2.2.1++(JlA (dBc rn) okB t.1 t.2.2.2.1 t.2.1).1=(d3 b).1/\(JlA (dBc rn) okB t.1 t.2.2.2.1 t.2.1).2=(d3 b).2) (fun t=>t.1) (n2,qb,[],none,[]) ⟨rfl,by simp,⟨⟨v9,hI⟩,hqbl.1⟩,ho,hp,hMB,fun _=>⟨RelB.nil,by simp[JlW,Asc]⟩,by simp,h7,hMP,hF,by rw[hD3];rfl,by rw[hD3]⟩ ?_
  clear hI hp hMB hMP hF ho h7;rintro⟨k,q,l,last,mb⟩ g z ⟨g8,hk,⟨⟨v,hI⟩,hql⟩,ho,hp,hMB,hRB,hln,h7,hMP,hF,hm1,hm2⟩;simp only at g8 hk hI hql hMB hRB hln h7 hm1 hm2;rw[Ja g8];have hdI:=hI.1;have hsz:=hF.size;by_cases hk0:k=0
  .subst hk0;simp only[JlA,Ce]at hm1 hm2;refine rx ?_;exact JK Yhl ⟨v,mb,hm2▸hI,ho,hp,hMB,(fun hb=>by rw[<-hm1];exact(hRB (hm2▸hb)).1),hMP,hF⟩
  cases hq:q.bad with
  |true=>
   rw[Jme hq]at hm1 hm2;simp only[Ce]at hm1 hm2;rw[hq]at hdI;refine rx ?_;exact JK Yhl ⟨v,mb,hm2▸hI,ho,hp,hMB,(fun hb=>by rw[<-hm2,hq]at hb;cases hb),hMP,hF⟩
  |false=>
   rw[hq]at hdI;obtain⟨hRB,hLO⟩:=hRB hq;obtain⟨k,rfl⟩:∃j,k=j+1:=⟨k-1,by omega⟩;rw[Jmv hq]at hm1 hm2;have hI0:=hI.bys;refine rx ?_;refine Jg (Jnt hI Yhn) ?_;rintro z1 ⟨v1,hI,hf1⟩;obtain⟨x,hx⟩:=exq ((dBr q).1);obtain⟨qx,hqx⟩:=exq ((dBr q).2);have hqxb:qx.bad=false:=by rw[hqx];exact hq
   have hdBc:dBc rn q=((x,(Jlx rn qx).1),(Jlx rn qx).2):=by rw[hx,hqx];rfl
   rw[hdBc]at hm1 hm2;rw[<-hqx]at hI;rw[<-hx];refine rx ?_;refine Jm (l:=[zT,zI,zI]) rfl (fun z2 b10 hb10 h10 hf2 hs2=>?_);refine rx ?_;refine Jd (cs:=brV x) rfl rfl h10 (QD _) rfl rfl (fun z3 h10 hf3 hs3=>?_);replace h10:Blk z3 b10 [.string x.decl,iV x.at_,iV x.arm] _:=h10;have hf13:Fr [] z1 z3:=hf2.trans hf3 (fun x hx=>.inr Yhq);have hT:Fr [d,r] z z3:=hf1.Jb hf13;have hb10z:z.heap.size<=b10:=by rw[hb10];exact hf1.size
   have hpl:=hp.lt;have hbl:=hMB.lt;have hpbl:=hMP.lt;have hvl:=ho.lt;have h7l:=h7.lt;have hI:=hI.tr0 hf13;have hp:=hp.tr hT np;have ho:=ho.tr hT hvn;have hMB:=hMB.tr hT nb;have hMP:=hMP.tr hT npb;have h7:=h7.tr hT n7;have hF:=hF.trans hT (fun x hx=>.inl hx);have hs3z:=hF.size;have n10:b10∉[d,r]:=by simp;omega
   have hqxl:qx.bs.length<=b.length:=by rw[hqx];exact CG (JlH q hI0).len hql
   clear hf1 hf2 hf3 hT;refine rx ?_;refine Kr 11 (fun y=>Fr [d,r] z3 y) Yhp rfl ?_;obtain⟨z4,hz4⟩:=exq z3.drew;rw[<-hz4];have hd4:Fr [] z3 z4:=hz4▸Fr.drew _ _;have hS:Fr [d,r] z3 z4:=hd4.mono Yhs;have hI:=hI.tr0 hd4
   ((refine Jp 0 hS ?_);(refine Jp 1 hS ?_);(refine Jp 2 hS ?_))
   refine Jp 3 hS ?_ (hrun:=(by intro u hu;exact(J7 rfl (Blk.cell (hp.tr hu np) rfl))));refine Jp 4 hS ?_ (hrun:=(by intro u hu;exact(Kv rfl (Cells.VO (h10.tr hu n10)) Yik)))
   ((refine Jp 5 hS ?_);(refine Jp 6 hS ?_);(refine Jp 7 hS ?_);(refine Jp 8 hS ?_))
   refine Jp 9 hS ?_ (hrun:=(by intro u hu;exact(J7 rfl (Blk.cell (hp.tr hu np) rfl))));refine Ygo ?_;refine Jg (Jmj hI rn) ?_;rintro z5 ⟨v5,hI,hf5⟩;have hS:=hS.trans hf5 (fun x hx=>.inl hx);obtain⟨c,hc⟩:=exq ((Jlx rn qx).1);obtain⟨qn,hqn⟩:=exq ((Jlx rn qx).2);rw[<-hc,<-hqn]at hm1 hm2;rw[<-hqn]at hI;rw[<-hc];have hp:=hp.tr hS np;have ho:=ho.tr hS hvn;have hMB:=hMB.tr hS nb;have hMP:=hMP.tr hS npb;have h7:=h7.tr hS n7;have h10:=h10.tr hS n10;have hF:=hF.trans hS (fun x hx=>.inl hx);have hs5z:=hF.size;refine Yhe ?_;refine KH (i:=11) rfl Yhp ?_;refine BX (key:=brK) (val:=Value.int .i64) (a:=x) (v:=(c:Int)) hMB rfl rfl rfl (fun z6 hMB hf6 hs6=>?_);refine Yeu ?_;have nbs:∀y:Nat,y≠bb->y∉[bb]:=fun y h=>by simpa using h
   have hI:=hI.tr hf6 (nbs _ Yhn) (nbs _ Yhn) (nbs _ Yhn);have hp:=hp.tr hf6 (nbs _ Yhn);have ho:=ho.tr hf6 (fun x hx=>nbs _ (hvc x hx).2.2.1);have hMP:=hMP.tr hf6 (nbs _ Yhn);have h7:=h7.tr hf6 (nbs _ hb7n.2.1);have h10:=h10.tr hf6 (nbs _ Yhn);have hF:=hF.trans hf6 (fun x hx=>.inr Yhq);have hdI:=hI.1;have hgm:(getM (VJ mb x (c:Int)) x).getD 0=(c:Int):=by rw[GK,Cb rfl];rfl
   clear hS hf5 hf6 hd4;refine rx ?_;have nd:∀y:Nat,y≠d->y∉[d]:=fun y h=>by simpa using h
   refine KZ 15 [] (fun g y=>IsC y d r B v5 b.length ⟨qn.bs,qn.e,qn.bad|| !okB last (x,c)⟩/\Fr [d] z6 y) ?_ ?_
   . (refine JE (fun y=>Fr [d] z6 y) Yhp rfl ?_)
     obtain⟨z7,hz7⟩:=exq z6.drew;rw[<-hz7];have hd7:Fr [] z6 z7:=hz7▸Fr.drew _ _;have hS:Fr [d] z6 z7:=hd7.mono Yhs;have hdz:=hdI.tr0 hd7;have hI7:=hI.tr0 hd7;refine Jj 0 1 2 3 hS ?_;refine Ygt ?_;refine VH rfl hdz rfl ?_;refine Yfz ?_;cases hqnb:qn.bad with
     |true=>
      rw[hqnb]at hdz;refine Jj 5 6 7 8 hS ?_;refine Jj 9 10 11 12 hS ?_;refine Jj 13 14 15 16 hS ?_;refine Jj 17 18 19 20 hS ?_;refine JX 21 22 hS ?_;refine d_z 23 hS ?_;refine Ymv ?_;rw[add_lit];refine Ymy ?_
      ((with_reducible apply Ji);exact rfl;(conv=>lhs;whnf);exact rfl;exact hdz;exact rfl)
      intro z8 hb8 hf8 hs8;have hS:=hS.trans hf8 (fun x hx=>.inl hx);refine Yms ?_;refine JK Yhl ⟨?_,hS⟩;exact hI7.JlD hb8 hf8
     |false=>
      rw[hqnb]at hdz;refine Jj 5 6 7 8 hS ?_;refine Kz 9 hS ?_ (hrun:=by(intro u hu;exact(J7 rfl (Blk.cell (hp.tr hu (nd _ Yhn)) rfl))));refine Kz 10 hS ?_ (hrun:=by(intro u hu;exact(Kv rfl (Cells.VO (h10.tr hu (nd _ Yhn))) Yik)));refine Kz 11 hS ?_ (hrun:=by(intro u hu;refine(JfH (P:=prog) (t:=122) (a:=x) (c:=c) ?_ ?_ (hMB.tr hu (nd _ Yhn)) hgm);exact rfl;exact rfl));by_cases hc0:c=0
      . (apply V4 (i:=12);exact rfl;exact rfl;kernel_rfl;kernel_rfl;kernel_rfl;(intro u hu;exact(Zd rfl rfl (SN Yhn)));exact hS)
        refine Jj 13 14 15 16 hS ?_;refine Jj 17 18 19 20 hS ?_;refine JX 21 22 hS ?_;refine d_z 23 hS ?_;refine Ymv ?_;rw[add_lit];refine Ymy ?_
        ((with_reducible apply Ji);exact rfl;(conv=>lhs;whnf);exact rfl;exact hdz;exact rfl)
        intro z8 hb8 hf8 hs8;have hS:=hS.trans hf8 (fun x hx=>.inl hx);refine Yms ?_;refine JK Yhl ⟨?_,hS⟩;have:=hI7.JlD hb8 hf8
        rwa [show okB last (x,c)=false by unfold okB;rw[SG (by simpa using hc0)];rfl]
      refine Kz 12 hS ?_ (hrun:=by(intro u hu;exact(Zd rfl rfl (SG Yhn))));refine JX 13 14 hS ?_;refine d_z 15 hS ?_;cases last with
      |none=>
       have hl0:l.length=0:=by rw[hln.1 rfl];rfl
       refine Kz 16 hS ?_ (hrun:=by(intro u hu;exact(Z8 rfl rfl (SG Yhn))));refine Jj 17 18 19 20 hS ?_;refine JX 21 22 hS ?_;refine d_z 23 hS ?_;refine Ymv ?_;rw[add_lit];refine Ymy ?_
       ((with_reducible apply Ji);exact rfl;(conv=>lhs;whnf);exact rfl;exact hdz;exact rfl)
       intro z8 hb8 hf8 hs8;have hS:=hS.trans hf8 (fun x hx=>.inl hx);refine Yms ?_;refine JK Yhl ⟨?_,hS⟩;have:=hI7.JlD hb8 hf8
       rwa [show okB none (x,c)=true by unfold okB;rw[SN (by simpa using hc0)];rfl]
      |some y=>
       have hl0:0<l.length:=by
        cases l with
        |nil=>exact absurd (hln.2 rfl) Yhs
        |cons _ _=>simp
       refine Kz 16 hS ?_ (hrun:=by(intro u hu;exact(Z8 rfl rfl (SN Yhn))));refine d_z 17 hS ?_;refine Kz 18 hS ?_ (hrun:=by(intro u hu;exact(Kv rfl (Cells.VO (h7.tr hu (nd _ Yhn))) Yik)));refine Kz 19 hS ?_ (hrun:=by(intro u hu;exact(Kv rfl (Cells.VO (h10.tr hu (nd _ Yhn))) Yik)));refine JJ (i:=20) rfl Yhp ?_;refine rx ?_;refine Jg (Jgw y.1 x z7) ?_;rintro z9 hf9;have hS:=hS.Jb hf9;have hdz:=hdz.tr0 hf9;have hI7:=hI7.tr0 hf9;refine Yfz ?_;refine Kz 21 hS ?_ (hrun:=by(intro u hu;exact(Z9 rfl rfl rfl)));refine JX 22 23 hS ?_;refine Ymv ?_;rw[add_lit];refine Ymy ?_
       ((with_reducible apply Ji);exact rfl;(conv=>lhs;whnf);exact rfl;exact hdz;exact rfl)
       intro z8 hb8 hf8 hs8;have hS:=hS.trans hf8 (fun x hx=>.inl hx);refine Yms ?_;refine JK Yhl ⟨?_,hS⟩;have:=hI7.JlD hb8 hf8
       rwa [show(!okB (some y) (x,c))=decide (Qe y.1 x≥0) by unfold okB lastB ltB;rw[SN (by simpa using hc0)];by_cases h:Qe y.1 x<0<;>simp[h]<;>omega]
   rintro g3 z8 ⟨hI,hf8⟩;have hp:=hp.tr hf8 (nd _ Yhn);have ho:=ho.tr hf8 (fun x hx=>nd _ (fun e=>by have:=(hvc x hx).1;omega));have hMB:=hMB.tr hf8 (nd _ Yhn);have hMP:=hMP.tr hf8 (nd _ Yhn);have h7:=h7.tr hf8 (nd _ Yhn);have h10:=h10.tr hf8 (nd _ Yhn);have hF:=hF.trans hf8 (fun x hx=>.inl Yno);have hqnl:qn.bs.length<=b.length:=by
    have h1:=(JlH q hI0);rw[<-hqx]at h1;have h2:=(Jly rn qx h1.bys).len;rw[<-hqn]at h2;omega
   refine rx ?_;refine Jd (cs:=brV x) rfl rfl h7 (QD _) rfl rfl (fun z9 h7 hf9 hs9=>?_);have n7s:∀y:Nat,y≠b7->y∉[b7]:=fun y h=>by simpa using h
   have hI:=hI.tr hf9 (n7s _ Yhn) (n7s _ Yhn) (n7s _ Yhn);have hp:=hp.tr hf9 (n7s _ Yhn);have ho:=ho.tr hf9 (fun x hx=>n7s _ (fun e=>hb7n.2.2.2 (e▸hx)));have hMB:=hMB.tr hf9 (n7s _ Yhn);have hMP:=hMP.tr hf9 (n7s _ Yhn);have hF:=hF.trans hf9 (fun x hx=>.inr Yhq);refine rx ?_;refine Jc (k,⟨qn.bs,qn.e,qn.bad|| !okB last (x,c)⟩,l++[(x,c)],some (x,c),VJ mb x (c:Int)) Yhl ?_ Yhw;refine⟨?_,?_,⟨⟨v5,hI⟩,hqnl⟩,ho,hp,hMB,fun hb=>?_,by simp,h7,hMP,hF,?_,hm2⟩
   .show Value.int _ _=Value.int _ _
    congr 1
    simp
   .simp only[Sm,SI,SY];omega
   .simp only[Cc,Oi]at hb;obtain⟨h1,h2⟩:=JlM.1 hb.2;have h3:=hLO.next Qu (x:=(x,c)) (fun y hy=>h2 y hy);refine⟨(hRB.put (n:=c) h1).congr (fun y=>?_),h3.1⟩;simp only;rw[Jay (getM_none.2 h3.2)]
    split<;>rfl
   .simp only;rw[List.append_assoc];exact hm1
 rintro g4 u10 ⟨v10,mb,hI,ho,hp,hMB,hRB,hMP,hF⟩;have hk3:(d3 b).2.bs.length<=b.length/\Bys (d3 b).2.bs:=by
  rw[hD3];have h2:=Jl6 (ok:=okB) (Jmn rn) n2 none _ hqbl.2;exact⟨CG h2.len hqbl.1,h2.bys⟩
 clear hD3 hqbl hn2 h7;have hplt:=hp.lt;have hbblt:=hMB.lt;have hpblt:=hMP.lt;have hvlt:=ho.lt;have hsz10:=hF.size;obtain⟨R,hR⟩:=exq ((d3 b).1);obtain⟨qd,hqd⟩:=exq ((d3 b).2);rw[<-hR,<-hqd]at hRB;rw[<-hqd]at hI hk3;rw[<-hR];have hdI:=hI.1;refine rx ?_;refine Jm (l:=[zT,zI,zI,zT,zI,zI]) rfl (fun u11 b11 hb11 h11 hf11 hs11=>?_);have hI:=hI.tr0 hf11;have hp:=hp.tr0 hf11;have ho:=ho.tr0 hf11;have hMB:=hMB.tr0 hf11;have hMP:=hMP.tr0 hf11;have hF:=hF.Jb hf11;have hdI:=hI.1;clear hf11;refine rx ?_;refine Jg (Jmj hI b.length) ?_;rintro u12 ⟨v12,hI,hf12⟩;have n11:b11∉[d,r]:=by simp;omega
 have hp:=hp.tr hf12 np;have ho:=ho.tr hf12 hvn;have hMB:=hMB.tr hf12 nb;have hMP:=hMP.tr hf12 npb;have h11:=h11.tr hf12 n11;have hF:=hF.trans hf12 (fun x hx=>.inl hx);have hn3:=JlI b.length qd;have hD4:d4 b=JlA dPr (okP R) (Jlx b.length qd).1 none (Jlx b.length qd).2:=by
  unfold d4 JlS;rw[<-hqd,<-hR]
 have hbd0:(Jlx b.length qd).2.bad=false->qd.bad=false:=JmO;obtain⟨n3,hn3e⟩:=exq ((Jlx b.length qd).1);obtain⟨qe,hqe⟩:=exq ((Jlx b.length qd).2);have hqel:qe.bs.length<=b.length:=by
  have:=Jly b.length qd hk3.2;rw[<-hqe]at this;exact CG this.len hk3.1
 rw[<-hqe]at hI hD4 hbd0;rw[<-hn3e]at hn3 hD4 ⊢;clear hdI hf12 hn3e hqe hk3;have hwb11:w.heap.size<=b11:=by omega
 have hb11n:b11≠p/\b11≠bb/\b11≠pb/\b11∉blks (Value.slice aoc lc.length cc):=⟨by omega,by omega,by omega,fun hm=>by have:=hvlt _ hm;omega⟩;replace h11:Blk u12 b11 (prV ((none:Option Pr).getD (⟨bst [],0,0⟩,⟨bst [],0,0⟩))) 128:=h11;refine Yfa ?_;refine KZ 15 [12,14] (fun g z=>∃v mp,IsC z d r B v b.length (d4 b).2/\Own z 3 1 (.slice aoc lc.length cc) lc.length (Vk lc)/\Blk z p [.string nm,zI,zS,iV (rn:Nat),iV (a0:Nat),iV (a1:Nat),iV (a2:Nat),(.slice aoc lc.length cc),.map (some bb),.map (some pb)] 125/\Mp brK (Value.int .i64) z bb mb/\((d4 b).2.bad=false->qd.bad=false)/\Mp prK Value.bool z pb mp/\BJ mp (· ∈(d4 b).1)/\Fr [d,r] w z) ?_ ?_
 .refine rx ?_;refine Jh 15 [12,14] (σ:=Nat×DS×List Pr×Option Pr×List (Pr×Bool)) (fun t g z=>g 12=iV (t.2.2.1.length:Nat)/\t.2.2.1.length+t.1=n3/\((∃v,IsC z d r B v b.length t.2.1)/\t.2.1.bs.length<=b.length)/\Own z 3 1 (.slice aoc lc.length cc) lc.length (Vk lc)/\Blk z p [.string nm,zI,zS,iV (rn:Nat),iV (a0:Nat),iV (a1:Nat),iV (a2:Nat),(.slice aoc lc.length cc),.map (some bb),.map (some pb)] 125/\Mp brK (Value.int .i64) z bb mb/\(t.2.1.bad=false->qd.bad=false)/\(t.2.2.2.1=none↔t.2.2.1=[])/\Blk z b11 (prV (t.2.2.2.1.getD (⟨bst [],0,0⟩,⟨bst [],0,0⟩))) 128/\Mp prK Value.bool z pb t.2.2.2.2/\BJ t.2.2.2.2 (· ∈t.2.2.1)/\Fr [d,r] w z/\
   t.2.2.1++(JlA dPr (okP R) t.1 t.2.2.2.1 t.2.1).1=(d4 b).1/\(JlA dPr (okP R) t.1 t.2.2.2.1 t.2.1).2=(d4 b).2) (fun t=>t.1) (n3,qe,[],none,[]) ⟨rfl,by simp,⟨⟨v12,hI⟩,hqel⟩,ho,hp,hMB,hbd0,by simp,h11,hMP,BJ.nil.congr Yhs,hF,by rw[hD4];rfl,by rw[hD4]⟩ ?_
  clear hI hp hMB hMP hF ho h11;rintro⟨k,q,l,last,mp⟩ g z ⟨g12,hk,⟨⟨v,hI⟩,hql⟩,ho,hp,hMB,hbd,hln,h11,hMP,hRP,hF,hm1,hm2⟩;simp only at g12 hk hI hql hbd hln h11 hMP hRP hm1 hm2;rw[Ja g12];have hdI:=hI.1;have hsz:=hF.size;by_cases hk0:k=0
  .subst hk0;simp only[JlA,Ce]at hm1 hm2;refine rx ?_;exact JK Yhl ⟨v,mp,hm2▸hI,ho,hp,hMB,(fun hb=>hbd (hm2▸hb)),hMP,by rw[<-hm1];exact hRP,hF⟩
  cases hq:q.bad with
  |true=>
   rw[Jme hq]at hm1 hm2;simp only[Ce]at hm1 hm2;rw[hq]at hdI;refine rx ?_;exact JK Yhl ⟨v,mp,hm2▸hI,ho,hp,hMB,(fun hb=>hbd (hm2▸hb)),hMP,by rw[<-hm1];exact hRP,hF⟩
  |false=>
   rw[hq]at hdI;have hRBq:=hRB (hbd hq);obtain⟨k,rfl⟩:∃j,k=j+1:=⟨k-1,by omega⟩;rw[Jmv hq]at hm1 hm2;have hI0:=hI.bys;refine rx ?_;refine Jg (Jnt hI Yhn) ?_;rintro z1 ⟨v1,hI,hf1⟩;obtain⟨x,hx⟩:=exq ((dBr q).1);obtain⟨qx,hqx⟩:=exq ((dBr q).2);have hxk:=JlH q hI0;rw[<-hqx]at hI hxk;rw[<-hx];refine rx ?_;refine Jg (Jnt hI (by have:=hxk.len;omega)) ?_;rintro z2 ⟨v2,hI,hf2⟩;obtain⟨y,hy⟩:=exq ((dBr qx).1);obtain⟨qn,hqn⟩:=exq ((dBr qx).2);have hnk:=hxk.trans (JlH qx hxk.bys);have hqnb:qn.bad=false:=by rw[hqn];show qx.bad=false;rw[hqx];exact hq
   have hdPr:dPr q=((x,y),qn):=by rw[hx,hy,hqn,hqx];rfl
   rw[hdPr]at hm1 hm2;rw[<-hqn]at hI hnk;rw[<-hy];refine rx ?_;refine JmD (prV (x,y)) rfl ?_;refine rx ?_;refine Jm (l:=[zT,zI,zI,zT,zI,zI]) rfl (fun z3 b14 hb14 h14 hf3 hs3=>?_);refine rx ?_;refine Jd (cs:=prV (x,y)) rfl rfl h14 (Wu _) rfl rfl (fun z4 h14 hf4 hs4=>?_);replace h14:Blk z4 b14 [.string x.decl,iV x.at_,iV x.arm,.string y.decl,iV y.at_,iV y.arm] _:=h14;have hf24:Fr [] z2 z4:=hf3.trans hf4 (fun x hx=>.inr Yhq);have hT2:Fr [d,r] z z2:=hf1.trans hf2 (fun x hx=>.inl hx);have hT:Fr [d,r] z z4:=hT2.Jb hf24;have hb14z:z.heap.size<=b14:=by rw[hb14];exact hT2.size
   have hpl:=hp.lt;have hbl:=hMB.lt;have hpbl:=hMP.lt;have hvl:=ho.lt;have h11l:=h11.lt;have hI:=hI.tr0 hf24;have hp:=hp.tr hT np;have ho:=ho.tr hT hvn;have hMB:=hMB.tr hT nb;have hMP:=hMP.tr hT npb;have h11:=h11.tr hT n11;have hF:=hF.trans hT (fun x hx=>.inl hx);have hs4z:=hF.size;clear hf1 hf2 hf3 hf4 hT hT2 hf24;have nd:∀y:Nat,y≠d->y∉[d]:=fun y h=>by simpa using h
   have hdI:=hI.1;rw[hqnb]at hdI;refine rx ?_;refine KZ 15 [] (fun g y'=>IsC y' d r B v2 b.length ⟨qn.bs,qn.e,qn.bad|| !okP R last (x,y)⟩/\Fr [d] z4 y') ?_ ?_
   .rw [hqnb,Ih];refine JE (fun y'=>Fr [d] z4 y') Yhp rfl ?_;obtain⟨z7,hz7⟩:=exq z4.drew;rw[<-hz7];have hd7:Fr [] z4 z7:=hz7▸Fr.drew _ _;have hS:Fr [d] z4 z7:=hd7.mono Yhs;have hdz:=hdI.tr0 hd7;have hI7:=hI.tr0 hd7;refine Jj 0 1 2 3 hS ?_;refine Ygt ?_;refine VH rfl hdz rfl ?_;refine Yfz ?_;refine Jj 5 6 7 8 hS ?_;refine Kz 9 hS ?_ (hrun:=by(intro u hu;exact(J7 rfl (Blk.cell (hp.tr hu (nd _ Yhn)) rfl))));refine Kz 10 hS ?_ (hrun:=by(intro u hu;exact(QV (j:=0) rfl rfl Yhy)));refine Kz 11 hS ?_ (hrun:=by(intro u hu;exact(NM rfl (h14.tr hu (nd _ Yhn)) Yik)));refine Kz 12 hS ?_ (hrun:=by(intro u hu;refine(JdF (P:=prog) (t:=122) (a:=x) ?_ ?_ (hMB.tr hu (nd _ Yhn)) hRBq);exact rfl;exact rfl));by_cases hc0:(getM R x).getD 0=0
    . (apply V4 (i:=13);exact rfl;exact rfl;kernel_rfl;kernel_rfl;kernel_rfl;(intro u hu;exact(Zd rfl rfl (SN Yhn)));exact hS)
      refine Jj 14 15 16 17 hS ?_;refine Jj 18 19 20 21 hS ?_;refine Jj 22 23 24 25 hS ?_;refine Jj 26 27 28 29 hS ?_;refine Jj 30 31 32 33 hS ?_;refine d_z 34 hS ?_;refine Ymu ?_;rw[add_lit];refine Ymx ?_
      ((with_reducible apply Ji);exact rfl;(conv=>lhs;whnf);exact rfl;exact hdz;exact rfl)
      intro z8 hb8 hf8 hs8;have hS:=hS.trans hf8 (fun x hx=>.inl hx);refine Yms ?_;refine JK Yhl ⟨?_,hS⟩;have:=hI7.JlD hb8 hf8
      rwa [show okP R last (x,y)=false by unfold okP hasB;simp[hc0]]
    refine Kz 13 hS ?_ (hrun:=by(intro u hu;exact(Zd rfl rfl (SG Yhn))));refine Jj 14 15 16 17 hS ?_;refine d_z 18 hS ?_;refine Kz 19 hS ?_ (hrun:=by(intro u hu;exact(J7 rfl (Blk.cell (hp.tr hu (nd _ Yhn)) rfl))));refine Kz 20 hS ?_ (hrun:=by(intro u hu;exact(QV (j:=1) rfl rfl Yhy)));refine Kz 21 hS ?_ (hrun:=by(intro u hu;exact(NM rfl (h14.tr hu (nd _ Yhn)) Yik)));refine Kz 22 hS ?_ (hrun:=by(intro u hu;refine(JdF (P:=prog) (t:=122) (a:=y) ?_ ?_ (hMB.tr hu (nd _ Yhn)) hRBq);exact rfl;exact rfl));by_cases hc1:(getM R y).getD 0=0
    . (apply V4 (i:=23);exact rfl;exact rfl;kernel_rfl;kernel_rfl;kernel_rfl;(intro u hu;exact(Zd rfl rfl (SN Yhn)));exact hS)
      refine Jj 24 25 26 27 hS ?_;refine Jj 28 29 30 31 hS ?_;refine JX 32 33 hS ?_;refine d_z 34 hS ?_;refine Ymu ?_;rw[add_lit];refine Ymx ?_
      ((with_reducible apply Ji);exact rfl;(conv=>lhs;whnf);exact rfl;exact hdz;exact rfl)
      intro z8 hb8 hf8 hs8;have hS:=hS.trans hf8 (fun x hx=>.inl hx);refine Yms ?_;refine JK Yhl ⟨?_,hS⟩;have:=hI7.JlD hb8 hf8
      rwa [show okP R last (x,y)=false by unfold okP hasB;simp[hc1]]
    refine Kz 23 hS ?_ (hrun:=by(intro u hu;exact(Zd rfl rfl (SG Yhn))));refine JX 24 25 hS ?_;refine d_z 26 hS ?_;cases last with
    |none=>
     have hl0:l.length=0:=by rw[hln.1 rfl];rfl
     refine Kz 27 hS ?_ (hrun:=by(intro u hu;exact(Z8 rfl rfl (SG Yhn))));refine Jj 28 29 30 31 hS ?_;refine JX 32 33 hS ?_;refine d_z 34 hS ?_;refine Ymu ?_;rw[add_lit];refine Ymx ?_
     ((with_reducible apply Ji);exact rfl;(conv=>lhs;whnf);exact rfl;exact hdz;exact rfl)
     intro z8 hb8 hf8 hs8;have hS:=hS.trans hf8 (fun x hx=>.inl hx);refine Yms ?_;refine JK Yhl ⟨?_,hS⟩;have:=hI7.JlD hb8 hf8
     rwa [show okP R none (x,y)=true by unfold okP hasB lastB;simp[hc0,hc1]]
    |some w'=>
     have hl0:0<l.length:=by
      cases l with
      |nil=>exact absurd (hln.2 rfl) Yhs
      |cons _ _=>simp
     refine Kz 27 hS ?_ (hrun:=by(intro u hu;exact(Z8 rfl rfl (SN Yhn))));refine d_z 28 hS ?_;refine Kz 29 hS ?_ (hrun:=by(intro u hu;exact(Kv rfl (Cells.VO (h11.tr hu (nd _ Yhn))) Yik)));refine Kz 30 hS ?_ (hrun:=by(intro u hu;exact(Kv rfl (Cells.VO (h14.tr hu (nd _ Yhn))) Yik)));refine JJ (i:=31) rfl Yhp ?_;refine rx ?_;refine Jg (Jjl w' (x,y) z7) ?_;rintro z9 hf9;have hS:=hS.Jb hf9;have hdz:=hdz.tr0 hf9;have hI7:=hI7.tr0 hf9;refine Yfz ?_;refine Kz 32 hS ?_ (hrun:=by(intro u hu;exact(Z9 rfl rfl rfl)));refine JX 33 34 hS ?_;refine Ymu ?_;rw[add_lit];refine Ymx ?_
     ((with_reducible apply Ji);exact rfl;(conv=>lhs;whnf);exact rfl;exact hdz;exact rfl)
     intro z8 hb8 hf8 hs8;have hS:=hS.trans hf8 (fun x hx=>.inl hx);refine Yms ?_;refine JK Yhl ⟨?_,hS⟩;have:=hI7.JlD hb8 hf8
     rwa [show(!okP R (some w') (x,y))=decide (XB w' (x,y)≥0) by unfold okP hasB lastB ltP;by_cases h:XB w' (x,y)<0<;>simp[h,hc0,hc1]<;>omega]
   rintro g3 z8 ⟨hI,hf8⟩;have hp:=hp.tr hf8 (nd _ Yhn);have ho:=ho.tr hf8 (fun x hx=>nd _ (fun e=>by have:=(hvc x hx).1;omega));have hMB:=hMB.tr hf8 (nd _ Yhn);have hMP:=hMP.tr hf8 (nd _ Yhn);have h11:=h11.tr hf8 (nd _ Yhn);have h14:=h14.tr hf8 (nd _ Yhn);have hF:=hF.trans hf8 (fun x hx=>.inl Yno);have nps:∀y:Nat,y≠pb->y∉[pb]:=fun y h=>by simpa using h
   refine rx ?_;refine JE (fun y'=>Fr [pb] z8 y') Yhp rfl ?_;obtain⟨z9,hz9⟩:=exq z8.drew;rw[<-hz9];have hd9:Fr [] z8 z9:=hz9▸Fr.drew _ _;have hS:Fr [pb] z8 z9:=hd9.mono Yhs;refine Ynb ?_;refine Kw 3 hS ?_ (hrun:=by(intro u hu;exact(J7 rfl (Blk.cell (hp.tr hu (nps _ Yhn)) rfl))));refine Kw 4 hS ?_ (hrun:=by(intro u hu;exact(Kv rfl (Cells.VO (h14.tr hu (nps _ Yhn))) Yik)));refine Ync ?_;refine BX (key:=prK) (val:=Value.bool) (a:=(x,y)) (v:=true) (hMP.tr0 hd9) rfl rfl rfl (fun z10 hMP hf10 hs10=>?_);have hS:=hS.trans hf10 (fun x hx=>.inl hx);refine Yms ?_;have hI:=hI.tr hS (nps _ Yhn) (nps _ Yhn) (nps _ Yhn);have hp:=hp.tr hS (nps _ Yhn);have ho:=ho.tr hS (fun x hx=>nps _ (hvc x hx).2.2.2);have hMB:=hMB.tr hS (nps _ Yhn);have h11:=h11.tr hS (nps _ Yhn);have h14:=h14.tr hS (nps _ Yhn);have hF:=hF.trans hS (fun x hx=>.inr Yhq);refine rx ?_;refine Jd (cs:=prV (x,y)) rfl rfl h11 (Wu _) rfl rfl (fun z11 h11 hf11 hs11=>?_);have n7s:∀y:Nat,y≠b11->y∉[b11]:=fun y h=>by simpa using h
   have hI:=hI.tr hf11 (n7s _ Yhn) (n7s _ Yhn) (n7s _ Yhn);have hp:=hp.tr hf11 (n7s _ Yhn);have ho:=ho.tr hf11 (fun x hx=>n7s _ (fun e=>hb11n.2.2.2 (e▸hx)));have hMB:=hMB.tr hf11 (n7s _ Yhn);have hMP:=hMP.tr hf11 (n7s _ Yhn);have hF:=hF.trans hf11 (fun x hx=>.inr Yhq);refine rx ?_;refine Jc (k,⟨qn.bs,qn.e,qn.bad|| !okP R last (x,y)⟩,l++[(x,y)],some (x,y),VJ mp (x,y) true) Yhl ?_ Yhw;refine⟨?_,?_,⟨⟨v2,hI⟩,CG hnk.len hql⟩,ho,hp,hMB,fun _=>hbd hq,by simp,h11,hMP,hRP.put.congr (fun b=>by simp[or_comm]),hF,?_,hm2⟩
   .show Value.int _ _=Value.int _ _
    congr 1
    simp
   .simp only[Sm,SI,SY];omega
   .simp only;rw[List.append_assoc];exact hm1
 rintro g5 u13 ⟨v13,mp,hI,ho,hp,hMB,hbd,hMP,hRP,hF⟩;refine Yeo ?_;refine⟨p,bb,pb,.slice aoc lc.length cc,v13,rfl,hI,hF,hwp.1,hwp.2.1,hwp.2.2,fun x hx=>(hvc x hx).1,nd3 nbb.1.symm nbb.2.1.symm nbb.2.2 (fun hm=>(hvc _ hm).2.1 rfl) (fun hm=>(hvc _ hm).2.2.1 rfl) (fun hm=>(hvc _ hm).2.2.2 rfl),by rw[hHf];exact hp,ho,fun hb=>⟨⟨mb,hMB,hRB (hbd hb)⟩,mp,hMP,hRP⟩⟩
end Go.Proofs.YtggmccicdhnkgaaGreat
