/-
 The reference's parser:types.
-/
import Derived.Test.YtggmccicdhnkgaaGreatVQe
set_option linter.all false
set_option maxHeartbeats 64000000
namespace Go.Rf
open Go.RowKit
theorem JkB{P:Program}{fn:Func}{R:Ending->World->Prop}{n:Nat}{f:Env}{w:World}{t u s:Nat}{v x y:Value}(hr:fn.results=#[.tmp t,.tmp u,.tmp s])(hv:ev n f (.tmp t)=v)(hx:ev n f (.tmp u)=x)(hy:ev n f (.tmp s)=y)
 (h:R (.returned (.tuple #[v,x,y])) w):bodyPost P fn R .ret (A n f) w:=
 ⟨rfl,.tuple #[v,x,y],by
  have e:(A n f).tmps.getD t undef=v:=by rw[Wl];exact hv
  have e2:(A n f).tmps.getD u undef=x:=by rw[Wl];exact hx
  have e3:(A n f).tmps.getD s undef=y:=by rw[Wl];exact hy
  rw[DU]at e e2 e3;simp[results,hr,e,e2,e3],h⟩
def P4(acc:List Tk)(r:Except (Int×Int) (List Tk)):Except (Int×Int) (List Tk):=match r with
 |.ok l=>.ok (acc++l)
 |.error e=>.error e
theorem Jdb{f:Nat}{at_:Nat}{S:Bs}(h:at_<S.length):V3 (f+1) (at_:Int) (S.drop at_)=
 (if Q9 (S.drop at_)=0 then .error ((at_:Int),2) else if p7 ((S.drop at_).take (Q9 (S.drop at_))) then .error ((at_:Int),4) else
  P4 [JY at_ ((S.drop at_).take (Q9 (S.drop at_)))] (V3 f ((at_+Q9 (S.drop at_)+Qm false (S.drop (at_+Q9 (S.drop at_))):Nat):Int) (S.drop (at_+Q9 (S.drop at_)+Qm false (S.drop (at_+Q9 (S.drop at_))))))):=by
 have iz:(S.drop at_).isEmpty=false:=by rw[VT h];rfl
 rw[V3,SH (by rw[iz];simp)];simp only[Iy];have e:((at_+Q9 (S.drop at_)+Qm false (S.drop (at_+Q9 (S.drop at_))):Nat):Int)=(at_:Int)+(Q9 (S.drop at_):Nat)+(Qm false (S.drop (at_+Q9 (S.drop at_))):Nat):=by omega
 rw[e];rfl
theorem ZK(a b:List Tk)(r:Except (Int×Int) (List Tk)):P4 a (P4 b r)=P4 (a++b) r:=by
 cases r<;>simp[P4]
theorem Nw:∀(cm:Bool) (r:Bs),Qm cm r<=r.length
 |_,[]=>SX _
 |cm,b::r=>by
  rw[Qm];have:=Nw (if b.toNat=10 then false else if b.toNat=35 then true else cm) r;generalize (if b.toNat=10 then false else if b.toNat=35 then true else cm)=c at this ⊢
  split<;>simp only[SI]<;>omega
theorem Ji9{b:UInt8}{r:Bs}:p7 (b::r)=((decide (Kq b<=2)&&decide (16<(b::r).length))||(decide (Kq b=3)&&decide (1099511627776<ML (b::r)))):=rfl
theorem Jkb{a:Int}{b:UInt8}{r:Bs}:JY a (b::r)=⟨if Kq b=1 then 0 else if Kq b=2 then 1 else if Kq b=3 then 2 else 3,a,if Kq b=3 then ML (b::r) else 0,b::r⟩:=rfl
theorem BN(p:Nat->Bool):∀r:Bs,Qq p r<=r.length
 |[]=>SX _
 |b::r=>by
  rw[Qq];have:=BN p r
  split<;>simp only[SI]<;>omega
theorem Jfa(x:Bs):AU x<=x.length:=by
 unfold AU
 split
 .rename_i s hs;have:=Hq hs;rw[Ij]at this;exact this.length_le
 .exact SL _
theorem JhF:∀r:Bs,Q9 r<=r.length
 |[]=>SX _
 |b::r=>by
  rw[Q9];have h1:=BN p1 r;have h2:=BN p2 r;have h3:=BN p3 r;have h4:=Jfa ((b::r).take 2);have h5:((b::r).take 2).length<=(b::r).length:=by rw[C9];omega
  simp only[SI]at*
  split
  .omega
  .split
   .omega
   .split<;>omega
theorem Jko{b:UInt8}(h:Kq b=3):48<=b.toNat/\b.toNat<=57:=by
 unfold Kq JhR at h
 split at h
 .cases h
 .split at h
  .cases h
  .split at h
   .cases h
   .split at h
    .cases h
    .split at h
     .cases h
     .split at h
      .assumption
      .cases h
theorem Jh3:∀(r:Bs),∀b∈r.take (Qq p3 r),Kq b=3
 |[],b,h=>by simp at h
 |c::r,b,h=>by
  rw[Qq]at h
  split at h
  .rename_i hc;rw[D7,DT]at h;rcases SC.1 h with rfl|h
   .simpa [p3]using hc
   .exact Jh3 r b h
  .simp at h
theorem JkW{b:UInt8}{r:Bs}(h:Kq b=3):∀c∈(b::r).take (Q9 (b::r)),48<=c.toNat/\c.toNat<=57:=by
 rw[Q9,SH ab,SH ab,Cb h,D7,DT];intro c hc;rcases SC.1 hc with rfl|hc
 .exact Jko h
 .exact Jko (Jh3 r c hc)
theorem JcS{t:Bs}(h:∀b∈t,48<=b.toNat/\b.toNat<=57):0<=ML t/\ML t<=1099511627777:=by
 unfold ML;have:∀(t:Bs) (v:Int),(∀b∈t,48<=b.toNat/\b.toNat<=57)->0<=v->v<=1099511627777->0<=t.foldl (fun n b=>min (10*n+((b.toNat:Int)-48)) 1099511627777) v/\t.foldl (fun n b=>min (10*n+((b.toNat:Int)-48)) 1099511627777) v<=1099511627777:=by
  intro t
  induction t with
  |nil=>exact fun v _ h1 h2=>⟨h1,h2⟩
  |cons b t ih=>
   intro v hb h1 h2;rw[Dz];have:=hb b ap;exact ih _ (fun x hx=>hb x lA) ab ab
 exact this t 0 h ab ab
end Go.Rf
namespace Go.Proofs.YtggmccicdhnkgaaGreat
open Go.Proofs.Tryz
open Go.Rf Go.RowKit
section
attribute [local irreducible] Code.wp wpList Exit.then Exit.inBlock bodyPost A Calls execOp Addr.add
def kh(t:Tk):List Value:=[iV t.kind,iV t.at_,iV t.n,.string (aA t.text)]
def Jks(w w':World)(r:Except (Int×Int) (List Tk))(v:Value)(a e:Int):Prop:=Fr [] w w'/\match r with
 |.ok l=>bx w' 199 4 v l.length (l.flatMap kh)/\(∀k∈ag v,w.heap.size<=k)/\a=0/\e=0
 |.error x=>(a,e)=x/\v=.slice none 0 0
theorem Jdq(S:Bs)(w:World)(hl:S.length<=1000000000000):
 Calls prog 77 #[.string (aA S)] w fun e w'=>∃v a er,e=.returned (.tuple #[v,iV a,iV er])/\Jks w w' (BG S) v a er:=by
 refine enter func77 rfl ntmps77 rfl ?_;have fA:=VX S;unfold BG;by_cases h8:8192<S.length
 .rw [Cb h8];exact Ycp
 rw[SH h8];refine rx ?_;refine Jg (JbC S 0 w ab hl) ?_;rintro _ rfl;rw[D9,Di];refine rx ?_;have vn:=Nw false S;refine Jh 10 [5,6,7,8,9] (σ:=Nat×Nat×List Tk×Value) (fun i g u=>g 5=i.2.2.2/\g 6=iV i.2.1/\i.2.1<=S.length/\S.length<i.2.1+i.1/\i.2.2.1.length<=i.2.1/\V3 (S.length+1) (Qm false S) (S.drop (Qm false S))=P4 i.2.2.1 (V3 i.1 i.2.1 (S.drop i.2.1))/\bx u 199 4 i.2.2.2 i.2.2.1.length (i.2.2.1.flatMap kh)/\(∀k∈ag i.2.2.2,w.heap.size<=k)/\Fr [] w u) (fun i=>i.1) (S.length+1,Qm false S,[],zS)
  ⟨rfl,rfl,vn,by simp only;omega,by simp,by simp only[P4];split<;>simp_all,bx.nil _ _ _,by simp[ag,Value.ownBlock],Fr.refl _ _⟩ ?_
 rintro⟨f,at_,acc,v⟩ g u ⟨h5,h6,ha,aj,qS,he,cB,fv,hf⟩;simp only at h5 h6 ha aj qS he cB fv;rw[Ja h5,Ja h6];by_cases aC:at_<S.length
 case neg=>
  refine RF ?_;refine⟨_,_,_,rfl,hf,?_⟩;rw[he,Ci ab];obtain⟨q',rfl⟩:∃q,f=q+1:=⟨f-1,by omega⟩;have e0:V3 (q'+1) (at_:Int) []=.ok []:=by rw[V3];exact Cb rfl
  rw[e0];simp only[P4,Ce];exact⟨cB,fv,trivial,trivial⟩
 obtain⟨f',rfl⟩:∃q,f=q+1:=⟨f-1,by omega⟩;rw[Jdb aC]at he;have jO:=JhF (S.drop at_);rw[Dn]at jO;refine rx ?_;refine Jg (iee S at_ u aC hl) ?_;rintro u1 aq;have rQ:(aA S).data.toList[at_]?=some S[at_]:=by simp[aA,aC]
 have cH:=VT aC;have kB:Kq S[at_]=3->∀c∈(S.drop at_).take (Q9 (S.drop at_)),48<=c.toNat/\c.toNat<=57:=by rw[cH];exact JkW
 have oV:(aA S).extract at_ (at_+Q9 (S.drop at_))=aA ((S.drop at_).take (Q9 (S.drop at_))):=by rw[Jbl,FQ,Eo]
 obtain⟨k,hk⟩:=aP (Q9 (S.drop at_));obtain⟨T,hT⟩:=aP ((S.drop at_).take k);have hTl:T.length=k:=by rw[hT,C9,Dn];omega
 have hT0:k≠0->∃T',T=S[at_]::T':=by
  intro h0;obtain⟨q,hq⟩:∃q,k=q+1:=⟨k-1,by omega⟩;rw[hT,hq,cH,DT];exact⟨_,rfl⟩
 rw[<-hk]at he jO kB oV;rw[<-hT]at he kB oV;rw[<-hk];clear hT hk cH;generalize S[at_]=b at rQ kB hT0;by_cases j7:k=0
 .subst j7;rw[Cb rfl]at he;refine RF ?_;refine⟨_,_,_,rfl,hf.Jb aq,?_⟩;rw[he];exact⟨rfl,rfl⟩
 rw[SH j7]at he;obtain⟨T',rfl⟩:=hT0 j7;rw[Ji9,Jkb]at he;refine rx ?_;have hTs:=VX (b::T');refine JbE (j:=at_) (k:=at_+k) rfl rfl rfl rfl rfl ab ab ?_;rw[oV];refine rx ?_;refine JF [iV 3,iV at_,zI,.string (aA (b::T'))] rfl ?_;refine rx ?_;refine Jm (l:=[zI,zI,zI,zT]) rfl (fun u2 p hpe dN aF dO=>?_);refine rx ?_;refine Jd (cs:=[iV 3,iV at_,zI,.string (aA (b::T'))]) rfl rfl dN dQ rfl rfl (fun u3 iB aI eA=>?_);refine AR ?_;refine Jg (Vq b u3) ?_;rintro _ rfl;have aL:Fr [] u u3:=(aq.Jb aF).trans aI (fun x hx=>.inr (by rw[Sv.1 hx,hpe];exact aq.size));have ieg:=Nw false (S.drop (at_+k));rw[Dn]at ieg;have RR:at_+k+Qm false (S.drop (at_+k))<=S.length:=by omega
 have hp:u.heap.size<=p:=by rw[hpe];exact aq.size
 by_cases gI:Kq b=1
 .have oN:¬Kq b=3:=by omega
  rw[Cb gI,SH oN,SG oN,EZ,Ii,SN (show Kq b<=2 by omega),EM,hTl]at he;refine rx ?_;rw[show((Kq b:Nat):Int)-1=0 by omega]
  ((with_reducible apply Ji);exact rfl;(conv=>lhs;whnf);exact rfl;exact iB;exact rfl)
  intro u4 rc aO eV;have aR:Fr [] u u4:=aL.trans aO (fun x hx=>.inr Yjx);by_cases ly:16<k
  .rw [Cb (SN ly)]at he;exact Yck
  .rw [SH (by simpa using ly)]at he;refine rx ?_;refine J3 [zI,iV at_,zI,.string (aA (b::T'))] rfl rfl rfl rfl (fun z1 ef mo bh=>?_);refine rx ?_;refine JC (cB.tr0 ((aR).Jb mo)) rfl ef.src rfl rfl dQ dt ab (fun v' z2 YF YG gJ _=>?_);refine rx ?_;refine Jg (JbC S (at_+k) z2 ab hl) ?_;rintro _ rfl;refine rx ?_;rw[ZK]at he;exact Jc (f',at_+k+Qm false (S.drop (at_+k)),acc++[⟨0,at_,0,b::T'⟩],v') la ⟨rfl,rfl,RR,by simp only;omega,by simp only[Sm,Dx];omega,he,by simpa[kh]using YF,fun q hq=>by
    rcases gJ q hq with h|h
    .exact fv q h
    .have h1:=((hf.Jb (aR)).Jb mo).size;omega,((hf.Jb (aR)).Jb mo).trans YG (fun q hq=>.inr (fv q hq))⟩ eM
 by_cases fO:Kq b=2
 .have oN:¬Kq b=3:=by omega
  rw[SH gI,Cb fO,SH oN,SG oN,EZ,Ii,SN (show Kq b<=2 by omega),EM,hTl]at he;refine rx ?_;rw[show((Kq b:Nat):Int)-1=1 by omega]
  ((with_reducible apply Ji);exact rfl;(conv=>lhs;whnf);exact rfl;exact iB;exact rfl)
  intro u4 rc aO eV;have aR:Fr [] u u4:=aL.trans aO (fun x hx=>.inr Yjx);by_cases ly:16<k
  .rw [Cb (SN ly)]at he;exact Yck
  .rw [SH (by simpa using ly)]at he;refine rx ?_;refine J3 [iV 1,iV at_,zI,.string (aA (b::T'))] rfl rfl rfl rfl (fun z1 ef mo bh=>?_);refine rx ?_;refine JC (cB.tr0 ((aR).Jb mo)) rfl ef.src rfl rfl dQ dt ab (fun v' z2 YF YG gJ _=>?_);refine rx ?_;refine Jg (JbC S (at_+k) z2 ab hl) ?_;rintro _ rfl;refine rx ?_;rw[ZK]at he;exact Jc (f',at_+k+Qm false (S.drop (at_+k)),acc++[⟨1,at_,0,b::T'⟩],v') la ⟨rfl,rfl,RR,by simp only;omega,by simp only[Sm,Dx];omega,he,by simpa[kh]using YF,fun q hq=>by
    rcases gJ q hq with h|h
    .exact fv q h
    .have h1:=((hf.Jb (aR)).Jb mo).size;omega,((hf.Jb (aR)).Jb mo).trans YG (fun q hq=>.inr (fv q hq))⟩ eM
 by_cases oN:Kq b=3
 .rw [SH gI,SH fO,Cb oN,Cb oN,SN oN,EM,SG (show¬Kq b<=2 by omega),EZ,Ih]at he;have hdg:=kB oN;obtain⟨jL,iQ⟩:=JcS hdg;refine rx ?_;rw[show((Kq b:Nat):Int)-1=2 by omega]
  ((with_reducible apply Ji);exact rfl;(conv=>lhs;whnf);exact rfl;exact iB;exact rfl)
  intro u4 rc aO eV;have aR:Fr [] u u4:=aL.trans aO (fun x hx=>.inr Yjx);refine rx ?_;refine Jg (Jiq (b::T') u4 hdg ab) ?_;rintro _ rfl;generalize ML (b::T')=vv at he jL iQ ⊢;refine rx ?_
  ((with_reducible apply Ji);exact rfl;(conv=>lhs;whnf);exact rfl;exact rc;exact rfl)
  intro u5 Ru aJ fm;have bf:Fr [] u u5:=aR.trans aJ (fun x hx=>.inr Yjx);by_cases ly:1099511627776<vv
  .rw [Cb (SN ly)]at he;refine RF ?_;refine⟨_,_,_,rfl,hf.Jb (bf),?_⟩;rw[he];exact⟨rfl,rfl⟩
  .rw [SH (by simpa using ly)]at he;refine rx ?_;refine J3 [iV 2,iV at_,iV vv,.string (aA (b::T'))] rfl rfl rfl rfl (fun z1 ef mo bh=>?_);refine rx ?_;refine JC (cB.tr0 ((bf).Jb mo)) rfl ef.src rfl rfl dQ dt ab (fun v' z2 YF YG gJ _=>?_);refine rx ?_;refine Jg (JbC S (at_+k) z2 ab hl) ?_;rintro _ rfl;refine rx ?_;rw[ZK]at he;exact Jc (f',at_+k+Qm false (S.drop (at_+k)),acc++[⟨2,at_,vv,b::T'⟩],v') la ⟨rfl,rfl,RR,by simp only;omega,by simp only[Sm,Dx];omega,he,by simpa[kh]using YF,fun q hq=>by
    rcases gJ q hq with h|h
    .exact fv q h
    .have h1:=((hf.Jb (bf)).Jb mo).size;omega,((hf.Jb (bf)).Jb mo).trans YG (fun q hq=>.inr (fv q hq))⟩ eM
 rw[SH gI,SH fO,SH oN,SH oN,SG oN,EZ,Ii]at he;by_cases po:Kq b=0
 .rw [SN (show Kq b<=2 by omega),EM,hTl]at he;by_cases ly:16<k
  .rw [Cb (SN ly)]at he;refine RF ?_;refine⟨_,_,_,rfl,hf.Jb (aL),?_⟩;rw[he];exact⟨rfl,rfl⟩
  .rw [SH (by simpa using ly)]at he;exact Yr
 .rw [SG (show¬Kq b<=2 by omega),EZ,SH ap]at he;exact Yr
end
section
variable{n:Int}{T:List Tk}{bd i p:Nat}{w w':World}
attribute [local irreducible] Code.wp wpList Exit.then Exit.inBlock bodyPost A Calls execOp Addr.add
def PS(bd:Nat)(w:World)(p:Nat)(n:Int)(r:List Tk):Prop:=∃(S:Bs) (T:List Tk) (ao:Option Addr) (c i:Nat),aG w p [.string (aA S),.slice ao T.length c,iV i,.bool false] 161/\Src w (.slice ao T.length c) T.length (T.flatMap kh)/\mn (.slice ao T.length c) (T.flatMap kh) [p]/\r=T.drop i/\i<=T.length/\(S.length:Int)=n/\(T.length<=1000000/\∀t∈T,0<=t.n/\t.n<=1099511627777)/\p<bd/\bd<=w.heap.size/\(∀ad,ao=some ad->ad.block<bd)
theorem PS.tr{r:List Tk}{Z:List Nat}(h:PS bd w p n r)(hf:Fr Z w w')(hZ:∀k∈Z,bd<=k):PS bd w' p n r:=by
 obtain⟨S,T,ao,c,i,hb,hs,ho,h1,h2,h3,h4,h5,h6,h7⟩:=h;refine⟨S,T,ao,c,i,hb.tr hf (fun h=>by have:=hZ p h;omega),hs.tr hf (fun ad n c e _ hm=>?_),ho,h1,h2,h3,h4,h5,CG h6 hf.size,h7⟩;simp only[Value.slice.injEq]at e;have:=h7 ad e.1;have:=hZ _ hm;omega
theorem PS.tr0{r:List Tk}(h:PS bd w p n r)(hf:Fr [] w w'):PS bd w' p n r:=h.tr hf ap
theorem PS.lt{r:List Tk}(h:PS bd w p n r):p<bd:=by
 obtain⟨S,T,ao,c,i,hb,hs,ho,h1,h2,h3,h4,h5,h6,h7⟩:=h;exact h5
theorem PS.num{r:List Tk}(h:PS bd w p n r):∀t∈r,0<=t.n/\t.n<=1099511627777:=by
 obtain⟨S,T,ao,c,i,hb,hs,ho,rfl,h2,h3,h4,h5,h6,h7⟩:=h;exact fun t ht=>h4.2 t (IG ht)
theorem PS.le{r:List Tk}(h:PS bd w p n r):bd<=w.heap.size:=by
 obtain⟨S,T,ao,c,i,hb,hs,ho,h1,h2,h3,h4,h5,h6,h7⟩:=h;exact h6
theorem Jdr{j:Nat}(hi:i<T.length)(hj:j<4):(T.flatMap kh)[i*4+j]?=(kh T[i])[j]?:=by
 induction T generalizing i with
 |nil=>simp at hi
 |cons t T ih=>
  rw[CP];cases i with
  |zero=>rw[Ej (by simp[kh];omega)];simp
  |succ i=>
   rw[Ee (by simp[kh];omega)];have:(i+1)*4+j-(kh t).length=i*4+j:=by simp[kh];omega
   rw[this,ih tY];rfl
theorem Nu{ao:Option Addr}{c:Nat}(hs:Src w (.slice ao T.length c) T.length (T.flatMap kh))(hi:i<T.length):∃ad,ao=some ad/\Cells w (ad.add (i*4)) (kh T[i]):=by
 obtain⟨ad,rfl,_⟩:=KO (j:=i*4+0) (u:=iV T[i].kind) hs (by rw[Jdr hi ab];rfl);refine⟨ad,rfl,fun j u hj=>?_⟩;have hj4:j<4:=by
  have:=(Df.1 hj).1;simpa[kh]using this
 rw[add_add];exact Vs hs (by rw[Jdr hi hj4];exact hj)
theorem sF(t:Bs)(p:Nat)(n:Int)(r:List Tk)(w:World)(h:PS bd w p n r):
 Calls prog 162 #[.pointer (some ⟨p,0,none⟩),.string (aA t)] w fun e w'=>e=.returned (.bool (bg t r))/\Fr [] w w':=by
 obtain⟨S,T,ao,c,i,hb,hs,ho,rfl,hi,hn,hT,pr,jd,kZ⟩:=h;refine enter func162 rfl ntmps162 rfl ?_;refine Yfs ?_;have hS:Fr [] w w.drew:=Fr.drew _ _;refine Jj 0 1 2 3 hS ?_;refine Jj 4 5 6 7 hS ?_;refine Jj 8 9 10 11 hS ?_;refine JX 12 13 hS ?_;refine bH 14 hS ?_;by_cases aC:i<T.length
 .obtain ⟨ad,rfl,fg⟩:=Nu hs aC;refine Jj 15 16 17 18 hS ?_;refine Jj 19 20 21 22 hS ?_;refine JX 23 24 hS ?_;refine bH 25 hS ?_;obtain⟨q,hq⟩:∃q,decide (aA T[i].text=aA t)=q:=⟨_,rfl⟩;refine Kz 26 hS ?_ (aw:=by(intro u hu;exact(Qs rfl rfl rfl ab rfl)));refine JX 27 28 hS ?_;refine bH 29 hS ?_;refine Kz 30 hS ?_ (aw:=by(intro u hu;exact(NQ (p:=q) rfl rfl hq)));refine bH 31 hS ?_;refine JJ (i:=32) rfl az ?_;refine rx ?_;refine Jv hS ?_;refine gK ?_;refine bM ?_;refine⟨?_,hS⟩;rw[Dh aC];simp only[bg];rw[<-hq]
  congr 2
  rw[Bool.eq_iff_iff];simp[GX]
 . (refine Jj 15 16 17 18 hS ?_;refine Jj 19 20 21 22 hS ?_;refine Jj 23 24 25 26 hS ?_;refine Jj 27 28 29 30 hS ?_;refine bH 31 hS ?_)
   refine JJ (i:=32) rfl az ?_;refine rx ?_;refine Jv hS ?_;refine gK ?_;refine bM ?_;refine⟨?_,hS⟩;rw[Ci ab];rfl
def Jz(b:Bool)(r:List Tk):List Tk:=if b then r.tail else r
theorem J8(t:Bs)(p:Nat)(n:Int)(r:List Tk)(w:World)(h:PS bd w p n r):
 Calls prog 117 #[.pointer (some ⟨p,0,none⟩),.string (aA t)] w fun e w'=>e=.returned (.bool (bg t r))/\PS bd w' p n (Jz (bg t r) r)/\Fr [p] w w':=by
 refine enter func117 rfl ntmps117 rfl ?_;refine rx ?_;refine Jg (sF t p n r w h) ?_;rintro w1 aj;have h1:=h.tr0 aj;have ze:Fr [p] w w1:=aj.mono ap;cases hq:bg t r with
 |false=>
  refine bM ?_;exact⟨rfl,h1,ze⟩
 |true=>
  obtain⟨S,T,ao,c,i,hb,hs,ho,rfl,hi,hn,hT,pr,jd,kZ⟩:=h1;have aC:i<T.length:=by
   rcases DF i T.length with h|h
   .exact h
   .rw [Ci h]at hq;cases hq
  refine rx ?_
  ((with_reducible apply Ji);exact rfl;(conv=>lhs;whnf);exact rfl;exact hb;exact rfl)
  intro w2 dN aq cz;refine bM ?_;exact⟨rfl,⟨S,T,ao,c,i+1,dN,hs.tr aq ho,ho,by simp[Jz],by omega,hn,hT,pr,CG jd aq.size,kZ⟩,ze.trans aq (fun x hx=>.inl hx)⟩
theorem Jj3(t:Bs)(p:Nat)(n:Int)(r:List Tk)(w:World)(h:PS bd w p n r)(ht:bg t r=true):
 Calls prog 120 #[.pointer (some ⟨p,0,none⟩),.string (aA t)] w fun e w'=>e=.returned (.tuple #[])/\PS bd w' p n r.tail/\Fr [p] w w':=by
 refine enter func120 rfl ntmps120 rfl ?_;refine rx ?_;refine Jg (sF t p n r w h) ?_;rintro w1 aj;have h1:=h.tr0 aj;have ze:Fr [p] w w1:=aj.mono ap;rw[ht];obtain⟨S,T,ao,c,i,hb,hs,ho,rfl,hi,hn,hT,pr,jd,kZ⟩:=h1;have aC:i<T.length:=by
  rcases DF i T.length with h|h
  .exact h
  .rw [Ci h]at ht;cases ht
 refine rx ?_
 ((with_reducible apply Ji);exact rfl;(conv=>lhs;whnf);exact rfl;exact hb;exact rfl)
 intro w2 dN aq cz;refine rx ?_;refine WI rfl ?_;exact⟨rfl,⟨S,T,ao,c,i+1,dN,hs.tr aq ho,ho,by simp,by omega,hn,hT,pr,CG jd aq.size,kZ⟩,ze.trans aq (fun x hx=>.inl hx)⟩
end
section
attribute [local irreducible] Code.wp wpList Exit.then Exit.inBlock bodyPost A Calls execOp Addr.add
theorem inC(v:Value)(l:List Bs)(s:Bs)(w:World)(hs:Src w v l.length (l.map fun t=>.string (aA t)))(hl:l.length<=1000):
 Calls prog 205 #[v,.string (aA s)] w fun e w'=>e=.returned (.bool (l.contains s))/\w=w':=by
 obtain⟨ao,c,rfl,hc,_⟩:=id hs;refine enter func205 rfl ntmps205 rfl ?_;refine rx ?_;refine Jh 6 [5] (σ:=Nat) (fun i g u=>g 5=iV i/\i<=l.length/\(l.drop i).contains s=l.contains s/\w=u) (fun i=>l.length-i) 0 ⟨rfl,by omega,by simp,rfl⟩ ?_;rintro i g u ⟨h5,hi,he,rfl⟩;rw[Ja h5];by_cases aC:i<l.length
 case neg=>
  refine bM ?_;rw[<-he,Ci ab];exact⟨rfl,rfl⟩
 obtain⟨ad,rfl,bV⟩:=KO (j:=i) (u:=.string (aA l[i])) hs (by simp[aC]);rw[Dh aC,List.contains_cons]at he;refine rx ?_;rw[Dq];refine KW rfl bV ?_;refine rx ?_;refine QB rfl rfl (fun h=>?_) (fun h=>?_)
 .have hb:(s==l[i])=true:=by rw[Hy];exact(GX.1 h).symm
  rw[hb]at he;refine bM ?_;exact⟨by rw[<-he];rfl,rfl⟩
 .have hb:(s==l[i])=false:=by
   rw[beq_eq_false_iff_ne];exact fun e=>h (by rw[e])
  rw[hb,Ih]at he;refine rx ?_;exact Jc (i+1) la ⟨rfl,by omega,he,rfl⟩ ab
set_option maxRecDepth 4000 in
theorem Jah(w:World):Calls prog 206 #[] w fun e w'=>∃v,e=.returned v/\bx w' 9 1 v tf.length (tf.map fun t=>.string (aA t))/\Fr [] w w':=by
 refine enter func206 rfl ntmps206 rfl ?_;refine rx ?_;refine J3 (tf.map fun t=>.string (aA t)) rfl rfl rfl rfl (fun u ho hf hs=>?_);exact YH
theorem tL(p:Nat)(n:Int)(r:List Tk)(w:World){bd:Nat}(h:PS bd w p n r):
 Calls prog 118 #[.pointer (some ⟨p,0,none⟩)] w fun e w'=>e=.returned (iV (bj n r))/\Fr [] w w':=by
 obtain⟨S,T,ao,c,i,hb,hs,ho,rfl,hi,hn,hT,pr,jd,kZ⟩:=h;refine enter func118 rfl ntmps118 rfl ?_;refine Yfs ?_;have hS:Fr [] w w.drew:=Fr.drew _ _;by_cases aC:i<T.length
 . (refine Jj 0 1 2 3 hS ?_;refine Jj 4 5 6 7 hS ?_;refine JX 8 9 hS ?_)
   refine gK ?_;have bJ:=hb.tr0 hS;obtain⟨ad,rfl,fg⟩:=Nu (hs.tr0 hS) aC;refine rx ?_;refine JE (fun z=>Fr [] w.drew z) az rfl ?_;have fq:Fr [] w.drew w.drew.drew:=Fr.drew _ _;refine Jj 0 1 2 3 fq ?_;refine Jj 4 5 6 7 fq ?_;refine Kw 8 fq ?_ (aw:=by(intro u hu;exact(Qs rfl rfl rfl ab rfl)));refine JX 9 10 fq ?_;refine JJ (i:=11) rfl az ?_;refine rx ?_;refine Jv fq ?_;refine gK ?_;refine bM ?_;rw[Dh aC];exact⟨rfl,hS.Jb fq⟩
 . (refine Jj 0 1 2 3 hS ?_;refine Jj 4 5 6 7 hS ?_;refine JX 8 9 hS ?_)
   refine gK ?_;have bJ:=hb.tr0 hS;have fA:=VX S;refine bM ?_;rw[Ci ab];refine⟨?_,hS⟩;simp only[bj];rw[fA,hn]
end
section
variable{bd:Nat}
attribute [local irreducible] Code.wp wpList Exit.then Exit.inBlock bodyPost A Calls execOp Addr.add
theorem JfQ(k:Nat)(p:Nat)(n:Int)(r:List Tk)(w:World)(h:PS bd w p n r):
 Calls prog 163 #[.pointer (some ⟨p,0,none⟩),iV k] w fun e w'=>e=.returned (.bool (Bc k r))/\Fr [] w w':=by
 obtain⟨S,T,ao,c,i,hb,hs,ho,rfl,hi,hn,hT,pr,jd,kZ⟩:=h;refine enter func163 rfl ntmps163 rfl ?_;refine Yfs ?_;have hS:Fr [] w w.drew:=Fr.drew _ _;refine Jj 0 1 2 3 hS ?_;refine Jj 4 5 6 7 hS ?_;refine Jj 8 9 10 11 hS ?_;refine JX 12 13 hS ?_;refine bH 14 hS ?_;by_cases aC:i<T.length
 case neg=>
  refine Jj 15 16 17 18 hS ?_;refine Jj 19 20 21 22 hS ?_;refine Jj 23 24 25 26 hS ?_;refine Jj 27 28 29 30 hS ?_;refine Jj 31 32 33 34 hS ?_;refine Jj 35 36 37 38 hS ?_;refine Jj 39 40 41 42 hS ?_;refine Jj 43 44 45 46 hS ?_;refine bH 47 hS ?_;refine JJ (i:=48) rfl az ?_;refine rx ?_;refine Jv hS ?_;refine gK ?_;refine bM ?_;rw[Ci ab];exact⟨rfl,hS⟩
 obtain⟨ad,rfl,fg⟩:=Nu hs aC;rw[Dh aC];simp only[Bc];refine Jj 15 16 17 18 hS ?_;refine Jj 19 20 21 22 hS ?_;refine JX 23 24 hS ?_;refine bH 25 hS ?_;refine Kz 26 hS ?_ (aw:=by(intro u hu;exact(Qs rfl rfl rfl ab rfl)));refine JX 27 28 hS ?_;refine bH 29 hS ?_;by_cases hk:T[i].kind=k
 case neg=>
  refine Kz 30 hS ?_ (aw:=by(intro u hu;exact(Zd (p:=false) rfl rfl (SG ab))));refine Jj 31 32 33 34 hS ?_;refine Jj 35 36 37 38 hS ?_;refine Jj 39 40 41 42 hS ?_;refine Jj 43 44 45 46 hS ?_;refine bH 47 hS ?_;refine JJ (i:=48) rfl az ?_;refine rx ?_;refine Jv hS ?_;refine gK ?_;refine bM ?_;rw[show(T[i].kind==k)=false by simpa using hk];exact⟨rfl,hS⟩
 refine Kz 30 hS ?_ (aw:=by(intro u hu;exact(Zd (p:=true) rfl rfl (SN ab))));refine JX 31 32 hS ?_;refine Jj 34 35 36 37 hS ?_;refine Jj 38 39 40 41 hS ?_;refine Kz 42 hS ?_ (aw:=by(intro u hu;exact(Qs rfl rfl rfl ab rfl)));refine JX 43 44 hS ?_;refine JJ (i:=33) rfl az ?_;refine MH rfl ?_;refine Jl (Jah _) ?_;rintro v u1 ⟨cB,aj⟩;have tv:=hS.Jb aj;refine wpList_nil (Jv tv ?_);refine JJ (i:=45) rfl az ?_;refine MH rfl ?_;refine Jg (inC v tf T[i].text _ cB.src bU) ?_;rintro _ rfl;refine wpList_nil (Jv tv ?_);refine JX 46 47 tv ?_;refine JJ (i:=48) rfl az ?_;refine rx ?_;refine Jv tv ?_;refine gK ?_;refine bM ?_;rw[show(T[i].kind==k)=true by simpa using hk];exact⟨rfl,tv⟩
theorem JiV(k:Nat)(p:Nat)(n:Int)(t:Tk)(r:List Tk)(w:World)(h:PS bd w p n (t::r))(hk:Bc k (t::r)=true):
 Calls prog 119 #[.pointer (some ⟨p,0,none⟩),iV k] w fun e w'=>e=.returned (.agg (kh t).toArray)/\PS bd w' p n r/\Fr [p] w w':=by
 refine enter func119 rfl ntmps119 rfl ?_;refine rx ?_;refine Jm (l:=[zI,zI,zI,zT]) rfl (fun u1 q nJ bJ aj bh=>?_);refine rx ?_;refine Jg (JfQ k p n (t::r) u1 (h.tr0 aj)) ?_;rintro u2 aq;rw[hk];obtain⟨S,T,ao,c,i,ln,mF,ho,hd,hi,hn,hT,pr,jd,kZ⟩:=h;have aC:i<T.length:=by
  rcases DF i T.length with h|h
  .exact h
  .rw [Ci h]at hd;cases hd
 rw[Dh aC,List.cons.injEq]at hd;obtain⟨rfl,rfl⟩:=hd;have hb:=(ln.tr0 aj).tr0 aq;have hs:=(mF.tr0 aj).tr0 aq;have iba:=bJ.tr0 aq;have hqp:q≠p:=by
  have:=ln.lt;omega
 obtain⟨ad,rfl,lR⟩:=Nu mF aC;have lT:ad.block≠q:=by
  have h1:=World.block_lt_of_cell? w _ (lR 0 _ rfl);rw[fB,fB]at h1;omega
 refine rx ?_
 ((with_reducible apply Ji);exact rfl;(conv=>lhs;whnf);exact rfl;exact hb;exact rfl)
 intro u3 iB aF dO;have ah:=iba.tr aF (by simpa using hqp);have se:=hs.tr aF ho;obtain⟨lC,bi,fg⟩:=Nu se aC;simp only[Sj]at bi;subst bi;refine rx ?_;refine JE (fun z=>Fr [q] u3 z) az rfl ?_;have hS:Fr [q] u3 u3.drew:=Fr.drew _ _;refine JX 0 1 hS ?_;refine bH 2 hS ?_;refine Kw 3 hS ?_ (aw:=by(intro u hu;exact(J7 rfl (aG.cell (iB.tr hu (by simpa using hqp.symm)) rfl))));refine JX 4 5 hS ?_;refine bH 6 hS ?_;refine Kw 7 hS ?_ (aw:=by(intro u hu;exact(J7 rfl (aG.cell (iB.tr hu (by simpa using hqp.symm)) rfl))));refine bH 8 hS ?_;refine Kw 9 hS ?_ (aw:=by(intro u hu;exact(Qs (j:=i) rfl rfl ab ab rfl)));refine Kw 10 hS ?_ (aw:=by(intro u hu;exact(Kv rfl (fg.tr hu (by simpa[fB]using lT)) fD)));refine JJ (i:=11) rfl az ?_;refine Jd (cs:=kh T[i]) rfl rfl (ah.tr0 (Fr.drew _ _)) (by simp[kh,Value.oneCell']) rfl rfl (fun u4 rc aI eA=>?_);have j6:Fr [q] u3 u4:=hS.trans aI (fun x hx=>.inl hx);refine wpList_nil (Jv j6 ?_);refine j5 ?_;have aR:Fr [p] w u4:=(((aj.Jb aq).mono (T:=[p]) ap).trans aF (fun x hx=>.inl hx)).trans j6 (fun x hx=>.inr (by rw[Sv.1 hx,nJ];exact SX _));exact JjU rfl rfl (AggT.load _ (kh T[i]) rfl (fun j x hx=>by rw[add_lit];exact rc.cell (by simpa using hx))) ⟨rfl,⟨S,T,some ad,c,i+1,iB.tr j6 (by simpa using hqp.symm),se.tr j6 (fun lC n c e _=>by
  simp only[Value.slice.injEq,Sj]at e;rw[<-e.1];simpa using lT),ho,rfl,by omega,hn,hT,pr,CG jd aR.size,kZ⟩,aR⟩
end
end Go.Proofs.YtggmccicdhnkgaaGreat
namespace Go.Rf
open Go.RowKit
variable{t:Bs}{d:Dt}{S0 T X Y:List Nat}{r':List Tk}{c2 c3 cs l z:List Value}{eZ e i k m n p q s:Nat}{α:Type}{u xv:Value}{w w' w0 w1:World}
def rg(w:World):List Nat:=List.range w.heap.size
theorem Jk:k∈rg w↔k<w.heap.size:=FT
theorem RD.keep{ds:List Dt}{vs:List Value}(h:RD w (rg w0) ds vs)(hf:Fr T w w')(hT:∀b∈T,b<w0.heap.size\/w.heap.size<=b):RD w' (rg w0) ds vs:=h.old hf Ykd
theorem RD.down{ds:List Dt}{vs:List Value}(h:RD w (rg w1) ds vs)(hl:w0.heap.size<=w1.heap.size):RD w (rg w0) ds vs:=h.mono (fun b hb=>.inl (Jk.2 (by have:=Jk.1 hb;omega)))
theorem DR.keep{v:Value}(h:DR w (rg w0) d v)(hf:Fr T w w')(hT:∀b∈T,b<w0.heap.size\/w.heap.size<=b):DR w' (rg w0) d v:=h.old hf Ykd
theorem DR.down{v:Value}(h:DR w (rg w1) d v)(hl:w0.heap.size<=w1.heap.size):DR w (rg w0) d v:=h.mono (fun b hb=>.inl (Jk.2 (by have:=Jk.1 hb;omega)))
theorem Jgr{v:Value}{d:List Dt}(ho:bx w e k v 1 cs)(hr:RD w (rg w0) d cs)(hn:∀b∈ag v,w0.heap.size<=b):DR w (rg w0) (.l [d]) v:=by
 refine DR.Jhn (k:=d.length) ap ap ⟨cs,ho.src,fun ad n c e _ hm=>?_,?_⟩
 .have h1:=hn ad.block zt;have:=Jk.1 hm;omega
 .have:=Rws.cons (R:=RD w (rg w0)) hr .nil
  rwa [Ce]at this
/-! ### lists rM are ie2 made -/
theorem Je(h:p∈X):∀b∈[p],b∈X\/n<=b:=fun b hb=>by rw[Sv.1 hb];exact .inl h
def LR{α:Type}(X:List Nat)(C:α->List Dt):World->List Nat->α->List Value->Prop:=fun w S x cs=>RD w (S++X) (C x) cs
theorem Jf4{C:α->List Dt}(hk:∀x,(C x).length=k):Stab (LR X C) k where
 tr:=fun h hf=>RD.old h hf (fun b hb=>.inl lr)
 mono:=fun h hT=>RD.mono h (fun b hb=>by
  rcases SE.1 hb with hb|hb
  .rcases hT b hb with h|h
   .exact .inl xn
   .exact .inr h
  .exact .inl lr)
 len:=fun h=>by rw[RD.len h,hk]
 one:=fun h=>RD.one h
def LS{α:Type}(X:List Nat)(w:World)(e k:Nat)(C:α->List Dt)(l:List α)(v:Value):Prop:=WE w e k (LR X C) l v/\∀b∈ag v,b∉X
section
variable{α:Type}{X T:List Nat}{w w':World}{e k:Nat}{C:α->List Dt}{l:List α}{v:Value}
theorem LS.nil:LS X w e k C [] (zS):=⟨WE.nil _ _ _ _,fun b hb=>by simp[ag,Value.ownBlock]at hb⟩
theorem LS.lt(h:LS X w e k C l v):∀b∈ag v,b<w.heap.size:=h.1.lt
theorem LS.slice(h:LS X w e k C l v):∃ao c,v=.slice ao l.length c:=h.1.slice
theorem LS.keep(h:LS X w e k C l v)(hf:Fr T w w')(hT:∀b∈T,b∈X\/w.heap.size<=b):LS X w' e k C l v:=by
 obtain⟨⟨ys,h1,h2⟩,h3⟩:=h;refine⟨⟨ys,h1.tr hf (fun b hb hm=>?_),h2.imp (fun x cs _ hr=>RD.old hr hf (fun b hb=>?_))⟩,h3⟩
 .rcases hT b hm with h|h
  .exact h3 b hb h
  .have:=h1.lt b hb;omega
 .rcases hT b hb with h|h
  .exact .inl xn
  .exact .inr h
theorem LS.ge(h:LS X w e k C l v)(hX:∀b,b<w0.heap.size->b∈X):∀b∈ag v,w0.heap.size<=b:=fun b hb=>Iu fun aC=>h.2 b hb (hX b aC)
theorem LS.tr0(h:LS X w e k C l v)(hf:Fr [] w w'):LS X w' e k C l v:=h.keep hf ap
theorem LS.mono(h:LS X w e k C l v)(hY:∀b∈Y,b∈X\/w.heap.size<=b):LS Y w e k C l v:=by
 obtain⟨⟨ys,h1,h2⟩,h3⟩:=h;refine⟨⟨ys,h1,h2.imp (fun x cs _ hr=>RD.mono hr (fun b hb=>?_))⟩,fun b hb hm=>?_⟩
 .rcases SE.1 hb with h|h
  .exact .inl xn
  .rcases hY b h with h|h
   .exact .inl xn
   .exact .inr h
 .rcases hY b hm with h|h
  .exact h3 b hb h
  .have:=h1.lt b hb;omega
theorem LS.dr(h:LS X w e k C l v)(hk:∀x,(C x).length=k)(hl:l.length<=1000000000000):DR w X (.l (l.map C)) v:=by
 obtain⟨⟨ys,h1,h2⟩,h3⟩:=h;refine DR.ofTyped hk hl ⟨ys,h1.src,fun ad n c e _ hm=>?_,h2.imp (fun x cs _ hr=>RD.mono hr (fun b hb=>.inl lr))⟩;exact h3 ad.block zt hm
end
section
variable{P:Program}{ops:Array Oper}{Q:Exit->Act->World->Prop}{rest:List Oper}{n:Nat}{f:Env}{w:World}
variable{d d2:Nat}{ty Tn:TypeId}{ps To:String}{af Tq:Array Edge}{x s:Operand}{t t2:Nat}
theorem WL{C:α->List Dt}{size:Nat}{l:List α}{v:Value}{a:α}[RZ:RowZ P t e size eZ z]
 (hR:LS X w e size C l v) (hs:∀x,(C x).length=size) (pH:ev n f s=v) (hx:ev n f x=xv) (κ:xv.cells=cs.toArray) (ha:RD w S0 (C a) cs) (hS:∀b,b∈ag v\/b∈X->b∈S0\/w.heap.size<=b) (hd:ev n (bz f d (.slice (some ⟨w.heap.size,0,none⟩) 1 1)) s=v) (qM:Nat.blt d n=true) (fA:Nat.ble size 16777216=true)
 (jW:l.length+1<=maxLen) (hb:(l.length+1)*eZ<=140737488355328) (hX:∀b∈X,b<w.heap.size)
 (h:∀v' w',LS X w' e size C (l++[a]) v'->Fr (ag v) w w'->(∀b∈ag v',b∈ag v\/w.heap.size<=b)->wpList P ops Q rest (A n (bz (bz f d (.slice (some ⟨w.heap.size,0,none⟩) 1 1)) d2 v')) w'):
 wpList P ops Q (⟨some d,.buildSlice t 1 #[(0,x)],ty,ps,af,none⟩::⟨some d2,.call {callee:=.builtin .append,args:=#[s,.tmp d],argTypes:=#[t,t]},Tn,To,Tq,none⟩::rest) (A n f) w:=by
 refine Jdu hR.1 (Jf4 hs) pH hx κ (RD.mono ha (fun b hb=>hS b Ag)) hd qM fA jW hb (fun v' w' ho hf hk=>?_);exact Ygb
end
theorem LS.other{v1 YS:Value}{C:α->List Dt}{l:List α}{v:Value}(h:LS X w e k C l v)(hf:Fr (ag v1) w w')(h1:∀b∈ag v1,b∈X)(hk:∀b∈ag YS,b∈ag v1\/w.heap.size<=b)(hY:∀b∈Y,b∈X\/b∈ag YS):LS Y w' e k C l v:=
 ((h.mono (Y:=X++ag YS) (fun b hb=>(SE.1 hb).elim .inl (fun h'=>(hk b h').elim (fun h=>.inl (h1 b h)) .inr))).keep hf (fun b hb=>.inl (by simp[h1 b hb]))).mono (fun b hb=>.inl (by have:=hY b hb;simp[this]))
theorem LS.first{C:α->List Dt}{x:α}{v:Value}(ho:bx w e k v 1 cs)(hr:RD w S0 (C x) cs)(hS:∀b,b∈ag v\/b∈X->b∈S0\/w.heap.size<=b)(hn:∀b∈ag v,b∉X):LS X w e k C [x] v:=
 ⟨⟨cs,ho,.one (RD.mono hr (fun b hb=>hS b Ag))⟩,hn⟩
def L3{α β γ:Type}(X:List Nat)(w:World)(e1 e2 e3 k1 k2 k3:Nat)(C1:α->List Dt)(C2:β->List Dt)(C3:γ->List Dt)(l1:List α)(l2:List β)(l3:List γ)(v1 v2 v3:Value):Prop:=
 LS (X++(ag v2++ag v3)) w e1 k1 C1 l1 v1/\LS (X++(ag v1++ag v3)) w e2 k2 C2 l2 v2/\LS (X++(ag v1++ag v2)) w e3 k3 C3 l3 v3
section
variable{α β γ:Type}{X T:List Nat}{w w':World}{e1 e2 e3 k1 k2 k3:Nat}{C1:α->List Dt}{C2:β->List Dt}{C3:γ->List Dt}{l1 l1':List α}{l2 l2':List β}{l3 l3':List γ}{v1 v2 v3 v':Value}
theorem L3.keep(h:L3 X w e1 e2 e3 k1 k2 k3 C1 C2 C3 l1 l2 l3 v1 v2 v3)(hf:Fr T w w')(hT:∀b∈T,b∈X\/w.heap.size<=b):L3 X w' e1 e2 e3 k1 k2 k3 C1 C2 C3 l1 l2 l3 v1 v2 v3:=
 ⟨h.1.keep hf (fun b hb=>(hT b hb).imp (fun h=>by simp[h]) id),h.2.1.keep hf (fun b hb=>(hT b hb).imp (fun h=>by simp[h]) id),h.2.2.keep hf (fun b hb=>(hT b hb).imp (fun h=>by simp[h]) id)⟩
theorem L3.sz1(h:L3 X w e1 e2 e3 k1 k2 k3 C1 C2 C3 l1 l2 l3 v1 v2 v3)(hX:∀b∈X,b<w.heap.size):∀b∈X++(ag v2++ag v3),b<w.heap.size:=fun b hb=>by
 rcases SE.1 hb with hb|hb
 .exact hX b hb
 .exact (SE.1 hb).elim (h.2.1.lt b) (h.2.2.lt b)
theorem L3.sz2(h:L3 X w e1 e2 e3 k1 k2 k3 C1 C2 C3 l1 l2 l3 v1 v2 v3)(hX:∀b∈X,b<w.heap.size):∀b∈X++(ag v1++ag v3),b<w.heap.size:=fun b hb=>by
 rcases SE.1 hb with hb|hb
 .exact hX b hb
 .exact (SE.1 hb).elim (h.1.lt b) (h.2.2.lt b)
theorem L3.sz3(h:L3 X w e1 e2 e3 k1 k2 k3 C1 C2 C3 l1 l2 l3 v1 v2 v3)(hX:∀b∈X,b<w.heap.size):∀b∈X++(ag v1++ag v2),b<w.heap.size:=fun b hb=>by
 rcases SE.1 hb with hb|hb
 .exact hX b hb
 .exact (SE.1 hb).elim (h.1.lt b) (h.2.1.lt b)
theorem L3.JiR(h:L3 X w e1 e2 e3 k1 k2 k3 C1 C2 C3 l1 l2 l3 v1 v2 v3)(hL:LS (X++(ag v2++ag v3)) w' e1 k1 C1 l1' v')(hf:Fr (ag v1) w w')(hk:∀b∈ag v',b∈ag v1\/w.heap.size<=b):L3 X w' e1 e2 e3 k1 k2 k3 C1 C2 C3 l1' l2 l3 v' v2 v3:=
 ⟨hL,h.2.1.other hf PY hk YM,h.2.2.other hf PY hk YM⟩
theorem L3.Jha(h:L3 X w e1 e2 e3 k1 k2 k3 C1 C2 C3 l1 l2 l3 v1 v2 v3)(hL:LS (X++(ag v1++ag v3)) w' e2 k2 C2 l2' v')(hf:Fr (ag v2) w w')(hk:∀b∈ag v',b∈ag v2\/w.heap.size<=b):L3 X w' e1 e2 e3 k1 k2 k3 C1 C2 C3 l1 l2' l3 v1 v' v3:=
 ⟨h.1.other hf PY hk YM,hL,h.2.2.other hf PY hk YM⟩
theorem L3.JjZ(h:L3 X w e1 e2 e3 k1 k2 k3 C1 C2 C3 l1 l2 l3 v1 v2 v3)(hL:LS (X++(ag v1++ag v2)) w' e3 k3 C3 l3' v')(hf:Fr (ag v3) w w')(hk:∀b∈ag v',b∈ag v3\/w.heap.size<=b):L3 X w' e1 e2 e3 k1 k2 k3 C1 C2 C3 l1 l2 l3' v1 v2 v':=
 ⟨h.1.other hf PY hk YM,h.2.1.other hf PY hk YM,hL⟩
end
section
variable{P:Program}{ops:Array Oper}{Q:Exit->Act->World->Prop}{rest:List Oper}{n:Nat}{f:Env}{w:World}
variable{d:Nat}{ty:TypeId}{ps:String}{af:Array Edge}{x s:Operand}{t:Nat}
theorem V7{C:α->List Dt}{size:Nat}{l:List α}{v:Value}{a:α}[Rr:RowT P t e size eZ]
 (hR:LS X w e size C l v) (hs:∀x,(C x).length=size) (pH:ev n f s=v) (hx:ev n f x=xv) (eo:Src w xv 1 cs) (ha:RD w S0 (C a) cs) (hS:∀b,b∈ag v\/b∈X->b∈S0\/w.heap.size<=b) (jW:l.length+1<=maxLen) (hb:(l.length+1)*eZ<=140737488355328) (hX:∀b∈X,b<w.heap.size)
 (h:∀v' w',LS X w' e size C (l++[a]) v'->Fr (ag v) w w'->(∀b∈ag v',b∈ag v\/w.heap.size<=b)->wpList P ops Q rest (A n (bz f d v')) w'):
 wpList P ops Q (⟨some d,.call {callee:=.builtin .append,args:=#[s,x],argTypes:=#[t,t]},ty,ps,af,none⟩::rest) (A n f) w:=by
 refine Jfn (al:=[a]) hR.1 (Jf4 hs) pH hx eo (.one (RD.mono ha (fun b hb=>hS b Ag))) rfl jW hb (fun v' w' ho hf hk _=>?_);exact Ygb
end
section
variable{P:Program}{Q:Exit->Act->World->Prop}{k:Nat}{S:World->Prop}{n:Nat}{f:Env}{w:World}{l:List Oper}{fuel:Nat}{au:Array Bool}
theorem Jh2{j:Nat}{o o':Oper}(hi:l[i]?=some o)(hj:l[j]?=some o')(hr:Region.ready .any l.toArray au=[i,j])
 (h1:wpList P l.toArray (Exit.then (fun a' w'=>((au.setIfInBounds i true).getD k true=true\/S w')/\Vl P .any l.toArray Q k S fuel (au.setIfInBounds i true) a' w') Q) [o] (A n f) w)
 (h2:wpList P l.toArray (Exit.then (fun a' w'=>((au.setIfInBounds j true).getD k true=true\/S w')/\Vl P .any l.toArray Q k S fuel (au.setIfInBounds j true) a' w') Q) [o'] (A n f) w):Vl P .any l.toArray Q k S (fuel+1) au (A n f) w:=by
 refine Nq hr ap fun m hm=>?_
 simp only[SC,S9,CU]at hm;rcases hm with rfl|rfl
 .exact KC hi h1
 .exact KC hj h2
end
/-! ### a field of a value -/
class FldT (P:Program) (s i:Nat) (off:outParam Nat):Prop where
 f:∃fs fd,P.underlying s=some (.struct fs)/\fs[i]?=some fd/\fd.offset=off/\OneT P fd.type
section
variable{P:Program}{ops:Array Oper}{Q:Exit->Act->World->Prop}{rest:List Oper}{n:Nat}{f:Env}{w:World}
variable{d:Nat}{ty:TypeId}{ps:String}{af:Array Edge}{x:Operand}{gd:Option (Nat×Bool)}
theorem NP{off:Nat}[F:FldT P s i off](hx:ev n f x=.agg l.toArray)(hu:l[off]?=some u):
 (execOp (ev n f) ⟨some d,.field s x i,ty,ps,af,gd⟩).run P w=.ok (.value u) w:=by
 obtain⟨fs,fd,h1,h2,h3,h4⟩:=F.f;obtain⟨d,hd,ha⟩:=h4.agg;simp[execOp,hx,Instr.field,run_underlying h1,h2,h3,part,ZI hd,ha,asAgg,hu]
theorem XF{off:Nat}[F:FldT P s i off](hx:ev n f x=.agg l.toArray)(hu:l[off]?=some u)(h:wpList P ops Q rest (A n (bz f d u)) w):
 wpList P ops Q (⟨some d,.field s x i,ty,ps,af,none⟩::rest) (A n f) w:=JR (NP hx hu) h
end
/-! ### rows from values of ibU -/
theorem Jgj{size:Nat}{c1:List Value}(hz:z.length=size)(h1:c1.length=size)(h2:c2.length=size):Xr (fun i=>some (i*size,size)) (bG z 2) [(0,.agg c1.toArray),(1,.agg c2.toArray)]=some (c1++c2):=by
 have e1:(Value.agg c1.toArray).cells.toList=c1:=rfl;have e2:(Value.agg c2.toArray).cells.toList=c2:=rfl;have b1:Nat.beq size size=true:=Nat.beq_refl size;have b2:Nat.ble size (size+size)=true:=Dv ab;have b3:Nat.ble (size+size) (size+size)=true:=Dv ab;have d1:List.drop size (z++z)=z:=by rw[D6 ab,Ci ab];rfl
 simp only[Xr,bG,e1,e2,h1,h2,b1,Ce,Sm,hz,D8,Di,Ez,b2,b3,H7,CO,d1,II,Ic];rw[ER ab,SQ ab,Ci aZ,Ce]
theorem Jdf{size:Nat}{c1:List Value}(hz:z.length=size)(h1:c1.length=size)(h2:c2.length=size)(h3:c3.length=size):Xr (fun i=>some (i*size,size)) (bG z 3) [(0,.agg c1.toArray),(1,.agg c2.toArray),(2,.agg c3.toArray)]=some (c1++c2++c3):=by
 have e1:(Value.agg c1.toArray).cells.toList=c1:=rfl;have e2:(Value.agg c2.toArray).cells.toList=c2:=rfl;have e3:(Value.agg c3.toArray).cells.toList=c3:=rfl;have b1:Nat.beq size size=true:=Nat.beq_refl size;have b2:Nat.ble size (size+(size+size))=true:=Dv ab;have b3:Nat.ble (size+size) (size+(size+size))=true:=Dv ab;have b4:Nat.ble (2*size+size) (size+size+size)=true:=Dv ab;have d1:List.drop size (z++(z++z))=z++z:=by rw[D6 ab,Ci ab];rfl
 have t1:List.take size (c1++(z++z))=c1:=by rw[ER ab,SQ ab]
 have d2:List.drop (size+size) (c1++(z++z))=z:=by
  rw[<-List.append_assoc,D6 aZ,Ci aZ];rfl
 have t3:List.take (2*size) (c1++c2++z)=c1++c2:=by rw[ER aZ,SQ aZ]
 have d3:List.drop (2*size+size) (c1++c2++z)=[]:=Ci aZ;simp only[Xr,bG,e1,e2,e3,h1,h2,h3,b1,Ce,Sm,hz,D8,Di,Ez,b2,b3,H7,CO,d1,II,Ic,t1,d2,t3,d3,b4]
section
variable{P:Program}{ops:Array Oper}{Q:Exit->Act->World->Prop}{rest:List Oper}{n:Nat}{f:Env}{w:World}
variable{d:Nat}{ty Tn:TypeId}{ps To:String}{af Tq:Array Edge}{x y x2 x3:Operand}{t t2:Nat}
theorem JQ{size:Nat}{c1:List Value}[R:RowZ P t e size eZ z](hx:ev n f x=.agg c1.toArray)(h1:c1.length=size)(fA:Nat.ble size 16777216=true)
 (hk:∀w' q,q=w.heap.size->bx w' e size (.slice (some ⟨q,0,none⟩) 1 1) 1 c1->Fr [] w w'->w'.heap.size=w.heap.size+1->wpList P ops Q rest (A n (bz f d (.slice (some ⟨q,0,none⟩) 1 1))) w'):
 wpList P ops Q (⟨some d,.buildSlice t 1 #[(0,x)],ty,ps,af,none⟩::rest) (A n f) w:=by
 have oo:z.length=size:=by obtain⟨i,v,_,_,_,h⟩:=R.z;exact h
 refine J3 (z:=z) (parts:=[(0,x)]) c1 (by simpa using fA) rfl ?_ (by simpa using h1) (fun w' ho hf hs=>hk w' _ rfl ho hf hs);simp only[UR,hx];exact Jcc oo h1 rfl
theorem Xj{size:Nat}{c1:List Value}[R:RowZ P t e size eZ z](hx:ev n f x=.agg c1.toArray)(bW:ev n f x2=.agg c2.toArray)(h1:c1.length=size)(h2:c2.length=size)(fA:Nat.ble (2*size) 16777216=true)
 (hk:∀w' q,q=w.heap.size->bx w' e size (.slice (some ⟨q,0,none⟩) 2 2) 2 (c1++c2)->Fr [] w w'->w'.heap.size=w.heap.size+1->wpList P ops Q rest (A n (bz f d (.slice (some ⟨q,0,none⟩) 2 2))) w'):
 wpList P ops Q (⟨some d,.buildSlice t 2 #[(0,x),(1,x2)],ty,ps,af,none⟩::rest) (A n f) w:=by
 have oo:z.length=size:=by obtain⟨i,v,_,_,_,h⟩:=R.z;exact h
 refine J3 (z:=z) (parts:=[(0,x),(1,x2)]) (c1++c2) fA rfl ?_ aZ (fun w' ho hf hs=>hk w' _ rfl ho hf hs);simp only[UR,hx,bW];exact Jgj oo h1 h2
theorem MP{size:Nat}{c1:List Value}[R:RowZ P t e size eZ z](hx:ev n f x=.agg c1.toArray)(bW:ev n f x2=.agg c2.toArray)(hx3:ev n f x3=.agg c3.toArray)(h1:c1.length=size)(h2:c2.length=size)(h3:c3.length=size)(fA:Nat.ble (3*size) 16777216=true)
 (hk:∀w' q,q=w.heap.size->bx w' e size (.slice (some ⟨q,0,none⟩) 3 3) 3 (c1++c2++c3)->Fr [] w w'->w'.heap.size=w.heap.size+1->wpList P ops Q rest (A n (bz f d (.slice (some ⟨q,0,none⟩) 3 3))) w'):
 wpList P ops Q (⟨some d,.buildSlice t 3 #[(0,x),(1,x2),(2,x3)],ty,ps,af,none⟩::rest) (A n f) w:=by
 have oo:z.length=size:=by obtain⟨i,v,_,_,_,h⟩:=R.z;exact h
 refine J3 (z:=z) (parts:=[(0,x),(1,x2),(2,x3)]) (c1++c2++c3) fA rfl ?_ aZ (fun w' ho hf hs=>hk w' _ rfl ho hf hs);simp only[UR,hx,bW,hx3];exact Jdf oo h1 h2 h3
theorem KR{z:Value}[Z:ZeroT P e z][G:AggT P e m](hz:z.cells=l.toArray)(hl:l.length=m)(hc:cs.length=m)(h1:∀c∈cs,c.oneCell'=true)(qM:Nat.blt d n=true)
 (hy:∀v,ev n (bz f d v) y=.agg cs.toArray) (h:∀w' q,q=w.heap.size->aG w' q cs e->Fr [] w w'->w'.heap.size=w.heap.size+1->wpList P ops Q rest (A n (bz f d (.pointer (some ⟨q,0,none⟩)))) w'):
 wpList P ops Q (⟨some d,.alloc e,ty,ps,af,none⟩::⟨none,.store e (.tmp d) y,Tn,To,Tq,none⟩::rest) (A n f) w:=by
 refine WM hz (fun w1 hb hf hs=>?_);refine Jd ?_ (hy _) hb h1 hl hc (fun w2 dN aq cz=>h w2 _ rfl dN ?_ ab)
 .show cond (Nat.blt d n) (bz f d _ d) undef=_;rw[qM,iY];rfl
 .exact hf.trans aq (fun x hx=>.inr (by rw[Sv.1 hx];exact SX _))
end
theorem Qc{P:Program}{fn:Func}{R:Ending->World->Prop}{f:Env}{t ty tb:Nat}[G:AggT P ty m](hr:fn.results=#[.cell t ty])(hv:ev n f (.tmp t)=.pointer (some ⟨q,0,none⟩))(hb:aG w q cs tb)(hl:cs.length=m)
 (h:R (.returned (.agg cs.toArray)) w):bodyPost P fn R .ret (A n f) w:=JjU hr hv (AggT.load _ cs hl Yjn) h
theorem KU{a:Nat}(h:w.heap.size<=a):∀b∈a::X,b∈X\/w.heap.size<=b:=fun b hb=>by
 rcases SC.1 hb with rfl|hb
 .exact .inr h
 .exact .inl hb
theorem RD.tell{ds:List Dt}{vs:List Value}(h:RD w X ds vs)(hY:∀b∈Y,b∈X\/w.heap.size<=b)(hf:Fr [] w w'):RD w' Y ds vs:=(h.mono hY).tr0 hf
theorem DR.tell{v:Value}(h:DR w X d v)(hY:∀b∈Y,b∈X\/w.heap.size<=b)(hf:Fr [] w w'):DR w' Y d v:=(h.mono hY).tr0 hf
theorem GR{v:Value}{rows:List (List Dt)}{ys:List Value}(ho:bx w e k v rows.length ys)(hr:Rws (RD w X) rows ys)(hk:∀r∈rows,r.length=k)(hl:rows.length<=1000000000000)(hn:∀b∈ag v,b∉X):DR w X (.l rows) v:=
 DR.Jhn hl hk ⟨ys,ho.src,fun ad n c e _ hm=>hn ad.block zt hm,hr⟩
theorem Jf{u:World}(h:p<u.heap.size):∀b∈[p],b∈rg u\/n<=b:=fun b hb=>.inl (Jk.2 (by rw[Sv.1 hb];exact h))
theorem bind_some{β:Type}{o:Option α}{f:α->Option β}{y:β}(h:o.bind f=some y):∃x,o=some x/\f x=some y:=Si.1 h
theorem JcU{r:List Tk}(h:JB t r=some r'):bg t r=true/\r'=r.tail:=by
 unfold JB at h
 split at h
 .exact ⟨by assumption,by simpa using h.symm⟩
 .cases h
theorem U8{t:Tk}{r:List Tk}(h:Vr k r=some (t,r')):r=t::r'/\Bc k (t::r')=true:=by
 cases r with
 |nil=>simp[Vr]at h
 |cons a r=>
  simp only[Vr]at h
  split at h
  .simp only[Sj,Sz]at h;obtain⟨rfl,rfl⟩:=h;exact⟨rfl,by assumption⟩
  .cases h
end Go.Rf
namespace Go.Proofs.YtggmccicdhnkgaaGreat
open Go.Proofs.Tryz
open Go.Rf Go.RowKit
variable{t:Bs}{r':List Tk}{cs:List Value}{bd k p q:Nat}{α:Type}{w w0:World}
attribute [local irreducible] Code.wp wpList Exit.then Exit.inBlock bodyPost A Calls execOp Addr.add
instance:FldT prog 199 2 2:=⟨⟨_,_,underlying199,rfl,rfl,(inferInstance:OneT prog 3)⟩⟩
instance:FldT prog 199 3 3:=⟨⟨_,_,underlying199,rfl,rfl,(inferInstance:OneT prog 9)⟩⟩
def PC{α:Type}(tF:Nat)(al:List Value)(g:Int->List Tk->Option (α×List Tk))(C:α->List Dt):Prop:=∀(bd p:Nat) (n:Int) (r:List Tk) (w:World) (x:α) (r':List Tk),PS bd w p n r->g n r=some (x,r')->
 Calls prog tF (Value.pointer (some ⟨p,0,none⟩)::al).toArray w fun e w'=>∃cs,e=.returned (.agg cs.toArray)/\RD w' (rg w) (C x) cs/\PS bd w' p n r'/\Fr [p] w w'
theorem JL{n:Int}{r:List Tk}(h:PS bd w p n r)(ht:JB t r=some r'):
 Calls prog 120 #[.pointer (some ⟨p,0,none⟩),.string (aA t)] w fun e w'=>e=.returned (.tuple #[])/\PS bd w' p n r'/\Fr [p] w w':=by
 obtain⟨h1,rfl⟩:=JcU ht;exact Jj3 t p n r w h h1
theorem VF{n:Int}{r:List Tk}{t:Tk}(h:PS bd w p n r)(ht:Vr k r=some (t,r')):
 Calls prog 119 #[.pointer (some ⟨p,0,none⟩),iV k] w fun e w'=>e=.returned (.agg (kh t).toArray)/\PS bd w' p n r'/\Fr [p] w w':=by
 obtain⟨rfl,h1⟩:=U8 ht;exact JiV k p n t r' w h h1
def PL{α:Type}(tF:Nat)(al:List Value)(g:Int->List Tk->Option (α×List Tk))(C:α->List (List Dt)):Prop:=∀(bd p:Nat) (n:Int) (r:List Tk) (w:World) (x:α) (r':List Tk),PS bd w p n r->g n r=some (x,r')->
 Calls prog tF (Value.pointer (some ⟨p,0,none⟩)::al).toArray w fun e w'=>∃v,e=.returned v/\DR w' (rg w) (.l (C x)) v/\PS bd w' p n r'/\Fr [p] w w'
theorem QJ{C:α->List Dt}{n:Int}{r:List Tk}{u u':World}{x:α}(hq:q=w.heap.size)(hw0:q<w0.heap.size)(hle:w.heap.size<=w0.heap.size)(dx:bd<=q)(hP:PS bd u p n r)(hF:Fr [p] w u)(hf:Fr [q] u u')(hd:RD u (rg w0) (C x) cs):
 ∃bS,Ending.returned (.agg cs.toArray)=.returned (.agg bS.toArray)/\RD u' (rg w) (C x) bS/\PS bd u' p n r/\Fr [p] w u':=
 ⟨cs,rfl,(hd.keep hf (fun b hb=>.inl (by rw[Sv.1 hb];exact hw0))).down hle,hP.tr hf (fun k hk=>by rw[Sv.1 hk];exact dx),hF.trans hf (fun k hk=>.inr (by rw[Sv.1 hk,hq];exact SX _))⟩
def LI{α:Type}(bd p:Nat)(n:Int)(w:World)(X:List Nat)(e k:Nat)(C:α->List Dt)(go:Nat->List Tk->Option (List α×List Tk))(l:List α)(r1:List Tk)(f:Nat)(acc:List α)(r:List Tk)(b:Bool)(u:World)(v:Value):Prop:=
 PS bd u p n r/\Fr [p] w u/\LS X u e k C acc v/\acc.length+f<=1000000/\(b=true->∃l',go f r=some (l',r1)/\acc++l'=l)/\(b=false->acc=l/\r=r1)
theorem Xg{go:Nat->List Tk->Option (List α×List Tk)}{f:Nat}{x:α}{acc l l':List α}{b:Bool}{r3 r1:List Tk}(bZ:(if b=true then(go f r3.tail).bind fun y=>some (x::y.1,y.2) else some ([x],r3))=some (l',r1))(fw:acc++l'=l):
 (b=true->∃l',go f (Jz b r3)=some (l',r1)/\(acc++[x])++l'=l)/\(b=false->acc++[x]=l/\Jz b r3=r1):=by
 cases b with
 |true=>
  refine⟨fun _=>?_,fun h=>by cases h⟩;rw[Cb rfl]at bZ;obtain⟨⟨l2,r4⟩,h1,h2⟩:=bind_some bZ;simp only[Sj,Sz]at h2;obtain⟨rfl,rfl⟩:=h2;exact⟨l2,h1,by rw[<-fw];simp⟩
 |false=>
  refine⟨fun h=>mi,fun _=>?_⟩;rw[SH ap]at bZ;simp only[Sj,Sz]at bZ;obtain⟨rfl,rfl⟩:=bZ;exact⟨fw,rfl⟩
end Go.Proofs.YtggmccicdhnkgaaGreat
