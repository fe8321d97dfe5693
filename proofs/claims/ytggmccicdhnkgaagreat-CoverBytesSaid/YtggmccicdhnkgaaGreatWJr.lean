/-
 Report of package cover.
-/
import Derived.Test.YtggmccicdhnkgaaGreatWJc
import Derived.Test.YtggmccicdhnkgaaGreatWJk
import Derived.Test.YtggmccicdhnkgaaGreatWMs
set_option linter.all false
set_option maxHeartbeats 64000000
namespace Go.Rf
open Go.RowKit
variable{i:Nat}{α:Type}
theorem LQ{p:α->Bool}{l:List α}(h:∀i (hi:i<l.length),p l[i]=false):l.any p=false:=by
 rw[DC];intro x hx;obtain⟨i,hi,rfl⟩:=Eu hx;rw[h i hi];simp
theorem ZW{p:α->Bool}{l:List α}(hi:i<l.length)(h:p l[i]=true):l.any p=true:=by
 rw[List.any_eq_true];exact⟨l[i],Cj hi,h⟩
theorem Zr{p:α->Bool}{l:List α}(hi:i<l.length):(l.take (i+1)).filter p=(l.take i).filter p++(if p l[i]=true then[l[i]] else[]):=by
 rw[SK hi,Ib]
 congr 1
 by_cases h:p l[i]=true<;>simp[h]
end Go.Rf
namespace Go.Proofs.YtggmccicdhnkgaaGreat
open Go.Proofs.Tryz
open Go.Rf Go.RowKit
section
variable{M R:List Nat}{p:Nat}{P:Pp}{s:St}
attribute [local irreducible] Code.wp wpList Exit.then Exit.inBlock bodyPost A Calls execOp Addr.add
theorem Jig(w:World)(hC:Wj w p M R P s)(hn:P.reach.length<=1000000):
 Calls prog 18 #[.pointer (some ⟨p,0,none⟩)] w fun e w'=>∃v,e=.returned v/\BO w 50 w' (Ur P s) v/\Fr [] w w':=by
 obtain⟨bb,pb,vr,vc,mb,mp,rfl,rfl,hnd,hb,hr,hc,hmb,hrb,hmp,hrp,hok⟩:=hC;obtain⟨aor,cr,rfl⟩:=hr.slice;refine enter func18 rfl ntmps18 rfl ?_;refine rx ?_;refine Jh 11 [3,5] (σ:=Nat×Value) (fun t g u=>g 3=t.2/\g 11=iV (t.1:Nat)/\t.1<=P.reach.length/\BO w 50 u ((P.reach.take t.1).filter (fun b=>decide (s.cnt b=0))) t.2/\Fr [] w u) (fun t=>P.reach.length-t.1) (0,_) ⟨rfl,rfl,SL _,BO.nil,Fr.refl _ _⟩ ?_;rintro⟨i,va⟩ g u ⟨g3,g11,hi,hB,hF⟩;simp only at g3 g11 hi hB;rw[Ja g3,Ja g11];have hsu:=hF.size;by_cases hlt:i<P.reach.length
 case neg=>
  rw[SQ Yhn]at hB;refine Yeo ?_;exact⟨va,rfl,hB,hF⟩
 obtain⟨ad,rfl,hc1⟩:=JZ QN (hr.src.tr0 hF) hlt Yhy;have hc1:Cells u (ad.add (i*3)) [.string P.reach[i].decl,iV P.reach[i].at_,iV P.reach[i].arm]:=hc1;have hbu:=hb.tr0 hF;have hmu:=hmb.tr0 hF;refine rx ?_;refine Jm (l:=[zT,zI,zI]) rfl (fun u1 b5 hb5 h5 hf1 hs1=>?_);refine rx ?_;refine Jd (cs:=brV P.reach[i]) rfl rfl h5 (QD _) rfl rfl (fun u2 h5 hf2 hs2=>?_);replace h5:Blk u2 b5 [.string P.reach[i].decl,iV P.reach[i].at_,iV P.reach[i].arm] _:=h5;have hF2:Fr [] u u2:=hf1.trans hf2 (fun x hx=>.inr Yhq);have hbu:=hbu.tr0 hF2;have hmu:=hmu.tr0 hF2;have hB2:=hB.tr0 hF2;have hs12:=hF2.size;have hml:((P.reach.take i).filter (fun b=>decide (s.cnt b=0))).length<=i:=by
  have:=D5 (fun b=>decide (s.cnt b=0)) (P.reach.take i);rw[C9]at this;omega
 refine rx ?_;refine JE (fun z=>Fr [] u2 z) Yhp rfl ?_;obtain⟨u3,hu3⟩:=exq u2.drew;rw[<-hu3];have hS:Fr [] u2 u3:=hu3▸Fr.drew _ _;refine Jj 0 1 2 3 hS ?_;refine d_z 4 hS ?_;refine Kw 5 hS ?_ (hrun:=by(intro u hu;refine(JdF (P:=prog) (t:=122) (a:=P.reach[i]) ?_ ?_ (hmu.tr0 hu) hrb);exact rfl;exact rfl));have h5:=h5.tr0 hS;have hF3:=(hF.Jb hF2).Jb hS;by_cases hz:s.cnt P.reach[i]=0
 . (refine d_z 6 hS ?_)
   refine Yev ?_;refine JQ (c1:=brV P.reach[i]) rfl rfl rfl (fun u4 q4 hq4 ho4 hf4 hs4=>?_);refine rx ?_;refine Bj (m:=1) (al:=[P.reach[i]]) ((hB2.tr0 hS).tr0 hf4) rfl rfl rfl (show Src u4 (.slice (some ⟨q4,0,none⟩) 1 1) 1 ([P.reach[i]].flatMap brV) from by simpa using ho4.src) Yhv Yhn (by have:=hF3.size;omega) (fun v5 u5 hB5 hfr5=>?_);refine rx ?_;refine Jc (i+1,v5) Yhl ⟨rfl,rfl,hlt,?_,hfr5 [] (hF3.Jb hf4)⟩ Yhw;simp only;rw[Zr hlt,Cb (SN hz)];exact hB5
 . (refine d_z 6 hS ?_)
   refine Yev ?_;refine Jc (i+1,va) Yhl ⟨rfl,rfl,hlt,?_,hF3⟩ Yhw;simp only;rw[Zr hlt,SH (by simpa using hz),Ce];exact hB2.tr0 hS
theorem Jdd(r:Rn)(vb vl:Value)(w:World){S:List Nat}(hC:Wj w p M R P s)(hbr:DR w S (.l (r.bs.map brC)) vb)(hl:DR w S (.l (r.cl.map KI)) vl):
 Calls prog 16 #[.pointer (some ⟨p,0,none⟩),.agg ([iV r.kind,iV r.at_,iV r.code,vb,vl,zI]:List Value).toArray] w fun e w'=>e=.returned (.bool (Qd P r&&VB s r))/\Fr [] w w':=by
 have hC0:=hC;have h1b:=hbr.one;have h1l:=hl.one;obtain⟨bb,pb,vr,vc,mb,mp,rfl,rfl,hnd,hb,hr,hc,hmb,hrb,hmp,hrp,hok⟩:=hC;have hncls:=hok.ncls;obtain⟨aoc,cc,rfl⟩:=hc.slice;have hlbd:=hl.bound;have hbbd:=hbr.bound;obtain⟨aol,cl,rfl,_⟩:=hl.slice;obtain⟨aob,cb,rfl,_⟩:=hbr.slice;simp only[Sr]at hl hbr h1b h1l hlbd hbbd ⊢;refine enter func16 rfl ntmps16 rfl ?_;refine rx ?_;refine Ju (l:=[iV r.kind,iV r.at_,iV r.code,(.slice aob r.bs.length cb),(.slice aol r.cl.length cl),zI]) rfl rfl (fun w1 b3 hb3 h3 hf1 hs1=>?_);refine rx ?_;refine Jg (Jij r (.slice aob r.bs.length cb) (.slice aol r.cl.length cl) w1 (hC0.tr0 hf1) (hl.tr0 hf1) h1b) ?_;rintro w2 hf2;have hF2:=hf1.Jb hf2;cases hfit:Qd P r with
 |false=>
  refine Yeo ?_;exact⟨by simp,hF2⟩
 |true=>
 have hfit':=hfit;unfold Qd at hfit';rw[CV]at hfit';have hcls:=hfit'.2;have h3:=h3.tr0 hf2;have hb2:=hb.tr0 hF2;have hc2:=hc.tr0 hF2;refine rx ?_;refine Jh 16 [6] (σ:=Nat) (fun i g u=>g 16=iV (i:Nat)/\i<=r.cl.length/\(∀j (hj:j<r.cl.length),j<i->decide (s.cls.getD r.cl[j].toNat 0=0)=false)/\Fr [] w2 u) (fun i=>r.cl.length-i) 0 ⟨rfl,SL _,fun j hj h=>by omega,Fr.refl _ _⟩ ?_;rintro i g u ⟨g16,hi,hpre,hF⟩;rw[Ja g16];have hFu:=hF2.Jb hF;have h3:=h3.tr0 hF;have hbu:=hb2.tr0 hF;by_cases hlt:i<r.cl.length
 .obtain ⟨adl,hadl,hcell⟩:=KO (VP (hl.tr0 hFu)) (WS hlt);subst hadl;have hin:=Jdh hcls (Cj hlt);obtain⟨j,hj⟩:∃j:Nat,(j:Int)=r.cl[i]:=⟨r.cl[i].toNat,Et hin.1⟩;have hjl:j<s.cls.length:=by omega
  obtain⟨adc,hadc,hcc⟩:=KO (hc2.tr0 hF).src (V9 hjl);have hget:s.cls.getD r.cl[i].toNat 0=s.cls[j]:=by rw[<-hj,EG,getD_at hjl]
  refine Yfm ?_;refine rx ?_;refine BZ rfl rfl hj.symm hjl hadc ?_;refine KW rfl hcc ?_;by_cases hz:s.cls[j]=0
  .refine rx ?_;refine Yfw ?_;refine⟨?_,hFu⟩;unfold VB;rw[ZW hlt (SN (by rw[hget];exact hz))];simp
  .refine rx ?_;refine Jc (i+1) Yhl ⟨rfl,hlt,fun k hk h=>?_,hF⟩ Yhn;by_cases e:k=i
   .subst e;exact SG (by rw[hget];exact hz)
   .exact hpre k hk Yhn
 have hcl0:r.cl.any (fun x=>decide (s.cls.getD x.toNat 0=0))=false:=LQ (fun j hj=>hpre j hj Yhn);have hmu:=hmb.tr0 hFu;have hmpu:=hmp.tr0 hFu;clear hpre;refine rx ?_;clear hlt;refine Jh 32 [7,8] (σ:=Nat) (fun i g u'=>g 32=iV (i:Nat)/\i<=r.bs.length/\(∀j (hj:j<r.bs.length),j<i->decide (s.cnt r.bs[j]=0)=false/\∀h:j+1<r.bs.length,j+1<i->decide ((r.bs[j],r.bs[j+1])∈s.ps)=true)/\Fr [] u u') (fun i=>r.bs.length-i) 0 ⟨rfl,SL _,fun j hj h=>by omega,Fr.refl _ _⟩ ?_;rintro k g u1 ⟨g32,hk,hpre,hF1⟩;rw[Ja g32];have hFu1:=hFu.Jb hF1;have h3:=h3.tr0 hF1;have hbu:=hbu.tr0 hF1;by_cases hlt:k<r.bs.length
 case neg=>
  refine Yeo ?_;refine⟨?_,hFu1⟩;unfold VB;rw[hcl0,LQ (fun j hj=>(hpre j hj Yhn).1),LQ (fun j hj=>?_)]
  .simp
  .have hpl:=QI (l:=r.bs);have hj1:j+1<r.bs.length:=by omega
   have hg:=(Df.1 (Xb hj1)).2;rw[hg,(hpre j Yhn Yhn).2 hj1 Yhn];rfl
 obtain⟨ad,hade,hc1⟩:=JZ QN (DR.brs (hbr.tr0 hFu1)) hlt Yhy;subst hade;have hc1:Cells u1 (ad.add (k*3)) [.string r.bs[k].decl,iV r.bs[k].at_,iV r.bs[k].arm]:=hc1;have hmu:=hmu.tr0 hF1;have hmpu:=hmpu.tr0 hF1;refine rx ?_;refine Jm (l:=[zT,zI,zI]) rfl (fun u2 b8 hb8 h8 hf5 hs5=>?_);refine rx ?_;refine Jd (cs:=brV r.bs[k]) rfl rfl h8 (QD _) rfl rfl (fun u3 h8 hf6 hs6=>?_);replace h8:Blk u3 b8 [.string r.bs[k].decl,iV r.bs[k].at_,iV r.bs[k].arm] _:=h8;have hF3:Fr [] u1 u3:=hf5.trans hf6 (fun x hx=>.inr Yhq);have h3:=h3.tr0 hF3;have hbu:=hbu.tr0 hF3;have hmu:=hmu.tr0 hF3;have hmpu:=hmpu.tr0 hF3;refine rx ?_;refine JE (fun z=>Fr [] u3 z) Yhp rfl ?_;obtain⟨u4,hu4⟩:=exq u3.drew;rw[<-hu4];have hS:Fr [] u3 u4:=hu4▸Fr.drew _ _;have hF4:=(hFu1.Jb hF3).Jb hS;have hF4u:=(hF1.Jb hF3).Jb hS;refine Jj 0 1 2 3 hS ?_;refine d_z 4 hS ?_;refine Kw 5 hS ?_ (hrun:=by(intro u hu;refine(JdF (P:=prog) (t:=122) (a:=r.bs[k]) ?_ ?_ (hmu.tr0 hu) hrb);exact rfl;exact rfl));by_cases hz:s.cnt r.bs[k]=0
 . (refine Jj 6 7 8 9 hS ?_;refine Jj 10 11 12 13 hS ?_;refine Jj 14 15 16 17 hS ?_;refine Jj 18 19 20 21 hS ?_;refine Jj 22 23 24 25 hS ?_;refine d_z 26 hS ?_)
   refine Yfx ?_;refine Yeo ?_;refine⟨?_,hF4⟩;unfold VB;rw[ZW (p:=fun b=>decide (s.cnt b=0)) hlt (SN hz)];simp
 by_cases hk0:k=0
 . (refine Jj 6 7 8 9 hS ?_;refine Jj 10 11 12 13 hS ?_;refine Jj 14 15 16 17 hS ?_;refine Jj 18 19 20 21 hS ?_;refine Jj 22 23 24 25 hS ?_;refine d_z 26 hS ?_)
   refine Yev ?_;refine Jc (k+1) Yhl ⟨rfl,hlt,fun j hj h=>⟨?_,fun h1 h2=>by omega⟩,hF4u⟩ Yhn;obtain rfl:j=k:=by omega
   exact SG hz
 obtain⟨ad',hade,hc2⟩:=JZ QN (DR.brs (hbr.tr0 (hFu1.Jb hF3))) (show k-1<r.bs.length by omega) Yhy;cases hade
 have hc2:Cells u3 (ad.add ((k-1)*3)) [.string r.bs[k-1].decl,iV r.bs[k-1].at_,iV r.bs[k-1].arm]:=hc2;refine Jj 6 7 8 9 hS ?_;refine Jj 10 11 12 13 hS ?_;refine Jj 14 15 16 17 hS ?_;refine d_z 18 hS ?_;rw[show((k:Int)-1)=((k-1:Nat):Int) by omega];refine JX 19 20 hS ?_;refine d_z 21 hS ?_;refine Kz 22 hS ?_ (v:=.agg ((prV (r.bs[k-1],r.bs[k]))).toArray) (hrun:=by(intro u hu;exact NR ((prV (r.bs[k-1],r.bs[k]))) Yik));refine Kz 23 hS ?_ (hrun:=by(intro u hu;refine(JjY (P:=prog) (t:=123) (q:=(· ∈s.ps)) (a:=(r.bs[k-1],r.bs[k])) ?_ ?_ (hmpu.tr0 hu) hrp);exact rfl;exact rfl));have hkp:∃h:k-1<(Jy r.bs).length,(Jy r.bs)[k-1]=(r.bs[k-1],r.bs[k]):=by
  have hg:=Xb (l:=r.bs) (i:=k-1) Yhn;obtain⟨h1,h2⟩:=Df.1 hg;refine⟨h1,h2.trans ?_⟩;have:k-1+1=k:=by omega
  simp only[this]
 obtain⟨hkl,hkp⟩:=hkp;by_cases hin:(r.bs[k-1],r.bs[k])∈s.ps
 .rw [SN hin];refine JX 24 25 hS ?_;refine d_z 26 hS ?_;refine Yev ?_;refine Jc (k+1) Yhl ⟨rfl,hlt,fun j hj h=>⟨?_,fun h1 h2=>?_⟩,hF4u⟩ Yhn
  .by_cases e:j=k
   .subst e;exact SG hz
   .exact (hpre j hj Yhn).1
  .by_cases e:j+1=k
   .subst e;exact SN (by simpa using hin)
   .exact (hpre j hj Yhn).2 h1 Yhn
 .rw [SG hin];refine JX 24 25 hS ?_;refine d_z 26 hS ?_;refine Yfx ?_;refine Yeo ?_;refine⟨?_,hF4⟩;unfold VB;rw[ZW (p:=fun p=> !decide (p∈s.ps)) hkl (by rw[hkp,SG hin];rfl)];simp
end
section
attribute [local irreducible] Code.wp wpList Exit.then Exit.inBlock bodyPost A Calls execOp Addr.add
theorem JbL{q:Nat}{P:Pp}{rs:List Rn}(r:Rn)(vb vl:Value)(w:World){S:List Nat}(hQ:RcV w q P rs)(hl:DR w S (.l (r.cl.map KI)) vl)(h1b:vb.oneCell'=true):
 Calls prog 54 #[.pointer (some ⟨q,0,none⟩),.agg ([iV r.kind,iV r.at_,iV r.code,vb,vl]:List Value).toArray] w fun e w'=>e=.returned (.bool (Qd P r))/\Fr [] w w':=by
 obtain⟨vr,vs,hb,hrr,hss⟩:=hQ;have h1r:=hrr.one;have h1s:=hss.one;have hbd:=hl.bound;obtain⟨aol,cl,rfl,_⟩:=hl.slice;have h1l:=hl.one;simp only[Sr]at hl hbd h1l ⊢;refine enter func54 rfl ntmps54 rfl ?_;refine rx ?_;refine Ju (l:=[iV r.kind,iV r.at_,iV r.code,vb,(.slice aol r.cl.length cl)]) rfl rfl (fun w1 b3 hb3 h3 hf1 hs1=>?_);refine rx ?_;refine Jm (l:=[zI,zI,zI]) rfl (fun w2 b5 hb5 h5 hf2 hs2=>?_);refine rx ?_;refine Jd (cs:=[iV r.kind,iV r.at_,iV r.code]) rfl rfl h5 Yhu rfl rfl (fun w3 h5 hf3 hs3=>?_);have hF13:Fr [] w1 w3:=hf2.trans hf3 (fun x hx=>.inr Yhq);have h3:=h3.tr0 hF13;have hF3:=hf1.Jb hF13;have hb1:=hb.tr0 hF3;have hl3:=hl.tr0 hF3;clear hf1 hf2 hf3 hF13;refine rx ?_;refine KZ 7 [] (fun g u=>g 54=.bool (!Gt P.checks r)/\Fr [] w3 u) ?_ ?_
 .by_cases k1:r.kind<0
  . (refine JE (fun z=>Fr [] w3 z) Yhp rfl ?_)
    obtain⟨u,hu⟩:=exq w3.drew;rw[<-hu];have hS:Fr [] w3 u:=hu▸Fr.drew _ _;refine JX 0 1 hS ?_;refine Kw 2 hS ?_ (hrun:=by(intro u hu;exact(W9 rfl rfl (SN Yhn))));refine Jj 3 4 5 6 hS ?_;refine Jj 7 8 9 10 hS ?_;refine Jj 11 12 13 14 hS ?_;refine Jj 15 16 17 18 hS ?_;refine Jj 19 20 21 22 hS ?_;refine Jj 23 24 25 26 hS ?_;refine Jj 27 28 29 30 hS ?_;refine Jj 31 32 33 34 hS ?_;refine Jj 35 36 37 38 hS ?_;refine Jj 39 40 41 42 hS ?_;refine JX 43 44 hS ?_;refine d_z 45 hS ?_;exact Ykt
  by_cases k2:2<r.kind
  . (refine JE (fun z=>Fr [] w3 z) Yhp rfl ?_)
    obtain⟨u,hu⟩:=exq w3.drew;rw[<-hu];have hS:Fr [] w3 u:=hu▸Fr.drew _ _;refine JX 0 1 hS ?_;refine Kw 2 hS ?_ (hrun:=by(intro u hu;exact(W9 rfl rfl (SG Yhn))));refine JX 3 4 hS ?_;refine d_z 5 hS ?_;refine Kz 6 hS ?_ (hrun:=by(intro u hu;exact(Z8 rfl rfl (SN Yhn))));refine Jj 7 8 9 10 hS ?_;refine Jj 11 12 13 14 hS ?_;refine Jj 15 16 17 18 hS ?_;refine Jj 19 20 21 22 hS ?_;refine Jj 23 24 25 26 hS ?_;refine Jj 27 28 29 30 hS ?_;refine Jj 31 32 33 34 hS ?_;refine Jj 35 36 37 38 hS ?_;refine Jj 39 40 41 42 hS ?_;refine JX 43 44 hS ?_;refine d_z 45 hS ?_;exact Ykt
  rcases(show r.kind=0\/r.kind=1\/r.kind=2 by omega)with hk|hk|hk
  . (refine JE (fun z=>Fr [] w3 z) Yhp rfl ?_)
    obtain⟨u,hu⟩:=exq w3.drew;rw[<-hu];have hS:Fr [] w3 u:=hu▸Fr.drew _ _;refine JX 0 1 hS ?_;refine Kw 2 hS ?_ (hrun:=by(intro u hu;exact(W9 rfl rfl (SG Yhn))));refine JX 3 4 hS ?_;refine d_z 5 hS ?_;refine Kz 6 hS ?_ (hrun:=by(intro u hu;exact(Z8 rfl rfl (SG Yhn))));refine Jj 7 8 9 10 hS ?_;refine Kz 11 hS ?_ (hrun:=by(intro u hu;exact(Zd rfl rfl (SN Yhn))));refine JX 12 13 hS ?_;refine d_z 14 hS ?_;by_cases ha:r.at_=0
    . (apply V4 (i:=15);exact rfl;exact rfl;kernel_rfl;kernel_rfl;kernel_rfl;(intro u hu;exact(WZ rfl rfl (SG Yhn)));exact hS)
      refine Jj 16 17 18 19 hS ?_;refine d_z 20 hS ?_;refine Kz 21 hS ?_ (hrun:=by(intro u hu;exact(WZ rfl rfl (SG Yhn))));refine Jj 22 23 24 25 hS ?_;refine Jj 26 27 28 29 hS ?_;refine Jj 30 31 32 33 hS ?_;refine JX 34 35 hS ?_;refine d_z 36 hS ?_;exact Ylg
    . (apply V4 (i:=15);exact rfl;exact rfl;kernel_rfl;kernel_rfl;kernel_rfl;(intro u hu;exact(WZ rfl rfl (SN Yhn)));exact hS)
      refine Jj 16 17 18 19 hS ?_;refine Jj 20 21 22 23 hS ?_;refine Jj 24 25 26 27 hS ?_;refine Jj 28 29 30 31 hS ?_;refine Jj 32 33 34 35 hS ?_;refine Jj 36 37 38 39 hS ?_;refine Jj 40 41 42 43 hS ?_;refine JX 44 45 hS ?_;exact Ykt
  . (refine JE (fun z=>Fr [] w3 z) Yhp rfl ?_)
    obtain⟨u,hu⟩:=exq w3.drew;rw[<-hu];have hS:Fr [] w3 u:=hu▸Fr.drew _ _;refine JX 0 1 hS ?_;refine Kw 2 hS ?_ (hrun:=by(intro u hu;exact(W9 rfl rfl (SG Yhn))));refine JX 3 4 hS ?_;refine d_z 5 hS ?_;refine Kz 6 hS ?_ (hrun:=by(intro u hu;exact(Z8 rfl rfl (SG Yhn))));refine Jj 7 8 9 10 hS ?_;refine Kz 11 hS ?_ (hrun:=by(intro u hu;exact(Zd rfl rfl (SG Yhn))));refine Jj 12 13 14 15 hS ?_;refine Jj 16 17 18 19 hS ?_;refine d_z 20 hS ?_;refine Kz 21 hS ?_ (hrun:=by(intro u hu;exact(WZ rfl rfl (SN Yhn))));refine JX 22 23 hS ?_;refine d_z 24 hS ?_;by_cases ha:r.at_<0
    . (apply V4 (i:=25);exact rfl;exact rfl;kernel_rfl;kernel_rfl;kernel_rfl;(intro u hu;exact(W9 rfl rfl (SN Yhn)));exact hS)
      exact Ylh
    refine Kz 25 hS ?_ (hrun:=by(intro u hu;exact(W9 rfl rfl (SG Yhn))));refine Jj 26 27 28 29 hS ?_;refine JX 30 31 hS ?_;refine d_z 32 hS ?_;by_cases hb4:(P.checks:Int)<=r.at_
    . (apply V4 (i:=33);exact rfl;exact rfl;kernel_rfl;kernel_rfl;kernel_rfl;(intro u hu;exact(Z9 rfl rfl (SN Yhn)));exact hS)
      exact Ylj
    refine Kz 33 hS ?_ (hrun:=by(intro u hu;exact(Z9 rfl rfl (SG Yhn))));refine JX 34 35 hS ?_;refine d_z 36 hS ?_;exact Ylg
  . (refine JE (fun z=>Fr [] w3 z) Yhp rfl ?_)
    obtain⟨u,hu⟩:=exq w3.drew;rw[<-hu];have hS:Fr [] w3 u:=hu▸Fr.drew _ _;refine JX 0 1 hS ?_;refine Kw 2 hS ?_ (hrun:=by(intro u hu;exact(W9 rfl rfl (SG Yhn))));refine JX 3 4 hS ?_;refine d_z 5 hS ?_;refine Kz 6 hS ?_ (hrun:=by(intro u hu;exact(Z8 rfl rfl (SG Yhn))));refine Jj 7 8 9 10 hS ?_;refine Kz 11 hS ?_ (hrun:=by(intro u hu;exact(Zd rfl rfl (SG Yhn))));refine Jj 12 13 14 15 hS ?_;refine Jj 16 17 18 19 hS ?_;refine d_z 20 hS ?_;refine Kz 21 hS ?_ (hrun:=by(intro u hu;exact(WZ rfl rfl (SN Yhn))));refine JX 22 23 hS ?_;refine d_z 24 hS ?_;by_cases ha:r.at_<0
    . (apply V4 (i:=25);exact rfl;exact rfl;kernel_rfl;kernel_rfl;kernel_rfl;(intro u hu;exact(W9 rfl rfl (SN Yhn)));exact hS)
      exact Ylh
    refine Kz 25 hS ?_ (hrun:=by(intro u hu;exact(W9 rfl rfl (SG Yhn))));refine Jj 26 27 28 29 hS ?_;refine JX 30 31 hS ?_;refine d_z 32 hS ?_;by_cases hb4:(P.checks:Int)<=r.at_
    . (apply V4 (i:=33);exact rfl;exact rfl;kernel_rfl;kernel_rfl;kernel_rfl;(intro u hu;exact(Z9 rfl rfl (SN Yhn)));exact hS)
      exact Ylj
    refine Kz 33 hS ?_ (hrun:=by(intro u hu;exact(Z9 rfl rfl (SG Yhn))));refine JX 34 35 hS ?_;refine d_z 36 hS ?_;refine JX 37 38 hS ?_;refine d_z 39 hS ?_;refine Kz 40 hS ?_ (hrun:=by(intro u hu;exact(Zd rfl rfl (SN Yhn))));refine JX 41 42 hS ?_;by_cases hcode:r.code≠0
    . (apply V4 (i:=43);exact rfl;exact rfl;kernel_rfl;kernel_rfl;kernel_rfl;(intro u hu;exact(WZ rfl rfl (SN Yhn)));exact hS)
      refine Kz 44 hS ?_ (hrun:=by(intro u hu;refine(XP (a:=true) (b:=true) underlying4 ?_ ?_ rfl);exact rfl;exact rfl));exact Yku
    . (apply V4 (i:=43);exact rfl;exact rfl;kernel_rfl;kernel_rfl;kernel_rfl;(intro u hu;exact(WZ rfl rfl (SG Yhn)));exact hS)
      refine Kz 44 hS ?_ (hrun:=by(intro u hu;refine(XP (a:=true) (b:=false) underlying4 ?_ ?_ rfl);exact rfl;exact rfl));refine d_z 45 hS ?_;exact Ykt
 rintro g w4 ⟨g54,hf4⟩;have hF4:=hF3.Jb hf4;have h3:=h3.tr0 hf4;have hb1:=hb1.tr0 hf4;clear h5 hb;rw[Ja g54];cases hout:Gt P.checks r with
 |false=>
  refine Yeo ?_;exact⟨by unfold Qd;rw[hout];rfl,hF4⟩
 |true=>
 refine rx ?_;refine Jh 7 [6] (σ:=Nat) (fun i g u=>g 6=iV (i:Nat)/\i<=r.cl.length/\(∀j,j<i->Bf P.ncls r.cl j=true)/\Fr [] w4 u) (fun i=>r.cl.length-i) 0 ⟨rfl,SL _,fun j h=>by omega,Fr.refl _ _⟩ ?_;rintro i g u ⟨g6,hi,hpre,hF⟩;rw[Ja g6];have hFu:=hF4.Jb hF;have h3:=h3.tr0 hF;have hb1:=hb1.tr0 hF;by_cases hlt:i<r.cl.length
 case neg=>
  refine Yeo ?_;exact⟨by unfold Qd;rw[hout,UK (fun j hj=>hpre j Yhn)];rfl,hFu⟩
 obtain⟨adl,hadl,hcell0⟩:=KO (VP (hl.tr0 hFu)) (WS hlt);subst hadl;have hcell:∀{z:World},Fr [] u z->z.cell? (adl.add i)=some (iV r.cl[i]):=fun hf=>Vs ((VP (hl.tr0 hFu)).tr0 hf) (WS hlt)
 refine rx ?_;refine JE (fun z=>Fr [] u z) Yhp rfl ?_;obtain⟨u1,hu1⟩:=exq u.drew;rw[<-hu1];have hS:Fr [] u u1:=hu1▸Fr.drew _ _;refine Jj 0 1 2 3 hS ?_;refine Kw 4 hS ?_ (hrun:=by(intro u hu;exact(J7 rfl Ylu)));by_cases c1:r.cl[i]<0
 . (apply XU (i:=5);exact rfl;kernel_rfl;kernel_rfl;kernel_rfl;(intro u hu;exact(W9 rfl rfl (SN Yhn)));exact hS)
   refine Jj 6 7 8 9 hS ?_;refine Jj 10 11 12 13 hS ?_;refine Jj 14 15 16 17 hS ?_;refine Jj 18 19 20 21 hS ?_;refine Jj 22 23 24 25 hS ?_;refine Jj 26 27 28 29 hS ?_;refine Jj 30 31 32 33 hS ?_;refine JX 34 35 hS ?_;exact Ylc
 refine Kw 5 hS ?_ (hrun:=by(intro u hu;exact(W9 rfl rfl (SG Yhn))));refine Jj 6 7 8 9 hS ?_;refine d_z 10 hS ?_;refine Kz 11 hS ?_ (hrun:=by(intro u hu;exact(J7 rfl Ylu)));refine Jj 12 13 14 15 hS ?_;by_cases c2:(P.ncls:Int)<=r.cl[i]
 . (apply V4 (i:=16);exact rfl;exact rfl;kernel_rfl;kernel_rfl;kernel_rfl;(intro u hu;exact(Z9 rfl rfl (SN Yhn)));exact hS)
   refine Jj 17 18 19 20 hS ?_;refine Jj 21 22 23 24 hS ?_;refine Jj 25 26 27 28 hS ?_;refine Jj 29 30 31 32 hS ?_;refine JX 33 34 hS ?_;refine d_z 35 hS ?_;exact Ylc
 refine Kz 16 hS ?_ (hrun:=by(intro u hu;exact(Z9 rfl rfl (SG Yhn))));refine JX 17 18 hS ?_;refine d_z 19 hS ?_;by_cases c3:i=0
 . (apply V4 (i:=20);exact rfl;exact rfl;kernel_rfl;kernel_rfl;kernel_rfl;(intro u hu;exact(Z8 rfl rfl (SG Yhn)));exact hS)
   refine Jj 21 22 23 24 hS ?_;refine Jj 25 26 27 28 hS ?_;refine Jj 29 30 31 32 hS ?_;refine JX 33 34 hS ?_;refine d_z 35 hS ?_;exact Ykx
 have hcell1:∀{z:World},Fr [] u z->z.cell? (adl.add (i-1))=some (iV r.cl[i-1]):=fun hf=>Vs ((VP (hl.tr0 hFu)).tr0 hf) (WS Yhn)
 refine Kz 20 hS ?_ (hrun:=by(intro u hu;exact(Z8 rfl rfl (SN Yhn))));refine Jj 21 22 23 24 hS ?_;refine d_z 25 hS ?_;refine Kz 26 hS ?_ (hrun:=by(intro u hu;exact(J7 rfl Ylu)));refine Jj 27 28 29 30 hS ?_;rw[show((i:Int)-1)=((i-1:Nat):Int) by omega];refine d_z 31 hS ?_;refine Kz 32 hS ?_ (hrun:=by(intro u hu;exact(J7 rfl (by rw[Dq];exact hcell1 hu))));by_cases c4:r.cl[i]<=r.cl[i-1]
 . (apply V4 (i:=33);exact rfl;exact rfl;kernel_rfl;kernel_rfl;kernel_rfl;(intro u hu;exact(L9 rfl rfl (SN Yhn)));exact hS)
   refine JX 34 35 hS ?_;refine Yfx ?_;refine Yeo ?_;exact⟨by unfold Qd;rw[hout,Jbb hlt (fun h=>by have:=h.2.2 Yhn;omega)];rfl,hFu.Jb hS⟩
 refine Kz 33 hS ?_ (hrun:=by(intro u hu;exact(L9 rfl rfl (SG Yhn))));refine JX 34 35 hS ?_;exact Ykx
end
end Go.Proofs.YtggmccicdhnkgaaGreat
namespace Go.Rf
open Go.RowKit
variable{af:Array Edge}{f:Env}{a:Int}{k:IntKind}{d n t t2:Nat}{x y:Operand}{ps:String}{w:World}
theorem JiM{P:Program}{ty:TypeId}{gd:Option (Nat×Bool)}{b r:Int}(hx:ev n f x=.int k a)(hy:ev n f y=.int k b)(h0:¬b=0)(hr:k.wrap (a.tdiv b)=r):
 (execOp (ev n f) ⟨some d,.binOp .quo t x y t2,ty,ps,af,gd⟩).run P w=.ok (.value (.int k r)) w:=by simp[execOp,eqGuard,binOp,Op.intDiv,hx,hy,h0,hr]
theorem JiL{P:Program}{ty:TypeId}{gd:Option (Nat×Bool)}{b r:Int}(hx:ev n f x=.int k a)(hy:ev n f y=.int k b)(h0:¬b=0)(hr:a.tmod b=r):
 (execOp (ev n f) ⟨some d,.binOp .rem t x y t2,ty,ps,af,gd⟩).run P w=.ok (.value (.int k r)) w:=by simp[execOp,eqGuard,binOp,Op.intDiv,hx,hy,h0,hr]
end Go.Rf
namespace Go.Proofs.YtggmccicdhnkgaaGreat
open Go.Proofs.Tryz
open Go.Rf Go.RowKit
variable{a at_:Int}{l:List Int}{m:Nat}{P:Pp}{w:World}
def sbr(P:Pp)(n:Int):Br:=if 0<P.reach.length/\0<n%17 then P.reach.getD (n/17%P.reach.length).toNat default else⟨bst [111,116,104,101,114],n/17%3,n/51%2⟩
def VG(P:Pp)(l:List Int)(at_:Int)(m:Nat):List Br:=(List.range m).map (fun(i:Nat)=>sbr P (pk l (at_+i+1) 1000))
def Vx(l:List Int)(at_:Int)(m:Nat):List Int:=((List.range m).filter (fun(i:Nat)=>decide (pk l (at_+i+7) 3=0))).map (fun(i:Nat)=>(i:Int))
def sKd(P:Pp)(k:Int):Int:=if 0<k/6%3/\0<P.checks then k/6%3 else 0
def sAt(P:Pp)(k:Int):Int:=if 0<k/6%3/\0<P.checks then k/18%P.checks else 0
def XW(P:Pp)(l:List Int)(at_:Int)(bad:Bool):Rn where
 kind:=if bad=true/\pk l at_ 1000000/100%5=1 then pk l at_ 1000000/500%6-1 else sKd P (pk l at_ 1000000)
 at_:=if bad=true/\pk l at_ 1000000/100%5=0 then sAt P (pk l at_ 1000000)+pk l at_ 1000000/500%5-2 else sAt P (pk l at_ 1000000)
 code:=if sKd P (pk l at_ 1000000)=2 then 13 else 0
 bs:=VG P l at_ (pk l at_ 1000000%6).toNat
 cl:=Vx l at_ P.ncls++(if bad=true/\pk l at_ 1000000/100%5=2 then[pk l at_ 1000000/500%4-1] else[])
theorem JcV:VG P l at_ (m+1)=VG P l at_ m++[sbr P (pk l (at_+m+1) 1000)]:=by
 unfold VG;rw[Fv,Dp];rfl
theorem Jaa:(VG P l at_ m).length=m:=by simp[VG]
theorem LV:Vx l at_ (m+1)=Vx l at_ m++(if pk l (at_+m+7) 3=0 then[(m:Int)] else[]):=by
 unfold Vx;rw[Fv,Ib,Dp]
 congr 1
 by_cases h:pk l (at_+m+7) 3=0<;>simp[h]
theorem Bg:(Vx l at_ m).length<=m:=by
 unfold Vx;rw[Sr];have:=D5 (fun(i:Nat)=>decide (pk l (at_+i+7) 3=0)) (List.range m);rw[FV]at this;exact this
def ints(l:List Int):List Value:=l.map (Value.int .i64)
attribute [local irreducible] Code.wp wpList Exit.then Exit.inBlock bodyPost A Calls execOp Addr.add
def SmI(w:World)(b:Nat)(k a c:Int)(bs:List Br)(cl:List Int)(u:World):Prop:=∃vb vl,Blk u b [iV k,iV a,iV c,vb,vl] 41/\BO w 50 u bs vb/\Own u 3 1 vl cl.length (ints cl)/\(∀x∈blks vl,w.heap.size<=x/\x≠b/\x∉blks vb)/\b∉blks vb/\w.heap.size<=b/\Fr [] w u
theorem SmI.set{u u':World}{b:Nat}{k c k' a' c':Int}{bs:List Br}{cl:List Int}(h:SmI w b k a c bs cl u)(hf:Fr [b] u u')(hb:∀vb vl,Blk u b [iV k,iV a,iV c,vb,vl] 41->Blk u' b [iV k',iV a',iV c',vb,vl] 41):SmI w b k' a' c' bs cl u':=by
 obtain⟨vb,vl,h1,h2,h3,h4,h5,h6,h7⟩:=h;exact⟨vb,vl,hb _ _ h1,⟨h2.1.tr hf (fun x hx hm=>h5 Yia),h2.2⟩,h3.tr hf (fun x hx hm=>(h4 x hx).2.1 (Sv.1 hm)),h4,h5,h6,h7.trans hf (fun x hx=>.inr (by rw[Sv.1 hx];exact h6))⟩
theorem JjM{q:Nat}{rs:List Rn}(x:Value)(l:List Int)(at_:Int)(bad:Bool)(w:World)(hQ:RcV w q P rs)(hx:Src w x l.length (l.map (.int .i64)))(hl:∀n∈l,VE n)(ha:0<=at_/\at_<=1000)(hp:P.checks<=1000000/\P.ncls<=1000000/\P.reach.length<=1000000):
 Calls prog 14 #[.pointer (some ⟨q,0,none⟩),x,iV at_,.bool bad] w fun e w'=>∃vb vl,e=.returned (.agg ([iV (XW P l at_ bad).kind,iV (XW P l at_ bad).at_,iV (XW P l at_ bad).code,vb,vl]:List Value).toArray)/\
  BO w 50 w' (XW P l at_ bad).bs vb/\Own w' 3 1 vl (XW P l at_ bad).cl.length (ints (XW P l at_ bad).cl)/\(∀x∈blks vl,w.heap.size<=x)/\Fr [] w w':=by
 obtain⟨vr,vs,hb,hr,_⟩:=hQ;have hpc:(P.checks:Int)<=1000000:=by omega
 have hpn:(P.ncls:Int)<=1000000:=by omega
 obtain⟨aor,cr,rfl,_⟩:=hr.slice;rw[Sr]at hr hb;obtain⟨aox,cx,rfl,_⟩:=id hx;obtain⟨k,hk⟩:=exq (pk l at_ 1000000);have hkr:=Zf (l:=l) (i:=at_) (m:=1000000) Yhy;rw[<-hk]at hkr;refine enter func14 rfl ntmps14 rfl ?_;refine wp_seq ?_;refine KA ?_;refine Jm (l:=[zI,zI,zI,zS,zS]) rfl (fun w1 b8 hb8 h8 hf1 hs1=>?_);refine wpList_nil ?_;refine QG ?_
 (repeat refine wp_seq ?_)
 refine KA ?_;refine rr ?_;refine Jg (pick _ l at_ 1000000 w1 (hx.tr0 hf1) hl Yhy) ?_;rintro _ rfl;rw[<-hk];refine Yfa ?_
 (repeat refine wp_seq ?_)
 refine KA ?_;refine rr ?_;refine JF [zI,zI,zI,zS,zS] rfl ?_;refine rr ?_;refine Jm (l:=[zI,zI,zI,zS,zS]) rfl (fun w2 b10 hb10 h10 hf2 hs2=>?_);have h8w:=h8;have h8:=h8.tr0 hf2;refine rr ?_;refine Jd (cs:=[zI,zI,zI,zS,zS]) rfl rfl h10 Yhu rfl rfl (fun w3 h10 hf3 hs3=>?_);have h8:=h8.tr hf3 Yht;have hF3:Fr [] w1 w3:=hf2.trans hf3 (fun x hx=>.inr Yhq);have hI3:SmI w1 b10 0 0 0 [] [] w3:=⟨_,_,h10,BO.nil,Own.nil _ _ _,by simp[blks,Value.ownBlock],by simp[blks,Value.ownBlock],by omega,hF3⟩;clear h10;refine wpList_nil ?_;refine QG ?_
 (repeat refine wp_seq ?_)
 refine KA ?_;refine Yfa ?_
 (repeat refine wp_seq ?_)
 refine KZ 11 [] (fun g u=>SmI w1 b10 0 0 0 (VG P l at_ (k%6).toNat) [] u) ?_ ?_
 .refine rx ?_;refine Jh 12 [11] (σ:=Nat) (fun i g u=>g 11=iV (i:Nat)/\(i:Int)<=k%6/\SmI w1 b10 0 0 0 (VG P l at_ i) [] u) (fun i=>6-i) 0 ⟨rfl,by omega,hI3⟩ ?_;rintro i g u ⟨g11,hi,hI⟩;rw[Ja g11];by_cases hlt:(i:Int)<k%6
  case neg=>
   have he:i=(k%6).toNat:=by omega
   refine rx ?_;exact JK Yhl (by rw[<-he];exact hI)
  obtain⟨vb,vl,h10,hB,hC,hCd,hbn,hwb,hF⟩:=hI;obtain⟨n,hn⟩:=exq (pk l (at_+i+1) 1000);have hnr:=Zf (l:=l) (i:=at_+i+1) (m:=1000) Yhy;rw[<-hn]at hnr;have hFu:=hf1.Jb hF;have hqu:=hb.tr0 hFu;have hsu:=hF.size;refine rx ?_;refine Jg (pick _ l (at_+i+1) 1000 u (hx.tr0 hFu) hl Yhy) ?_;rintro _ rfl;rw[<-hn];have hBlt:=hB.1.lt;have hB1:=hB.1.one;have hq:=hb.lt;have hb10lt:=h10.lt;have hbl:=Jaa (P:=P) (l:=l) (at_:=at_) (m:=i);have fin:∀{br:Br} {v':Value} {u' u2:World},br=sbr P n->BO w1 50 u' (VG P l at_ i++[br]) v'->(∀x∈blks v',x∈blks vb\/u.heap.size<=x)->Fr (blks vb) u u'->Blk u2 b10 [zI,zI,zI,v',vl] 41->Fr [b10] u' u2->SmI w1 b10 0 0 0 (VG P l at_ (i+1)) [] u2:=fun{br v' u' u2} hbr hB' hk' hf1 hb2 hf2=>by
   have hn':b10∉blks v':=fun hm=>(hk' _ hm).elim hbn Yid
   refine⟨v',vl,hb2,?_,?_,fun x hx=>⟨(hCd x hx).1,(hCd x hx).2.1,fun hm=>?_⟩,hn',hwb,?_⟩
   .rw [JcV,<-hn,<-hbr];exact⟨hB'.1.tr hf2 (fun x hx hm=>hn' Yia),hB'.2⟩
   .exact (hC.tr hf1 (fun x hx hm=>(hCd x hx).2.2 hm)).tr hf2 (fun x hx hm=>(hCd x hx).2.1 (Sv.1 hm))
   .rcases hk' x hm with h|h
    .exact (hCd x hx).2.2 h
    .have:=hC.lt x hx;omega
   .exact (hF.trans hf1 (fun x hx=>.inr (hB.2 x hx))).trans hf2 (fun x hx=>.inr Yir)
  obtain⟨aob,cb,rfl⟩:=hB.1.slice;rw[hbl]at h10 hB1 hBlt hbn hCd fin hB;by_cases c1:0<P.reach.length/\0<n%17
  .obtain ⟨j,hj⟩:∃j:Nat,(j:Int)=n/17%P.reach.length:=⟨_,Et (Fq _ Yhn)⟩;have hjl:j<P.reach.length:=by
    have:=EP (n/17) (show(0:Int)<P.reach.length by omega);omega
   have hbr:P.reach[j]=sbr P n:=by
    unfold sbr;rw[Cb c1,<-hj,EG,getD_at hjl]
   obtain⟨c11,c12⟩:=c1;obtain⟨adr,hadr,hcr⟩:=JZ QN (DR.brs (hr.tr0 hFu)) hjl Yhy;obtain⟨adr0,hadr0,hcr0⟩:=JZ QN (DR.brs hr) hjl Yhy;subst hadr;cases hadr0
   have hcr:Cells u (adr.add (j*3)) [.string P.reach[j].decl,iV P.reach[j].at_,iV P.reach[j].arm]:=hcr;have hcrlt:=cell_lt (Jd6 hcr0);refine rx ?_;refine Kr 18 (fun z=>Fr (blks (Value.slice aob i cb)) u z) Yhp rfl ?_;obtain⟨u3,hu3⟩:=exq u.drew;rw[<-hu3];have hd3:Fr [] u u3:=hu3▸Fr.drew _ _;have hS:Fr (blks (Value.slice aob i cb)) u u3:=hd3.mono Yhs;have nq:q∉blks (Value.slice aob i cb):=fun hm=>by have:=hB.2 q hm;omega
   have nr:(adr.add (j*3)).block∉blks (Value.slice aob i cb):=fun hm=>by have:=hB.2 _ hm;omega
   ((refine Jp 0 hS ?_))
   refine Jp 1 hS ?_ (hrun:=(by intro u hu;exact(J7 rfl (Blk.cell (h10.tr hu hbn) rfl))))
   ((refine Jp 2 hS ?_);(refine Jp 3 hS ?_);(refine Jp 4 hS ?_))
   refine Jp 5 hS ?_ (hrun:=(by intro u hu;exact(J7 rfl (Blk.cell (hqu.tr hu nq) rfl))))
   ((refine Jp 6 hS ?_))
   refine Jp 7 hS ?_ (hrun:=(by intro u hu;exact(JiM rfl rfl Yhy (IntWalk.i64_quo _ _ Yhn))))
   ((refine Jp 8 hS ?_);(refine Jp 9 hS ?_);(refine Jp 10 hS ?_))
   refine Jp 11 hS ?_ (hrun:=(by intro u hu;exact(J7 rfl (Blk.cell (hqu.tr hu nq) rfl))))
   ((refine Jp 12 hS ?_))
   refine Jp 13 hS ?_ (hrun:=(by intro u hu;exact(JiL rfl rfl Yhn (Ef Yhn))));rw[<-hj]
   ((refine Jp 14 hS ?_))
   refine Jp 15 hS ?_ (hrun:=(by intro u hu;exact(Kv rfl (hcr.tr hu nr) Yik)));refine KH (i:=16) rfl Yhp ?_;refine JQ (c1:=brV P.reach[j]) rfl rfl rfl (fun u4 q4 hq4 ho4 hf4 hs4=>?_);have hS4:=hS.Jb hf4;refine wpList_nil (Xz hS4 ?_);refine KH (i:=17) rfl Yhp ?_;refine JC ((hB.1.tr0 hd3).tr0 hf4) rfl ho4.src rfl rfl (QD _) Yhv Yhn (fun v5 u5 ho5 hf7 hk7 _=>?_);have hS5:=hS4.trans hf7 (fun x hx=>.inl hx);have hv51:=ho5.one;have hs3:=hd3.size;refine wpList_nil (Xz hS5 ?_);refine KH (i:=18) rfl Yhp ?_;refine Ku rfl ?_;rw[add_lit];refine Ygp ?_;refine KH (i:=19) rfl Yhp ?_
   ((with_reducible apply Ji);exact rfl;(conv=>lhs;whnf);exact hv51;exact(h10.tr hS5 hbn);exact rfl)
   intro u6 hb6 hf8 hs8;replace hb6:Blk u6 b10 [zI,zI,zI,v5,vl] 41:=hb6;refine Yeu ?_;exact Ydw
  .have hbr:(⟨bst [111,116,104,101,114],n/17%3,n/51%2⟩:Br)=sbr P n:=by
    unfold sbr;rw[SH c1]
   have tl:∀{u':World},u'=u->True:=fun _=>trivial
   clear tl;by_cases c11:0<P.reach.length
   .have c12:¬0<n%17:=fun h=>c1 ⟨c11,h⟩
    refine rx ?_;exact Yq
   .refine rx ?_;exact Yq
 intro g u hI;obtain⟨m6,hm6⟩:=exq ((k%6).toNat);rw[<-hm6]at hI
 (repeat refine wp_seq ?_)
 refine KA ?_;refine Yfa ?_
 (repeat refine wp_seq ?_)
 refine KZ 11 [] (fun g u=>SmI w1 b10 0 0 0 (VG P l at_ m6) (Vx l at_ P.ncls) u) ?_ ?_
 .refine rx ?_;refine Jh 14 [13] (σ:=Nat) (fun i g u=>g 13=iV (i:Nat)/\i<=P.ncls/\SmI w1 b10 0 0 0 (VG P l at_ m6) (Vx l at_ i) u) (fun i=>P.ncls-i) 0 ⟨rfl,SL _,hI⟩ ?_;clear hI;rintro i g u ⟨g13,hi,hI⟩;rw[Ja g13];have hI0:=hI;obtain⟨vb,vl,h10,hB,hC,hCd,hbn,hwb,hF⟩:=hI;have hFu:=hf1.Jb hF;have hqu:=hb.tr0 hFu;by_cases hlt:i<P.ncls
  case neg=>
   have he:i=P.ncls:=by omega
   refine rx ?_;exact JK Yhl (by rw[<-he];exact hI0)
  refine rx ?_;refine Jg (pick _ l (at_+i+7) 3 u (hx.tr0 hFu) hl Yhy) ?_;rintro _ rfl;have hcl:=Bg (l:=l) (at_:=at_) (m:=i);have hC1:=hC.one;have hb10lt:=h10.lt;by_cases hz:pk l (at_+i+7) 3=0
  .refine rx ?_;refine QO (v:=iV (i:Nat)) rfl rfl (fun u4 ho4 hf4 hs4=>?_);refine rx ?_;refine JC (hC.tr0 hf4) rfl ho4.src rfl rfl Yhu Yhv Yhn (fun v5 u5 ho5 hf5 hk5 _=>?_);have hf45:Fr (blks vl) u u5:=(hf4.mono Yhs).trans hf5 (fun x hx=>.inl hx);have hv51:=ho5.one;have hk5':∀x∈blks v5,x∈blks vl\/u.heap.size<=x:=fun x hx=>(hk5 x hx).imp id Yid
   have h10':=h10.tr hf45 (fun hm=>(hCd b10 hm).2.1 rfl);have hBlt:=hB.1.lt;have hsu:=hF.size;refine rx ?_
   ((with_reducible apply Ji);exact rfl;(conv=>lhs;whnf);exact hv51;exact h10';exact rfl)
   intro u6 hb6 hf6 hs6;replace hb6:Blk u6 b10 [zI,zI,zI,vb,v5] 41:=hb6;refine rx ?_;refine Jc (i+1) Yhl ⟨rfl,hlt,vb,v5,hb6,⟨(hB.1.tr hf45 (fun x hx hm=>(hCd x hm).2.2 hx)).tr hf6 (fun x hx hm=>hbn Yia),hB.2⟩,?_,fun x hx=>⟨?_,?_,fun hm=>?_⟩,hbn,hwb,(hF.trans hf45 (fun x hx=>.inr (hCd x hx).1)).trans hf6 (fun x hx=>.inr Yir)⟩ Yhn
   .rw [LV,Cb hz];have:=ho5.tr hf6 (fun x hx hm=>by
     rw[Sv.1 hm]at hx;rcases hk5' b10 hx with h|h
     .exact (hCd b10 h).2.1 rfl
     .omega)
    exact Ydj
   .rcases hk5' x hx with h|h
    .exact (hCd x h).1
    .omega
   .rcases hk5' x hx with h|h
    .exact (hCd x h).2.1
    .omega
   .rcases hk5' x hx with h|h
    .exact (hCd x h).2.2 hm
    .have:=hBlt x hm;omega
  .refine rx ?_;refine Jc (i+1) Yhl ⟨rfl,hlt,?_⟩ Yhn;rw[LV,SH hz,Ce];exact hI0
 clear hI;intro g u hI;refine wp_seq ?_;refine KZ 11 [] (fun g u=>SmI w1 b10 (sKd P k) (sAt P k) (if sKd P k=2 then 13 else 0) (VG P l at_ m6) (Vx l at_ P.ncls) u) ?_ ?_
 .have hI0:=hI;obtain⟨vb,vl,h10,hB,hC,hCd,hbn,hwb,hF⟩:=hI;have hqu:=hb.tr0 (hf1.Jb hF);have hB1:=hB.1.one;have hC1:=hC.one;by_cases c1:0<k/6%3
  case neg=>
   have e1:sKd P k=0:=by unfold sKd;rw[SH (fun h=>c1 h.1)]
   have e2:sAt P k=0:=by unfold sAt;rw[SH (fun h=>c1 h.1)]
   rw[e1,e2];refine rx ?_;exact Yhi
  by_cases c2:0<P.checks
  case neg=>
   have e1:sKd P k=0:=by unfold sKd;rw[SH (fun h=>c2 h.2)]
   have e2:sAt P k=0:=by unfold sAt;rw[SH (fun h=>c2 h.2)]
   rw[e1,e2];refine rx ?_;exact Yhi
  have e1:sKd P k=k/6%3:=by unfold sKd;rw[Cb ⟨c1,c2⟩]
  have e2:sAt P k=k/18%P.checks:=by unfold sAt;rw[Cb ⟨c1,c2⟩]
  rw[e1,e2];obtain⟨kd,hkd⟩:=exq (k/6%3);refine rx ?_;rw[<-hkd]at c1 ⊢;obtain⟨ca,hca⟩:=exq (k/18%(P.checks:Int));rw[<-hca];refine JF [iV kd,iV ca,zI] rfl ?_;refine rx ?_;refine Jt (cs:=[iV kd,iV ca,zI]) rfl rfl h10 Yhu (Dy rfl) rfl (fun u6 hb6 hf6 hs6=>?_);replace hb6:Blk u6 b10 [iV kd,iV ca,zI,vb,vl] 41:=hb6;have hI1:SmI w1 b10 kd ca 0 (VG P l at_ m6) (Vx l at_ P.ncls) u6:=⟨vb,vl,hb6,⟨hB.1.tr hf6 (fun x hx hm=>hbn Yia),hB.2⟩,hC.tr hf6 (fun x hx hm=>(hCd x hx).2.1 (Sv.1 hm)),hCd,hbn,hwb,hF.trans hf6 (fun x hx=>.inr Yir)⟩;by_cases c3:kd=2
  .rw [Cb c3];refine rx ?_
   ((with_reducible apply Ji);exact rfl;(conv=>lhs;whnf);exact rfl;exact hb6;exact rfl)
   intro u7 hb7 hf7 hs7;refine rx ?_;refine JK Yhl ⟨vb,vl,hb7,⟨(hB.1.tr hf6 (fun x hx hm=>hbn Yia)).tr hf7 (fun x hx hm=>hbn Yia),hB.2⟩,(hC.tr hf6 (fun x hx hm=>(hCd x hx).2.1 (Sv.1 hm))).tr hf7 (fun x hx hm=>(hCd x hx).2.1 (Sv.1 hm)),hCd,hbn,hwb,(hF.trans hf6 (fun x hx=>.inr Yir)).trans hf7 (fun x hx=>.inr Yir)⟩
  .rw [SH c3];refine rx ?_;exact JK Yhl hI1
 clear hI;intro g u hI;obtain⟨cd,hcd⟩:∃c:Int,c=if sKd P k=2 then 13 else 0:=⟨_,rfl⟩
 rw[<-hcd]at hI;have hat:0<=sAt P k/\sAt P k<=1000000:=by
  unfold sAt
  split
  .rename_i h;have h1:=Fq (k/18) (show(P.checks:Int)≠0 by omega);have h2:=EP (k/18) (show(0:Int)<P.checks by omega);omega
  .omega
 refine wp_seq ?_;refine KZ 11 [] (fun g u=>SmI w1 b10 (sKd P k) (if bad=true/\k/100%5=0 then sAt P k+k/500%5-2 else sAt P k) cd (VG P l at_ m6) (Vx l at_ P.ncls) u) ?_ ?_
 .cases hbad:bad with
  |false=>
   rw[SH (fun h=>by cases h.1)];refine rx ?_;exact Yhj
  |true=>
  by_cases c1:k/100%5=0
  case neg=>
   rw[SH (fun h=>c1 h.2)];refine rx ?_;exact Yhj
  exact Yv
 clear hI;intro g u hI;obtain⟨at2,hat2⟩:∃c:Int,c=if bad=true/\k/100%5=0 then sAt P k+k/500%5-2 else sAt P k:=⟨_,rfl⟩
 rw[<-hat2]at hI;refine wp_seq ?_;refine KZ 11 [] (fun g u=>SmI w1 b10 (if bad=true/\k/100%5=1 then k/500%6-1 else sKd P k) at2 cd (VG P l at_ m6) (Vx l at_ P.ncls) u) ?_ ?_
 .cases hbad:bad with
  |false=>
   rw[SH (fun h=>by cases h.1)];refine rx ?_;exact Yhj
  |true=>
  by_cases c1:k/100%5=1
  case neg=>
   rw[SH (fun h=>c1 h.2)];refine rx ?_;exact Yhj
  exact Yv
 clear hI;intro g u hI;obtain⟨kd2,hkd2⟩:∃c:Int,c=if bad=true/\k/100%5=1 then k/500%6-1 else sKd P k:=⟨_,rfl⟩
 rw[<-hkd2]at hI;refine wp_seq ?_;refine KZ 11 [] (fun g u=>SmI w1 b10 kd2 at2 cd (VG P l at_ m6) (Vx l at_ P.ncls++(if bad=true/\k/100%5=2 then[k/500%4-1] else[])) u) ?_ ?_
 .cases hbad:bad with
  |false=>
   rw[SH (fun h=>by cases h.1),Ce];refine rx ?_;exact Yhj
  |true=>
  by_cases c1:k/100%5=2
  case neg=>
   rw[SH (fun h=>c1 h.2),Ce];refine rx ?_;exact Yhj
  rw[Cb ⟨rfl,c1⟩];obtain⟨vb,vl,h10,hB,hC,hCd,hbn,hwb,hF⟩:=hI;have hB1:=hB.1.one;have hC1:=hC.one;have hcl:=Bg (l:=l) (at_:=at_) (m:=P.ncls);have hBlt:=hB.1.lt;have hsu:=hF.size;have hb10lt:=h10.lt;refine rx ?_;refine QO (v:=iV (k/500%4-1)) rfl rfl (fun u4 ho4 hf4 hs4=>?_);refine rx ?_;refine JC (hC.tr0 hf4) rfl ho4.src rfl rfl Yhu Yhv Yhn (fun v5 u5 ho5 hf5 hk5 _=>?_);have hf45:Fr (blks vl) u u5:=(hf4.mono Yhs).trans hf5 (fun x hx=>.inl hx);have hv51:=ho5.one;have hk5':∀x∈blks v5,x∈blks vl\/u.heap.size<=x:=fun x hx=>(hk5 x hx).imp id Yid
  have h10':=h10.tr hf45 (fun hm=>(hCd b10 hm).2.1 rfl);refine rx ?_
  ((with_reducible apply Ji);exact rfl;(conv=>lhs;whnf);exact hv51;exact h10';exact rfl)
  intro u6 hb6 hf6 hs6;replace hb6:Blk u6 b10 [iV kd2,iV at2,iV cd,vb,v5] 41:=hb6;refine rx ?_;refine JK Yhl ⟨vb,v5,hb6,⟨(hB.1.tr hf45 (fun x hx hm=>(hCd x hm).2.2 hx)).tr hf6 (fun x hx hm=>hbn Yia),hB.2⟩,?_,fun x hx=>⟨?_,?_,fun hm=>?_⟩,hbn,hwb,(hF.trans hf45 (fun x hx=>.inr (hCd x hx).1)).trans hf6 (fun x hx=>.inr Yir)⟩
  .have:=ho5.tr hf6 (fun x hx hm=>by
    rw[Sv.1 hm]at hx;rcases hk5' b10 hx with h|h
    .exact (hCd b10 h).2.1 rfl
    .omega)
   exact Ydj
  .rcases hk5' x hx with h|h
   .exact (hCd x h).1
   .omega
  .rcases hk5' x hx with h|h
   .exact (hCd x h).2.1
   .omega
  .rcases hk5' x hx with h|h
   .exact (hCd x h).2.2 hm
   .have:=hBlt x hm;omega
 clear hI;intro g u hI;have hR:XW P l at_ bad=⟨kd2,at2,cd,VG P l at_ m6,Vx l at_ P.ncls++(if bad=true/\k/100%5=2 then[k/500%4-1] else[])⟩:=by
  unfold XW;rw[<-hk,hkd2,hat2,hcd,hm6]
 rw[hR];obtain⟨vb,vl,h10,hB,hC,hCd,hbn,hwb,hF⟩:=hI;have h8u:=h8w.tr0 hF;have hB1:=hB.1.one;have hC1:=hC.one;refine rx ?_;refine Jd (cs:=[iV kd2,iV at2,iV cd,vb,vl]) rfl rfl h8u (by intro c hc;simp only[SC,S9,CU]at hc;rcases hc with rfl|rfl|rfl|rfl|rfl<;>first|rfl|assumption) rfl rfl (fun u6 hb6 hf6 hs6=>?_);refine rx ?_;refine Qc rfl rfl hb6 rfl ⟨vb,vl,rfl,⟨hB.1.tr hf6 (fun x hx hm=>?_),fun x hx=>?_⟩,hC.tr hf6 (fun x hx hm=>?_),fun x hx=>?_,(hf1.Jb hF).trans hf6 (fun x hx=>.inr Yhq)⟩
 .have:=hB.2 x hx;rw[Sv.1 hm]at this;omega
 .have:=hB.2 x hx;omega
 .have:=(hCd x hx).1;rw[Sv.1 hm]at this;omega
 .have:=(hCd x hx).1;omega
end Go.Proofs.YtggmccicdhnkgaaGreat
namespace Go.Rf
open Go.RowKit
end Go.Rf
namespace Go.Proofs.YtggmccicdhnkgaaGreat
open Go.Rf Go.RowKit
attribute [local irreducible] Code.wp wpList Exit.then Exit.inBlock bodyPost A Calls execOp Addr.add
end Go.Proofs.YtggmccicdhnkgaaGreat
