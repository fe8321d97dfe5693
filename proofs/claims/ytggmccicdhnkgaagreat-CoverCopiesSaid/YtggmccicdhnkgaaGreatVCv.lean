/-
 The reference's sets and pairs of branches.
-/
import Derived.Test.YtggmccicdhnkgaaGreatVFgu2
set_option linter.all false
set_option maxHeartbeats 64000000
namespace Go.Rf
open Go.RowKit
variable{k m tb:Nat}{α:Type}{u w0:World}
section
variable{α:Type}{enc:α->List Value}{K:Nat}
theorem GL(hk:∀x,(enc x).length=K):∀(l:List α) (k:Nat),(l.flatMap enc).take (k*K)=(l.take k).flatMap enc
 |l,0=>by simp
 |[],k+1=>by simp
 |a::l,k+1=>by
  rw[CP,DT,CP,<-GL hk l k,List.take_append,hk,DN,SQ (by rw[hk];omega)]
  congr 2;omega
theorem GN(hk:∀x,(enc x).length=K):∀(l:List α) (k:Nat),(l.flatMap enc).drop (k*K)=(l.drop k).flatMap enc
 |l,0=>by simp
 |[],k+1=>by simp
 |a::l,k+1=>by
  rw[CP,Fb,<-GN hk l k,F5,hk,DN,Ci (by rw[hk];omega),CO]
  congr 1;omega
theorem Jde(hk:∀x,(enc x).length=K):∀(l:List α) (i j:Nat) (hi:i<l.length),j<K->(l.flatMap enc)[i*K+j]?=(enc l[i])[j]?
 |a::l,0,j,_,hj=>by
  rw[CP,D8,Di,Ej (by rw[hk];exact hj)];rfl
 |a::l,i+1,j,hi,hj=>by
  rw[CP,Ee (by rw[hk,DN];omega),hk,show(i+1)*K+j-K=i*K+j by rw[DN];omega,Jde hk l i j tY hj];rfl
end
theorem Jby{lt:α->α->Bool}(T:Tot lt){l:List α}(ha:gR lt l){x:α}(hk:k<=l.length)(h:k=0\/∀h:k-1<l.length,lt l[k-1] x=true):∀i (hi:i<l.length),i<k->lt l[i] x=true:=fun i hi Γ=>by
 rcases h with h|h
 .omega
 .have h1:=h ab;rcases DF i (k-1)with h2|h2
  .exact T.tr (Fj.1 ha i (k-1) hi ab h2) h1
  .obtain rfl:i=k-1:=by omega
   exact h1
theorem GU{a b:Pr}:XB a b<0↔Qe a.1 b.1<0\/Qe a.1 b.1=0/\Qe a.2 b.2<0:=by
 unfold XB
 split
 .rename_i h;constructor
  .intro h1;exact .inl h1
  .rintro (h1|h1)
   .exact h1
   .exact absurd h1.1 h
 .rename_i h;constructor
  .intro h1;exact .inr ⟨by omega,h1⟩
  .rintro (h1|h1)
   .omega
   .exact h1.2
theorem JeQ{a b:Pr}:XB a b=0↔a=b:=by
 unfold XB;rw[Ip,<-WT,<-WT]
 split<;>omega
theorem Nc{a b:Pr}:XB a b<=0↔eC b a=false:=by
 have h1:eC a b=true↔XB a b<0:=by unfold eC;rw[Eb]
 have h2:=JeQ (a:=a) (b:=b);cases h:eC b a with
 |true=>
  have h3:=Qy.asym h;have:¬XB a b<0:=fun e=>by rw[h1.2 e]at h3;cases h3
  have:¬XB a b=0:=fun e=>by rw[h2.1 e,Qy.irr]at h;cases h
  simp;omega
 |false=>
  simp only[iff_true];rcases Qy.tri a b with h3|h3|h3
  .have:=h1.1 h3;omega
  .have:=h2.2 h3;omega
  .rw [h]at h3;cases h3
section
variable{D:Dfs}
variable{P:Program}{ops:Array Oper}{Q:Exit->Act->World->Prop}{rest:List Oper}{n:Nat}{f:Env}{w:World}
variable{d:Nat}{ty:TypeId}{ps:String}{af:Array Edge}{x s:Operand}{t:Nat}
theorem G8{eZ:Nat}{l al:List Pr}{v xv:Value}[Rr:RowT P t tb 6 eZ]
 (hR:PO w0 tb w l v) (pH:ev n f s=v) (hx:ev n f x=xv) (hm:al.length=m) (eo:Src w xv m (al.flatMap fK)) (jW:l.length+m<=maxLen) (hb:(l.length+m)*eZ<=140737488355328) (hw:w0.heap.size<=w.heap.size)
 (h:∀v' w',PO w0 tb w' (l++al) v'->(∀T,Fr T w0 w->Fr T w0 w')->wpList P ops Q rest (A n (bz f d v')) w'):
 wpList P ops Q (⟨some d,.call {callee:=.builtin .append,args:=#[s,x],argTypes:=#[t,t]},ty,ps,af,none⟩::rest) (A n f) w:=by
 subst hm;refine JC hR.1 pH eo hx (Xa al) (fun u hu=>by obtain⟨p,_,hp⟩:=DY.1 hu;exact Wu p u hp) jW hb (fun v' w' ho hf hk _=>?_);refine h v' w' ⟨?_,fun b hb=>(hk b hb).elim (fun h=>hR.2 b h) kX⟩ (fun T hT=>hT.trans hf (fun b hb=>.inr (hR.2 b hb)));rw[Sm,List.flatMap_append];exact ho
end
theorem PO.nil:PO w0 tb u [] (zS):=⟨bx.nil _ _ _,fun b hb=>by simp[ag,Value.ownBlock]at hb⟩
theorem PO.tr0{u':World}{l:List Pr}{v:Value}(h:PO w0 tb u l v)(hf:Fr [] u u'):PO w0 tb u' l v:=⟨h.1.tr0 hf,h.2⟩
theorem QN(b:Br):(dH b).length=3:=rfl
theorem VK(p:Pr):(fK p).length=6:=rfl
theorem Jke{l:List α}{x:α}(hk:k<l.length):l[k]?=some x↔l[k]=x:=by rw[Dc hk];simp
end Go.Rf
namespace Go.Proofs.YtggmccicdhnkgaaGreat
open Go.Proofs.Tryz
open Go.Rf Go.RowKit
variable{S:List Nat}{m:Nat}{u:World}
section
variable{α:Type}{enc:α->List Value}{K:Nat}
theorem JZ(hk:∀x,(enc x).length=K){l:List α}{ao:Option Addr}{c:Nat}(h:Src u (.slice ao m c) m (l.flatMap enc)){i:Nat}(hi:i<l.length)(hK:0<K):∃ad,ao=some ad/\Cells u (ad.add (i*K)) (enc l[i]):=by
 have hg:∀j,j<K->∃u,(l.flatMap enc)[i*K+j]?=some u:=fun j hj=>⟨_,(Jde hk l i j hi hj).trans (Dc (by rw[hk];exact hj))⟩
 obtain⟨y,hy⟩:=hg 0 hK;obtain⟨pS,c',e,hm,hh⟩:=h;cases e
 cases ao with
 |none=>
  obtain⟨ad,e,_⟩:=KO (w:=u) ⟨none,c,rfl,hm,hh⟩ hy;cases e
 |some ad=>
  refine⟨ad,rfl,fun j v hj=>?_⟩;have hjK:j<K:=by rw[<-hk l[i]];exact(Df.1 hj).1
  rw[add_add];exact Vs ⟨some ad,c,rfl,hm,hh⟩ ((Jde hk l i j hi hjK).trans hj)
end
attribute [local irreducible] Code.wp wpList Exit.then Exit.inBlock bodyPost A Calls execOp Addr.add
theorem JdD(l:List Br)(b:Br)(v:Value)(w0 w:World)(h:BO w0 50 w l v)(hw:w0.heap.size<=w.heap.size)(ha:gR eO l)(hl:l.length<=1000000):
 Calls prog 157 #[v,.agg (dH b).toArray] w fun e w'=>∃v',e=.returned v'/\BO w0 50 w' (gQ eO b l) v'/\Fr [] w w':=by
 obtain⟨ao,c,hv⟩:=h.1.slice;subst hv;refine enter func157 rfl ntmps157 rfl ?_;refine rx ?_;refine Ju (l:=dH b) rfl rfl (fun w1 p hp bJ aj bh=>?_);replace bJ:aG w1 p [.string b.decl,iV b.at_,iV b.arm] _:=bJ;refine rx ?_;refine Jh 7 [5] (σ:=Nat) (fun k g u=>g 5=iV (k:Nat)/\k<=l.length/\(∀i (hi:i<l.length),k<=i->eO l[i] b=false)/\Fr [] w1 u) (fun k=>k) l.length ⟨rfl,SX _,fun i hi h=>by omega,Fr.refl _ _⟩ ?_;rintro k g u ⟨g5,hk,hJ,hF⟩;rw[Ja g5];have eD:=aj.Jb hF;have jX:=eD.size;have gh:=bJ.tr0 hF;refine wp_seq ?_;refine wp_seq ?_;refine KZ 7 [] (fun g u'=>Fr [] u u'/\∃bb,g 20=.bool bb/\(bb=true->0<k/\∀h:k-1<l.length,eO l[k-1] b=false)/\(bb=false->k=0\/∀h:k-1<l.length,eO l[k-1] b=true)) ?_ ?_
 . (refine JE (fun z=>Fr [] u z) az rfl ?_)
   obtain⟨u1,eu⟩:=aP u.drew;rw[<-eu];have hS:Fr [] u u1:=eu▸Fr.drew _ _;by_cases j7:k=0
   . (refine Jj 0 1 2 3 hS ?_;refine Jj 4 5 6 7 hS ?_;refine Jj 8 9 10 11 hS ?_)
     exact Yky
   .have jO:k-1<l.length:=by omega
    obtain⟨ad,rfl,hc⟩:=JZ QN (h.1.src.tr0 eD) jO bU;have hc:Cells u (ad.add ((k-1)*3)) [.string l[k-1].decl,iV l[k-1].at_,iV l[k-1].arm]:=hc;refine Jj 0 1 2 3 hS ?_;refine JX 4 5 hS ?_;refine bH 6 hS ?_;rw[show((k:Int)-1)=((k-1:Nat):Int) by omega];refine JX 7 8 hS ?_;refine TC ?_;refine rx ?_;refine Jg (Za b l[k-1] u1) ?_;rintro u2 aq;have fq:=hS.Jb aq;refine yj ?_;by_cases hle:Qe b l[k-1]<=0
    . (refine JX 10 11 fq ?_)
      refine gK ?_;exact JK a6 ⟨fq,true,rfl,fun _=>⟨by omega,fun _=>Jd0.1 hle⟩,fun h=>by cases h⟩
    . (refine JX 10 11 fq ?_)
      refine gK ?_;refine JK a6 ⟨fq,false,rfl,fun h=>mi,fun _=>.inr fun _=>?_⟩;cases hq:eO l[k-1] b with
      |true=>rfl
      |false=>exact absurd (Jd0.2 hq) hle
 clear gh eD jX;rintro g1 u ⟨aY,bb,g20,ht,kP⟩;rw[Ja g20];have hF:=hF.Jb aY;cases bb with
 |true=>
  obtain⟨j7,aC⟩:=ht rfl;refine rx ?_;refine Jc (k-1) a6 ⟨?_,by omega,fun i hi yn=>?_,hF⟩ ab
  .show Value.int .i64 ((k:Int)-1)=_;rw[show((k:Int)-1)=((k-1:Nat):Int) by omega]
  .rcases DF i k with h1|h1
   .obtain rfl:i=k-1:=by omega
    exact aC hi
   .exact hJ i hi h1
 |false=>
 have qS:=Jby Qu ha hk (kP rfl);have mH:=Ja6 Qu k l hk qS (fun h=>hJ k h (SX _));have eD:=aj.Jb hF;have jX:=eD.size;have gh:=bJ.tr0 hF;have cI:=h.1.src.tr0 eD;refine rx ?_;refine KZ 7 [] (fun g u'=>Fr [] u u'/\g 34=.bool (decide (l[k]?=some b))) ?_ ?_
 . (refine JE (fun z=>Fr [] u z) az rfl ?_)
   obtain⟨u1,eu⟩:=aP u.drew;rw[<-eu];have hS:Fr [] u u1:=eu▸Fr.drew _ _;by_cases jO:k<l.length
   .obtain ⟨ad,rfl,hc⟩:=JZ QN cI jO bU;have hc:Cells u (ad.add (k*3)) [.string l[k].decl,iV l[k].at_,iV l[k].arm]:=hc;refine Ylr ?_;refine Kz 10 hS ?_ (aw:=by(intro u hu;exact(Zc (a:=l[k]) (b:=b) rfl rfl rfl)));exact Ykv
   . (refine Jj 0 1 2 3 hS ?_;refine Jj 4 5 6 7 hS ?_;refine Jj 8 9 10 11 hS ?_)
     exact Ykw
 clear gh cI;rintro g1 u ⟨aY,Y'⟩;rw[Ja Y'];replace hF:=hF.Jb aY;replace eD:=eD.Jb aY;replace jX:=eD.size;have gh:=bJ.tr0 hF;have cI:=h.1.src.tr0 eD;by_cases he:l[k]?=some b
 .rw [SN he];exact Yle
 rw[SG he];rw[SH he]at mH;refine rx ?_;refine ND 0 k cI rfl (by rw[XL]) rfl ⟨_,rfl⟩ ab hk (fun ek c1 gI _ _=>?_);rw[D8,D9,GL QN,EJ]at gI;refine rx ?_;refine Bj (w0:=u) BO.nil rfl rfl Ylv gI xo aZ (SX _) (fun v1 u1 mG vg=>?_);have ej:=vg [] (Fr.refl _ _);have TH:=ej.size;have gh:=gh.tr0 ej;rw[CO]at mG;refine rx ?_;refine JQ (c1:=dH b) rfl rfl rfl (fun u2 q2 nv gu aq cz=>?_);have aS:=ej.Jb aq;refine rx ?_;refine Bj (al:=[b]) (mG.tr0 aq) rfl rfl rfl (show Src u2 (.slice (some ⟨q2,0,none⟩) 1 1) 1 ([b].flatMap dH) from by simpa using gu.src) xo aZ ab (fun v3 u3 mI qW=>?_);have aV:=qW [] aS;refine rx ?_;refine ND k l.length (cI.tr0 aV) rfl (by rw[XL]) ⟨_,rfl⟩ rfl hk (SX _) (fun ao4 c4 nI _ _=>?_);rw[<-XL,Dk,GN QN]at nI;refine rx ?_;refine Bj (al:=l.drop k) mI rfl rfl (by rw[Dn]) nI xo aZ aV.size (fun v5 u5 s8 s9=>?_);exact Ylb
theorem Jkd(a b:Pr)(w:World):Calls prog 104 #[.agg (fK a).toArray,.agg (fK b).toArray] w fun e w'=>e=.returned (.bool (eC a b))/\Fr [] w w':=by
 refine enter func104 rfl ntmps104 rfl ?_;refine rx ?_;refine Ju (l:=fK a) rfl rfl (fun w1 p hp h1 aj bh=>?_);replace h1:aG w1 p [.string a.1.decl,iV a.1.at_,iV a.1.arm,.string a.2.decl,iV a.2.at_,iV a.2.arm] _:=h1;refine rx ?_;refine Ju (l:=fK b) rfl rfl (fun w2 q hq h2 aq cz=>?_);replace h2:aG w2 q [.string b.1.decl,iV b.1.at_,iV b.1.arm,.string b.2.decl,iV b.2.at_,iV b.2.arm] _:=h2;have h1:=h1.tr0 aq;have aS:=aj.Jb aq;refine rx ?_;refine ZH (j:=0) rfl rfl bU ?_;refine rx ?_;refine ZH (j:=0) rfl rfl bU ?_;refine rx ?_;refine Jg (Za a.1 b.1 w2) ?_;rintro w3 aF;have h1:=h1.tr0 aF;have h2:=h2.tr0 aF;have aV:=aS.Jb aF;by_cases c1:Qe a.1 b.1<0
 .refine rx ?_;refine gZ ?_;exact⟨by unfold eC;rw[SN (GU.2 (.inl c1))],aV⟩
 by_cases c2:Qe a.1 b.1=0
 .rw [c2];refine rx ?_;refine ZH (j:=1) rfl rfl bU ?_;refine rx ?_;refine ZH (j:=1) rfl rfl bU ?_;refine rx ?_;refine Jg (Za a.2 b.2 w3) ?_;rintro w4 aI;by_cases c3:Qe a.2 b.2<0
  .refine rx ?_;refine gZ ?_;exact⟨by unfold eC;rw[SN (GU.2 (.inr ⟨c2,c3⟩))],aV.Jb aI⟩
  .refine rx ?_;refine gZ ?_;exact⟨by unfold eC;rw[SG (fun h=>by rcases GU.1 h with h|h;exact c1 h;exact c3 h.2)],aV.Jb aI⟩
 .refine rx ?_;refine gZ ?_;exact⟨by unfold eC;rw[SG (fun h=>by rcases GU.1 h with h|h;exact c1 h;exact c2 h.1)],aV⟩
theorem Jal(l:List Pr)(b:Pr)(v:Value)(w0 w:World)(h:PO w0 128 w l v)(hw:w0.heap.size<=w.heap.size)(ha:gR eC l)(hl:l.length<=1000000):
 Calls prog 59 #[v,.agg (fK b).toArray] w fun e w'=>∃v',e=.returned v'/\PO w0 128 w' (gQ eC b l) v'/\Fr [] w w':=by
 obtain⟨ao,c,hv⟩:=h.1.slice;subst hv;refine enter func59 rfl ntmps59 rfl ?_;refine rx ?_;refine Ju (l:=fK b) rfl rfl (fun w1 p hp bJ aj bh=>?_);replace bJ:aG w1 p [.string b.1.decl,iV b.1.at_,iV b.1.arm,.string b.2.decl,iV b.2.at_,iV b.2.arm] _:=bJ;refine rx ?_;refine Jh 7 [5] (σ:=Nat) (fun k g u=>g 5=iV (k:Nat)/\k<=l.length/\(∀i (hi:i<l.length),i<k->eC l[i] b=true)/\Fr [] w1 u) (fun k=>l.length-k) 0 ⟨rfl,SL _,fun i hi h=>by omega,Fr.refl _ _⟩ ?_;rintro k g u ⟨g5,hk,hJ,hF⟩;rw[Ja g5];have eD:=aj.Jb hF;have jX:=eD.size;have gh:=bJ.tr0 hF;refine wp_seq ?_;refine wp_seq ?_;refine KZ 7 [] (fun g u'=>Fr [] u u'/\∃bb,g 18=.bool bb/\(bb=true->∃h:k<l.length,eC l[k] b=true)/\(bb=false->∀h:k<l.length,eC l[k] b=false)) ?_ ?_
 . (refine JE (fun z=>Fr [] u z) az rfl ?_)
   obtain⟨u1,eu⟩:=aP u.drew;rw[<-eu];have hS:Fr [] u u1:=eu▸Fr.drew _ _;by_cases jO:k<l.length
   .obtain ⟨ad,rfl,hc⟩:=JZ VK (h.1.src.tr0 eD) jO bU;have hc:Cells u (ad.add (k*6)) [.string l[k].1.decl,iV l[k].1.at_,iV l[k].1.arm,.string l[k].2.decl,iV l[k].2.at_,iV l[k].2.arm]:=hc;refine Ylr ?_;refine uW ?_;refine rx ?_;refine Jg (Jkd l[k] b u1) ?_;rintro u2 aq;have fq:=hS.Jb aq;refine yj ?_;refine bH 11 fq ?_;refine gK ?_;exact JK a6 ⟨fq,eC l[k] b,rfl,fun h=>⟨jO,h⟩,fun h _=>h⟩
   . (refine Jj 0 1 2 3 hS ?_;refine Jj 4 5 6 7 hS ?_;refine Jj 8 9 10 11 hS ?_)
     refine gK ?_;exact JK a6 ⟨hS,false,rfl,fun h=>mi,fun _ h=>absurd h jO⟩
 clear gh eD jX;rintro g1 u ⟨aY,bb,g18,ht,kP⟩;rw[Ja g18];have hF:=hF.Jb aY;cases bb with
 |true=>
  obtain⟨j7,aC⟩:=ht rfl;refine rx ?_;refine Jc (k+1) a6 ⟨rfl,by omega,fun i hi yn=>?_,hF⟩ ab;rcases DF i k with h1|h1
  .exact hJ i hi h1
  .obtain rfl:i=k:=by omega
   exact aC
 |false=>
 have mH:=Ja6 Qy k l hk hJ (kP rfl);have eD:=aj.Jb hF;have jX:=eD.size;have gh:=bJ.tr0 hF;have cI:=h.1.src.tr0 eD;refine rx ?_;refine KZ 7 [] (fun g u'=>Fr [] u u'/\g 32=.bool (decide (l[k]?=some b))) ?_ ?_
 . (refine JE (fun z=>Fr [] u z) az rfl ?_)
   obtain⟨u1,eu⟩:=aP u.drew;rw[<-eu];have hS:Fr [] u u1:=eu▸Fr.drew _ _;by_cases jO:k<l.length
   .obtain ⟨ad,rfl,hc⟩:=JZ VK cI jO bU;have hc:Cells u (ad.add (k*6)) [.string l[k].1.decl,iV l[k].1.at_,iV l[k].1.arm,.string l[k].2.decl,iV l[k].2.at_,iV l[k].2.arm]:=hc;refine Ylr ?_;refine Kz 10 hS ?_ (aw:=by(intro u hu;exact(JfG (a:=l[k]) (b:=b) rfl rfl rfl)));exact Ykv
   . (refine Jj 0 1 2 3 hS ?_;refine Jj 4 5 6 7 hS ?_;refine Jj 8 9 10 11 hS ?_)
     exact Ykw
 clear gh cI;rintro g1 u ⟨aY,Y'⟩;rw[Ja Y'];replace hF:=hF.Jb aY;replace eD:=eD.Jb aY;replace jX:=eD.size;have gh:=bJ.tr0 hF;have cI:=h.1.src.tr0 eD;by_cases he:l[k]?=some b
 .rw [SN he];exact Yle
 rw[SG he];rw[SH he]at mH;refine rx ?_;refine ND 0 k cI rfl (by rw[Xa]) rfl ⟨_,rfl⟩ ab hk (fun ek c1 gI _ _=>?_);rw[D8,D9,GL VK,EJ]at gI;refine rx ?_;refine G8 (w0:=u) PO.nil rfl rfl Ylv gI xo aZ (SX _) (fun v1 u1 mG vg=>?_);have ej:=vg [] (Fr.refl _ _);have TH:=ej.size;have gh:=gh.tr0 ej;rw[CO]at mG;refine rx ?_;refine JQ (c1:=fK b) rfl rfl rfl (fun u2 q2 nv gu aq cz=>?_);have aS:=ej.Jb aq;refine rx ?_;refine G8 (al:=[b]) (mG.tr0 aq) rfl rfl rfl (show Src u2 (.slice (some ⟨q2,0,none⟩) 1 1) 1 ([b].flatMap fK) from by simpa using gu.src) xo aZ ab (fun v3 u3 mI qW=>?_);have aV:=qW [] aS;refine rx ?_;refine ND k l.length (cI.tr0 aV) rfl (by rw[Xa]) ⟨_,rfl⟩ rfl hk (SX _) (fun ao4 c4 nI _ _=>?_);rw[<-Xa,Dk,GN VK]at nI;refine rx ?_;refine G8 (al:=l.drop k) mI rfl rfl (by rw[Dn]) nI xo aZ aV.size (fun v5 u5 s8 s9=>?_);exact Ylb
theorem JaN(l:List Br)(v:Value)(w:World)(hd:DR w S (.l (l.map jl)) v)(hl:l.length<=1000000):
 Calls prog 101 #[v] w fun e w'=>∃v',e=.returned v'/\BO w 50 w' (JM eO l) v'/\Fr [] w w':=by
 have lq:(l.map jl).length=l.length:=Sr ..;obtain⟨ao,c,rfl,_⟩:=hd.slice;rw[lq]at hd ⊢;refine enter func101 rfl ntmps101 rfl ?_;refine rx ?_;refine Jh 5 [3,4] (σ:=Nat×Value) (fun s g u=>g 3=s.2/\g 4=iV (s.1:Nat)/\s.1<=l.length/\BO w 50 u (JM eO (l.take s.1)) s.2/\Fr [] w u) (fun s=>l.length-s.1) (0,_) ⟨rfl,rfl,SL _,BO.nil,Fr.refl _ _⟩ ?_;rintro⟨i,va⟩ g u ⟨g3,g4,hi,hB,hF⟩;simp only at g3 g4 hi hB;rw[Ja g3,Ja g4];by_cases aC:i<l.length
 case neg=>
  rw[SQ ab]at hB;refine bM ?_;exact⟨va,rfl,hB,hF⟩
 obtain⟨ad,rfl,hc⟩:=(hd.tr0 hF).br aC;refine rx ?_;refine Jl (JdD (JM eO (l.take i)) l[i] va w u hB hF.size (QA Qu _) (by have:=KQ (lt:=eO) (l:=l.take i);rw[C9]at this;omega)) ?_;rintro v' u1 ⟨mG,aj⟩;refine rx ?_;refine Jc (i+1,v') a6 ⟨rfl,rfl,aC,?_,hF.Jb aj⟩ eM;simp only;rw[SK aC,BQ Qu];exact mG
theorem Jet(l m:List Br)(v va:Value)(w:World){S':List Nat}(hd:DR w S (.l (l.map jl)) v)(hm:DR w S' (.l (m.map jl)) va)(hl:l.length+m.length<=1000000):
 Calls prog 132 #[v,va] w fun e w'=>∃v',e=.returned v'/\BO w 50 w' (JM eO (l++m)) v'/\Fr [] w w':=by
 have lq:(m.map jl).length=m.length:=Sr ..;obtain⟨ao,c,rfl,_⟩:=hm.slice;rw[lq]at hm ⊢;refine enter func132 rfl ntmps132 rfl ?_;refine rx ?_;refine Jl (JaN l v w hd ab) ?_;rintro v1 w1 ⟨mG,aj⟩;refine rx ?_;refine Jh 7 [5,6] (σ:=Nat×Value) (fun s g u=>g 5=s.2/\g 6=iV (s.1:Nat)/\s.1<=m.length/\BO w 50 u (JM eO (l++m.take s.1)) s.2/\Fr [] w u) (fun s=>m.length-s.1) (0,_) ⟨rfl,rfl,SL _,by rw[H7,Ce];exact mG,aj⟩ ?_;clear mG aj;rintro⟨i,vb⟩ g u ⟨g5,g6,hi,hB,hF⟩;simp only at g5 g6 hi hB;rw[Ja g5,Ja g6];by_cases aC:i<m.length
 case neg=>
  rw[SQ ab]at hB;refine bM ?_;exact⟨vb,rfl,hB,hF⟩
 obtain⟨ad,rfl,hc⟩:=(hm.tr0 hF).br aC;refine rx ?_;refine Jl (JdD (JM eO (l++m.take i)) m[i] vb w u hB hF.size (QA Qu _) (by have:=KQ (lt:=eO) (l:=l++m.take i);rw[Sm,C9]at this;omega)) ?_;rintro v' u1 ⟨nL,aj⟩;refine rx ?_;refine Jc (i+1,v') a6 ⟨rfl,rfl,aC,?_,hF.Jb aj⟩ eM;simp only;rw[SK aC,<-List.append_assoc,BQ Qu (l:=l++m.take i)];exact nL
theorem Jak(l:List Br)(v:Value)(w:World)(hd:DR w S (.l (l.map jl)) v)(hl:l.length<=1000000):
 Calls prog 58 #[v] w fun e w'=>∃v',e=.returned v'/\PO w 128 w' (JM eC (Jy l)) v'/\Fr [] w w':=by
 have lq:(l.map jl).length=l.length:=Sr ..;obtain⟨xp,c0,rfl,_⟩:=hd.slice;rw[lq]at hd ⊢;refine enter func58 rfl ntmps58 rfl ?_;refine rx ?_;refine Jh 5 [3,4] (σ:=Nat×Value) (fun s g u=>g 3=s.2/\g 4=iV (s.1:Nat)/\s.1<=l.length/\PO w 128 u (JM eC ((Jy l).take s.1)) s.2/\Fr [] w u) (fun s=>l.length-s.1) (0,_) ⟨rfl,rfl,SL _,PO.nil,Fr.refl _ _⟩ ?_;rintro⟨i,va⟩ g u0 ⟨g3,g4,hi,hB,eG⟩;simp only at g3 g4 hi hB;rw[Ja g3,Ja g4];have pj:=QI (l:=l);by_cases aC:i+1<l.length
 case neg=>
  rw[SQ ab]at hB;refine bM ?_;exact⟨va,rfl,hB,eG⟩
 obtain⟨ad,rfl,gI⟩:=(hd.tr0 eG).br (i:=i) ab;obtain⟨lC,e1,fO⟩:=(hd.tr0 eG).br aC;cases e1
 obtain⟨b,zN⟩:=aP ((l[i],l[i+1]));refine rx ?_;refine JE (fun z=>Fr [] u0 z) az rfl ?_;obtain⟨u1,eu⟩:=aP u0.drew;rw[<-eu];have hS:Fr [] u0 u1:=eu▸Fr.drew _ _;have jB:=hS.size;refine Jj 0 1 2 3 hS ?_;refine Jj 4 5 6 7 hS ?_;refine bH 8 hS ?_;refine Kw 9 hS ?_ (v:=.agg ((fK (l[i],l[i+1]))).toArray) (aw:=by(intro u hu;exact NR ((fK (l[i],l[i+1]))) fD));rw[<-zN];refine uW ?_;refine Jm (l:=[zT,zI,zI,zT,zI,zI]) rfl (fun u2 p hp gJ aq cz=>?_);have fq:=hS.Jb aq;refine yj ?_;refine zK ?_;refine Jd (cs:=fK b) rfl rfl gJ (Wu b) rfl rfl (fun u3 gJ aF dO=>?_);replace gJ:aG u3 p [.string b.1.decl,iV b.1.at_,iV b.1.arm,.string b.2.decl,iV b.2.at_,iV b.2.arm] _:=gJ;have oE:Fr [] u0 u3:=fq.trans aF (fun x hx=>.inr bt);refine wpList_nil (Jv oE ?_);refine gK ?_;have aV:=eG.Jb oE;have mI:=hB.tr0 oE;clear hB hS fq oE aq aF gI fO;obtain⟨m,hm⟩:=aP (JM eC ((Jy l).take i));have xm:m.length<=1000000:=by have:=KQ (lt:=eC) (l:=(Jy l).take i);rw[C9]at this;rw[hm];omega
 have hma:gR eC m:=hm▸QA Qy _;have pT:JM eC ((Jy l).take (i+1))=gQ eC b m:=by
  have hg:=Xb aC;have TQ:i<(Jy l).length:=(Df.1 hg).1;have:(Jy l)[i]=b:=zN▸(Df.1 hg).2;rw[SK TQ,BQ Qy,this,hm];rfl
 rw[<-hm]at mI;obtain⟨ao,c,rfl⟩:=mI.1.slice;refine QG ?_;refine wp_seq ?_;refine KA ?_;refine oG ?_;refine wp_seq ?_;refine KZ 7 [6] (fun g u'=>Fr [] u3 u'/\∃k:Nat,g 6=iV k/\k<=m.length/\(∀i (hi:i<m.length),i<k->eC m[i] b=true)/\(∀h:k<m.length,eC m[k] b=false)) ?_ ?_
 .refine rx ?_;refine Jh 7 [6] (σ:=Nat) (fun k g u=>g 6=iV (k:Nat)/\k<=m.length/\(∀i (hi:i<m.length),k<=i->eC m[i] b=false)/\Fr [] u3 u) (fun k=>k) m.length ⟨rfl,SX _,fun i hi h=>by omega,Fr.refl _ _⟩ ?_;rintro k g u ⟨g6,hk,hJ,hF⟩;rw[Ja g6];have gh:=gJ.tr0 hF;refine wp_seq ?_;refine wp_seq ?_;refine KZ 7 [] (fun g u'=>Fr [] u u'/\∃bb,g 63=.bool bb/\(bb=true->0<k/\∀h:k-1<m.length,eC m[k-1] b=false)/\(bb=false->k=0\/∀h:k-1<m.length,eC m[k-1] b=true)) ?_ ?_
  . (refine JE (fun z=>Fr [] u z) az rfl ?_)
    obtain⟨u1,eu⟩:=aP u.drew;rw[<-eu];have hS:Fr [] u u1:=eu▸Fr.drew _ _;by_cases j7:k=0
    . (refine Jj 0 1 2 3 hS ?_;refine Jj 4 5 6 7 hS ?_;refine Jj 8 9 10 11 hS ?_;refine Jj 12 13 14 15 hS ?_;refine Jj 16 17 18 19 hS ?_;refine Jj 20 21 22 23 hS ?_;refine Jj 24 25 26 27 hS ?_;refine Jj 28 29 30 31 hS ?_;refine Jj 32 33 34 35 hS ?_;refine bH 36 hS ?_)
      exact Yky
    have jO:k-1<m.length:=by omega
    obtain⟨ad,rfl,hc⟩:=JZ VK (mI.1.src.tr0 hF) jO bU;have hc:Cells u (ad.add ((k-1)*6)) [.string (m[k-1]).1.decl,iV (m[k-1]).1.at_,iV (m[k-1]).1.arm,.string (m[k-1]).2.decl,iV (m[k-1]).2.at_,iV (m[k-1]).2.arm]:=hc;have ico:∀(g:Env) (u':World),dR 7 [] (bz g 6 (iV k)) g->Fr [] u u'->g 63=.bool (decide (XB b m[k-1]<=0))->Fr [] u u'/\∃bb,g 63=.bool bb/\(bb=true->0<k/\∀h:k-1<m.length,eC m[k-1] b=false)/\(bb=false->k=0\/∀h:k-1<m.length,eC m[k-1] b=true):=fun g u' _ hf hg=>by
     refine⟨hf,_,hg,fun h=>⟨by omega,fun _=>Nc.1 (DJ h)⟩,fun h=>.inr fun _=>?_⟩;cases hq:eC m[k-1] b with
     |true=>rfl
     |false=>exact absurd (Nc.2 hq) (IX h)
    clear ico;have bZ:∀{bb:Bool},bb=decide (XB b m[k-1]<=0)->(bb=true->0<k/\∀h:k-1<m.length,eC m[k-1] b=false)/\(bb=false->k=0\/∀h:k-1<m.length,eC m[k-1] b=true):=fun{bb} hb=>by
     refine⟨fun h=>⟨by omega,fun _=>Nc.1 (DJ (hb▸h))⟩,fun h=>.inr fun _=>?_⟩;cases hq:eC m[k-1] b with
     |true=>rfl
     |false=>exact absurd (Nc.2 hq) (IX (hb▸h))
    refine JX 0 1 hS ?_;refine bH 2 hS ?_;refine Kz 3 hS ?_ (aw:=by(intro u hu;exact(QV (j:=0) rfl rfl bU)));refine Jj 4 5 6 7 hS ?_;rw[show((k:Int)-1)=((k-1:Nat):Int) by omega];refine bH 8 hS ?_;refine Kz 9 hS ?_ (aw:=by(intro u hu;exact(V8 (j:=0) rfl rfl bU)));refine bH 10 hS ?_;refine zK ?_;refine rx ?_;refine Jg (Za b.1 m[k-1].1 u1) ?_;rintro u2 aq;have fq:=hS.Jb aq;refine yj ?_;by_cases c1:Qe b.1 m[k-1].1<0
    . (refine Jj 12 13 14 15 fq ?_;refine Jj 16 17 18 19 fq ?_;refine Jj 20 21 22 23 fq ?_;refine Jj 24 25 26 27 fq ?_;refine Jj 28 29 30 31 fq ?_;refine Jj 32 33 34 35 fq ?_;refine bH 36 fq ?_)
      refine gK ?_;exact JK a6 ⟨fq,true,rfl,bZ (SN (by have:=GU.2 (.inl c1);omega)).symm⟩
    refine JX 12 13 fq ?_;refine Kz 14 fq ?_ (aw:=by(intro u hu;exact(QV (j:=0) rfl rfl bU)));refine Jj 15 16 17 18 fq ?_;rw[show((k:Int)-1)=((k-1:Nat):Int) by omega];refine bH 19 fq ?_;refine Kz 20 fq ?_ (aw:=by(intro u hu;exact(V8 (j:=0) rfl rfl bU)));refine bH 21 fq ?_;by_cases c2:b.1=m[k-1].1
    . (apply V4 (i:=22);exact rfl;exact rfl;kernel_rfl;kernel_rfl;kernel_rfl;(intro u hu;exact(Zc (a:=b.1) (b:=m[k-1].1) rfl rfl (SN c2)));exact fq)
      refine bH 23 fq ?_;refine Kz 24 fq ?_ (aw:=by(intro u hu;exact(QV (j:=1) rfl rfl bU)));refine Jj 25 26 27 28 fq ?_;rw[show((k:Int)-1)=((k-1:Nat):Int) by omega];refine bH 29 fq ?_;refine Kz 30 fq ?_ (aw:=by(intro u hu;exact(V8 (j:=1) rfl rfl bU)));refine bH 31 fq ?_;refine JJ (i:=32) rfl az ?_;refine rx ?_;refine Jg (Za b.2 m[k-1].2 u2) ?_;rintro u3 aF;have oE:=fq.Jb aF;refine wpList_nil (Jv oE ?_);have hz:Qe b.1 m[k-1].1=0:=WT.2 c2;have hP:XB b m[k-1]=Qe b.2 m[k-1].2:=by unfold XB;rw[SH ab]
      by_cases c3:Qe b.2 m[k-1].2<=0
      . (refine Jj 33 34 35 36 oE ?_)
        refine gK ?_;exact JK a6 ⟨oE,true,rfl,bZ (SN ab).symm⟩
      . (refine Jj 33 34 35 36 oE ?_)
        refine gK ?_;exact JK a6 ⟨oE,false,rfl,bZ (SG ab).symm⟩
    . (apply V4 (i:=22);exact rfl;exact rfl;kernel_rfl;kernel_rfl;kernel_rfl;(intro u hu;exact(Zc (a:=b.1) (b:=m[k-1].1) rfl rfl (SG c2)));exact fq)
      refine Jj 23 24 25 26 fq ?_;refine Jj 27 28 29 30 fq ?_;refine Jj 31 32 33 34 fq ?_;refine JX 35 36 fq ?_;refine gK ?_;refine JK a6 ⟨fq,false,rfl,bZ (SG (fun h=>?_)).symm⟩;have h1:¬Qe b.1 m[k-1].1=0:=fun e=>c2 (WT.1 e)
      have:XB b m[k-1]=Qe b.1 m[k-1].1:=by unfold XB;rw[Cb h1]
      omega
  clear gh;rintro g1 u ⟨aY,bb,g63,ht,kP⟩;rw[Ja g63];have hF:=hF.Jb aY;cases bb with
  |true=>
   obtain⟨j7,qX⟩:=ht rfl;refine rx ?_;refine Jc (k-1) a6 ⟨?_,by omega,fun i hi yn=>?_,hF⟩ ab
   .show Value.int .i64 ((k:Int)-1)=_;rw[show((k:Int)-1)=((k-1:Nat):Int) by omega]
   .rcases DF i k with h1|h1
    .obtain rfl:i=k-1:=by omega
     exact qX hi
    .exact hJ i hi h1
  |false=>
   refine rx ?_;exact JK a6 ⟨hF,k,rfl,hk,Jby Qy hma hk (kP rfl),fun h=>hJ k h (SX _)⟩
 rintro g2 u ⟨hF,k,g6,hk,qS,hkf⟩;rw[Ja g6];have mH:=Ja6 Qy k m hk qS hkf;have eD:=aV.Jb hF;have jX:=eD.size;have gh:=gJ.tr0 hF;have cI:=mI.1.src.tr0 hF;refine wp_seq ?_;refine wp_seq ?_;refine KZ 7 [] (fun g u'=>Fr [] u u'/\g 77=.bool (decide (m[k]?=some b))) ?_ ?_
 . (refine JE (fun z=>Fr [] u z) az rfl ?_)
   obtain⟨u1,eu⟩:=aP u.drew;rw[<-eu];have hS:Fr [] u u1:=eu▸Fr.drew _ _;by_cases jO:k<m.length
   .obtain ⟨ad,rfl,hc⟩:=JZ VK cI jO bU;have hc:Cells u (ad.add (k*6)) [.string (m[k]).1.decl,iV (m[k]).1.at_,iV (m[k]).1.arm,.string (m[k]).2.decl,iV (m[k]).2.at_,iV (m[k]).2.arm]:=hc;refine Ylr ?_;refine Kz 10 hS ?_ (aw:=by(intro u hu;exact(JfG (a:=m[k]) (b:=b) rfl rfl rfl)));exact Ykv
   . (refine Jj 0 1 2 3 hS ?_;refine Jj 4 5 6 7 hS ?_;refine Jj 8 9 10 11 hS ?_)
     exact Ykw
 clear gh cI;rintro g1 u ⟨aY,g77⟩;rw[Ja g77];replace hF:=hF.Jb aY;replace eD:=eD.Jb aY;replace jX:=eD.size;have gh:=gJ.tr0 hF;have cI:=mI.1.src.tr0 hF;by_cases he:m[k]?=some b
 .rw [SN he];rw[Cb he]at mH;refine rx ?_;refine Jc (i+1,Value.slice ao m.length c) a6 ⟨rfl,rfl,by omega,?_,eD⟩ eM;simp only;rw[pT,mH];exact mI.tr0 hF
 rw[SG he];rw[SH he]at mH;refine rx ?_;refine ND 0 k cI rfl (by rw[Xa]) rfl ⟨_,rfl⟩ ab hk (fun ek c1 gI _ _=>?_);rw[D8,D9,GL VK,EJ]at gI;refine rx ?_;refine G8 (w0:=u) PO.nil rfl rfl Ylv gI xo aZ (SX _) (fun v1 u1 mG vg=>?_);have ej:=vg [] (Fr.refl _ _);have TH:=ej.size;have gh:=gh.tr0 ej;rw[CO]at mG;refine rx ?_;refine JQ (c1:=fK b) rfl rfl rfl (fun u2 q2 nv gu aq cz=>?_);have aS:=ej.Jb aq;refine rx ?_;refine G8 (al:=[b]) (mG.tr0 aq) rfl rfl rfl (show Src u2 (.slice (some ⟨q2,0,none⟩) 1 1) 1 ([b].flatMap fK) from by simpa using gu.src) xo aZ ab (fun v3 u3 mI qW=>?_);have aV:=qW [] aS;refine rx ?_;refine ND k m.length (cI.tr0 aV) rfl (by rw[Xa]) ⟨_,rfl⟩ rfl hk (SX _) (fun ao4 c4 nI _ _=>?_);rw[<-Xa,Dk,GN VK]at nI;refine rx ?_;refine G8 (al:=m.drop k) mI rfl rfl (by rw[Dn]) nI xo aZ aV.size (fun v5 u5 s8 s9=>?_);have bX:=s9 [] aV;refine rx ?_;refine Jc (i+1,v5) a6 ⟨rfl,rfl,by omega,?_,eD.Jb bX⟩ eM;simp only;rw[pT,mH];have h1:=s8.1;rw[List.append_assoc,IB]at h1;exact⟨h1,fun x hx=>by have:=s8.2 x hx;omega⟩
end Go.Proofs.YtggmccicdhnkgaaGreat
