/-
 The reference's sets and pairs of branches.
-/
import Derived.Test.YtggmccicdhnkgaaGreatYFgu1
set_option linter.all false
set_option maxHeartbeats 64000000
namespace Go.Rf
open Go.RowKit
variable{k m tb:Nat}{α:Type}{u w0:World}
section
variable{α:Type}{enc:α->List Value}{K:Nat}
theorem GL(hk:∀x,(enc x).length=K):∀(l:List α) (k:Nat),(l.flatMap enc).take (k*K)=(l.take k).flatMap enc
 |l,0=>by simp
 |[],k+1=>by simp
 |a::l,k+1=>by
  rw[CP,DT,CP,<-GL hk l k,List.take_append,hk,DN,SQ (by rw[hk];omega)]
  congr 2;omega
theorem GN(hk:∀x,(enc x).length=K):∀(l:List α) (k:Nat),(l.flatMap enc).drop (k*K)=(l.drop k).flatMap enc
 |l,0=>by simp
 |[],k+1=>by simp
 |a::l,k+1=>by
  rw[CP,Fb,<-GN hk l k,F5,hk,DN,Ci (by rw[hk];omega),CO]
  congr 1;omega
theorem Jde(hk:∀x,(enc x).length=K):∀(l:List α) (i j:Nat) (hi:i<l.length),j<K->(l.flatMap enc)[i*K+j]?=(enc l[i])[j]?
 |a::l,0,j,_,hj=>by
  rw[CP,D8,Di,Ej (by rw[hk];exact hj)];rfl
 |a::l,i+1,j,hi,hj=>by
  rw[CP,Ee (by rw[hk,DN];omega),hk,show(i+1)*K+j-K=i*K+j by rw[DN];omega,Jde hk l i j Yjf hj];rfl
end
theorem Jby{lt:α->α->Bool}(T:Tot lt){l:List α}(ha:Asc lt l){x:α}(hk:k<=l.length)(h:k=0\/∀h:k-1<l.length,lt l[k-1] x=true):∀i (hi:i<l.length),i<k->lt l[i] x=true:=fun i hi hik=>by
 rcases h with h|h
 .omega
 .have h1:=h Yhn;rcases DF i (k-1)with h2|h2
  .exact T.tr (Fj.1 ha i (k-1) hi Yhn h2) h1
  .obtain rfl:i=k-1:=by omega
   exact h1
theorem GU{a b:Pr}:XB a b<0↔Qe a.1 b.1<0\/Qe a.1 b.1=0/\Qe a.2 b.2<0:=by
 unfold XB
 split
 .rename_i h;constructor
  .intro h1;exact .inl h1
  .rintro (h1|h1)
   .exact h1
   .exact absurd h1.1 h
 .rename_i h;constructor
  .intro h1;exact .inr ⟨by omega,h1⟩
  .rintro (h1|h1)
   .omega
   .exact h1.2
theorem JeQ{a b:Pr}:XB a b=0↔a=b:=by
 unfold XB;rw[Ip,<-WT,<-WT]
 split<;>omega
theorem Nc{a b:Pr}:XB a b<=0↔ltP b a=false:=by
 have h1:ltP a b=true↔XB a b<0:=by unfold ltP;rw[Eb]
 have h2:=JeQ (a:=a) (b:=b);cases h:ltP b a with
 |true=>
  have h3:=Qy.asym h;have:¬XB a b<0:=fun e=>by rw[h1.2 e]at h3;cases h3
  have:¬XB a b=0:=fun e=>by rw[h2.1 e,Qy.irr]at h;cases h
  simp;omega
 |false=>
  simp only[iff_true];rcases Qy.tri a b with h3|h3|h3
  .have:=h1.1 h3;omega
  .have:=h2.2 h3;omega
  .rw [h]at h3;cases h3
section
variable{D:Dfs}
variable{P:Program}{ops:Array Oper}{Q:Exit->Act->World->Prop}{rest:List Oper}{n:Nat}{f:Env}{w:World}
variable{d:Nat}{ty:TypeId}{ps:String}{af:Array Edge}{x s:Operand}{t:Nat}
theorem G8{by_:Nat}{l al:List Pr}{v xv:Value}[Rr:RowT P t tb 6 by_]
 (hR:PO w0 tb w l v) (hsv:ev n f s=v) (hx:ev n f x=xv) (hm:al.length=m) (hsrc:Src w xv m (al.flatMap prV)) (h63:l.length+m<=maxLen) (hb:(l.length+m)*by_<=140737488355328) (hw:w0.heap.size<=w.heap.size)
 (h:∀v' w',PO w0 tb w' (l++al) v'->(∀T,Fr T w0 w->Fr T w0 w')->wpList P ops Q rest (A n (upd f d v')) w'):
 wpList P ops Q (⟨some d,.call {callee:=.builtin .append,args:=#[s,x],argTypes:=#[t,t]},ty,ps,af,none⟩::rest) (A n f) w:=by
 subst hm;refine JC hR.1 hsv hsrc hx (Xa al) (fun u hu=>by obtain⟨p,_,hp⟩:=DY.1 hu;exact Wu p u hp) h63 hb (fun v' w' ho hf hk _=>?_);refine h v' w' ⟨?_,fun b hb=>(hk b hb).elim (fun h=>hR.2 b h) Yid⟩ (fun T hT=>hT.trans hf (fun b hb=>.inr (hR.2 b hb)));rw[Sm,List.flatMap_append];exact ho
end
theorem PO.nil:PO w0 tb u [] (zS):=⟨Own.nil _ _ _,fun b hb=>by simp[blks,Value.ownBlock]at hb⟩
theorem PO.tr0{u':World}{l:List Pr}{v:Value}(h:PO w0 tb u l v)(hf:Fr [] u u'):PO w0 tb u' l v:=⟨h.1.tr0 hf,h.2⟩
theorem QN(b:Br):(brV b).length=3:=rfl
theorem VK(p:Pr):(prV p).length=6:=rfl
theorem Jke{l:List α}{x:α}(hk:k<l.length):l[k]?=some x↔l[k]=x:=by rw[Dc hk];simp
end Go.Rf
namespace Go.Proofs.YtggmccicdhnkgaaGreat
open Go.Proofs.Tryz
open Go.Rf Go.RowKit
variable{S:List Nat}{m:Nat}{u:World}
section
variable{α:Type}{enc:α->List Value}{K:Nat}
theorem JZ(hk:∀x,(enc x).length=K){l:List α}{ao:Option Addr}{c:Nat}(h:Src u (.slice ao m c) m (l.flatMap enc)){i:Nat}(hi:i<l.length)(hK:0<K):∃ad,ao=some ad/\Cells u (ad.add (i*K)) (enc l[i]):=by
 have hg:∀j,j<K->∃u,(l.flatMap enc)[i*K+j]?=some u:=fun j hj=>⟨_,(Jde hk l i j hi hj).trans (Dc (by rw[hk];exact hj))⟩
 obtain⟨y,hy⟩:=hg 0 hK;obtain⟨ao',c',e,hm,hh⟩:=h;cases e
 cases ao with
 |none=>
  obtain⟨ad,e,_⟩:=KO (w:=u) ⟨none,c,rfl,hm,hh⟩ hy;cases e
 |some ad=>
  refine⟨ad,rfl,fun j v hj=>?_⟩;have hjK:j<K:=by rw[<-hk l[i]];exact(Df.1 hj).1
  rw[add_add];exact Vs ⟨some ad,c,rfl,hm,hh⟩ ((Jde hk l i j hi hjK).trans hj)
end
attribute [local irreducible] Code.wp wpList Exit.then Exit.inBlock bodyPost A Calls execOp Addr.add
theorem JdD(l:List Br)(b:Br)(v:Value)(w0 w:World)(h:BO w0 50 w l v)(hw:w0.heap.size<=w.heap.size)(ha:Asc ltB l)(hl:l.length<=1000000):
 Calls prog 157 #[v,.agg (brV b).toArray] w fun e w'=>∃v',e=.returned v'/\BO w0 50 w' (insL ltB b l) v'/\Fr [] w w':=by
 obtain⟨ao,c,hv⟩:=h.1.slice;subst hv;refine enter func157 rfl ntmps157 rfl ?_;refine rx ?_;refine Ju (l:=brV b) rfl rfl (fun w1 p hp hb1 hf1 hs1=>?_);replace hb1:Blk w1 p [.string b.decl,iV b.at_,iV b.arm] _:=hb1;refine rx ?_;refine Jh 7 [5] (σ:=Nat) (fun k g u=>g 5=iV (k:Nat)/\k<=l.length/\(∀i (hi:i<l.length),k<=i->ltB l[i] b=false)/\Fr [] w1 u) (fun k=>k) l.length ⟨rfl,SX _,fun i hi h=>by omega,Fr.refl _ _⟩ ?_;rintro k g u ⟨g5,hk,hge,hF⟩;rw[Ja g5];have hFu:=hf1.Jb hF;have hsz0:=hFu.size;have hbu:=hb1.tr0 hF;refine wp_seq ?_;refine wp_seq ?_;refine KZ 7 [] (fun g u'=>Fr [] u u'/\∃bb,g 20=.bool bb/\(bb=true->0<k/\∀h:k-1<l.length,ltB l[k-1] b=false)/\(bb=false->k=0\/∀h:k-1<l.length,ltB l[k-1] b=true)) ?_ ?_
 . (refine JE (fun z=>Fr [] u z) Yhp rfl ?_)
   obtain⟨u1,hu1⟩:=exq u.drew;rw[<-hu1];have hS:Fr [] u u1:=hu1▸Fr.drew _ _;by_cases hk0:k=0
   . (refine Jj 0 1 2 3 hS ?_;refine Jj 4 5 6 7 hS ?_;refine Jj 8 9 10 11 hS ?_)
     exact Yky
   .have hkl:k-1<l.length:=by omega
    obtain⟨ad,rfl,hc⟩:=JZ QN (h.1.src.tr0 hFu) hkl Yhy;have hc:Cells u (ad.add ((k-1)*3)) [.string l[k-1].decl,iV l[k-1].at_,iV l[k-1].arm]:=hc;refine Jj 0 1 2 3 hS ?_;refine JX 4 5 hS ?_;refine d_z 6 hS ?_;rw[show((k:Int)-1)=((k-1:Nat):Int) by omega];refine JX 7 8 hS ?_;refine Ygx ?_;refine rx ?_;refine Jg (Za b l[k-1] u1) ?_;rintro u2 hf2;have hS2:=hS.Jb hf2;refine Ylo ?_;by_cases hle:Qe b l[k-1]<=0
    . (refine JX 10 11 hS2 ?_)
      refine Yfx ?_;exact JK Yhl ⟨hS2,true,rfl,fun _=>⟨by omega,fun _=>Jd0.1 hle⟩,fun h=>by cases h⟩
    . (refine JX 10 11 hS2 ?_)
      refine Yfx ?_;refine JK Yhl ⟨hS2,false,rfl,fun h=>Yiw,fun _=>.inr fun _=>?_⟩;cases hq:ltB l[k-1] b with
      |true=>rfl
      |false=>exact absurd (Jd0.2 hq) hle
 clear hbu hFu hsz0;rintro g1 u ⟨hfu,bb,g20,ht,hff⟩;rw[Ja g20];have hF:=hF.Jb hfu;cases bb with
 |true=>
  obtain⟨hk0,hlt⟩:=ht rfl;refine rx ?_;refine Jc (k-1) Yhl ⟨?_,by omega,fun i hi hki=>?_,hF⟩ Yhn
  .show Value.int .i64 ((k:Int)-1)=_;rw[show((k:Int)-1)=((k-1:Nat):Int) by omega]
  .rcases DF i k with h1|h1
   .obtain rfl:i=k-1:=by omega
    exact hlt hi
   .exact hge i hi h1
 |false=>
 have hal:=Jby Qu ha hk (hff rfl);have hins:=Ja6 Qu k l hk hal (fun h=>hge k h (SX _));have hFu:=hf1.Jb hF;have hsz0:=hFu.size;have hbu:=hb1.tr0 hF;have hsu:=h.1.src.tr0 hFu;refine rx ?_;refine KZ 7 [] (fun g u'=>Fr [] u u'/\g 34=.bool (decide (l[k]?=some b))) ?_ ?_
 . (refine JE (fun z=>Fr [] u z) Yhp rfl ?_)
   obtain⟨u1,hu1⟩:=exq u.drew;rw[<-hu1];have hS:Fr [] u u1:=hu1▸Fr.drew _ _;by_cases hkl:k<l.length
   .obtain ⟨ad,rfl,hc⟩:=JZ QN hsu hkl Yhy;have hc:Cells u (ad.add (k*3)) [.string l[k].decl,iV l[k].at_,iV l[k].arm]:=hc;refine Ylr ?_;refine Kz 10 hS ?_ (hrun:=by(intro u hu;exact(Zc (a:=l[k]) (b:=b) rfl rfl rfl)));exact Ykv
   . (refine Jj 0 1 2 3 hS ?_;refine Jj 4 5 6 7 hS ?_;refine Jj 8 9 10 11 hS ?_)
     exact Ykw
 clear hbu hsu;rintro g1 u ⟨hfu,g34⟩;rw[Ja g34];replace hF:=hF.Jb hfu;replace hFu:=hFu.Jb hfu;replace hsz0:=hFu.size;have hbu:=hb1.tr0 hF;have hsu:=h.1.src.tr0 hFu;by_cases he:l[k]?=some b
 .rw [SN he];exact Yle
 rw[SG he];rw[SH he]at hins;refine rx ?_;refine ND 0 k hsu rfl (by rw[XL]) rfl ⟨_,rfl⟩ Yhn hk (fun ao1 c1 hc1 _ _=>?_);rw[D8,D9,GL QN,EJ]at hc1;refine rx ?_;refine Bj (w0:=u) BO.nil rfl rfl Ylv hc1 Ykq Yht (SX _) (fun v1 u1 hB1 hfr1=>?_);have hF1:=hfr1 [] (Fr.refl _ _);have hs1':=hF1.size;have hbu:=hbu.tr0 hF1;rw[CO]at hB1;refine rx ?_;refine JQ (c1:=brV b) rfl rfl rfl (fun u2 q2 hq2 ho2 hf2 hs2=>?_);have hF2:=hF1.Jb hf2;refine rx ?_;refine Bj (al:=[b]) (hB1.tr0 hf2) rfl rfl rfl (show Src u2 (.slice (some ⟨q2,0,none⟩) 1 1) 1 ([b].flatMap brV) from by simpa using ho2.src) Ykq Yht Yhn (fun v3 u3 hB3 hfr3=>?_);have hF3:=hfr3 [] hF2;refine rx ?_;refine ND k l.length (hsu.tr0 hF3) rfl (by rw[XL]) ⟨_,rfl⟩ rfl hk (SX _) (fun ao4 c4 hc4 _ _=>?_);rw[<-XL,Dk,GN QN]at hc4;refine rx ?_;refine Bj (al:=l.drop k) hB3 rfl rfl (by rw[Dn]) hc4 Ykq Yht hF3.size (fun v5 u5 hB5 hfr5=>?_);exact Ylb
theorem Jkd(a b:Pr)(w:World):Calls prog 104 #[.agg (prV a).toArray,.agg (prV b).toArray] w fun e w'=>e=.returned (.bool (ltP a b))/\Fr [] w w':=by
 refine enter func104 rfl ntmps104 rfl ?_;refine rx ?_;refine Ju (l:=prV a) rfl rfl (fun w1 p hp h1 hf1 hs1=>?_);replace h1:Blk w1 p [.string a.1.decl,iV a.1.at_,iV a.1.arm,.string a.2.decl,iV a.2.at_,iV a.2.arm] _:=h1;refine rx ?_;refine Ju (l:=prV b) rfl rfl (fun w2 q hq h2 hf2 hs2=>?_);replace h2:Blk w2 q [.string b.1.decl,iV b.1.at_,iV b.1.arm,.string b.2.decl,iV b.2.at_,iV b.2.arm] _:=h2;have h1:=h1.tr0 hf2;have hF2:=hf1.Jb hf2;refine rx ?_;refine ZH (j:=0) rfl rfl Yhy ?_;refine rx ?_;refine ZH (j:=0) rfl rfl Yhy ?_;refine rx ?_;refine Jg (Za a.1 b.1 w2) ?_;rintro w3 hf3;have h1:=h1.tr0 hf3;have h2:=h2.tr0 hf3;have hF3:=hF2.Jb hf3;by_cases c1:Qe a.1 b.1<0
 .refine rx ?_;refine Yfw ?_;exact⟨by unfold ltP;rw[SN (GU.2 (.inl c1))],hF3⟩
 by_cases c2:Qe a.1 b.1=0
 .rw [c2];refine rx ?_;refine ZH (j:=1) rfl rfl Yhy ?_;refine rx ?_;refine ZH (j:=1) rfl rfl Yhy ?_;refine rx ?_;refine Jg (Za a.2 b.2 w3) ?_;rintro w4 hf4;by_cases c3:Qe a.2 b.2<0
  .refine rx ?_;refine Yfw ?_;exact⟨by unfold ltP;rw[SN (GU.2 (.inr ⟨c2,c3⟩))],hF3.Jb hf4⟩
  .refine rx ?_;refine Yfw ?_;exact⟨by unfold ltP;rw[SG (fun h=>by rcases GU.1 h with h|h;exact c1 h;exact c3 h.2)],hF3.Jb hf4⟩
 .refine rx ?_;refine Yfw ?_;exact⟨by unfold ltP;rw[SG (fun h=>by rcases GU.1 h with h|h;exact c1 h;exact c2 h.1)],hF3⟩
theorem Jal(l:List Pr)(b:Pr)(v:Value)(w0 w:World)(h:PO w0 128 w l v)(hw:w0.heap.size<=w.heap.size)(ha:Asc ltP l)(hl:l.length<=1000000):
 Calls prog 59 #[v,.agg (prV b).toArray] w fun e w'=>∃v',e=.returned v'/\PO w0 128 w' (insL ltP b l) v'/\Fr [] w w':=by
 obtain⟨ao,c,hv⟩:=h.1.slice;subst hv;refine enter func59 rfl ntmps59 rfl ?_;refine rx ?_;refine Ju (l:=prV b) rfl rfl (fun w1 p hp hb1 hf1 hs1=>?_);replace hb1:Blk w1 p [.string b.1.decl,iV b.1.at_,iV b.1.arm,.string b.2.decl,iV b.2.at_,iV b.2.arm] _:=hb1;refine rx ?_;refine Jh 7 [5] (σ:=Nat) (fun k g u=>g 5=iV (k:Nat)/\k<=l.length/\(∀i (hi:i<l.length),i<k->ltP l[i] b=true)/\Fr [] w1 u) (fun k=>l.length-k) 0 ⟨rfl,SL _,fun i hi h=>by omega,Fr.refl _ _⟩ ?_;rintro k g u ⟨g5,hk,hge,hF⟩;rw[Ja g5];have hFu:=hf1.Jb hF;have hsz0:=hFu.size;have hbu:=hb1.tr0 hF;refine wp_seq ?_;refine wp_seq ?_;refine KZ 7 [] (fun g u'=>Fr [] u u'/\∃bb,g 18=.bool bb/\(bb=true->∃h:k<l.length,ltP l[k] b=true)/\(bb=false->∀h:k<l.length,ltP l[k] b=false)) ?_ ?_
 . (refine JE (fun z=>Fr [] u z) Yhp rfl ?_)
   obtain⟨u1,hu1⟩:=exq u.drew;rw[<-hu1];have hS:Fr [] u u1:=hu1▸Fr.drew _ _;by_cases hkl:k<l.length
   .obtain ⟨ad,rfl,hc⟩:=JZ VK (h.1.src.tr0 hFu) hkl Yhy;have hc:Cells u (ad.add (k*6)) [.string l[k].1.decl,iV l[k].1.at_,iV l[k].1.arm,.string l[k].2.decl,iV l[k].2.at_,iV l[k].2.arm]:=hc;refine Ylr ?_;refine Ylq ?_;refine rx ?_;refine Jg (Jkd l[k] b u1) ?_;rintro u2 hf2;have hS2:=hS.Jb hf2;refine Ylo ?_;refine d_z 11 hS2 ?_;refine Yfx ?_;exact JK Yhl ⟨hS2,ltP l[k] b,rfl,fun h=>⟨hkl,h⟩,fun h _=>h⟩
   . (refine Jj 0 1 2 3 hS ?_;refine Jj 4 5 6 7 hS ?_;refine Jj 8 9 10 11 hS ?_)
     refine Yfx ?_;exact JK Yhl ⟨hS,false,rfl,fun h=>Yiw,fun _ h=>absurd h hkl⟩
 clear hbu hFu hsz0;rintro g1 u ⟨hfu,bb,g18,ht,hff⟩;rw[Ja g18];have hF:=hF.Jb hfu;cases bb with
 |true=>
  obtain⟨hk0,hlt⟩:=ht rfl;refine rx ?_;refine Jc (k+1) Yhl ⟨rfl,by omega,fun i hi hki=>?_,hF⟩ Yhn;rcases DF i k with h1|h1
  .exact hge i hi h1
  .obtain rfl:i=k:=by omega
   exact hlt
 |false=>
 have hins:=Ja6 Qy k l hk hge (hff rfl);have hFu:=hf1.Jb hF;have hsz0:=hFu.size;have hbu:=hb1.tr0 hF;have hsu:=h.1.src.tr0 hFu;refine rx ?_;refine KZ 7 [] (fun g u'=>Fr [] u u'/\g 32=.bool (decide (l[k]?=some b))) ?_ ?_
 . (refine JE (fun z=>Fr [] u z) Yhp rfl ?_)
   obtain⟨u1,hu1⟩:=exq u.drew;rw[<-hu1];have hS:Fr [] u u1:=hu1▸Fr.drew _ _;by_cases hkl:k<l.length
   .obtain ⟨ad,rfl,hc⟩:=JZ VK hsu hkl Yhy;have hc:Cells u (ad.add (k*6)) [.string l[k].1.decl,iV l[k].1.at_,iV l[k].1.arm,.string l[k].2.decl,iV l[k].2.at_,iV l[k].2.arm]:=hc;refine Ylr ?_;refine Kz 10 hS ?_ (hrun:=by(intro u hu;exact(JfG (a:=l[k]) (b:=b) rfl rfl rfl)));exact Ykv
   . (refine Jj 0 1 2 3 hS ?_;refine Jj 4 5 6 7 hS ?_;refine Jj 8 9 10 11 hS ?_)
     exact Ykw
 clear hbu hsu;rintro g1 u ⟨hfu,g34⟩;rw[Ja g34];replace hF:=hF.Jb hfu;replace hFu:=hFu.Jb hfu;replace hsz0:=hFu.size;have hbu:=hb1.tr0 hF;have hsu:=h.1.src.tr0 hFu;by_cases he:l[k]?=some b
 .rw [SN he];exact Yle
 rw[SG he];rw[SH he]at hins;refine rx ?_;refine ND 0 k hsu rfl (by rw[Xa]) rfl ⟨_,rfl⟩ Yhn hk (fun ao1 c1 hc1 _ _=>?_);rw[D8,D9,GL VK,EJ]at hc1;refine rx ?_;refine G8 (w0:=u) PO.nil rfl rfl Ylv hc1 Ykq Yht (SX _) (fun v1 u1 hB1 hfr1=>?_);have hF1:=hfr1 [] (Fr.refl _ _);have hs1':=hF1.size;have hbu:=hbu.tr0 hF1;rw[CO]at hB1;refine rx ?_;refine JQ (c1:=prV b) rfl rfl rfl (fun u2 q2 hq2 ho2 hf2 hs2=>?_);have hF2:=hF1.Jb hf2;refine rx ?_;refine G8 (al:=[b]) (hB1.tr0 hf2) rfl rfl rfl (show Src u2 (.slice (some ⟨q2,0,none⟩) 1 1) 1 ([b].flatMap prV) from by simpa using ho2.src) Ykq Yht Yhn (fun v3 u3 hB3 hfr3=>?_);have hF3:=hfr3 [] hF2;refine rx ?_;refine ND k l.length (hsu.tr0 hF3) rfl (by rw[Xa]) ⟨_,rfl⟩ rfl hk (SX _) (fun ao4 c4 hc4 _ _=>?_);rw[<-Xa,Dk,GN VK]at hc4;refine rx ?_;refine G8 (al:=l.drop k) hB3 rfl rfl (by rw[Dn]) hc4 Ykq Yht hF3.size (fun v5 u5 hB5 hfr5=>?_);exact Ylb
theorem JaN(l:List Br)(v:Value)(w:World)(hd:DR w S (.l (l.map brC)) v)(hl:l.length<=1000000):
 Calls prog 101 #[v] w fun e w'=>∃v',e=.returned v'/\BO w 50 w' (JM ltB l) v'/\Fr [] w w':=by
 have hll:(l.map brC).length=l.length:=Sr ..;obtain⟨ao,c,rfl,_⟩:=hd.slice;rw[hll]at hd ⊢;refine enter func101 rfl ntmps101 rfl ?_;refine rx ?_;refine Jh 5 [3,4] (σ:=Nat×Value) (fun s g u=>g 3=s.2/\g 4=iV (s.1:Nat)/\s.1<=l.length/\BO w 50 u (JM ltB (l.take s.1)) s.2/\Fr [] w u) (fun s=>l.length-s.1) (0,_) ⟨rfl,rfl,SL _,BO.nil,Fr.refl _ _⟩ ?_;rintro⟨i,va⟩ g u ⟨g3,g4,hi,hB,hF⟩;simp only at g3 g4 hi hB;rw[Ja g3,Ja g4];by_cases hlt:i<l.length
 case neg=>
  rw[SQ Yhn]at hB;refine Yeo ?_;exact⟨va,rfl,hB,hF⟩
 obtain⟨ad,rfl,hc⟩:=(hd.tr0 hF).br hlt;refine rx ?_;refine Jl (JdD (JM ltB (l.take i)) l[i] va w u hB hF.size (QA Qu _) (by have:=KQ (lt:=ltB) (l:=l.take i);rw[C9]at this;omega)) ?_;rintro v' u1 ⟨hB1,hf1⟩;refine rx ?_;refine Jc (i+1,v') Yhl ⟨rfl,rfl,hlt,?_,hF.Jb hf1⟩ Yhw;simp only;rw[SK hlt,BQ Qu];exact hB1
theorem Jet(l m:List Br)(v va:Value)(w:World){S':List Nat}(hd:DR w S (.l (l.map brC)) v)(hm:DR w S' (.l (m.map brC)) va)(hl:l.length+m.length<=1000000):
 Calls prog 132 #[v,va] w fun e w'=>∃v',e=.returned v'/\BO w 50 w' (JM ltB (l++m)) v'/\Fr [] w w':=by
 have hll:(m.map brC).length=m.length:=Sr ..;obtain⟨ao,c,rfl,_⟩:=hm.slice;rw[hll]at hm ⊢;refine enter func132 rfl ntmps132 rfl ?_;refine rx ?_;refine Jl (JaN l v w hd Yhn) ?_;rintro v1 w1 ⟨hB1,hf1⟩;refine rx ?_;refine Jh 7 [5,6] (σ:=Nat×Value) (fun s g u=>g 5=s.2/\g 6=iV (s.1:Nat)/\s.1<=m.length/\BO w 50 u (JM ltB (l++m.take s.1)) s.2/\Fr [] w u) (fun s=>m.length-s.1) (0,_) ⟨rfl,rfl,SL _,by rw[H7,Ce];exact hB1,hf1⟩ ?_;clear hB1 hf1;rintro⟨i,vb⟩ g u ⟨g5,g6,hi,hB,hF⟩;simp only at g5 g6 hi hB;rw[Ja g5,Ja g6];by_cases hlt:i<m.length
 case neg=>
  rw[SQ Yhn]at hB;refine Yeo ?_;exact⟨vb,rfl,hB,hF⟩
 obtain⟨ad,rfl,hc⟩:=(hm.tr0 hF).br hlt;refine rx ?_;refine Jl (JdD (JM ltB (l++m.take i)) m[i] vb w u hB hF.size (QA Qu _) (by have:=KQ (lt:=ltB) (l:=l++m.take i);rw[Sm,C9]at this;omega)) ?_;rintro v' u1 ⟨hB2,hf1⟩;refine rx ?_;refine Jc (i+1,v') Yhl ⟨rfl,rfl,hlt,?_,hF.Jb hf1⟩ Yhw;simp only;rw[SK hlt,<-List.append_assoc,BQ Qu (l:=l++m.take i)];exact hB2
theorem Jak(l:List Br)(v:Value)(w:World)(hd:DR w S (.l (l.map brC)) v)(hl:l.length<=1000000):
 Calls prog 58 #[v] w fun e w'=>∃v',e=.returned v'/\PO w 128 w' (JM ltP (Jy l)) v'/\Fr [] w w':=by
 have hll:(l.map brC).length=l.length:=Sr ..;obtain⟨ao0,c0,rfl,_⟩:=hd.slice;rw[hll]at hd ⊢;refine enter func58 rfl ntmps58 rfl ?_;refine rx ?_;refine Jh 5 [3,4] (σ:=Nat×Value) (fun s g u=>g 3=s.2/\g 4=iV (s.1:Nat)/\s.1<=l.length/\PO w 128 u (JM ltP ((Jy l).take s.1)) s.2/\Fr [] w u) (fun s=>l.length-s.1) (0,_) ⟨rfl,rfl,SL _,PO.nil,Fr.refl _ _⟩ ?_;rintro⟨i,va⟩ g u0 ⟨g3,g4,hi,hB,hF0⟩;simp only at g3 g4 hi hB;rw[Ja g3,Ja g4];have hpl:=QI (l:=l);by_cases hlt:i+1<l.length
 case neg=>
  rw[SQ Yhn]at hB;refine Yeo ?_;exact⟨va,rfl,hB,hF0⟩
 obtain⟨ad,rfl,hc1⟩:=(hd.tr0 hF0).br (i:=i) Yhn;obtain⟨ad',e1,hc2⟩:=(hd.tr0 hF0).br hlt;cases e1
 obtain⟨b,hbdef⟩:=exq ((l[i],l[i+1]));refine rx ?_;refine JE (fun z=>Fr [] u0 z) Yhp rfl ?_;obtain⟨u1,hu1⟩:=exq u0.drew;rw[<-hu1];have hS:Fr [] u0 u1:=hu1▸Fr.drew _ _;have hz1:=hS.size;refine Jj 0 1 2 3 hS ?_;refine Jj 4 5 6 7 hS ?_;refine d_z 8 hS ?_;refine Kw 9 hS ?_ (v:=.agg ((prV (l[i],l[i+1]))).toArray) (hrun:=by(intro u hu;exact NR ((prV (l[i],l[i+1]))) Yik));rw[<-hbdef];refine Ylq ?_;refine Jm (l:=[zT,zI,zI,zT,zI,zI]) rfl (fun u2 p hp hbv hf2 hs2=>?_);have hS2:=hS.Jb hf2;refine Ylo ?_;refine JJ (i:=11) rfl Yhp ?_;refine Jd (cs:=prV b) rfl rfl hbv (Wu b) rfl rfl (fun u3 hbv hf3 hs3=>?_);replace hbv:Blk u3 p [.string b.1.decl,iV b.1.at_,iV b.1.arm,.string b.2.decl,iV b.2.at_,iV b.2.arm] _:=hbv;have hS3:Fr [] u0 u3:=hS2.trans hf3 (fun x hx=>.inr Yhq);refine wpList_nil (Jv hS3 ?_);refine Yfx ?_;have hF3:=hF0.Jb hS3;have hB3:=hB.tr0 hS3;clear hB hS hS2 hS3 hf2 hf3 hc1 hc2;obtain⟨m,hm⟩:=exq (JM ltP ((Jy l).take i));have hml:m.length<=1000000:=by have:=KQ (lt:=ltP) (l:=(Jy l).take i);rw[C9]at this;rw[hm];omega
 have hma:Asc ltP m:=hm▸QA Qy _;have hnext:JM ltP ((Jy l).take (i+1))=insL ltP b m:=by
  have hg:=Xb hlt;have hil:i<(Jy l).length:=(Df.1 hg).1;have:(Jy l)[i]=b:=hbdef▸(Df.1 hg).2;rw[SK hil,BQ Qy,this,hm];rfl
 rw[<-hm]at hB3;obtain⟨ao,c,rfl⟩:=hB3.1.slice;refine QG ?_;refine wp_seq ?_;refine KA ?_;refine Yfa ?_;refine wp_seq ?_;refine KZ 7 [6] (fun g u'=>Fr [] u3 u'/\∃k:Nat,g 6=iV k/\k<=m.length/\(∀i (hi:i<m.length),i<k->ltP m[i] b=true)/\(∀h:k<m.length,ltP m[k] b=false)) ?_ ?_
 .refine rx ?_;refine Jh 7 [6] (σ:=Nat) (fun k g u=>g 6=iV (k:Nat)/\k<=m.length/\(∀i (hi:i<m.length),k<=i->ltP m[i] b=false)/\Fr [] u3 u) (fun k=>k) m.length ⟨rfl,SX _,fun i hi h=>by omega,Fr.refl _ _⟩ ?_;rintro k g u ⟨g6,hk,hge,hF⟩;rw[Ja g6];have hbu:=hbv.tr0 hF;refine wp_seq ?_;refine wp_seq ?_;refine KZ 7 [] (fun g u'=>Fr [] u u'/\∃bb,g 63=.bool bb/\(bb=true->0<k/\∀h:k-1<m.length,ltP m[k-1] b=false)/\(bb=false->k=0\/∀h:k-1<m.length,ltP m[k-1] b=true)) ?_ ?_
  . (refine JE (fun z=>Fr [] u z) Yhp rfl ?_)
    obtain⟨u1,hu1⟩:=exq u.drew;rw[<-hu1];have hS:Fr [] u u1:=hu1▸Fr.drew _ _;by_cases hk0:k=0
    . (refine Jj 0 1 2 3 hS ?_;refine Jj 4 5 6 7 hS ?_;refine Jj 8 9 10 11 hS ?_;refine Jj 12 13 14 15 hS ?_;refine Jj 16 17 18 19 hS ?_;refine Jj 20 21 22 23 hS ?_;refine Jj 24 25 26 27 hS ?_;refine Jj 28 29 30 31 hS ?_;refine Jj 32 33 34 35 hS ?_;refine d_z 36 hS ?_)
      exact Yky
    have hkl:k-1<m.length:=by omega
    obtain⟨ad,rfl,hc⟩:=JZ VK (hB3.1.src.tr0 hF) hkl Yhy;have hc:Cells u (ad.add ((k-1)*6)) [.string (m[k-1]).1.decl,iV (m[k-1]).1.at_,iV (m[k-1]).1.arm,.string (m[k-1]).2.decl,iV (m[k-1]).2.at_,iV (m[k-1]).2.arm]:=hc;have hfin:∀(g:Env) (u':World),Keep 7 [] (upd g 6 (iV k)) g->Fr [] u u'->g 63=.bool (decide (XB b m[k-1]<=0))->Fr [] u u'/\∃bb,g 63=.bool bb/\(bb=true->0<k/\∀h:k-1<m.length,ltP m[k-1] b=false)/\(bb=false->k=0\/∀h:k-1<m.length,ltP m[k-1] b=true):=fun g u' _ hf hg=>by
     refine⟨hf,_,hg,fun h=>⟨by omega,fun _=>Nc.1 (DJ h)⟩,fun h=>.inr fun _=>?_⟩;cases hq:ltP m[k-1] b with
     |true=>rfl
     |false=>exact absurd (Nc.2 hq) (IX h)
    clear hfin;have hgo:∀{bb:Bool},bb=decide (XB b m[k-1]<=0)->(bb=true->0<k/\∀h:k-1<m.length,ltP m[k-1] b=false)/\(bb=false->k=0\/∀h:k-1<m.length,ltP m[k-1] b=true):=fun{bb} hb=>by
     refine⟨fun h=>⟨by omega,fun _=>Nc.1 (DJ (hb▸h))⟩,fun h=>.inr fun _=>?_⟩;cases hq:ltP m[k-1] b with
     |true=>rfl
     |false=>exact absurd (Nc.2 hq) (IX (hb▸h))
    refine JX 0 1 hS ?_;refine d_z 2 hS ?_;refine Kz 3 hS ?_ (hrun:=by(intro u hu;exact(QV (j:=0) rfl rfl Yhy)));refine Jj 4 5 6 7 hS ?_;rw[show((k:Int)-1)=((k-1:Nat):Int) by omega];refine d_z 8 hS ?_;refine Kz 9 hS ?_ (hrun:=by(intro u hu;exact(V8 (j:=0) rfl rfl Yhy)));refine d_z 10 hS ?_;refine JJ (i:=11) rfl Yhp ?_;refine rx ?_;refine Jg (Za b.1 m[k-1].1 u1) ?_;rintro u2 hf2;have hS2:=hS.Jb hf2;refine Ylo ?_;by_cases c1:Qe b.1 m[k-1].1<0
    . (refine Jj 12 13 14 15 hS2 ?_;refine Jj 16 17 18 19 hS2 ?_;refine Jj 20 21 22 23 hS2 ?_;refine Jj 24 25 26 27 hS2 ?_;refine Jj 28 29 30 31 hS2 ?_;refine Jj 32 33 34 35 hS2 ?_;refine d_z 36 hS2 ?_)
      refine Yfx ?_;exact JK Yhl ⟨hS2,true,rfl,hgo (SN (by have:=GU.2 (.inl c1);omega)).symm⟩
    refine JX 12 13 hS2 ?_;refine Kz 14 hS2 ?_ (hrun:=by(intro u hu;exact(QV (j:=0) rfl rfl Yhy)));refine Jj 15 16 17 18 hS2 ?_;rw[show((k:Int)-1)=((k-1:Nat):Int) by omega];refine d_z 19 hS2 ?_;refine Kz 20 hS2 ?_ (hrun:=by(intro u hu;exact(V8 (j:=0) rfl rfl Yhy)));refine d_z 21 hS2 ?_;by_cases c2:b.1=m[k-1].1
    . (apply V4 (i:=22);exact rfl;exact rfl;kernel_rfl;kernel_rfl;kernel_rfl;(intro u hu;exact(Zc (a:=b.1) (b:=m[k-1].1) rfl rfl (SN c2)));exact hS2)
      refine d_z 23 hS2 ?_;refine Kz 24 hS2 ?_ (hrun:=by(intro u hu;exact(QV (j:=1) rfl rfl Yhy)));refine Jj 25 26 27 28 hS2 ?_;rw[show((k:Int)-1)=((k-1:Nat):Int) by omega];refine d_z 29 hS2 ?_;refine Kz 30 hS2 ?_ (hrun:=by(intro u hu;exact(V8 (j:=1) rfl rfl Yhy)));refine d_z 31 hS2 ?_;refine JJ (i:=32) rfl Yhp ?_;refine rx ?_;refine Jg (Za b.2 m[k-1].2 u2) ?_;rintro u3 hf3;have hS3:=hS2.Jb hf3;refine wpList_nil (Jv hS3 ?_);have hz:Qe b.1 m[k-1].1=0:=WT.2 c2;have hP:XB b m[k-1]=Qe b.2 m[k-1].2:=by unfold XB;rw[SH Yhn]
      by_cases c3:Qe b.2 m[k-1].2<=0
      . (refine Jj 33 34 35 36 hS3 ?_)
        refine Yfx ?_;exact JK Yhl ⟨hS3,true,rfl,hgo (SN Yhn).symm⟩
      . (refine Jj 33 34 35 36 hS3 ?_)
        refine Yfx ?_;exact JK Yhl ⟨hS3,false,rfl,hgo (SG Yhn).symm⟩
    . (apply V4 (i:=22);exact rfl;exact rfl;kernel_rfl;kernel_rfl;kernel_rfl;(intro u hu;exact(Zc (a:=b.1) (b:=m[k-1].1) rfl rfl (SG c2)));exact hS2)
      refine Jj 23 24 25 26 hS2 ?_;refine Jj 27 28 29 30 hS2 ?_;refine Jj 31 32 33 34 hS2 ?_;refine JX 35 36 hS2 ?_;refine Yfx ?_;refine JK Yhl ⟨hS2,false,rfl,hgo (SG (fun h=>?_)).symm⟩;have h1:¬Qe b.1 m[k-1].1=0:=fun e=>c2 (WT.1 e)
      have:XB b m[k-1]=Qe b.1 m[k-1].1:=by unfold XB;rw[Cb h1]
      omega
  clear hbu;rintro g1 u ⟨hfu,bb,g63,ht,hff⟩;rw[Ja g63];have hF:=hF.Jb hfu;cases bb with
  |true=>
   obtain⟨hk0,hlt'⟩:=ht rfl;refine rx ?_;refine Jc (k-1) Yhl ⟨?_,by omega,fun i hi hki=>?_,hF⟩ Yhn
   .show Value.int .i64 ((k:Int)-1)=_;rw[show((k:Int)-1)=((k-1:Nat):Int) by omega]
   .rcases DF i k with h1|h1
    .obtain rfl:i=k-1:=by omega
     exact hlt' hi
    .exact hge i hi h1
  |false=>
   refine rx ?_;exact JK Yhl ⟨hF,k,rfl,hk,Jby Qy hma hk (hff rfl),fun h=>hge k h (SX _)⟩
 rintro g2 u ⟨hF,k,g6,hk,hal,hkf⟩;rw[Ja g6];have hins:=Ja6 Qy k m hk hal hkf;have hFu:=hF3.Jb hF;have hsz0:=hFu.size;have hbu:=hbv.tr0 hF;have hsu:=hB3.1.src.tr0 hF;refine wp_seq ?_;refine wp_seq ?_;refine KZ 7 [] (fun g u'=>Fr [] u u'/\g 77=.bool (decide (m[k]?=some b))) ?_ ?_
 . (refine JE (fun z=>Fr [] u z) Yhp rfl ?_)
   obtain⟨u1,hu1⟩:=exq u.drew;rw[<-hu1];have hS:Fr [] u u1:=hu1▸Fr.drew _ _;by_cases hkl:k<m.length
   .obtain ⟨ad,rfl,hc⟩:=JZ VK hsu hkl Yhy;have hc:Cells u (ad.add (k*6)) [.string (m[k]).1.decl,iV (m[k]).1.at_,iV (m[k]).1.arm,.string (m[k]).2.decl,iV (m[k]).2.at_,iV (m[k]).2.arm]:=hc;refine Ylr ?_;refine Kz 10 hS ?_ (hrun:=by(intro u hu;exact(JfG (a:=m[k]) (b:=b) rfl rfl rfl)));exact Ykv
   . (refine Jj 0 1 2 3 hS ?_;refine Jj 4 5 6 7 hS ?_;refine Jj 8 9 10 11 hS ?_)
     exact Ykw
 clear hbu hsu;rintro g1 u ⟨hfu,g77⟩;rw[Ja g77];replace hF:=hF.Jb hfu;replace hFu:=hFu.Jb hfu;replace hsz0:=hFu.size;have hbu:=hbv.tr0 hF;have hsu:=hB3.1.src.tr0 hF;by_cases he:m[k]?=some b
 .rw [SN he];rw[Cb he]at hins;refine rx ?_;refine Jc (i+1,Value.slice ao m.length c) Yhl ⟨rfl,rfl,by omega,?_,hFu⟩ Yhw;simp only;rw[hnext,hins];exact hB3.tr0 hF
 rw[SG he];rw[SH he]at hins;refine rx ?_;refine ND 0 k hsu rfl (by rw[Xa]) rfl ⟨_,rfl⟩ Yhn hk (fun ao1 c1 hc1 _ _=>?_);rw[D8,D9,GL VK,EJ]at hc1;refine rx ?_;refine G8 (w0:=u) PO.nil rfl rfl Ylv hc1 Ykq Yht (SX _) (fun v1 u1 hB1 hfr1=>?_);have hF1:=hfr1 [] (Fr.refl _ _);have hs1':=hF1.size;have hbu:=hbu.tr0 hF1;rw[CO]at hB1;refine rx ?_;refine JQ (c1:=prV b) rfl rfl rfl (fun u2 q2 hq2 ho2 hf2 hs2=>?_);have hF2:=hF1.Jb hf2;refine rx ?_;refine G8 (al:=[b]) (hB1.tr0 hf2) rfl rfl rfl (show Src u2 (.slice (some ⟨q2,0,none⟩) 1 1) 1 ([b].flatMap prV) from by simpa using ho2.src) Ykq Yht Yhn (fun v3 u3 hB3 hfr3=>?_);have hF3:=hfr3 [] hF2;refine rx ?_;refine ND k m.length (hsu.tr0 hF3) rfl (by rw[Xa]) ⟨_,rfl⟩ rfl hk (SX _) (fun ao4 c4 hc4 _ _=>?_);rw[<-Xa,Dk,GN VK]at hc4;refine rx ?_;refine G8 (al:=m.drop k) hB3 rfl rfl (by rw[Dn]) hc4 Ykq Yht hF3.size (fun v5 u5 hB5 hfr5=>?_);have hF5:=hfr5 [] hF3;refine rx ?_;refine Jc (i+1,v5) Yhl ⟨rfl,rfl,by omega,?_,hFu.Jb hF5⟩ Yhw;simp only;rw[hnext,hins];have h1:=hB5.1;rw[List.append_assoc,IB]at h1;exact⟨h1,fun x hx=>by have:=hB5.2 x hx;omega⟩
end Go.Proofs.YtggmccicdhnkgaaGreat
