/-
 fits and Add of package cover.
-/
import Derived.Test.YtggmccicdhnkgaaGreatWFgu
import Derived.Test.YtggmccicdhnkgaaGreatWMs
set_option linter.all false
set_option maxHeartbeats 64000000
namespace Go.Rf
open Go.RowKit
variable{k tb:Nat}{α:Type}{u w0:World}
section
variable{α:Type}{enc:α->List Value}{K:Nat}
theorem GL(hk:∀x,(enc x).length=K):∀(l:List α) (k:Nat),(l.flatMap enc).take (k*K)=(l.take k).flatMap enc
 |l,0=>by simp
 |[],k+1=>by simp
 |a::l,k+1=>by
  rw[CP,DT,CP,<-GL hk l k,List.take_append,hk,DN,SQ (by rw[hk];omega)]
  congr 2;omega
theorem GN(hk:∀x,(enc x).length=K):∀(l:List α) (k:Nat),(l.flatMap enc).drop (k*K)=(l.drop k).flatMap enc
 |l,0=>by simp
 |[],k+1=>by simp
 |a::l,k+1=>by
  rw[CP,Fb,<-GN hk l k,F5,hk,DN,Ci (by rw[hk];omega),CO]
  congr 1;omega
theorem Jde(hk:∀x,(enc x).length=K):∀(l:List α) (i j:Nat) (hi:i<l.length),j<K->(l.flatMap enc)[i*K+j]?=(enc l[i])[j]?
 |a::l,0,j,_,hj=>by
  rw[CP,D8,Di,Ej (by rw[hk];exact hj)];rfl
 |a::l,i+1,j,hi,hj=>by
  rw[CP,Ee (by rw[hk,DN];omega),hk,show(i+1)*K+j-K=i*K+j by rw[DN];omega,Jde hk l i j Yjf hj];rfl
end
theorem Jby{lt:α->α->Bool}(T:Tot lt){l:List α}(ha:Asc lt l){x:α}(hk:k<=l.length)(h:k=0\/∀h:k-1<l.length,lt l[k-1] x=true):∀i (hi:i<l.length),i<k->lt l[i] x=true:=fun i hi hik=>by
 rcases h with h|h
 .omega
 .have h1:=h Yhn;rcases DF i (k-1)with h2|h2
  .exact T.tr (Fj.1 ha i (k-1) hi Yhn h2) h1
  .obtain rfl:i=k-1:=by omega
   exact h1
section
variable{D:Dfs}
variable{P:Program}{ops:Array Oper}{Q:Exit->Act->World->Prop}{rest:List Oper}{n:Nat}{f:Env}{w:World}
variable{d:Nat}{ty:TypeId}{ps:String}{af:Array Edge}{x s:Operand}{t:Nat}
end
theorem PO.nil:PO w0 tb u [] (zS):=⟨Own.nil _ _ _,fun b hb=>by simp[blks,Value.ownBlock]at hb⟩
theorem PO.tr0{u':World}{l:List Pr}{v:Value}(h:PO w0 tb u l v)(hf:Fr [] u u'):PO w0 tb u' l v:=⟨h.1.tr0 hf,h.2⟩
theorem QN(b:Br):(brV b).length=3:=rfl
theorem VK(p:Pr):(prV p).length=6:=rfl
theorem Jke{l:List α}{x:α}(hk:k<l.length):l[k]?=some x↔l[k]=x:=by rw[Dc hk];simp
end Go.Rf
namespace Go.Proofs.YtggmccicdhnkgaaGreat
open Go.Proofs.Tryz
open Go.Rf Go.RowKit
variable{S:List Nat}{u:World}
section
variable{α:Type}{enc:α->List Value}{K:Nat}
theorem JZ(hk:∀x,(enc x).length=K){l:List α}{ao:Option Addr}{m c:Nat}(h:Src u (.slice ao m c) m (l.flatMap enc)){i:Nat}(hi:i<l.length)(hK:0<K):∃ad,ao=some ad/\Cells u (ad.add (i*K)) (enc l[i]):=by
 have hg:∀j,j<K->∃u,(l.flatMap enc)[i*K+j]?=some u:=fun j hj=>⟨_,(Jde hk l i j hi hj).trans (Dc (by rw[hk];exact hj))⟩
 obtain⟨y,hy⟩:=hg 0 hK;obtain⟨ao',c',e,hm,hh⟩:=h;cases e
 cases ao with
 |none=>
  obtain⟨ad,e,_⟩:=KO (w:=u) ⟨none,c,rfl,hm,hh⟩ hy;cases e
 |some ad=>
  refine⟨ad,rfl,fun j v hj=>?_⟩;have hjK:j<K:=by rw[<-hk l[i]];exact(Df.1 hj).1
  rw[add_add];exact Vs ⟨some ad,c,rfl,hm,hh⟩ ((Jde hk l i j hi hjK).trans hj)
end
attribute [local irreducible] Code.wp wpList Exit.then Exit.inBlock bodyPost A Calls execOp Addr.add
theorem JdD(l:List Br)(b:Br)(v:Value)(w0 w:World)(h:BO w0 50 w l v)(hw:w0.heap.size<=w.heap.size)(ha:Asc ltB l)(hl:l.length<=1000000):
 Calls prog 157 #[v,.agg (brV b).toArray] w fun e w'=>∃v',e=.returned v'/\BO w0 50 w' (insL ltB b l) v'/\Fr [] w w':=by
 obtain⟨ao,c,hv⟩:=h.1.slice;subst hv;refine enter func157 rfl ntmps157 rfl ?_;refine rx ?_;refine Ju (l:=brV b) rfl rfl (fun w1 p hp hb1 hf1 hs1=>?_);replace hb1:Blk w1 p [.string b.decl,iV b.at_,iV b.arm] _:=hb1;refine rx ?_;refine Jh 7 [5] (σ:=Nat) (fun k g u=>g 5=iV (k:Nat)/\k<=l.length/\(∀i (hi:i<l.length),k<=i->ltB l[i] b=false)/\Fr [] w1 u) (fun k=>k) l.length ⟨rfl,SX _,fun i hi h=>by omega,Fr.refl _ _⟩ ?_;rintro k g u ⟨g5,hk,hge,hF⟩;rw[Ja g5];have hFu:=hf1.Jb hF;have hsz0:=hFu.size;have hbu:=hb1.tr0 hF;refine wp_seq ?_;refine wp_seq ?_;refine KZ 7 [] (fun g u'=>Fr [] u u'/\∃bb,g 20=.bool bb/\(bb=true->0<k/\∀h:k-1<l.length,ltB l[k-1] b=false)/\(bb=false->k=0\/∀h:k-1<l.length,ltB l[k-1] b=true)) ?_ ?_
 . (refine JE (fun z=>Fr [] u z) Yhp rfl ?_)
   obtain⟨u1,hu1⟩:=exq u.drew;rw[<-hu1];have hS:Fr [] u u1:=hu1▸Fr.drew _ _;by_cases hk0:k=0
   . (refine Jj 0 1 2 3 hS ?_;refine Jj 4 5 6 7 hS ?_;refine Jj 8 9 10 11 hS ?_)
     refine Yfx ?_;exact JK Yhl ⟨hS,false,rfl,fun h=>Yiw,fun _=>.inl hk0⟩
   .have hkl:k-1<l.length:=by omega
    obtain⟨ad,rfl,hc⟩:=JZ QN (h.1.src.tr0 hFu) hkl Yhy;have hc:Cells u (ad.add ((k-1)*3)) [.string l[k-1].decl,iV l[k-1].at_,iV l[k-1].arm]:=hc;refine Jj 0 1 2 3 hS ?_;refine JX 4 5 hS ?_;refine d_z 6 hS ?_;rw[show((k:Int)-1)=((k-1:Nat):Int) by omega];refine JX 7 8 hS ?_;refine Ygx ?_;refine rx ?_;refine Jg (Za b l[k-1] u1) ?_;rintro u2 hf2;have hS2:=hS.Jb hf2;refine wpList_nil (Jv hS2 ?_);by_cases hle:Qe b l[k-1]<=0
    . (refine JX 10 11 hS2 ?_)
      refine Yfx ?_;exact JK Yhl ⟨hS2,true,rfl,fun _=>⟨by omega,fun _=>Jd0.1 hle⟩,fun h=>by cases h⟩
    . (refine JX 10 11 hS2 ?_)
      refine Yfx ?_;refine JK Yhl ⟨hS2,false,rfl,fun h=>Yiw,fun _=>.inr fun _=>?_⟩;cases hq:ltB l[k-1] b with
      |true=>rfl
      |false=>exact absurd (Jd0.2 hq) hle
 clear hbu hFu hsz0;rintro g1 u ⟨hfu,bb,g20,ht,hff⟩;rw[Ja g20];have hF:=hF.Jb hfu;cases bb with
 |true=>
  obtain⟨hk0,hlt⟩:=ht rfl;refine rx ?_;refine Jc (k-1) Yhl ⟨?_,by omega,fun i hi hki=>?_,hF⟩ Yhn
  .show Value.int .i64 ((k:Int)-1)=_;rw[show((k:Int)-1)=((k-1:Nat):Int) by omega]
  .rcases DF i k with h1|h1
   .obtain rfl:i=k-1:=by omega
    exact hlt hi
   .exact hge i hi h1
 |false=>
 have hal:=Jby Qu ha hk (hff rfl);have hins:=Ja6 Qu k l hk hal (fun h=>hge k h (SX _));have hFu:=hf1.Jb hF;have hsz0:=hFu.size;have hbu:=hb1.tr0 hF;have hsu:=h.1.src.tr0 hFu;refine rx ?_;refine KZ 7 [] (fun g u'=>Fr [] u u'/\g 34=.bool (decide (l[k]?=some b))) ?_ ?_
 . (refine JE (fun z=>Fr [] u z) Yhp rfl ?_)
   obtain⟨u1,hu1⟩:=exq u.drew;rw[<-hu1];have hS:Fr [] u u1:=hu1▸Fr.drew _ _;by_cases hkl:k<l.length
   .obtain ⟨ad,rfl,hc⟩:=JZ QN hsu hkl Yhy;have hc:Cells u (ad.add (k*3)) [.string l[k].decl,iV l[k].at_,iV l[k].arm]:=hc;refine Jj 0 1 2 3 hS ?_;refine Jj 4 5 6 7 hS ?_;refine JX 8 9 hS ?_;refine Kz 10 hS ?_ (hrun:=by(intro u hu;exact(Zc (a:=l[k]) (b:=b) rfl rfl rfl)));refine d_z 11 hS ?_;refine Yfx ?_;refine JK Yhl ⟨hS,?_⟩;simp only[Jke hkl];rfl
   . (refine Jj 0 1 2 3 hS ?_;refine Jj 4 5 6 7 hS ?_;refine Jj 8 9 10 11 hS ?_)
     refine Yfx ?_;refine JK Yhl ⟨hS,?_⟩;rw[ED Yhn];rfl
 clear hbu hsu;rintro g1 u ⟨hfu,g34⟩;rw[Ja g34];replace hF:=hF.Jb hfu;replace hFu:=hFu.Jb hfu;replace hsz0:=hFu.size;have hbu:=hb1.tr0 hF;have hsu:=h.1.src.tr0 hFu;by_cases he:l[k]?=some b
 .rw [SN he];rw[Cb he]at hins;refine Yeo ?_;rw[hins];exact⟨_,rfl,⟨h.1.tr0 hFu,h.2⟩,hFu⟩
 rw[SG he];rw[SH he]at hins;refine rx ?_;refine ND 0 k hsu rfl (by rw[XL]) rfl ⟨_,rfl⟩ Yhn hk (fun ao1 c1 hc1 _ _=>?_);rw[D8,D9,GL QN,EJ]at hc1;refine rx ?_;refine Bj (w0:=u) BO.nil rfl rfl (by rw[C9,Hw hk]) hc1 Ykq Yht (SX _) (fun v1 u1 hB1 hfr1=>?_);have hF1:=hfr1 [] (Fr.refl _ _);have hs1':=hF1.size;have hbu:=hbu.tr0 hF1;rw[CO]at hB1;refine rx ?_;refine JQ (c1:=brV b) rfl rfl rfl (fun u2 q2 hq2 ho2 hf2 hs2=>?_);have hF2:=hF1.Jb hf2;refine rx ?_;refine Bj (al:=[b]) (hB1.tr0 hf2) rfl rfl rfl (show Src u2 (.slice (some ⟨q2,0,none⟩) 1 1) 1 ([b].flatMap brV) from by simpa using ho2.src) Ykq Yht Yhn (fun v3 u3 hB3 hfr3=>?_);have hF3:=hfr3 [] hF2;refine rx ?_;refine ND k l.length (hsu.tr0 hF3) rfl (by rw[XL]) ⟨_,rfl⟩ rfl hk (SX _) (fun ao4 c4 hc4 _ _=>?_);rw[<-XL,Dk,GN QN]at hc4;refine rx ?_;refine Bj (al:=l.drop k) hB3 rfl rfl (by rw[Dn]) hc4 Ykq Yht hF3.size (fun v5 u5 hB5 hfr5=>?_);have hF5:=hfr5 [] hF3;refine Yeo ?_;rw[hins];refine⟨v5,rfl,⟨?_,fun x hx=>by have:=hB5.2 x hx;omega⟩,hFu.Jb hF5⟩;have h1:=hB5.1;rw[List.append_assoc,IB]at h1;exact h1
theorem JaN(l:List Br)(v:Value)(w:World)(hd:DR w S (.l (l.map brC)) v)(hl:l.length<=1000000):
 Calls prog 101 #[v] w fun e w'=>∃v',e=.returned v'/\BO w 50 w' (JM ltB l) v'/\Fr [] w w':=by
 have hll:(l.map brC).length=l.length:=Sr ..;obtain⟨ao,c,rfl,_⟩:=hd.slice;rw[hll]at hd ⊢;refine enter func101 rfl ntmps101 rfl ?_;refine rx ?_;refine Jh 5 [3,4] (σ:=Nat×Value) (fun s g u=>g 3=s.2/\g 4=iV (s.1:Nat)/\s.1<=l.length/\BO w 50 u (JM ltB (l.take s.1)) s.2/\Fr [] w u) (fun s=>l.length-s.1) (0,_) ⟨rfl,rfl,SL _,BO.nil,Fr.refl _ _⟩ ?_;rintro⟨i,va⟩ g u ⟨g3,g4,hi,hB,hF⟩;simp only at g3 g4 hi hB;rw[Ja g3,Ja g4];by_cases hlt:i<l.length
 case neg=>
  rw[SQ Yhn]at hB;refine Yeo ?_;exact⟨va,rfl,hB,hF⟩
 obtain⟨ad,rfl,hc⟩:=(hd.tr0 hF).br hlt;refine rx ?_;refine Jl (JdD (JM ltB (l.take i)) l[i] va w u hB hF.size (QA Qu _) (by have:=KQ (lt:=ltB) (l:=l.take i);rw[C9]at this;omega)) ?_;rintro v' u1 ⟨hB1,hf1⟩;refine rx ?_;refine Jc (i+1,v') Yhl ⟨rfl,rfl,hlt,?_,hF.Jb hf1⟩ Yhw;simp only;rw[SK hlt,BQ Qu];exact hB1
theorem Jet(l m:List Br)(v va:Value)(w:World){S':List Nat}(hd:DR w S (.l (l.map brC)) v)(hm:DR w S' (.l (m.map brC)) va)(hl:l.length+m.length<=1000000):
 Calls prog 132 #[v,va] w fun e w'=>∃v',e=.returned v'/\BO w 50 w' (JM ltB (l++m)) v'/\Fr [] w w':=by
 have hll:(m.map brC).length=m.length:=Sr ..;obtain⟨ao,c,rfl,_⟩:=hm.slice;rw[hll]at hm ⊢;refine enter func132 rfl ntmps132 rfl ?_;refine rx ?_;refine Jl (JaN l v w hd Yhn) ?_;rintro v1 w1 ⟨hB1,hf1⟩;refine rx ?_;refine Jh 7 [5,6] (σ:=Nat×Value) (fun s g u=>g 5=s.2/\g 6=iV (s.1:Nat)/\s.1<=m.length/\BO w 50 u (JM ltB (l++m.take s.1)) s.2/\Fr [] w u) (fun s=>m.length-s.1) (0,_) ⟨rfl,rfl,SL _,by rw[H7,Ce];exact hB1,hf1⟩ ?_;clear hB1 hf1;rintro⟨i,vb⟩ g u ⟨g5,g6,hi,hB,hF⟩;simp only at g5 g6 hi hB;rw[Ja g5,Ja g6];by_cases hlt:i<m.length
 case neg=>
  rw[SQ Yhn]at hB;refine Yeo ?_;exact⟨vb,rfl,hB,hF⟩
 obtain⟨ad,rfl,hc⟩:=(hm.tr0 hF).br hlt;refine rx ?_;refine Jl (JdD (JM ltB (l++m.take i)) m[i] vb w u hB hF.size (QA Qu _) (by have:=KQ (lt:=ltB) (l:=l++m.take i);rw[Sm,C9]at this;omega)) ?_;rintro v' u1 ⟨hB2,hf1⟩;refine rx ?_;refine Jc (i+1,v') Yhl ⟨rfl,rfl,hlt,?_,hF.Jb hf1⟩ Yhw;simp only;rw[SK hlt,<-List.append_assoc,BQ Qu (l:=l++m.take i)];exact hB2
end Go.Proofs.YtggmccicdhnkgaaGreat
namespace Go.Rf
open Go.RowKit
variable{af:Array Edge}{a:Br}{f:Env}{l:List Int}{S:List Nat}{bb d e i j k n p t:Nat}{x y:Operand}{P:Program}{s:St}{ps:String}{u w:World}
theorem XP{ty:TypeId}{gd:Option (Nat×Bool)}{t2:Nat}{a b p:Bool}(hu:P.underlying t=some .bool)(hx:ev n f x=.bool a)(hy:ev n f y=.bool b)(hp:(!(a==b))=p):
 (execOp (ev n f) ⟨some d,.binOp .neq t x y t2,ty,ps,af,gd⟩).run P w=.ok (.value (.bool p)) w:=by
 subst hp;have:(Op.equal t (.bool a) (.bool b)).run P w=.ok (a==b) w:=by
  have:∀dd,(Op.equalIn (dd+1) t (.bool a) (.bool b)).run P w=.ok (a==b) w:=fun dd=>by simp[Op.equalIn,run_underlying hu]
  exact this 9999
 simp[execOp,eqGuard,binOp,hx,hy,this]
theorem VP{v:Value}(h:DR w S (.l (l.map KI)) v):Src w v l.length (l.map (.int .i64)):=by
 obtain⟨ys,h1,h2,h3⟩:=h.typed;have:ys=l.map (.int .i64):=by
  clear h1 h2 h
  induction h3 with
  |nil=>rfl
  |cons ha hb ih=>
   rw[ih];obtain⟨_,rfl,r⟩:=RD.JI (x:=iV _) ha;rw[r.inv0];rfl
 rw[<-this];exact h1
theorem DR.brs{l:List Br}{v:Value}(h:DR w S (.l (l.map brC)) v):Src w v l.length (l.flatMap brV):=by
 obtain⟨ys,h1,h2,h3⟩:=h.typed;have:ys=l.flatMap brV:=by
  clear h1 h2 h
  induction h3 with
  |nil=>rfl
  |cons ha hb ih=>rw[ih,brR.1 ha];rfl
 rw[<-this];exact h1
theorem WS(h:i<l.length):(l.map (Value.int .i64))[i]?=some (iV l[i]):=by
 rw[ET,Dc h];rfl
theorem Ji7{pb:Nat}{a b:List Nat}(h:(([p,bb,pb]++a)++b).Nodup):p≠bb/\p≠pb/\bb≠pb/\p∉a/\bb∉a/\pb∉a/\p∉b/\bb∉b/\pb∉b/\∀x∈a,x∉b:=by
 simp only[DW,EF,SC,SE,S9,CU,IC]at h;obtain⟨⟨⟨⟨h1,h2⟩,h3,_⟩,_,h4⟩,_,h5⟩:=h;exact⟨h1,h2,h3,fun hm=>h4 p (.inl rfl) p hm rfl,fun hm=>h4 bb (.inr (.inl rfl)) bb hm rfl,fun hm=>h4 pb (.inr (.inr rfl)) pb hm rfl,fun hm=>h5 p (.inl (.inl rfl)) p hm rfl,fun hm=>h5 bb (.inl (.inr (.inl rfl))) bb hm rfl,fun hm=>h5 pb (.inl (.inr (.inr rfl))) pb hm rfl,fun x hx hm=>h5 x (.inr hx) x hm rfl⟩
theorem Jay{α β:Type}[DecidableEq α]{m:List (α×β)}{a x:α}{v:β}(h:getM m a=none):getM (m++[(a,v)]) x=if x=a then some v else getM m x:=by
 rw[<-Gm (getM_none.1 h),GK]
theorem RelB.entry{m:List (Br×Int)}{cnt:Br->Nat}(h:RelB m cnt)(hn:n≠0):RelB (VJ (Jck m a (0:Int)) a (n:Int)) (fun x=>if x=a then n else cnt x):=fun x=>by
 rw[GK];by_cases e:x=a
 .simp [e,hn]
 .simp only[SH e];unfold Jck;cases hg:getM m a with
  |some v=>exact h x
  |none=>simp only;rw[Jay hg,SH e];exact h x
theorem JfH{ty:TypeId}{gd:Option (Nat×Bool)}{b c:Nat}{m:List (Br×Int)}[T:MapT P t k e][K:KeyT P k brK][Z:ZeroT P e (zI)](hx:ev n f x=.map (some b))(hy:ev n f y=.agg (brV a).toArray)(hm:Mp brK (Value.int .i64) w b m)(hr:(getM m a).getD 0=(c:Int)):
 (execOp (ev n f) ⟨some d,.lookup t x y false,ty,ps,af,gd⟩).run P w=.ok (.value (iV (c:Nat))) w:=by
 rw[Jc3 hx (show _=brK a from hy) hm,<-hr];cases getM m a<;>rfl
theorem JdF{ty:TypeId}{gd:Option (Nat×Bool)}{b:Nat}{m:List (Br×Int)}{cnt:Br->Nat}[T:MapT P t k e][K:KeyT P k brK][Z:ZeroT P e (zI)](hx:ev n f x=.map (some b))(hy:ev n f y=.agg (brV a).toArray)(hm:Mp brK (Value.int .i64) w b m)(hr:RelB m cnt):
 (execOp (ev n f) ⟨some d,.lookup t x y false,ty,ps,af,gd⟩).run P w=.ok (.value (iV (cnt a:Nat))) w:=JfH hx hy hm (hr.look a)
theorem JjY{ty:TypeId}{gd:Option (Nat×Bool)}{b:Nat}{m:List (Pr×Bool)}{q:Pr->Prop}[DecidablePred q]{a:Pr}[T:MapT P t k e][K:KeyT P k prK][Z:ZeroT P e (.bool false)](hx:ev n f x=.map (some b))(hy:ev n f y=.agg (prV a).toArray)(hm:Mp prK Value.bool w b m)(hr:BJ m q):
 (execOp (ev n f) ⟨some d,.lookup t x y false,ty,ps,af,gd⟩).run P w=.ok (.value (.bool (decide (q a)))) w:=by
 rw[Jc3 hx (show _=prK a from hy) hm];by_cases h0:q a
 .rw [(hr a).1 h0,SN h0];rfl
 .rw [(hr a).2 h0,SG h0];rfl
def SB(u:World)(bb:Nat)(cnt:Br->Nat)(z:World):Prop:=Fr [bb] u z/\∃m,Mp brK (Value.int .i64) z bb m/\∀b,(getM m b).getD 0=(cnt b:Int)
theorem JiO{ty:TypeId}{gd:Option (Nat×Bool)}{b:Nat}{cnt:Br->Nat}[T:MapT P t k e][K:KeyT P k brK][Z:ZeroT P e (zI)](hx:ev n f x=.map (some b))(hy:ev n f y=.agg (brV a).toArray)(hm:SB u b cnt w):
 (execOp (ev n f) ⟨some d,.lookup t x y false,ty,ps,af,gd⟩).run P w=.ok (.value (iV (cnt a:Nat))) w:=by
 obtain⟨_,m,h1,h2⟩:=hm;exact JfH hx hy h1 (h2 a)
theorem SB.entry{z z':World}{cnt:Br->Nat}{m:List (Br×Int)}{st:Nat}(hz:Fr [bb] u z)(hr:RelB m cnt)(hf:Fr [bb] z z')(h:MpS brK (Value.int .i64) z' bb (Jck m a (0:Int)) a st):SB u bb cnt z':=by
 refine⟨hz.trans hf (fun x hx=>.inl hx),_,h.mp,fun b=>?_⟩;have h1:=hr.look b;unfold Jck;cases hg:getM m a with
 |some v=>exact h1
 |none=>
  simp only;rw[Jay hg];by_cases e:b=a
  .subst e;rw[hg]at h1;rw[Cb rfl];exact h1
  .rw [SH e];exact h1
def GV(s:St)(r:Rn)(i:Nat):List Nat:=s.cls.mapIdx (fun(j:Nat) n=>n+b2n (decide ((j:Int)∈r.cl.take i)))
theorem Jcq{r:Rn}:(GV s r i).length=s.cls.length:=by simp[GV]
theorem JeR{r:Rn}:GV s r 0=s.cls:=by
 unfold GV;apply Ew
 .simp
 .intro i h1 h2;simp[b2n]
theorem Jgx{r:Rn}:GV s r r.cl.length=(Qb s r).cls:=by
 unfold GV Qb;rw[Dk]
theorem JhS{r:Rn}(hok:WB n r.cl=true)(hi:i<r.cl.length)(hj:(j:Int)=r.cl[i])(hl:j<s.cls.length):(GV s r i)[j]'(by rw[Jcq];exact hl)=s.cls[j]:=by
 simp only[GV,Fe];rw[SG (by rw[hj];exact Jjm hok hi)];rfl
theorem JeS{r:Rn}(hok:WB n r.cl=true)(hi:i<r.cl.length)(hj:(j:Int)=r.cl[i])(hl:j<s.cls.length):(GV s r i).set j (s.cls[j]+1)=GV s r (i+1):=by
 apply Ew
 .simp [GV]
 .intro k h1 h2;rw[List.getElem_set];simp only[GV,Fe,SK hi,SE,Sv,<-hj];by_cases e:j=k
  .subst e;simp[b2n]
  .have:¬(k:Int)=(j:Int):=by omega
   simp[e,this]
theorem JdW{P:Pp}{r:Rn}(h:Gt P.checks r=false):Qd P r=false:=by unfold Qd;rw[h];rfl
theorem JdX{P:Pp}{r:Rn}(h:WB P.ncls r.cl=false):Qd P r=false:=by unfold Qd;rw[h];simp
theorem Jgi{P:Pp}{r:Rn}(h:Gt P.checks r=true)(k:WB P.ncls r.cl=true):Qd P r=true:=by unfold Qd;rw[h,k];rfl
theorem Jbb(hi:i<l.length)(h:¬(0<=l[i]/\l[i]<n/\∀h:0<i,l[i-1]<l[i])):WB n l=false:=by
 refine Jcp hi ?_;unfold Bf;refine SG (fun h1=>h ?_);rw[getD_at hi]at h1;refine⟨h1.1,h1.2.1,fun h0=>?_⟩;have:=h1.2.2 h0;rw[getD_at Yhn]at this;exact this
theorem JhP(hi:i<l.length)(h:0<=l[i]/\l[i]<n/\∀h:0<i,l[i-1]<l[i]):Bf n l i=true:=by
 unfold Bf;rw[getD_at hi];refine SN ⟨h.1,h.2.1,fun h0=>?_⟩;rw[getD_at Yhn];exact h.2.2 h0
end Go.Rf
namespace Go.Proofs.YtggmccicdhnkgaaGreat
open Go.Proofs.Tryz
open Go.Rf Go.RowKit
variable{M R S:List Nat}{p:Nat}{s:St}
attribute [local irreducible] Code.wp wpList Exit.then Exit.inBlock bodyPost A Calls execOp Addr.add
theorem Jij{P:Pp}(r:Rn)(vb vl:Value)(w:World)(hC:Wj w p M R P s)(hl:DR w S (.l (r.cl.map KI)) vl)(h1b:vb.oneCell'=true):
 Calls prog 50 #[.pointer (some ⟨p,0,none⟩),.agg ([iV r.kind,iV r.at_,iV r.code,vb,vl,zI]:List Value).toArray] w fun e w'=>e=.returned (.bool (Qd P r))/\Fr [] w w':=by
 obtain⟨bb,pb,vr,vc,mb,mp,rfl,rfl,hnd,hb,hr,hc,hmb,hrb,hmp,hrp,hok⟩:=hC;have hncls:=hok.ncls;obtain⟨aoc,cc,rfl⟩:=hc.slice;have h1l:=hl.one;have hlbd:=hl.bound;obtain⟨aol,cl,rfl,_⟩:=hl.slice;rw[Sr]at hl h1l hlbd ⊢;refine enter func50 rfl ntmps50 rfl ?_;refine rx ?_;refine Ju (l:=[iV r.kind,iV r.at_,iV r.code,vb,(.slice aol r.cl.length cl),zI]) rfl rfl (fun w1 b3 hb3 h3 hf1 hs1=>?_);refine rx ?_;refine Jm (l:=[zI,zI,zI]) rfl (fun w2 b5 hb5 h5 hf2 hs2=>?_);have h3:=h3.tr0 hf2;refine rx ?_;refine Jd (cs:=[iV r.kind,iV r.at_,iV r.code]) rfl rfl h5 Yhu rfl rfl (fun w3 h5 hf3 hs3=>?_);have h3:=h3.tr hf3 Yht;have hF3:Fr [] w w3:=(hf1.Jb hf2).trans hf3 (fun x hx=>.inr Yhq);have hb:=hb.tr0 hF3;refine wpList_nil ?_;refine QG ?_
 (repeat refine wp_seq ?_)
 refine KA ?_;refine Yfa ?_
 (repeat refine wp_seq ?_)
 refine KZ 12 [] (fun g u=>Fr [] w3 u/\Gt P.checks r=true) ?_ ?_
 .by_cases k0:r.kind=0
  .by_cases a0:r.at_=0
   .by_cases c0:r.code=0
    .refine rx ?_;exact JK Yhl ⟨Fr.refl _ _,SN Yhn⟩
    .refine rx ?_;exact Yce
   .refine rx ?_;exact Yce
  by_cases k1:r.kind=1
  .refine rx ?_;refine JE (fun z=>Fr [] w3 z) Yhp rfl ?_;obtain⟨u1,hu1⟩:=exq w3.drew;rw[<-hu1];have hS:Fr [] w3 u1:=hu1▸Fr.drew _ _;by_cases a0:r.at_<0
   . (refine Jj 0 1 2 3 hS ?_;refine Jj 4 5 6 7 hS ?_;refine Jj 8 9 10 11 hS ?_;refine Jj 12 13 14 15 hS ?_;refine Jj 16 17 18 19 hS ?_;refine d_z 20 hS ?_)
     exact Yu
   by_cases a1:(P.checks:Int)<=r.at_
   . (refine Jj 0 1 2 3 hS ?_;refine Jj 4 5 6 7 hS ?_;refine Jj 8 9 10 11 hS ?_;refine Jj 12 13 14 15 hS ?_;refine Jj 16 17 18 19 hS ?_;refine d_z 20 hS ?_)
     exact Yu
   by_cases c0:r.code=0
   . (refine Jj 0 1 2 3 hS ?_;refine Jj 4 5 6 7 hS ?_;refine Jj 8 9 10 11 hS ?_;refine Jj 12 13 14 15 hS ?_;refine JX 16 17 hS ?_;refine d_z 18 hS ?_)
     exact Ybf
   . (refine Jj 0 1 2 3 hS ?_;refine Jj 4 5 6 7 hS ?_;refine Jj 8 9 10 11 hS ?_;refine Jj 12 13 14 15 hS ?_;refine JX 16 17 hS ?_;refine d_z 18 hS ?_)
     exact Yea
  by_cases k2:r.kind=2
  .refine rx ?_;refine JE (fun z=>Fr [] w3 z) Yhp rfl ?_;obtain⟨u1,hu1⟩:=exq w3.drew;rw[<-hu1];have hS:Fr [] w3 u1:=hu1▸Fr.drew _ _;by_cases a0:r.at_<0
   . (refine Jj 0 1 2 3 hS ?_;refine Jj 4 5 6 7 hS ?_;refine Jj 8 9 10 11 hS ?_;refine Jj 12 13 14 15 hS ?_;refine Jj 16 17 18 19 hS ?_;refine d_z 20 hS ?_)
     exact Yu
   by_cases a1:(P.checks:Int)<=r.at_
   . (refine Jj 0 1 2 3 hS ?_;refine Jj 4 5 6 7 hS ?_;refine Jj 8 9 10 11 hS ?_;refine Jj 12 13 14 15 hS ?_;refine Jj 16 17 18 19 hS ?_;refine d_z 20 hS ?_)
     exact Yu
   by_cases c0:r.code=0
   . (refine Jj 0 1 2 3 hS ?_;refine Jj 4 5 6 7 hS ?_;refine Jj 8 9 10 11 hS ?_;refine Jj 12 13 14 15 hS ?_;refine JX 16 17 hS ?_;refine d_z 18 hS ?_)
     exact Yea
   . (refine Jj 0 1 2 3 hS ?_;refine Jj 4 5 6 7 hS ?_;refine Jj 8 9 10 11 hS ?_;refine Jj 12 13 14 15 hS ?_;refine JX 16 17 hS ?_;refine d_z 18 hS ?_)
     exact Ybf
  .refine rx ?_;exact Yce
 rintro g w4 ⟨hf4,hout⟩;have hF4:=hF3.Jb hf4;have h3:=h3.tr0 hf4;clear h5 hb;have hb:Blk w4 p _ _:= ‹Blk w p _ _›.tr0 hF4;refine rx ?_;refine Jh 49 [6,7] (σ:=Nat) (fun i g u=>g 49=iV (i:Nat)/\i<=r.cl.length/\(∀j,j<i->Bf P.ncls r.cl j=true)/\Fr [] w4 u) (fun i=>r.cl.length-i) 0 ⟨rfl,SL _,fun j h=>by omega,Fr.refl _ _⟩ ?_;rintro i g u ⟨g49,hi,hpre,hF⟩;rw[Ja g49];have hFu:=hF4.Jb hF;have h3:=h3.tr0 hF;have hb:=hb.tr0 hF;by_cases hlt:i<r.cl.length
 case neg=>
  refine Yeo ?_;exact⟨by rw[Jgi hout (UK (fun j hj=>hpre j Yhn))],hFu⟩
 obtain⟨adl,hadl,hcell⟩:=KO (VP (hl.tr0 hFu)) (WS hlt);subst hadl;refine Yfm ?_;by_cases c1:r.cl[i]<0
 .refine rx ?_;exact Ydh
 by_cases c2:s.cls.length<=r.cl[i]
 .refine rx ?_;exact Ydh
 by_cases c3:i=0
 .refine rx ?_;exact Ybh
 have hcell1:=Vs (VP (hl.tr0 hFu)) (WS (show i-1<r.cl.length by omega));refine rx ?_;rw[show((i:Int)-1)=((i-1:Nat):Int) by omega];refine rx ?_;refine KW rfl (by rw[Dq];exact hcell1) ?_;by_cases c4:r.cl[i]<=r.cl[i-1]
 .refine rx ?_;refine Yfw ?_;exact⟨by rw[JdX (Jbb hlt (fun h=>by have:=h.2.2 Yhn;omega))],hFu⟩
 .refine rx ?_;exact Ybh
theorem Jkr{P:Pp}(r:Rn)(vb vl:Value)(w:World)(hC:Wj w p M R P s)(hMS:∀x∈M,x∈S)(hbr:DR w S (.l (r.bs.map brC)) vb)(hl:DR w S (.l (r.cl.map KI)) vl)(hrn:s.runs<=1000000)(hbl:r.bs.length<=1000000):
 Calls prog 15 #[.pointer (some ⟨p,0,none⟩),.agg ([iV r.kind,iV r.at_,iV r.code,vb,vl,zI]:List Value).toArray] w fun e w'=>if Qd P r=true then e=.returned (zI)/\Wj w' p M R P (Qb s r)/\Fr M w w' else e=.returned (iV 1)/\Fr [] w w':=by
 have hC0:=hC;have h1b:=hbr.one;have hl0:=hl;have h1l:=hl.one;obtain⟨bb,pb,vr,vc,mb,mp,rfl,rfl,hnd,hb,hr,hc,hmb,hrb,hmp,hrp,hok⟩:=hC;obtain⟨n1,n2,n3,n4,n5,n6,n7,n8,n9,n10⟩:=Ji7 hnd;have hncls:=hok.ncls;obtain⟨aoc,cc,rfl⟩:=hc.slice;have hlbd:=hl.bound;obtain⟨aol,cl,rfl,_⟩:=hl.slice;obtain⟨aob,cb,rfl,_⟩:=hbr.slice;simp only[Sr]at hl hbr h1b h1l hl0 hlbd ⊢;refine enter func15 rfl ntmps15 rfl ?_;refine rx ?_;refine Ju (l:=[iV r.kind,iV r.at_,iV r.code,(.slice aob r.bs.length cb),(.slice aol r.cl.length cl),zI]) rfl rfl (fun w1 b3 hb3 h3 hf1 hs1=>?_);refine rx ?_;refine Jg (Jij r (.slice aob r.bs.length cb) (.slice aol r.cl.length cl) w1 (hC0.tr0 hf1) (hl.tr0 hf1) h1b) ?_;rintro w2 hf2;have hF2:=hf1.Jb hf2;cases hfit:Qd P r with
 |false=>
  refine Yeo ?_;rw[SH Yhs];exact⟨rfl,hF2⟩
 |true=>
 have hfit':=hfit;unfold Qd at hfit';rw[CV]at hfit';have hout:=DJ hfit'.1;have hcls:=hfit'.2;have h3:=h3.tr0 hf2;have hb2:=hb.tr0 hF2;have hltM:=hC0.lt;have hoo:=hok.o;have hplt:p<w.heap.size:=hb.lt;have hbblt:bb<w.heap.size:=hmb.lt;have hpblt:pb<w.heap.size:=hmp.lt;have hvclt:=hc.lt;refine rx ?_
 ((with_reducible apply Ji);exact rfl;(conv=>lhs;whnf);exact rfl;exact hb2;exact rfl)
 intro w3 hb3' hf3 hs3;replace hb3':Blk w3 p [.string P.prop,iV (P.checks:Nat),vr,iV ((s.runs+1):Nat),iV (s.o 0:Nat),iV (s.o 1:Nat),iV (s.o 2:Nat),(.slice aoc s.cls.length cc),.map (some bb),.map (some pb)] _:=hb3';have h3:=h3.tr hf3 Yht;have hF3:Fr [p] w w3:=(hF2.mono Yhs).trans hf3 (fun x hx=>.inl hx);refine wpList_nil ?_;refine QG ?_
 (repeat refine wp_seq ?_)
 refine KZ 11 [] (fun g u=>Fr [p] w3 u/\Blk u p [.string P.prop,iV (P.checks:Nat),vr,iV ((Qb s r).runs:Nat),iV ((Qb s r).o 0:Nat),iV ((Qb s r).o 1:Nat),iV ((Qb s r).o 2:Nat),(.slice aoc s.cls.length cc),.map (some bb),.map (some pb)] 125) ?_ ?_
 .rcases (show r.kind=0\/r.kind=1\/r.kind=2 by omega)with hk|hk|hk
  .rw [hk]at h3;have e0:(Qb s r).o 0=s.o 0+1:=by show s.o 0+b2n (decide (r.kind=((0:Nat):Int)))=_;rw[hk];rfl
   have e1:(Qb s r).o 1=s.o 1:=by show s.o 1+b2n (decide (r.kind=((1:Nat):Int)))=_;rw[hk];rfl
   have e2:(Qb s r).o 2=s.o 2:=by show s.o 2+b2n (decide (r.kind=((2:Nat):Int)))=_;rw[hk];rfl
   rw[e0,e1,e2];refine Kr 12 (fun z=>Fr [] w3 z) Yhp rfl ?_;obtain⟨u1,hu1⟩:=exq w3.drew;rw[<-hu1];have hS:Fr [] w3 u1:=hu1▸Fr.drew _ _
   ((refine Jp 0 hS ?_);(refine Jp 1 hS ?_);(refine Jp 2 hS ?_);(refine Jp 3 hS ?_);(refine Jp 4 hS ?_);(refine Jp 5 hS ?_))
   refine Jp 6 hS ?_ (hrun:=(by intro u hu;exact(QV (j:=0) rfl rfl Yhy)));refine Jp 7 hS ?_ (hrun:=Yjr)
   ((refine Jp 8 hS ?_))
   refine Yfd ?_;rw[add_lit];refine Yhe ?_;refine Jp 11 hS ?_ (hrun:=(by intro u hu;exact(QV (j:=0) rfl rfl Yhy)));exact Ys
  .rw [hk]at h3;have e0:(Qb s r).o 0=s.o 0:=by show s.o 0+b2n (decide (r.kind=((0:Nat):Int)))=_;rw[hk];rfl
   have e1:(Qb s r).o 1=s.o 1+1:=by show s.o 1+b2n (decide (r.kind=((1:Nat):Int)))=_;rw[hk];rfl
   have e2:(Qb s r).o 2=s.o 2:=by show s.o 2+b2n (decide (r.kind=((2:Nat):Int)))=_;rw[hk];rfl
   rw[e0,e1,e2];refine Kr 12 (fun z=>Fr [] w3 z) Yhp rfl ?_;obtain⟨u1,hu1⟩:=exq w3.drew;rw[<-hu1];have hS:Fr [] w3 u1:=hu1▸Fr.drew _ _
   ((refine Jp 0 hS ?_);(refine Jp 1 hS ?_);(refine Jp 2 hS ?_);(refine Jp 3 hS ?_);(refine Jp 4 hS ?_);(refine Jp 5 hS ?_))
   refine Jp 6 hS ?_ (hrun:=(by intro u hu;exact(QV (j:=1) rfl rfl Yhy)));refine Jp 7 hS ?_ (hrun:=Yjr)
   ((refine Jp 8 hS ?_))
   refine Yfd ?_;rw[add_lit];refine Yhe ?_;refine Jp 11 hS ?_ (hrun:=(by intro u hu;exact(QV (j:=1) rfl rfl Yhy)));exact Ys
  .rw [hk]at h3;have e0:(Qb s r).o 0=s.o 0:=by show s.o 0+b2n (decide (r.kind=((0:Nat):Int)))=_;rw[hk];rfl
   have e1:(Qb s r).o 1=s.o 1:=by show s.o 1+b2n (decide (r.kind=((1:Nat):Int)))=_;rw[hk];rfl
   have e2:(Qb s r).o 2=s.o 2+1:=by show s.o 2+b2n (decide (r.kind=((2:Nat):Int)))=_;rw[hk];rfl
   rw[e0,e1,e2];refine Kr 12 (fun z=>Fr [] w3 z) Yhp rfl ?_;obtain⟨u1,hu1⟩:=exq w3.drew;rw[<-hu1];have hS:Fr [] w3 u1:=hu1▸Fr.drew _ _
   ((refine Jp 0 hS ?_);(refine Jp 1 hS ?_);(refine Jp 2 hS ?_);(refine Jp 3 hS ?_);(refine Jp 4 hS ?_);(refine Jp 5 hS ?_))
   refine Jp 6 hS ?_ (hrun:=(by intro u hu;exact(QV (j:=2) rfl rfl Yhy)));refine Jp 7 hS ?_ (hrun:=Yjr)
   ((refine Jp 8 hS ?_))
   refine Yfd ?_;rw[add_lit];refine Yhe ?_;refine Jp 11 hS ?_ (hrun:=(by intro u hu;exact(QV (j:=2) rfl rfl Yhy)));exact Ys
 clear hb3';rintro g w4 ⟨hf4,hb4⟩;have h3:=h3.tr hf4 Yht;have hF4:Fr [p] w w4:=hF3.trans hf4 (fun x hx=>.inl hx);have hs4:=hF4.size;have hr4:=hr.tr hF4 (fun x hx hm=>n7 Yia);have hc4:=hc.tr hF4 (fun x hx hm=>n4 Yia);have hmb4:=hmb.tr hF4 (by simpa using fun h=>n1 h.symm);have hmp4:=hmp.tr hF4 (by simpa using fun h=>n2 h.symm);clear hb hb2 hf1 hf2 hf3 hs1;obtain⟨K,hK⟩:=exq ([p,bb,pb]++blks (Value.slice aoc s.cls.length cc));have hKm:∀{x:Nat},x∈K↔x=p\/x=bb\/x=pb\/x∈blks (Value.slice aoc s.cls.length cc):=fun{x}=>by rw[hK];simp[or_assoc]
 rw[<-hK]at hMS ⊢;have hF4K:Fr K w w4:=hF4.mono (fun x hx=>.inl (by rw[Sv.1 hx];exact hKm.2 (.inl rfl)));have hvcK:∀x∈blks (Value.slice aoc s.cls.length cc),x∈K:=fun x hx=>hKm.2 (.inr (.inr (.inr hx)))
 refine rx ?_;refine Jh 42 [6] (σ:=Nat) (fun i g u=>g 42=iV (i:Nat)/\i<=r.cl.length/\Own u 3 1 (Value.slice aoc s.cls.length cc) s.cls.length (Vk (GV s r i))/\Fr (blks (Value.slice aoc s.cls.length cc)) w4 u) (fun i=>r.cl.length-i) 0 ⟨rfl,SL _,by rw[JeR];exact hc4,Fr.refl _ _⟩ ?_;clear hc4;rintro i g u ⟨g42,hi,hcu,hF⟩;rw[Ja g42];have hFw:Fr K w u:=hF4K.trans hF (fun x hx=>.inl (hvcK x hx));have hb3u:=h3.tr hF (fun hm=>by have:=hvclt b3 hm;omega);have hbu:=hb4.tr hF n4;by_cases hlt:i<r.cl.length
 .obtain ⟨adl,hadl,hcell⟩:=KO (VP (hl.tr (hFw.mono (fun x hx=>.inl (hMS x hx))))) (WS hlt);subst hadl;have hin:=Jdh hcls (Cj hlt);obtain⟨j,hj⟩:∃j:Nat,(j:Int)=r.cl[i]:=⟨r.cl[i].toNat,Et hin.1⟩;have hjl:j<s.cls.length:=by omega
  obtain⟨adc,hadc,hcc⟩:=KO hcu.src (V9 (l:=GV s r i) (i:=j) (by rw[Jcq];exact hjl));rw[JhS hcls hlt hj hjl]at hcc;have hcb:=hok.ocls _ (Cj hjl);refine Yfm ?_;refine rx ?_;refine BZ rfl rfl hj.symm hjl hadc ?_;refine KW rfl hcc ?_;refine rx ?_;refine BZ rfl rfl hj.symm hjl hadc ?_;refine JcW hcu hadc hjl rfl rfl rfl (fun u1 hcu1 hf5 hs5=>?_);refine rx ?_;refine Jc (i+1) Yhl ⟨rfl,hlt,?_,hF.trans hf5 (fun x hx=>.inl hx)⟩ Yhn;rw[<-JeS hcls hlt hj hjl,<-JeD];exact hcu1
 have hil:i=r.cl.length:=by omega
 subst hil;rw[Jgx]at hcu;have hr5:=hr4.tr hF (fun x hx hm=>n10 x hm hx);have hmb5:=hmb4.tr hF n5;have hmp5:=hmp4.tr hF n6;clear hb4 h3 hr4 hmb4 hmp4 hlt;have hbru:=hbr.tr (hFw.mono (fun x hx=>.inl (hMS x hx)));refine rx ?_;refine Jl (JjN r.bs _ u hbru hbl) ?_;rintro vq u5 ⟨hBq,hf5⟩;obtain⟨l1,hl1⟩:=exq (JM ltB r.bs);rw[<-hl1]at hBq;obtain⟨aoq,cq,rfl⟩:=hBq.1.slice;have hl1n:l1.length<=1000000:=by rw[hl1];exact CG KQ hbl
 have hl1d:l1.Nodup:=hl1▸Asc.nd Qu (QA Qu _);have hqge:=hBq.2;have hFw5:=hFw.Jb hf5;have hb3u:=hb3u.tr0 hf5;have hbu:=hbu.tr0 hf5;have hr5:=hr5.tr0 hf5;have hmb5:=hmb5.tr0 hf5;have hmp5:=hmp5.tr0 hf5;have hcu:=hcu.tr0 hf5;have hsw:=hFw.size;have hs5:=hf5.size;obtain⟨cntI,hcntI⟩:∃c:Nat->Br->Nat,c=fun i b=>s.cnt b+b2n (decide (b∈l1.take i)):=⟨_,rfl⟩
 refine rx ?_;refine Jh 60 [8] (σ:=Nat×List (Br×Int)) (fun q g u=>g 60=iV (q.1:Nat)/\q.1<=l1.length/\Mp brK (Value.int .i64) u bb q.2/\RelB q.2 (cntI q.1)/\Fr [bb] u5 u) (fun q=>l1.length-q.1) (0,mb) ⟨rfl,SL _,hmb5,hrb.congr (fun b=>by rw[hcntI];simp[b2n]),Fr.refl _ _⟩ ?_;clear hmb5;rintro⟨i,m⟩ g u6 ⟨g60,hi,hmu,hru,hF6⟩;simp only at g60 hi hmu hru;rw[Ja g60];have hs6:=hF6.size;have hFw6:Fr K w u6:=hFw5.trans hF6 (fun x hx=>.inl (by rw[Sv.1 hx];exact hKm.2 (.inr (.inl rfl))));have hb3u:=hb3u.tr hF6 Yht;have hbu:=hbu.tr hF6 (by simpa using n1);by_cases hlt:i<l1.length
 .obtain ⟨adq,hadq,hcq⟩:=JZ QN ((hBq.1.src).tr hF6 (fun ad n c e _ hm=>by
   cases e
   have:=hqge ad.block Yic;rw[Sv.1 hm]at this;omega)) hlt Yhy
  subst hadq;have hcq:Cells u6 (adq.add (i*3)) [.string l1[i].decl,iV l1[i].at_,iV l1[i].arm]:=hcq;have hcb:cntI i l1[i]=s.cnt l1[i]:=by
   rw[hcntI];simp only;rw[SG (fun hm=>by
    obtain⟨k,hk,e⟩:=Eu hm;rw[C9]at hk;rw[FU]at e;exact Fj.1 hl1d k i Yhn hlt Yhn e)]
   rfl
  have hcn:=hok.ocnt l1[i];refine rx ?_;refine Jm (l:=[zT,zI,zI]) rfl (fun u7 b8 hb8e hb8 hf7 hs7=>?_);refine rx ?_;refine Jd (cs:=brV l1[i]) rfl rfl hb8 (QD _) rfl rfl (fun u8 hb8 hf8 hs8=>?_);replace hb8:Blk u8 b8 [.string l1[i].decl,iV l1[i].at_,iV l1[i].arm] _:=hb8;have hF8:Fr [] u6 u8:=hf7.trans hf8 (fun x hx=>.inr Yhq);have hb3u:=hb3u.tr0 hF8;have hbu:=hbu.tr0 hF8;have hmu8:=hmu.tr0 hF8;have hs68:=hF8.size;refine rx ?_;have hpn:p∉[bb]:=by simpa using n1
  have hb8n:b8∉[bb]:=by simp;omega
  refine Kr 9 (SB u8 bb (cntI i)) Yhp rfl ?_;obtain⟨u9,hu9⟩:=exq u8.drew;rw[<-hu9];have hS0:Fr [] u8 u9:=hu9▸Fr.drew _ _;have hS:SB u8 bb (cntI i) u9:=⟨hS0.mono Yhs,m,hmu8.tr0 hS0,fun b=>hru.look b⟩
  ((refine Jp 0 hS ?_);(refine Jp 1 hS ?_);(refine Jp 2 hS ?_))
  refine Jp 3 hS ?_ (hrun:=(by intro u hu;exact(J7 rfl (Blk.cell (hbu.tr hu.1 hpn) rfl))));refine Jp 4 hS ?_ (hrun:=(by intro u hu;exact(Kv rfl (Cells.VO (hb8.tr hu.1 hb8n)) Yik)));refine Jp 5 hS ?_ (hrun:=(by intro u hu;refine(JiO (P:=prog) (t:=122) (a:=l1[i]) ?_ ?_ hu);exact rfl;exact rfl));rw[hcb]
  ((refine Jp 6 hS ?_))
  refine Ygm ?_;refine JcX (key:=brK) (val:=Value.int .i64) (a:=l1[i]) (z0:=0) (hmu8.tr0 hS0) rfl rfl (fun u10 st hm10 hf10 hs10=>?_);have hS10:=SB.entry (a:=l1[i]) (st:=st) hS.1 hru hf10 hm10;refine wpList_nil (Xz hS10 ?_)
  ((refine Jp 8 hS10 ?_))
  refine KH (i:=9) rfl Yhp ?_;refine JaL (v:=(s.cnt l1[i]:Int)+1) hm10 rfl rfl rfl (fun u11 hm11 hf11 hs11=>?_);refine Yeu ?_;refine rx ?_;have hF11:Fr [bb] u5 u11:=((hF6.Jb hF8).Jb hS0).trans (hf10.trans hf11 (fun x hx=>.inl hx)) (fun x hx=>.inl hx);refine Jc (i+1,_) Yhl ⟨rfl,hlt,hm11,?_,hF11⟩ Yhw;refine(hru.entry (a:=l1[i]) (n:=s.cnt l1[i]+1) Yhn).congr (fun b=>?_);rw[hcntI];simp only[SK hlt,SE,Sv];by_cases e:b=l1[i]
  .rw [Cb e,e];simp[b2n]
  .simp [e]
 have hil:i=l1.length:=by omega
 subst hil;have hrb6:RelB m (Qb s r).cnt:=hru.congr (fun b=>by
  rw[hcntI];show s.cnt b+b2n (decide (b∈l1.take l1.length))=s.cnt b+b2n (decide (b∈r.bs));rw[Dk,hl1];simp only[KF Qu])
 have hr6:=hr5.tr hF6 (fun x hx hm=>n8 Yia);have hmp6:=hmp5.tr hF6 (by simpa using fun h=>n3 h.symm);have hcu:=hcu.tr hF6 (fun x hx hm=>n5 Yia);clear hru hr5 hmp5 hlt hBq;have hbru:=hbr.tr (hFw6.mono (fun x hx=>.inl (hMS x hx)));refine rx ?_;refine Jl (JiU r.bs _ u6 hbru hbl) ?_;rintro vq u7 ⟨hBq,hf7⟩;obtain⟨l2,hl2⟩:=exq (JM ltP (Jy r.bs));rw[<-hl2]at hBq;obtain⟨aop,cp,rfl⟩:=hBq.1.slice;have hl2n:l2.length<=1000000:=by
  have h1:=KQ (lt:=ltP) (l:=Jy r.bs);have h2:=QI (l:=r.bs);rw[hl2];omega
 have hqge:=hBq.2;have hs67:=hf7.size;have hbu:=hbu.tr0 hf7;have hr7:=hr6.tr0 hf7;have hmp7:=hmp6.tr0 hf7;have hcu:=hcu.tr0 hf7;have hmb7:=hmu.tr0 hf7;have hFw7:=hFw6.Jb hf7;have hsw6:=hFw6.size;refine rx ?_;refine Jh 78 [10] (σ:=Nat×List (Pr×Bool)) (fun q g u=>g 78=iV (q.1:Nat)/\q.1<=l2.length/\Mp prK Value.bool u pb q.2/\BJ q.2 (fun a=>a∈s.ps\/a∈l2.take q.1)/\Fr [pb] u7 u) (fun q=>l2.length-q.1) (0,mp) ⟨rfl,SL _,hmp7,hrp.congr (fun b=>by simp),Fr.refl _ _⟩ ?_;clear hmp7;rintro⟨i,m2⟩ g u8 ⟨g78,hi,hmu2,hru,hF8⟩;simp only at g78 hi hmu2 hru;rw[Ja g78];have hs8:=hF8.size;have hFw8:Fr K w u8:=hFw7.trans hF8 (fun x hx=>.inl (by rw[Sv.1 hx];exact hKm.2 (.inr (.inr (.inl rfl)))));have hbu:=hbu.tr hF8 (by simpa using n2);by_cases hlt:i<l2.length
 .obtain ⟨adq,hadq,hcq⟩:=JZ VK ((hBq.1.src).tr hF8 (fun ad n c e _ hm=>by
   cases e
   have:=hqge ad.block Yic;rw[Sv.1 hm]at this;omega)) hlt Yhy
  subst hadq;have hcq:Cells u8 (adq.add (i*6)) (prV l2[i]):=hcq;refine rx ?_;refine Jm (l:=[zT,zI,zI,zT,zI,zI]) rfl (fun u9 b8 hb8e hb8 hf9 hs9=>?_);refine rx ?_;refine Jd (cs:=prV l2[i]) rfl rfl hb8 (Wu _) rfl rfl (fun u10 hb8 hf10 hs10=>?_);replace hb8:Blk u10 b8 (prV l2[i]) _:=hb8;have hF10:Fr [] u8 u10:=hf9.trans hf10 (fun x hx=>.inr Yhq);have hbu:=hbu.tr0 hF10;have hmu10:=hmu2.tr0 hF10;refine rx ?_;refine Kr 5 (fun z=>Fr [] u10 z) Yhp rfl ?_;obtain⟨u11,hu11⟩:=exq u10.drew;rw[<-hu11];have hS:Fr [] u10 u11:=hu11▸Fr.drew _ _
  ((refine Jp 0 hS ?_);(refine Jp 1 hS ?_);(refine Jp 2 hS ?_);(refine Jp 3 hS ?_);(refine Jp 4 hS ?_))
  refine Ygl ?_;refine BX (key:=prK) (val:=Value.bool) (a:=l2[i]) (v:=true) (hmu10.tr0 hS) rfl rfl rfl (fun u12 hm12 hf12 hs12=>?_);refine Yeu ?_;refine rx ?_;have hF12:Fr [pb] u7 u12:=((hF8.Jb hF10).Jb hS).trans hf12 (fun x hx=>.inl hx);refine Jc (i+1,_) Yhl ⟨rfl,hlt,hm12,hru.put.congr (fun b=>?_),hF12⟩ Yhw;simp only[SK hlt,SE,Sv];constructor
  .rintro (h|h|h)
   .exact .inr (.inr h)
   .exact .inl h
   .exact .inr (.inl h)
  .rintro (h|h|h)
   .exact .inr (.inl h)
   .exact .inr (.inr h)
   .exact .inl h
 have hil:i=l2.length:=by omega
 subst hil;have hrp8:BJ m2 (· ∈(Qb s r).ps):=hru.congr (fun b=>by
  show b∈s.ps\/b∈l2.take l2.length↔b∈JM ltP (s.ps++Jy r.bs);rw[Dk,hl2,KF Qy,KF Qy,SE])
 refine Yeo ?_;rw[Cb rfl];refine⟨rfl,?_,hFw8⟩;rw[hK];exact⟨bb,pb,vr,_,m,m2,rfl,rfl,hnd,hbu,hr7.tr hF8 (fun x hx hm=>n9 Yia),by rw[show(Qb s r).cls.length=s.cls.length by simp[Qb]];exact hcu.tr hF8 (fun x hx hm=>n6 Yia),hmb7.tr hF8 (by simpa using n3),hrb6,hmu2,hrp8,hok.mono r hfit⟩
end Go.Proofs.YtggmccicdhnkgaaGreat
