/-
 Package clone:lists.
-/
import Derived.Test.YtggmccicdhnkgaaGreatWQf
set_option linter.all false
set_option maxHeartbeats 64000000
namespace Go.Proofs.YtggmccicdhnkgaaGreat
open Go.Proofs.Tryz
open Go.Rf Go.RowKit
section
variable{n:Int}{T:List Tk}{bd i p:Nat}{w w':World}
attribute [local irreducible] Code.wp wpList Exit.then Exit.inBlock bodyPost A Calls execOp Addr.add
def PS(bd:Nat)(w:World)(p:Nat)(n:Int)(r:List Tk):Prop:=∃(S:Bs) (T:List Tk) (ao:Option Addr) (c i:Nat),Blk w p [.string (bst S),.slice ao T.length c,iV i,.bool false] 161/\Src w (.slice ao T.length c) T.length (T.flatMap tkC)/\Off (.slice ao T.length c) (T.flatMap tkC) [p]/\r=T.drop i/\i<=T.length/\(S.length:Int)=n/\(T.length<=1000000/\∀t∈T,0<=t.n/\t.n<=1099511627777)/\p<bd/\bd<=w.heap.size/\(∀ad,ao=some ad->ad.block<bd)
theorem PS.tr{r:List Tk}{Z:List Nat}(h:PS bd w p n r)(hf:Fr Z w w')(hZ:∀k∈Z,bd<=k):PS bd w' p n r:=by
 obtain⟨S,T,ao,c,i,hb,hs,ho,h1,h2,h3,h4,h5,h6,h7⟩:=h;refine⟨S,T,ao,c,i,hb.tr hf (fun h=>by have:=hZ p h;omega),hs.tr hf (fun ad n c e _ hm=>?_),ho,h1,h2,h3,h4,h5,CG h6 hf.size,h7⟩;simp only[Value.slice.injEq]at e;have:=h7 ad e.1;have:=hZ _ hm;omega
theorem PS.tr0{r:List Tk}(h:PS bd w p n r)(hf:Fr [] w w'):PS bd w' p n r:=h.tr hf Yhs
theorem PS.lt{r:List Tk}(h:PS bd w p n r):p<bd:=by
 obtain⟨S,T,ao,c,i,hb,hs,ho,h1,h2,h3,h4,h5,h6,h7⟩:=h;exact h5
theorem PS.num{r:List Tk}(h:PS bd w p n r):∀t∈r,0<=t.n/\t.n<=1099511627777:=by
 obtain⟨S,T,ao,c,i,hb,hs,ho,rfl,h2,h3,h4,h5,h6,h7⟩:=h;exact fun t ht=>h4.2 t (IG ht)
theorem PS.le{r:List Tk}(h:PS bd w p n r):bd<=w.heap.size:=by
 obtain⟨S,T,ao,c,i,hb,hs,ho,h1,h2,h3,h4,h5,h6,h7⟩:=h;exact h6
theorem Jdr{j:Nat}(hi:i<T.length)(hj:j<4):(T.flatMap tkC)[i*4+j]?=(tkC T[i])[j]?:=by
 induction T generalizing i with
 |nil=>simp at hi
 |cons t T ih=>
  rw[CP];cases i with
  |zero=>rw[Ej (by simp[tkC];omega)];simp
  |succ i=>
   rw[Ee (by simp[tkC];omega)];have:(i+1)*4+j-(tkC t).length=i*4+j:=by simp[tkC];omega
   rw[this,ih Yjf];rfl
theorem Nu{ao:Option Addr}{c:Nat}(hs:Src w (.slice ao T.length c) T.length (T.flatMap tkC))(hi:i<T.length):∃ad,ao=some ad/\Cells w (ad.add (i*4)) (tkC T[i]):=by
 obtain⟨ad,rfl,_⟩:=KO (j:=i*4+0) (u:=iV T[i].kind) hs (by rw[Jdr hi Yhn];rfl);refine⟨ad,rfl,fun j u hj=>?_⟩;have hj4:j<4:=by
  have:=(Df.1 hj).1;simpa[tkC]using this
 rw[add_add];exact Vs hs (by rw[Jdr hi hj4];exact hj)
theorem isC(t:Bs)(p:Nat)(n:Int)(r:List Tk)(w:World)(h:PS bd w p n r):
 Calls prog 162 #[.pointer (some ⟨p,0,none⟩),.string (bst t)] w fun e w'=>e=.returned (.bool (isT t r))/\Fr [] w w':=by
 obtain⟨S,T,ao,c,i,hb,hs,ho,rfl,hi,hn,hT,hpb,hbw,hab⟩:=h;refine enter func162 rfl ntmps162 rfl ?_;refine Yfs ?_;have hS:Fr [] w w.drew:=Fr.drew _ _;refine Jj 0 1 2 3 hS ?_;refine Jj 4 5 6 7 hS ?_;refine Jj 8 9 10 11 hS ?_;refine JX 12 13 hS ?_;refine d_z 14 hS ?_;by_cases hlt:i<T.length
 .obtain ⟨ad,rfl,hcl⟩:=Nu hs hlt;refine Jj 15 16 17 18 hS ?_;refine Jj 19 20 21 22 hS ?_;refine JX 23 24 hS ?_;refine d_z 25 hS ?_;obtain⟨q,hq⟩:∃q,decide (bst T[i].text=bst t)=q:=⟨_,rfl⟩;refine Kz 26 hS ?_ (hrun:=by(intro u hu;exact(Qs rfl rfl rfl Yhn rfl)));refine JX 27 28 hS ?_;refine d_z 29 hS ?_;refine Kz 30 hS ?_ (hrun:=by(intro u hu;exact(NQ (p:=q) rfl rfl hq)));refine d_z 31 hS ?_;refine JJ (i:=32) rfl Yhp ?_;refine rx ?_;refine Jv hS ?_;refine Yfx ?_;refine Yeo ?_;refine⟨?_,hS⟩;rw[Dh hlt];simp only[isT];rw[<-hq]
  congr 2
  rw[Bool.eq_iff_iff];simp[GX]
 . (refine Jj 15 16 17 18 hS ?_;refine Jj 19 20 21 22 hS ?_;refine Jj 23 24 25 26 hS ?_;refine Jj 27 28 29 30 hS ?_;refine d_z 31 hS ?_)
   refine JJ (i:=32) rfl Yhp ?_;refine rx ?_;refine Jv hS ?_;refine Yfx ?_;refine Yeo ?_;refine⟨?_,hS⟩;rw[Ci Yhn];rfl
def Jz(b:Bool)(r:List Tk):List Tk:=if b then r.tail else r
theorem J8(t:Bs)(p:Nat)(n:Int)(r:List Tk)(w:World)(h:PS bd w p n r):
 Calls prog 117 #[.pointer (some ⟨p,0,none⟩),.string (bst t)] w fun e w'=>e=.returned (.bool (isT t r))/\PS bd w' p n (Jz (isT t r) r)/\Fr [p] w w':=by
 refine enter func117 rfl ntmps117 rfl ?_;refine rx ?_;refine Jg (isC t p n r w h) ?_;rintro w1 hf1;have h1:=h.tr0 hf1;have hf1p:Fr [p] w w1:=hf1.mono Yhs;cases hq:isT t r with
 |false=>
  refine Yeo ?_;exact⟨rfl,h1,hf1p⟩
 |true=>
  obtain⟨S,T,ao,c,i,hb,hs,ho,rfl,hi,hn,hT,hpb,hbw,hab⟩:=h1;have hlt:i<T.length:=by
   rcases DF i T.length with h|h
   .exact h
   .rw [Ci h]at hq;cases hq
  refine rx ?_
  ((with_reducible apply Ji);exact rfl;(conv=>lhs;whnf);exact rfl;exact hb;exact rfl)
  intro w2 hb2 hf2 hs2;refine Yeo ?_;exact⟨rfl,⟨S,T,ao,c,i+1,hb2,hs.tr hf2 ho,ho,by simp[Jz],by omega,hn,hT,hpb,CG hbw hf2.size,hab⟩,hf1p.trans hf2 (fun x hx=>.inl hx)⟩
theorem Jj3(t:Bs)(p:Nat)(n:Int)(r:List Tk)(w:World)(h:PS bd w p n r)(ht:isT t r=true):
 Calls prog 120 #[.pointer (some ⟨p,0,none⟩),.string (bst t)] w fun e w'=>e=.returned (.tuple #[])/\PS bd w' p n r.tail/\Fr [p] w w':=by
 refine enter func120 rfl ntmps120 rfl ?_;refine rx ?_;refine Jg (isC t p n r w h) ?_;rintro w1 hf1;have h1:=h.tr0 hf1;have hf1p:Fr [p] w w1:=hf1.mono Yhs;rw[ht];obtain⟨S,T,ao,c,i,hb,hs,ho,rfl,hi,hn,hT,hpb,hbw,hab⟩:=h1;have hlt:i<T.length:=by
  rcases DF i T.length with h|h
  .exact h
  .rw [Ci h]at ht;cases ht
 refine rx ?_
 ((with_reducible apply Ji);exact rfl;(conv=>lhs;whnf);exact rfl;exact hb;exact rfl)
 intro w2 hb2 hf2 hs2;refine rx ?_;refine WI rfl ?_;exact⟨rfl,⟨S,T,ao,c,i+1,hb2,hs.tr hf2 ho,ho,by simp,by omega,hn,hT,hpb,CG hbw hf2.size,hab⟩,hf1p.trans hf2 (fun x hx=>.inl hx)⟩
end
section
attribute [local irreducible] Code.wp wpList Exit.then Exit.inBlock bodyPost A Calls execOp Addr.add
theorem inC(v:Value)(l:List Bs)(s:Bs)(w:World)(hs:Src w v l.length (l.map fun t=>.string (bst t)))(hl:l.length<=1000):
 Calls prog 205 #[v,.string (bst s)] w fun e w'=>e=.returned (.bool (l.contains s))/\w=w':=by
 obtain⟨ao,c,rfl,hc,_⟩:=id hs;refine enter func205 rfl ntmps205 rfl ?_;refine rx ?_;refine Jh 6 [5] (σ:=Nat) (fun i g u=>g 5=iV i/\i<=l.length/\(l.drop i).contains s=l.contains s/\w=u) (fun i=>l.length-i) 0 ⟨rfl,by omega,by simp,rfl⟩ ?_;rintro i g u ⟨h5,hi,he,rfl⟩;rw[Ja h5];by_cases hlt:i<l.length
 case neg=>
  refine Yeo ?_;rw[<-he,Ci Yhn];exact⟨rfl,rfl⟩
 obtain⟨ad,rfl,hcell⟩:=KO (j:=i) (u:=.string (bst l[i])) hs (by simp[hlt]);rw[Dh hlt,List.contains_cons]at he;refine rx ?_;rw[Dq];refine KW rfl hcell ?_;refine rx ?_;refine QB rfl rfl (fun h=>?_) (fun h=>?_)
 .have hb:(s==l[i])=true:=by rw[Hy];exact(GX.1 h).symm
  rw[hb]at he;refine Yeo ?_;exact⟨by rw[<-he];rfl,rfl⟩
 .have hb:(s==l[i])=false:=by
   rw[beq_eq_false_iff_ne];exact fun e=>h (by rw[e])
  rw[hb,Ih]at he;refine rx ?_;exact Jc (i+1) Yhr ⟨rfl,by omega,he,rfl⟩ Yhn
set_option maxRecDepth 4000 in
theorem Jah(w:World):Calls prog 206 #[] w fun e w'=>∃v,e=.returned v/\Own w' 9 1 v resv.length (resv.map fun t=>.string (bst t))/\Fr [] w w':=by
 refine enter func206 rfl ntmps206 rfl ?_;refine rx ?_;refine J3 (resv.map fun t=>.string (bst t)) rfl rfl rfl rfl (fun u ho hf hs=>?_);exact Ybe
theorem pAt(p:Nat)(n:Int)(r:List Tk)(w:World){bd:Nat}(h:PS bd w p n r):
 Calls prog 118 #[.pointer (some ⟨p,0,none⟩)] w fun e w'=>e=.returned (iV (atT n r))/\Fr [] w w':=by
 obtain⟨S,T,ao,c,i,hb,hs,ho,rfl,hi,hn,hT,hpb,hbw,hab⟩:=h;refine enter func118 rfl ntmps118 rfl ?_;refine Yfs ?_;have hS:Fr [] w w.drew:=Fr.drew _ _;by_cases hlt:i<T.length
 . (refine Jj 0 1 2 3 hS ?_;refine Jj 4 5 6 7 hS ?_;refine JX 8 9 hS ?_)
   refine Yfx ?_;have hb1:=hb.tr0 hS;obtain⟨ad,rfl,hcl⟩:=Nu (hs.tr0 hS) hlt;refine rx ?_;refine JE (fun z=>Fr [] w.drew z) Yhp rfl ?_;have hS2:Fr [] w.drew w.drew.drew:=Fr.drew _ _;refine Jj 0 1 2 3 hS2 ?_;refine Jj 4 5 6 7 hS2 ?_;refine Kw 8 hS2 ?_ (hrun:=by(intro u hu;exact(Qs rfl rfl rfl Yhn rfl)));refine JX 9 10 hS2 ?_;refine JJ (i:=11) rfl Yhp ?_;refine rx ?_;refine Jv hS2 ?_;refine Yfx ?_;refine Yeo ?_;rw[Dh hlt];exact⟨rfl,hS.Jb hS2⟩
 . (refine Jj 0 1 2 3 hS ?_;refine Jj 4 5 6 7 hS ?_;refine JX 8 9 hS ?_)
   refine Yfx ?_;have hb1:=hb.tr0 hS;have hsz:=VX S;refine Yeo ?_;rw[Ci Yhn];refine⟨?_,hS⟩;simp only[atT];rw[hsz,hn]
end
section
variable{bd:Nat}
attribute [local irreducible] Code.wp wpList Exit.then Exit.inBlock bodyPost A Calls execOp Addr.add
theorem JfQ(k:Nat)(p:Nat)(n:Int)(r:List Tk)(w:World)(h:PS bd w p n r):
 Calls prog 163 #[.pointer (some ⟨p,0,none⟩),iV k] w fun e w'=>e=.returned (.bool (Bc k r))/\Fr [] w w':=by
 obtain⟨S,T,ao,c,i,hb,hs,ho,rfl,hi,hn,hT,hpb,hbw,hab⟩:=h;refine enter func163 rfl ntmps163 rfl ?_;refine Yfs ?_;have hS:Fr [] w w.drew:=Fr.drew _ _;refine Jj 0 1 2 3 hS ?_;refine Jj 4 5 6 7 hS ?_;refine Jj 8 9 10 11 hS ?_;refine JX 12 13 hS ?_;refine d_z 14 hS ?_;by_cases hlt:i<T.length
 case neg=>
  refine Jj 15 16 17 18 hS ?_;refine Jj 19 20 21 22 hS ?_;refine Jj 23 24 25 26 hS ?_;refine Jj 27 28 29 30 hS ?_;refine Jj 31 32 33 34 hS ?_;refine Jj 35 36 37 38 hS ?_;refine Jj 39 40 41 42 hS ?_;refine Jj 43 44 45 46 hS ?_;refine d_z 47 hS ?_;refine JJ (i:=48) rfl Yhp ?_;refine rx ?_;refine Jv hS ?_;refine Yfx ?_;refine Yeo ?_;rw[Ci Yhn];exact⟨rfl,hS⟩
 obtain⟨ad,rfl,hcl⟩:=Nu hs hlt;rw[Dh hlt];simp only[Bc];refine Jj 15 16 17 18 hS ?_;refine Jj 19 20 21 22 hS ?_;refine JX 23 24 hS ?_;refine d_z 25 hS ?_;refine Kz 26 hS ?_ (hrun:=by(intro u hu;exact(Qs rfl rfl rfl Yhn rfl)));refine JX 27 28 hS ?_;refine d_z 29 hS ?_;by_cases hk:T[i].kind=k
 case neg=>
  refine Kz 30 hS ?_ (hrun:=by(intro u hu;exact(Zd (p:=false) rfl rfl (SG Yhn))));refine Jj 31 32 33 34 hS ?_;refine Jj 35 36 37 38 hS ?_;refine Jj 39 40 41 42 hS ?_;refine Jj 43 44 45 46 hS ?_;refine d_z 47 hS ?_;refine JJ (i:=48) rfl Yhp ?_;refine rx ?_;refine Jv hS ?_;refine Yfx ?_;refine Yeo ?_;rw[show(T[i].kind==k)=false by simpa using hk];exact⟨rfl,hS⟩
 refine Kz 30 hS ?_ (hrun:=by(intro u hu;exact(Zd (p:=true) rfl rfl (SN Yhn))));refine JX 31 32 hS ?_;refine Jj 34 35 36 37 hS ?_;refine Jj 38 39 40 41 hS ?_;refine Kz 42 hS ?_ (hrun:=by(intro u hu;exact(Qs rfl rfl rfl Yhn rfl)));refine JX 43 44 hS ?_;refine JJ (i:=33) rfl Yhp ?_;refine MH rfl ?_;refine Jl (Jah _) ?_;rintro v u1 ⟨hown,hf1⟩;have hS1:=hS.Jb hf1;refine wpList_nil (Jv hS1 ?_);refine JJ (i:=45) rfl Yhp ?_;refine MH rfl ?_;refine Jg (inC v resv T[i].text _ hown.src Yhy) ?_;rintro _ rfl;refine wpList_nil (Jv hS1 ?_);refine JX 46 47 hS1 ?_;refine JJ (i:=48) rfl Yhp ?_;refine rx ?_;refine Jv hS1 ?_;refine Yfx ?_;refine Yeo ?_;rw[show(T[i].kind==k)=true by simpa using hk];exact⟨rfl,hS1⟩
theorem JiV(k:Nat)(p:Nat)(n:Int)(t:Tk)(r:List Tk)(w:World)(h:PS bd w p n (t::r))(hk:Bc k (t::r)=true):
 Calls prog 119 #[.pointer (some ⟨p,0,none⟩),iV k] w fun e w'=>e=.returned (.agg (tkC t).toArray)/\PS bd w' p n r/\Fr [p] w w':=by
 refine enter func119 rfl ntmps119 rfl ?_;refine rx ?_;refine Jm (l:=[zI,zI,zI,zT]) rfl (fun u1 q hqe hb1 hf1 hs1=>?_);refine rx ?_;refine Jg (JfQ k p n (t::r) u1 (h.tr0 hf1)) ?_;rintro u2 hf2;rw[hk];obtain⟨S,T,ao,c,i,hb0,hs0,ho,hd,hi,hn,hT,hpb,hbw,hab⟩:=h;have hlt:i<T.length:=by
  rcases DF i T.length with h|h
  .exact h
  .rw [Ci h]at hd;cases hd
 rw[Dh hlt,List.cons.injEq]at hd;obtain⟨rfl,rfl⟩:=hd;have hb:=(hb0.tr0 hf1).tr0 hf2;have hs:=(hs0.tr0 hf1).tr0 hf2;have hb12:=hb1.tr0 hf2;have hqp:q≠p:=by
  have:=hb0.lt;omega
 obtain⟨ad,rfl,hcl0⟩:=Nu hs0 hlt;have hadq:ad.block≠q:=by
  have h1:=World.block_lt_of_cell? w _ (hcl0 0 _ rfl);rw[add_block,add_block]at h1;omega
 refine rx ?_
 ((with_reducible apply Ji);exact rfl;(conv=>lhs;whnf);exact rfl;exact hb;exact rfl)
 intro u3 hb3 hf3 hs3;have hbq:=hb12.tr hf3 (by simpa using hqp);have hs':=hs.tr hf3 ho;obtain⟨ad',had,hcl⟩:=Nu hs' hlt;simp only[Sj]at had;subst had;refine rx ?_;refine JE (fun z=>Fr [q] u3 z) Yhp rfl ?_;have hS:Fr [q] u3 u3.drew:=Fr.drew _ _;refine Ynb ?_;refine Kw 3 hS ?_ (hrun:=by(intro u hu;exact(J7 rfl (Blk.cell (hb3.tr hu (by simpa using hqp.symm)) rfl))));refine JX 4 5 hS ?_;refine d_z 6 hS ?_;refine Kw 7 hS ?_ (hrun:=by(intro u hu;exact(J7 rfl (Blk.cell (hb3.tr hu (by simpa using hqp.symm)) rfl))));refine d_z 8 hS ?_;refine Kw 9 hS ?_ (hrun:=by(intro u hu;exact(Qs (j:=i) rfl rfl Yhn Yhn rfl)));refine Kw 10 hS ?_ (hrun:=by(intro u hu;exact(Kv rfl (hcl.tr hu (by simpa[add_block]using hadq)) Yik)));refine JJ (i:=11) rfl Yhp ?_;refine Jd (cs:=tkC T[i]) rfl rfl (hbq.tr0 (Fr.drew _ _)) (by simp[tkC,Value.oneCell']) rfl rfl (fun u4 hb4 hf4 hs4=>?_);have hS4:Fr [q] u3 u4:=hS.trans hf4 (fun x hx=>.inl hx);refine wpList_nil (Jv hS4 ?_);refine Yev ?_;have hf14:Fr [p] w u4:=(((hf1.Jb hf2).mono (T:=[p]) Yhs).trans hf3 (fun x hx=>.inl hx)).trans hS4 (fun x hx=>.inr (by rw[Sv.1 hx,hqe];exact SX _));exact JjU rfl rfl (AggT.load _ (tkC T[i]) rfl (fun j x hx=>by rw[add_lit];exact hb4.cell (by simpa using hx))) ⟨rfl,⟨S,T,some ad,c,i+1,hb3.tr hS4 (by simpa using hqp.symm),hs'.tr hS4 (fun ad' n c e _=>by
  simp only[Value.slice.injEq,Sj]at e;rw[<-e.1];simpa using hadq),ho,rfl,by omega,hn,hT,hpb,CG hbw hf14.size,hab⟩,hf14⟩
end
end Go.Proofs.YtggmccicdhnkgaaGreat
namespace Go.Rf
open Go.RowKit
variable{t:Bs}{d:Dt}{S0 T X Y:List Nat}{r':List Tk}{c2 c3 cs l z:List Value}{by_ e i k m n p q s:Nat}{α:Type}{u xv:Value}{w w' w0 w1:World}
def rg(w:World):List Nat:=List.range w.heap.size
theorem Jk:k∈rg w↔k<w.heap.size:=FT
theorem RD.keep{ds:List Dt}{vs:List Value}(h:RD w (rg w0) ds vs)(hf:Fr T w w')(hT:∀b∈T,b<w0.heap.size\/w.heap.size<=b):RD w' (rg w0) ds vs:=h.old hf Ykd
theorem RD.down{ds:List Dt}{vs:List Value}(h:RD w (rg w1) ds vs)(hl:w0.heap.size<=w1.heap.size):RD w (rg w0) ds vs:=h.mono (fun b hb=>.inl (Jk.2 (by have:=Jk.1 hb;omega)))
theorem DR.keep{v:Value}(h:DR w (rg w0) d v)(hf:Fr T w w')(hT:∀b∈T,b<w0.heap.size\/w.heap.size<=b):DR w' (rg w0) d v:=h.old hf Ykd
theorem DR.down{v:Value}(h:DR w (rg w1) d v)(hl:w0.heap.size<=w1.heap.size):DR w (rg w0) d v:=h.mono (fun b hb=>.inl (Jk.2 (by have:=Jk.1 hb;omega)))
theorem Jgr{v:Value}{d:List Dt}(ho:Own w e k v 1 cs)(hr:RD w (rg w0) d cs)(hn:∀b∈blks v,w0.heap.size<=b):DR w (rg w0) (.l [d]) v:=by
 refine DR.Jhn (k:=d.length) Yhs Yhs ⟨cs,ho.src,fun ad n c e _ hm=>?_,?_⟩
 .have h1:=hn ad.block Yio;have:=Jk.1 hm;omega
 .have:=Rws.cons (R:=RD w (rg w0)) hr .nil
  rwa [Ce]at this
/-! ### lists that are being made -/
theorem Je(h:p∈X):∀b∈[p],b∈X\/n<=b:=fun b hb=>by rw[Sv.1 hb];exact .inl h
def LR{α:Type}(X:List Nat)(C:α->List Dt):World->List Nat->α->List Value->Prop:=fun w S x cs=>RD w (S++X) (C x) cs
theorem Jf4{C:α->List Dt}(hk:∀x,(C x).length=k):Stab (LR X C) k where
 tr:=fun h hf=>RD.old h hf (fun b hb=>.inl Yii)
 mono:=fun h hT=>RD.mono h (fun b hb=>by
  rcases SE.1 hb with hb|hb
  .rcases hT b hb with h|h
   .exact .inl Ynn
   .exact .inr h
  .exact .inl Yii)
 len:=fun h=>by rw[RD.len h,hk]
 one:=fun h=>RD.one h
def LS{α:Type}(X:List Nat)(w:World)(e k:Nat)(C:α->List Dt)(l:List α)(v:Value):Prop:=WE w e k (LR X C) l v/\∀b∈blks v,b∉X
section
variable{α:Type}{X T:List Nat}{w w':World}{e k:Nat}{C:α->List Dt}{l:List α}{v:Value}
theorem LS.nil:LS X w e k C [] (zS):=⟨WE.nil _ _ _ _,fun b hb=>by simp[blks,Value.ownBlock]at hb⟩
theorem LS.lt(h:LS X w e k C l v):∀b∈blks v,b<w.heap.size:=h.1.lt
theorem LS.slice(h:LS X w e k C l v):∃ao c,v=.slice ao l.length c:=h.1.slice
theorem LS.keep(h:LS X w e k C l v)(hf:Fr T w w')(hT:∀b∈T,b∈X\/w.heap.size<=b):LS X w' e k C l v:=by
 obtain⟨⟨ys,h1,h2⟩,h3⟩:=h;refine⟨⟨ys,h1.tr hf (fun b hb hm=>?_),h2.imp (fun x cs _ hr=>RD.old hr hf (fun b hb=>?_))⟩,h3⟩
 .rcases hT b hm with h|h
  .exact h3 b hb h
  .have:=h1.lt b hb;omega
 .rcases hT b hb with h|h
  .exact .inl Ynn
  .exact .inr h
theorem LS.ge(h:LS X w e k C l v)(hX:∀b,b<w0.heap.size->b∈X):∀b∈blks v,w0.heap.size<=b:=fun b hb=>Iu fun hlt=>h.2 b hb (hX b hlt)
theorem LS.tr0(h:LS X w e k C l v)(hf:Fr [] w w'):LS X w' e k C l v:=h.keep hf Yhs
theorem LS.mono(h:LS X w e k C l v)(hY:∀b∈Y,b∈X\/w.heap.size<=b):LS Y w e k C l v:=by
 obtain⟨⟨ys,h1,h2⟩,h3⟩:=h;refine⟨⟨ys,h1,h2.imp (fun x cs _ hr=>RD.mono hr (fun b hb=>?_))⟩,fun b hb hm=>?_⟩
 .rcases SE.1 hb with h|h
  .exact .inl Ynn
  .rcases hY b h with h|h
   .exact .inl Ynn
   .exact .inr h
 .rcases hY b hm with h|h
  .exact h3 b hb h
  .have:=h1.lt b hb;omega
theorem LS.dr(h:LS X w e k C l v)(hk:∀x,(C x).length=k)(hl:l.length<=1000000000000):DR w X (.l (l.map C)) v:=by
 obtain⟨⟨ys,h1,h2⟩,h3⟩:=h;refine DR.ofTyped hk hl ⟨ys,h1.src,fun ad n c e _ hm=>?_,h2.imp (fun x cs _ hr=>RD.mono hr (fun b hb=>.inl Yii))⟩;exact h3 ad.block Yio hm
end
section
variable{P:Program}{ops:Array Oper}{Q:Exit->Act->World->Prop}{rest:List Oper}{n:Nat}{f:Env}{w:World}
variable{d d2:Nat}{ty ty2:TypeId}{ps ps2:String}{af af2:Array Edge}{x s:Operand}{t t2:Nat}
theorem WL{C:α->List Dt}{size:Nat}{l:List α}{v:Value}{a:α}[RZ:RowZ P t e size by_ z]
 (hR:LS X w e size C l v) (hs:∀x,(C x).length=size) (hsv:ev n f s=v) (hx:ev n f x=xv) (hxc:xv.cells=cs.toArray) (ha:RD w S0 (C a) cs) (hS:∀b,b∈blks v\/b∈X->b∈S0\/w.heap.size<=b) (hd:ev n (upd f d (.slice (some ⟨w.heap.size,0,none⟩) 1 1)) s=v) (hdn:Nat.blt d n=true) (hsz:Nat.ble size 16777216=true)
 (h63:l.length+1<=maxLen) (hb:(l.length+1)*by_<=140737488355328) (hX:∀b∈X,b<w.heap.size)
 (h:∀v' w',LS X w' e size C (l++[a]) v'->Fr (blks v) w w'->(∀b∈blks v',b∈blks v\/w.heap.size<=b)->wpList P ops Q rest (A n (upd (upd f d (.slice (some ⟨w.heap.size,0,none⟩) 1 1)) d2 v')) w'):
 wpList P ops Q (⟨some d,.buildSlice t 1 #[(0,x)],ty,ps,af,none⟩::⟨some d2,.call {callee:=.builtin .append,args:=#[s,.tmp d],argTypes:=#[t,t]},ty2,ps2,af2,none⟩::rest) (A n f) w:=by
 refine Jdu hR.1 (Jf4 hs) hsv hx hxc (RD.mono ha (fun b hb=>hS b Yks)) hd hdn hsz h63 hb (fun v' w' ho hf hk=>?_);exact Ygb
end
theorem LS.other{v1 v1':Value}{C:α->List Dt}{l:List α}{v:Value}(h:LS X w e k C l v)(hf:Fr (blks v1) w w')(h1:∀b∈blks v1,b∈X)(hk:∀b∈blks v1',b∈blks v1\/w.heap.size<=b)(hY:∀b∈Y,b∈X\/b∈blks v1'):LS Y w' e k C l v:=
 ((h.mono (Y:=X++blks v1') (fun b hb=>(SE.1 hb).elim .inl (fun h'=>(hk b h').elim (fun h=>.inl (h1 b h)) .inr))).keep hf (fun b hb=>.inl (by simp[h1 b hb]))).mono (fun b hb=>.inl (by have:=hY b hb;simp[this]))
theorem LS.first{C:α->List Dt}{x:α}{v:Value}(ho:Own w e k v 1 cs)(hr:RD w S0 (C x) cs)(hS:∀b,b∈blks v\/b∈X->b∈S0\/w.heap.size<=b)(hn:∀b∈blks v,b∉X):LS X w e k C [x] v:=
 ⟨⟨cs,ho,.one (RD.mono hr (fun b hb=>hS b Yks))⟩,hn⟩
def L3{α β γ:Type}(X:List Nat)(w:World)(e1 e2 e3 k1 k2 k3:Nat)(C1:α->List Dt)(C2:β->List Dt)(C3:γ->List Dt)(l1:List α)(l2:List β)(l3:List γ)(v1 v2 v3:Value):Prop:=
 LS (X++(blks v2++blks v3)) w e1 k1 C1 l1 v1/\LS (X++(blks v1++blks v3)) w e2 k2 C2 l2 v2/\LS (X++(blks v1++blks v2)) w e3 k3 C3 l3 v3
section
variable{α β γ:Type}{X T:List Nat}{w w':World}{e1 e2 e3 k1 k2 k3:Nat}{C1:α->List Dt}{C2:β->List Dt}{C3:γ->List Dt}{l1 l1':List α}{l2 l2':List β}{l3 l3':List γ}{v1 v2 v3 v':Value}
theorem L3.keep(h:L3 X w e1 e2 e3 k1 k2 k3 C1 C2 C3 l1 l2 l3 v1 v2 v3)(hf:Fr T w w')(hT:∀b∈T,b∈X\/w.heap.size<=b):L3 X w' e1 e2 e3 k1 k2 k3 C1 C2 C3 l1 l2 l3 v1 v2 v3:=
 ⟨h.1.keep hf (fun b hb=>(hT b hb).imp (fun h=>by simp[h]) id),h.2.1.keep hf (fun b hb=>(hT b hb).imp (fun h=>by simp[h]) id),h.2.2.keep hf (fun b hb=>(hT b hb).imp (fun h=>by simp[h]) id)⟩
theorem L3.sz1(h:L3 X w e1 e2 e3 k1 k2 k3 C1 C2 C3 l1 l2 l3 v1 v2 v3)(hX:∀b∈X,b<w.heap.size):∀b∈X++(blks v2++blks v3),b<w.heap.size:=fun b hb=>by
 rcases SE.1 hb with hb|hb
 .exact hX b hb
 .exact (SE.1 hb).elim (h.2.1.lt b) (h.2.2.lt b)
theorem L3.sz2(h:L3 X w e1 e2 e3 k1 k2 k3 C1 C2 C3 l1 l2 l3 v1 v2 v3)(hX:∀b∈X,b<w.heap.size):∀b∈X++(blks v1++blks v3),b<w.heap.size:=fun b hb=>by
 rcases SE.1 hb with hb|hb
 .exact hX b hb
 .exact (SE.1 hb).elim (h.1.lt b) (h.2.2.lt b)
theorem L3.sz3(h:L3 X w e1 e2 e3 k1 k2 k3 C1 C2 C3 l1 l2 l3 v1 v2 v3)(hX:∀b∈X,b<w.heap.size):∀b∈X++(blks v1++blks v2),b<w.heap.size:=fun b hb=>by
 rcases SE.1 hb with hb|hb
 .exact hX b hb
 .exact (SE.1 hb).elim (h.1.lt b) (h.2.1.lt b)
theorem L3.JiR(h:L3 X w e1 e2 e3 k1 k2 k3 C1 C2 C3 l1 l2 l3 v1 v2 v3)(hL:LS (X++(blks v2++blks v3)) w' e1 k1 C1 l1' v')(hf:Fr (blks v1) w w')(hk:∀b∈blks v',b∈blks v1\/w.heap.size<=b):L3 X w' e1 e2 e3 k1 k2 k3 C1 C2 C3 l1' l2 l3 v' v2 v3:=
 ⟨hL,h.2.1.other hf Yjm hk Yif,h.2.2.other hf Yjm hk Yif⟩
theorem L3.Jha(h:L3 X w e1 e2 e3 k1 k2 k3 C1 C2 C3 l1 l2 l3 v1 v2 v3)(hL:LS (X++(blks v1++blks v3)) w' e2 k2 C2 l2' v')(hf:Fr (blks v2) w w')(hk:∀b∈blks v',b∈blks v2\/w.heap.size<=b):L3 X w' e1 e2 e3 k1 k2 k3 C1 C2 C3 l1 l2' l3 v1 v' v3:=
 ⟨h.1.other hf Yjm hk Yif,hL,h.2.2.other hf Yjm hk Yif⟩
theorem L3.JjZ(h:L3 X w e1 e2 e3 k1 k2 k3 C1 C2 C3 l1 l2 l3 v1 v2 v3)(hL:LS (X++(blks v1++blks v2)) w' e3 k3 C3 l3' v')(hf:Fr (blks v3) w w')(hk:∀b∈blks v',b∈blks v3\/w.heap.size<=b):L3 X w' e1 e2 e3 k1 k2 k3 C1 C2 C3 l1 l2 l3' v1 v2 v':=
 ⟨h.1.other hf Yjm hk Yif,h.2.1.other hf Yjm hk Yif,hL⟩
end
section
variable{P:Program}{ops:Array Oper}{Q:Exit->Act->World->Prop}{rest:List Oper}{n:Nat}{f:Env}{w:World}
variable{d:Nat}{ty:TypeId}{ps:String}{af:Array Edge}{x s:Operand}{t:Nat}
theorem V7{C:α->List Dt}{size:Nat}{l:List α}{v:Value}{a:α}[Rr:RowT P t e size by_]
 (hR:LS X w e size C l v) (hs:∀x,(C x).length=size) (hsv:ev n f s=v) (hx:ev n f x=xv) (hsrc:Src w xv 1 cs) (ha:RD w S0 (C a) cs) (hS:∀b,b∈blks v\/b∈X->b∈S0\/w.heap.size<=b) (h63:l.length+1<=maxLen) (hb:(l.length+1)*by_<=140737488355328) (hX:∀b∈X,b<w.heap.size)
 (h:∀v' w',LS X w' e size C (l++[a]) v'->Fr (blks v) w w'->(∀b∈blks v',b∈blks v\/w.heap.size<=b)->wpList P ops Q rest (A n (upd f d v')) w'):
 wpList P ops Q (⟨some d,.call {callee:=.builtin .append,args:=#[s,x],argTypes:=#[t,t]},ty,ps,af,none⟩::rest) (A n f) w:=by
 refine Jfn (al:=[a]) hR.1 (Jf4 hs) hsv hx hsrc (.one (RD.mono ha (fun b hb=>hS b Yks))) rfl h63 hb (fun v' w' ho hf hk _=>?_);exact Ygb
end
section
variable{P:Program}{Q:Exit->Act->World->Prop}{k:Nat}{S:World->Prop}{n:Nat}{f:Env}{w:World}{l:List Oper}{fuel:Nat}{listed:Array Bool}
theorem Jh2{j:Nat}{o o':Oper}(hi:l[i]?=some o)(hj:l[j]?=some o')(hr:Region.ready .any l.toArray listed=[i,j])
 (h1:wpList P l.toArray (Exit.then (fun a' w'=>((listed.setIfInBounds i true).getD k true=true\/S w')/\Vl P .any l.toArray Q k S fuel (listed.setIfInBounds i true) a' w') Q) [o] (A n f) w)
 (h2:wpList P l.toArray (Exit.then (fun a' w'=>((listed.setIfInBounds j true).getD k true=true\/S w')/\Vl P .any l.toArray Q k S fuel (listed.setIfInBounds j true) a' w') Q) [o'] (A n f) w):Vl P .any l.toArray Q k S (fuel+1) listed (A n f) w:=by
 refine Nq hr Yhs fun m hm=>?_
 simp only[SC,S9,CU]at hm;rcases hm with rfl|rfl
 .exact KC hi h1
 .exact KC hj h2
end
/-! ### a field of a value -/
class FldT (P:Program) (s i:Nat) (off:outParam Nat):Prop where
 f:∃fs fd,P.underlying s=some (.struct fs)/\fs[i]?=some fd/\fd.offset=off/\OneT P fd.type
section
variable{P:Program}{ops:Array Oper}{Q:Exit->Act->World->Prop}{rest:List Oper}{n:Nat}{f:Env}{w:World}
variable{d:Nat}{ty:TypeId}{ps:String}{af:Array Edge}{x:Operand}{gd:Option (Nat×Bool)}
theorem NP{off:Nat}[F:FldT P s i off](hx:ev n f x=.agg l.toArray)(hu:l[off]?=some u):
 (execOp (ev n f) ⟨some d,.field s x i,ty,ps,af,gd⟩).run P w=.ok (.value u) w:=by
 obtain⟨fs,fd,h1,h2,h3,h4⟩:=F.f;obtain⟨d,hd,ha⟩:=h4.agg;simp[execOp,hx,Instr.field,run_underlying h1,h2,h3,part,ZI hd,ha,asAgg,hu]
theorem XF{off:Nat}[F:FldT P s i off](hx:ev n f x=.agg l.toArray)(hu:l[off]?=some u)(h:wpList P ops Q rest (A n (upd f d u)) w):
 wpList P ops Q (⟨some d,.field s x i,ty,ps,af,none⟩::rest) (A n f) w:=JR (NP hx hu) h
end
/-! ### rows from values of structs -/
theorem Jgj{size:Nat}{c1:List Value}(hz:z.length=size)(h1:c1.length=size)(h2:c2.length=size):Xr (fun i=>some (i*size,size)) (zeros z 2) [(0,.agg c1.toArray),(1,.agg c2.toArray)]=some (c1++c2):=by
 have e1:(Value.agg c1.toArray).cells.toList=c1:=rfl;have e2:(Value.agg c2.toArray).cells.toList=c2:=rfl;have b1:Nat.beq size size=true:=Nat.beq_refl size;have b2:Nat.ble size (size+size)=true:=Dv Yhn;have b3:Nat.ble (size+size) (size+size)=true:=Dv Yhn;have d1:List.drop size (z++z)=z:=by rw[D6 Yhn,Ci Yhn];rfl
 simp only[Xr,zeros,e1,e2,h1,h2,b1,Ce,Sm,hz,D8,Di,Ez,b2,b3,H7,CO,d1,II,Ic];rw[ER Yhn,SQ Yhn,Ci Yht,Ce]
theorem Jdf{size:Nat}{c1:List Value}(hz:z.length=size)(h1:c1.length=size)(h2:c2.length=size)(h3:c3.length=size):Xr (fun i=>some (i*size,size)) (zeros z 3) [(0,.agg c1.toArray),(1,.agg c2.toArray),(2,.agg c3.toArray)]=some (c1++c2++c3):=by
 have e1:(Value.agg c1.toArray).cells.toList=c1:=rfl;have e2:(Value.agg c2.toArray).cells.toList=c2:=rfl;have e3:(Value.agg c3.toArray).cells.toList=c3:=rfl;have b1:Nat.beq size size=true:=Nat.beq_refl size;have b2:Nat.ble size (size+(size+size))=true:=Dv Yhn;have b3:Nat.ble (size+size) (size+(size+size))=true:=Dv Yhn;have b4:Nat.ble (2*size+size) (size+size+size)=true:=Dv Yhn;have d1:List.drop size (z++(z++z))=z++z:=by rw[D6 Yhn,Ci Yhn];rfl
 have t1:List.take size (c1++(z++z))=c1:=by rw[ER Yhn,SQ Yhn]
 have d2:List.drop (size+size) (c1++(z++z))=z:=by
  rw[<-List.append_assoc,D6 Yht,Ci Yht];rfl
 have t3:List.take (2*size) (c1++c2++z)=c1++c2:=by rw[ER Yht,SQ Yht]
 have d3:List.drop (2*size+size) (c1++c2++z)=[]:=Ci Yht;simp only[Xr,zeros,e1,e2,e3,h1,h2,h3,b1,Ce,Sm,hz,D8,Di,Ez,b2,b3,H7,CO,d1,II,Ic,t1,d2,t3,d3,b4]
section
variable{P:Program}{ops:Array Oper}{Q:Exit->Act->World->Prop}{rest:List Oper}{n:Nat}{f:Env}{w:World}
variable{d:Nat}{ty ty2:TypeId}{ps ps2:String}{af af2:Array Edge}{x y x2 x3:Operand}{t t2:Nat}
theorem JQ{size:Nat}{c1:List Value}[R:RowZ P t e size by_ z](hx:ev n f x=.agg c1.toArray)(h1:c1.length=size)(hsz:Nat.ble size 16777216=true)
 (hk:∀w' q,q=w.heap.size->Own w' e size (.slice (some ⟨q,0,none⟩) 1 1) 1 c1->Fr [] w w'->w'.heap.size=w.heap.size+1->wpList P ops Q rest (A n (upd f d (.slice (some ⟨q,0,none⟩) 1 1))) w'):
 wpList P ops Q (⟨some d,.buildSlice t 1 #[(0,x)],ty,ps,af,none⟩::rest) (A n f) w:=by
 have hzl:z.length=size:=by obtain⟨i,v,_,_,_,h⟩:=R.z;exact h
 refine J3 (z:=z) (parts:=[(0,x)]) c1 (by simpa using hsz) rfl ?_ (by simpa using h1) (fun w' ho hf hs=>hk w' _ rfl ho hf hs);simp only[UR,hx];exact Jcc hzl h1 rfl
theorem Xj{size:Nat}{c1:List Value}[R:RowZ P t e size by_ z](hx:ev n f x=.agg c1.toArray)(hx2:ev n f x2=.agg c2.toArray)(h1:c1.length=size)(h2:c2.length=size)(hsz:Nat.ble (2*size) 16777216=true)
 (hk:∀w' q,q=w.heap.size->Own w' e size (.slice (some ⟨q,0,none⟩) 2 2) 2 (c1++c2)->Fr [] w w'->w'.heap.size=w.heap.size+1->wpList P ops Q rest (A n (upd f d (.slice (some ⟨q,0,none⟩) 2 2))) w'):
 wpList P ops Q (⟨some d,.buildSlice t 2 #[(0,x),(1,x2)],ty,ps,af,none⟩::rest) (A n f) w:=by
 have hzl:z.length=size:=by obtain⟨i,v,_,_,_,h⟩:=R.z;exact h
 refine J3 (z:=z) (parts:=[(0,x),(1,x2)]) (c1++c2) hsz rfl ?_ Yht (fun w' ho hf hs=>hk w' _ rfl ho hf hs);simp only[UR,hx,hx2];exact Jgj hzl h1 h2
theorem MP{size:Nat}{c1:List Value}[R:RowZ P t e size by_ z](hx:ev n f x=.agg c1.toArray)(hx2:ev n f x2=.agg c2.toArray)(hx3:ev n f x3=.agg c3.toArray)(h1:c1.length=size)(h2:c2.length=size)(h3:c3.length=size)(hsz:Nat.ble (3*size) 16777216=true)
 (hk:∀w' q,q=w.heap.size->Own w' e size (.slice (some ⟨q,0,none⟩) 3 3) 3 (c1++c2++c3)->Fr [] w w'->w'.heap.size=w.heap.size+1->wpList P ops Q rest (A n (upd f d (.slice (some ⟨q,0,none⟩) 3 3))) w'):
 wpList P ops Q (⟨some d,.buildSlice t 3 #[(0,x),(1,x2),(2,x3)],ty,ps,af,none⟩::rest) (A n f) w:=by
 have hzl:z.length=size:=by obtain⟨i,v,_,_,_,h⟩:=R.z;exact h
 refine J3 (z:=z) (parts:=[(0,x),(1,x2),(2,x3)]) (c1++c2++c3) hsz rfl ?_ Yht (fun w' ho hf hs=>hk w' _ rfl ho hf hs);simp only[UR,hx,hx2,hx3];exact Jdf hzl h1 h2 h3
theorem KR{z:Value}[Z:ZeroT P e z][G:AggT P e m](hz:z.cells=l.toArray)(hl:l.length=m)(hc:cs.length=m)(h1:∀c∈cs,c.oneCell'=true)(hdn:Nat.blt d n=true)
 (hy:∀v,ev n (upd f d v) y=.agg cs.toArray) (h:∀w' q,q=w.heap.size->Blk w' q cs e->Fr [] w w'->w'.heap.size=w.heap.size+1->wpList P ops Q rest (A n (upd f d (.pointer (some ⟨q,0,none⟩)))) w'):
 wpList P ops Q (⟨some d,.alloc e,ty,ps,af,none⟩::⟨none,.store e (.tmp d) y,ty2,ps2,af2,none⟩::rest) (A n f) w:=by
 refine WM hz (fun w1 hb hf hs=>?_);refine Jd ?_ (hy _) hb h1 hl hc (fun w2 hb2 hf2 hs2=>h w2 _ rfl hb2 ?_ Yhn)
 .show cond (Nat.blt d n) (upd f d _ d) undef=_;rw[hdn,upd_same];rfl
 .exact hf.trans hf2 (fun x hx=>.inr (by rw[Sv.1 hx];exact SX _))
end
theorem Qc{P:Program}{fn:Func}{R:Ending->World->Prop}{f:Env}{t ty tb:Nat}[G:AggT P ty m](hr:fn.results=#[.cell t ty])(hv:ev n f (.tmp t)=.pointer (some ⟨q,0,none⟩))(hb:Blk w q cs tb)(hl:cs.length=m)
 (h:R (.returned (.agg cs.toArray)) w):bodyPost P fn R .ret (A n f) w:=JjU hr hv (AggT.load _ cs hl Yjn) h
theorem KU{a:Nat}(h:w.heap.size<=a):∀b∈a::X,b∈X\/w.heap.size<=b:=fun b hb=>by
 rcases SC.1 hb with rfl|hb
 .exact .inr h
 .exact .inl hb
theorem RD.tell{ds:List Dt}{vs:List Value}(h:RD w X ds vs)(hY:∀b∈Y,b∈X\/w.heap.size<=b)(hf:Fr [] w w'):RD w' Y ds vs:=(h.mono hY).tr0 hf
theorem DR.tell{v:Value}(h:DR w X d v)(hY:∀b∈Y,b∈X\/w.heap.size<=b)(hf:Fr [] w w'):DR w' Y d v:=(h.mono hY).tr0 hf
theorem GR{v:Value}{rows:List (List Dt)}{ys:List Value}(ho:Own w e k v rows.length ys)(hr:Rws (RD w X) rows ys)(hk:∀r∈rows,r.length=k)(hl:rows.length<=1000000000000)(hn:∀b∈blks v,b∉X):DR w X (.l rows) v:=
 DR.Jhn hl hk ⟨ys,ho.src,fun ad n c e _ hm=>hn ad.block Yio hm,hr⟩
theorem Jf{u:World}(h:p<u.heap.size):∀b∈[p],b∈rg u\/n<=b:=fun b hb=>.inl (Jk.2 (by rw[Sv.1 hb];exact h))
theorem bind_some{β:Type}{o:Option α}{f:α->Option β}{y:β}(h:o.bind f=some y):∃x,o=some x/\f x=some y:=Si.1 h
theorem JcU{r:List Tk}(h:JB t r=some r'):isT t r=true/\r'=r.tail:=by
 unfold JB at h
 split at h
 .exact ⟨by assumption,by simpa using h.symm⟩
 .cases h
theorem U8{t:Tk}{r:List Tk}(h:Vr k r=some (t,r')):r=t::r'/\Bc k (t::r')=true:=by
 cases r with
 |nil=>simp[Vr]at h
 |cons a r=>
  simp only[Vr]at h
  split at h
  .simp only[Sj,Sz]at h;obtain⟨rfl,rfl⟩:=h;exact⟨rfl,by assumption⟩
  .cases h
end Go.Rf
namespace Go.Proofs.YtggmccicdhnkgaaGreat
open Go.Proofs.Tryz
open Go.Rf Go.RowKit
section
variable{t:Bs}{r':List Tk}{cs:List Value}{bd k p q:Nat}{α:Type}{w w0:World}
attribute [local irreducible] Code.wp wpList Exit.then Exit.inBlock bodyPost A Calls execOp Addr.add
instance:FldT prog 199 2 2:=⟨⟨_,_,underlying199,rfl,rfl,(inferInstance:OneT prog 3)⟩⟩
instance:FldT prog 199 3 3:=⟨⟨_,_,underlying199,rfl,rfl,(inferInstance:OneT prog 9)⟩⟩
def PC{α:Type}(fid:Nat)(al:List Value)(g:Int->List Tk->Option (α×List Tk))(C:α->List Dt):Prop:=∀(bd p:Nat) (n:Int) (r:List Tk) (w:World) (x:α) (r':List Tk),PS bd w p n r->g n r=some (x,r')->
 Calls prog fid (Value.pointer (some ⟨p,0,none⟩)::al).toArray w fun e w'=>∃cs,e=.returned (.agg cs.toArray)/\RD w' (rg w) (C x) cs/\PS bd w' p n r'/\Fr [p] w w'
theorem JL{n:Int}{r:List Tk}(h:PS bd w p n r)(ht:JB t r=some r'):
 Calls prog 120 #[.pointer (some ⟨p,0,none⟩),.string (bst t)] w fun e w'=>e=.returned (.tuple #[])/\PS bd w' p n r'/\Fr [p] w w':=by
 obtain⟨h1,rfl⟩:=JcU ht;exact Jj3 t p n r w h h1
theorem VF{n:Int}{r:List Tk}{t:Tk}(h:PS bd w p n r)(ht:Vr k r=some (t,r')):
 Calls prog 119 #[.pointer (some ⟨p,0,none⟩),iV k] w fun e w'=>e=.returned (.agg (tkC t).toArray)/\PS bd w' p n r'/\Fr [p] w w':=by
 obtain⟨rfl,h1⟩:=U8 ht;exact JiV k p n t r' w h h1
def PL{α:Type}(fid:Nat)(al:List Value)(g:Int->List Tk->Option (α×List Tk))(C:α->List (List Dt)):Prop:=∀(bd p:Nat) (n:Int) (r:List Tk) (w:World) (x:α) (r':List Tk),PS bd w p n r->g n r=some (x,r')->
 Calls prog fid (Value.pointer (some ⟨p,0,none⟩)::al).toArray w fun e w'=>∃v,e=.returned v/\DR w' (rg w) (.l (C x)) v/\PS bd w' p n r'/\Fr [p] w w'
theorem QJ{C:α->List Dt}{n:Int}{r:List Tk}{u u':World}{x:α}(hq:q=w.heap.size)(hw0:q<w0.heap.size)(hle:w.heap.size<=w0.heap.size)(hbd:bd<=q)(hP:PS bd u p n r)(hF:Fr [p] w u)(hf:Fr [q] u u')(hd:RD u (rg w0) (C x) cs):
 ∃cs',Ending.returned (.agg cs.toArray)=.returned (.agg cs'.toArray)/\RD u' (rg w) (C x) cs'/\PS bd u' p n r/\Fr [p] w u':=
 ⟨cs,rfl,(hd.keep hf (fun b hb=>.inl (by rw[Sv.1 hb];exact hw0))).down hle,hP.tr hf (fun k hk=>by rw[Sv.1 hk];exact hbd),hF.trans hf (fun k hk=>.inr (by rw[Sv.1 hk,hq];exact SX _))⟩
def LI{α:Type}(bd p:Nat)(n:Int)(w:World)(X:List Nat)(e k:Nat)(C:α->List Dt)(go:Nat->List Tk->Option (List α×List Tk))(l:List α)(r1:List Tk)(f:Nat)(acc:List α)(r:List Tk)(b:Bool)(u:World)(v:Value):Prop:=
 PS bd u p n r/\Fr [p] w u/\LS X u e k C acc v/\acc.length+f<=1000000/\(b=true->∃l',go f r=some (l',r1)/\acc++l'=l)/\(b=false->acc=l/\r=r1)
theorem Xg{go:Nat->List Tk->Option (List α×List Tk)}{f:Nat}{x:α}{acc l l':List α}{b:Bool}{r3 r1:List Tk}(hgo:(if b=true then(go f r3.tail).bind fun y=>some (x::y.1,y.2) else some ([x],r3))=some (l',r1))(hacc:acc++l'=l):
 (b=true->∃l',go f (Jz b r3)=some (l',r1)/\(acc++[x])++l'=l)/\(b=false->acc++[x]=l/\Jz b r3=r1):=by
 cases b with
 |true=>
  refine⟨fun _=>?_,fun h=>by cases h⟩;rw[Cb rfl]at hgo;obtain⟨⟨l2,r4⟩,h1,h2⟩:=bind_some hgo;simp only[Sj,Sz]at h2;obtain⟨rfl,rfl⟩:=h2;exact⟨l2,h1,by rw[<-hacc];simp⟩
 |false=>
  refine⟨fun h=>Yiw,fun _=>?_⟩;rw[SH Yhs]at hgo;simp only[Sj,Sz]at hgo;obtain⟨rfl,rfl⟩:=hgo;exact⟨hacc,rfl⟩
end
section
variable{S S':List Nat}{cs ys:List Value}{w w':World}
attribute [local irreducible] Code.wp wpList Exit.then Exit.inBlock bodyPost A Calls execOp Addr.add
theorem Jbr(z:List Value)(k:Nat):(zeros z (k+1)).drop z.length=zeros z k:=by simp[zeros]
theorem Qk{z:List Value}{i n m:Nat}(hy:ys.length=i*m)(hz:z.length=m)(hi:i<n):(ys++zeros z (n-i)).take (i*m)++cs++(ys++zeros z (n-i)).drop (i*m+m)=ys++cs++zeros z (n-(i+1)):=by
 have e:n-i=(n-(i+1))+1:=by omega
 rw[<-hy,EW,F5,Ci Yhn,e,CO,Eo,<-hz,Jbr]
theorem JjS:∀k∈rg w,k<w.heap.size:=fun k hk=>Jk.1 hk
theorem _root_.Go.Rf.Rws.ones{α:Type}{R:α->List Value->Prop}{l:List α}(h:∀x cs,R x cs->∀u∈cs,u.oneCell'=true)(hr:Rws R l ys):∀u∈ys,u.oneCell'=true:=by
 induction hr with
 |nil=>simp
 |cons h1 _ ih=>
  intro u hu;rcases SE.1 hu with hu|hu
  .exact h _ _ h1 u hu
  .exact ih u hu
theorem LG{x:ByteArray}(h:RD w S (JV x) cs):RD w' S' (JV x) cs:=by
 replace h:=RD.JI (x:=.string x) h;obtain⟨_,rfl,h⟩:=h;obtain rfl:=h.inv0;exact .cons (.c rfl) .nil
theorem Jii(l:List ByteArray)(s:Value)(u:World)(S:List Nat)(hd:DR u S (.l (l.map JV)) s):
 Calls prog 180 #[s] u fun e u'=>∃s',e=.returned s'/\DR u' (rg u) (.l (l.map JV)) s'/\Fr [] u u':=by
 have hbd:=hd.bound;have hl:(l.map JV).length=l.length:=Sr ..;obtain⟨ao,c,rfl,_⟩:=hd.slice;rw[hl]at hd ⊢;obtain⟨ys,hsr,hoff,hrw⟩:=hd.typed;refine enter func180 rfl ntmps180 rfl ?_;by_cases h0:l.length=0
 .refine rx ?_;exact Yo
 refine rx ?_;refine Qr (fun u1 ho1 hf1 hs1=>?_);refine rx ?_;have hlen:ys.length=l.length*1:=Rws.len (fun x cs h=>by rw[RD.len h,XE]) hrw;refine JC ho1 rfl (hsr.tr0 hf1) rfl (by rw[hlen]) (Rws.ones (fun x cs h=>RD.one h) hrw) Yhv Yhn (fun v u2 ho2 hf2 hk2 _=>?_);rw[Di,CO]at ho2;refine Yeo ?_;refine⟨_,rfl,DR.ofTyped XE Yhn ⟨ys,ho2.src,fun ad n c e hm=>?_,hrw.imp (fun x cs _ h=>LG h)⟩,hf1.trans hf2 Yic⟩;exact Ybk
theorem JeK{x:Int}(h:RD w S (KI x) cs):RD w' S' (KI x) cs:=by
 replace h:=RD.JI (x:=iV x) h;obtain⟨_,rfl,h⟩:=h;obtain rfl:=h.inv0;exact .cons (.c rfl) .nil
theorem Jkg(l:List Int)(s:Value)(u:World)(S:List Nat)(hd:DR u S (.l (l.map KI)) s):
 Calls prog 183 #[s] u fun e u'=>∃s',e=.returned s'/\DR u' (rg u) (.l (l.map KI)) s'/\Fr [] u u':=by
 have hbd:=hd.bound;have hl:(l.map KI).length=l.length:=Sr ..;obtain⟨ao,c,rfl,_⟩:=hd.slice;rw[hl]at hd ⊢;obtain⟨ys,hsr,hoff,hrw⟩:=hd.typed;refine enter func183 rfl ntmps183 rfl ?_;by_cases h0:l.length=0
 .refine rx ?_;exact Yo
 refine rx ?_;refine Qr (fun u1 ho1 hf1 hs1=>?_);refine rx ?_;have hlen:ys.length=l.length*1:=Rws.len (fun x cs h=>by rw[RD.len h,Zq]) hrw;refine JC ho1 rfl (hsr.tr0 hf1) rfl (by rw[hlen]) (Rws.ones (fun x cs h=>RD.one h) hrw) Yhv Yhn (fun v u2 ho2 hf2 hk2 _=>?_);rw[Di,CO]at ho2;refine Yeo ?_;refine⟨_,rfl,DR.ofTyped Zq Yhn ⟨ys,ho2.src,fun ad n c e hm=>?_,hrw.imp (fun x cs _ h=>JeK h)⟩,hf1.trans hf2 Yic⟩;exact Ybk
theorem Jb9{x:Cl}(h:RD w S (clC x) cs):RD w' S' (clC x) cs:=by
 replace h:=RD.JI (x:=.string x.cls) h;obtain⟨_,rfl,h⟩:=h;replace h:=RD.JI (x:=iV x.num) h;obtain⟨_,rfl,h⟩:=h;replace h:=RD.JI (x:=iV x.den) h;obtain⟨_,rfl,h⟩:=h;obtain rfl:=h.inv0;exact .cons (.c rfl) (.cons (.c rfl) (.cons (.c rfl) .nil))
theorem Jhx(l:List Cl)(s:Value)(u:World)(S:List Nat)(hd:DR u S (.l (l.map clC)) s):
 Calls prog 147 #[s] u fun e u'=>∃s',e=.returned s'/\DR u' (rg u) (.l (l.map clC)) s'/\Fr [] u u':=by
 have hbd:=hd.bound;have hl:(l.map clC).length=l.length:=Sr ..;obtain⟨ao,c,rfl,_⟩:=hd.slice;rw[hl]at hd ⊢;obtain⟨ys,hsr,hoff,hrw⟩:=hd.typed;refine enter func147 rfl ntmps147 rfl ?_;by_cases h0:l.length=0
 .refine rx ?_;exact Yo
 refine rx ?_;refine Qr (fun u1 ho1 hf1 hs1=>?_);refine rx ?_;have hlen:ys.length=l.length*3:=Rws.len (fun x cs h=>by rw[RD.len h,XV]) hrw;refine JC ho1 rfl (hsr.tr0 hf1) rfl (by rw[hlen]) (Rws.ones (fun x cs h=>RD.one h) hrw) Yhv Yhn (fun v u2 ho2 hf2 hk2 _=>?_);rw[Di,CO]at ho2;refine Yeo ?_;refine⟨_,rfl,DR.ofTyped XV Yhn ⟨ys,ho2.src,fun ad n c e hm=>?_,hrw.imp (fun x cs _ h=>Jb9 h)⟩,hf1.trans hf2 Yic⟩;exact Ybk
theorem Jd1(l:List Ty)(sl:Value)(w:World)(S:List Nat)(hd:DR w S (.l (l.map tyC)) sl)
 (H:∀x∈l,∀(cs:List Value) (u:World) (S:List Nat),RD u S (tyC x) cs->Calls prog 140 #[.agg cs.toArray] u fun e u'=>∃cs',e=.returned (.agg cs'.toArray)/\RD u' (rg u) (tyC x) cs'/\Fr [] u u'):
 Calls prog 179 #[sl,.func (.func 140) #[] #[]] w fun e w'=>∃sl',e=.returned sl'/\DR w' (rg w) (.l (l.map tyC)) sl'/\Fr [] w w':=by
 have hbd:=hd.bound;have hl:(l.map tyC).length=l.length:=Sr ..;obtain⟨ao,c,rfl,_⟩:=hd.slice;rw[hl]at hd ⊢;refine enter func179 rfl ntmps179 rfl ?_;by_cases h0:l.length=0
 .refine rx ?_;exact Yo
 refine rx ?_;refine Qh (k:=l.length) rfl rfl Yhn Yhv (fun w1 ho1 hf1 hs1=>?_);refine rx ?_;obtain⟨N,hN⟩:∃N,w.heap.size=N:=⟨_,rfl⟩;rw[hN]at ho1 hs1 ⊢;refine Jh 7 [6] (σ:=Nat×List Value) (fun st g u=>g 13=.slice ao l.length c/\g 14=iV l.length/\g 15=iV st.1/\st.1<=l.length/\st.2.length=st.1*3/\
  Own u 90 3 (.slice (some ⟨N,0,none⟩) l.length l.length) l.length (st.2++zeros [zI,.string .empty,zS] (l.length-st.1))/\Rws (fun x cs=>RD u (N::rg w) (tyC x) cs) (l.take st.1) st.2/\Fr [N] w1 u)
  (fun st=>l.length-st.1) (0,[]) ⟨rfl,rfl,rfl,SL _,rfl,ho1,by simpa using Rws.nil,Fr.refl _ _⟩ ?_
 rintro⟨i,ys⟩ g u ⟨h13,h14,h15,hi,hys,hou,hru,hfu⟩;simp only at h15 hi hys hou hru;rw[Ja h13,Ja h14,Ja h15];have hF:Fr [] w u:=hf1.trans hfu Yht;by_cases hlt:i<l.length
 case neg=>
  refine Yeo ?_;have ei:i=l.length:=by omega
  subst ei;rw[DV,show zeros [zI,.string .empty,zS] 0=[] from rfl,Ce]at hou;refine⟨_,rfl,DR.ofTyped QT Yhn ⟨ys,hou.src,fun ad n c e hm=>?_,?_⟩,hF⟩
  .simp only[Value.slice.injEq,Sj]at e;exact Yx
  .rw [Dk]at hru;exact Yz
 obtain⟨ad,cs,had,hr,hcx⟩:=DR.at QT (hd.tr0 hF) hlt;subst had;have hlen:cs.length=3:=by rw[hr.len,QT]
 refine Yew ?_;rintro _ u1 ⟨cs',rfl,hx',hf1'⟩;refine⟨_,rfl,?_⟩;have hlen':cs'.length=3:=by rw[hx'.len,QT]
 have hou1:=hou.tr0 hf1';have hszu:=hfu.size;refine rx ?_;refine Qj (q:=i*3) (m:=3) (cs:=cs') hou1 rfl rfl rfl rfl hlen' (RD.one hx') Yhn (fun u2 hou2 hf2 hs2=>?_);rw[Qk hys rfl hlt]at hou2;have hblk:blks (.slice (some ⟨N,0,none⟩) l.length l.length)=[N]:=rfl;rw[hblk]at hf2;refine rx ?_;refine Jc (i+1,ys++cs') Yhl ?_ Yhw;refine⟨rfl,rfl,rfl,by simp only;omega,by simp only[Sm];omega,hou2,?_,(hfu.Jb hf1').trans hf2 Yhs⟩;simp only;rw[SK hlt];refine Rws.app (hru.imp (fun x cs _ h=>(RD.old h hf1' Yhs).old hf2 (Je Yhs))) (Rws.one ?_);refine((RD.mono hx' (T:=N::rg w) (fun b hb=>.inl (Jk.2 ?_))).old hf2 (Je Yhs));rcases SC.1 hb with rfl|hb
 .omega
 .have:=Jk.1 hb;omega
theorem Jd2(l:List Ex)(sl:Value)(w:World)(S:List Nat)(hd:DR w S (.l (l.map exC)) sl)
 (H:∀x∈l,∀(cs:List Value) (u:World) (S:List Nat),RD u S (exC x) cs->Calls prog 141 #[.agg cs.toArray] u fun e u'=>∃cs',e=.returned (.agg cs'.toArray)/\RD u' (rg u) (exC x) cs'/\Fr [] u u'):
 Calls prog 182 #[sl,.func (.func 141) #[] #[]] w fun e w'=>∃sl',e=.returned sl'/\DR w' (rg w) (.l (l.map exC)) sl'/\Fr [] w w':=by
 have hbd:=hd.bound;have hl:(l.map exC).length=l.length:=Sr ..;obtain⟨ao,c,rfl,_⟩:=hd.slice;rw[hl]at hd ⊢;refine enter func182 rfl ntmps182 rfl ?_;by_cases h0:l.length=0
 .refine rx ?_;exact Yo
 refine rx ?_;refine Qh (k:=l.length) rfl rfl Yhn Yhv (fun w1 ho1 hf1 hs1=>?_);refine rx ?_;obtain⟨N,hN⟩:∃N,w.heap.size=N:=⟨_,rfl⟩;rw[hN]at ho1 hs1 ⊢;refine Jh 7 [6] (σ:=Nat×List Value) (fun st g u=>g 13=.slice ao l.length c/\g 14=iV l.length/\g 15=iV st.1/\st.1<=l.length/\st.2.length=st.1*7/\
  Own u 95 7 (.slice (some ⟨N,0,none⟩) l.length l.length) l.length (st.2++zeros [zI,.string .empty,zI,zS,zS,zS,zI] (l.length-st.1))/\Rws (fun x cs=>RD u (N::rg w) (exC x) cs) (l.take st.1) st.2/\Fr [N] w1 u)
  (fun st=>l.length-st.1) (0,[]) ⟨rfl,rfl,rfl,SL _,rfl,ho1,by simpa using Rws.nil,Fr.refl _ _⟩ ?_
 rintro⟨i,ys⟩ g u ⟨h13,h14,h15,hi,hys,hou,hru,hfu⟩;simp only at h15 hi hys hou hru;rw[Ja h13,Ja h14,Ja h15];have hF:Fr [] w u:=hf1.trans hfu Yht;by_cases hlt:i<l.length
 case neg=>
  refine Yeo ?_;have ei:i=l.length:=by omega
  subst ei;rw[DV,show zeros [zI,.string .empty,zI,zS,zS,zS,zI] 0=[] from rfl,Ce]at hou;refine⟨_,rfl,DR.ofTyped Jq Yhn ⟨ys,hou.src,fun ad n c e hm=>?_,?_⟩,hF⟩
  .simp only[Value.slice.injEq,Sj]at e;exact Yx
  .rw [Dk]at hru;exact Yz
 obtain⟨ad,cs,had,hr,hcx⟩:=DR.at Jq (hd.tr0 hF) hlt;subst had;have hlen:cs.length=7:=by rw[hr.len,Jq]
 refine Yew ?_;rintro _ u1 ⟨cs',rfl,hx',hf1'⟩;refine⟨_,rfl,?_⟩;have hlen':cs'.length=7:=by rw[hx'.len,Jq]
 have hou1:=hou.tr0 hf1';have hszu:=hfu.size;refine rx ?_;refine Qj (q:=i*7) (m:=7) (cs:=cs') hou1 rfl rfl rfl rfl hlen' (RD.one hx') Yhn (fun u2 hou2 hf2 hs2=>?_);rw[Qk hys rfl hlt]at hou2;have hblk:blks (.slice (some ⟨N,0,none⟩) l.length l.length)=[N]:=rfl;rw[hblk]at hf2;refine rx ?_;refine Jc (i+1,ys++cs') Yhl ?_ Yhw;refine⟨rfl,rfl,rfl,by simp only;omega,by simp only[Sm];omega,hou2,?_,(hfu.Jb hf1').trans hf2 Yhs⟩;simp only;rw[SK hlt];refine Rws.app (hru.imp (fun x cs _ h=>(RD.old h hf1' Yhs).old hf2 (Je Yhs))) (Rws.one ?_);refine((RD.mono hx' (T:=N::rg w) (fun b hb=>.inl (Jk.2 ?_))).old hf2 (Je Yhs));rcases SC.1 hb with rfl|hb
 .omega
 .have:=Jk.1 hb;omega
end
end Go.Proofs.YtggmccicdhnkgaaGreat
