/-
 The reference's parser:types,names.
-/
import Derived.Test.YtggmccicdhnkgaaGreatVQj
set_option linter.all false
set_option maxHeartbeats 64000000
namespace Go.Proofs.YtggmccicdhnkgaaGreat
open Go.Proofs.Tryz
open Go.Rf Go.RowKit
section
variable{S S':List Nat}{cs ys:List Value}{w w':World}
attribute [local irreducible] Code.wp wpList Exit.then Exit.inBlock bodyPost A Calls execOp Addr.add
theorem Jbr(z:List Value)(k:Nat):(bG z (k+1)).drop z.length=bG z k:=by simp[bG]
theorem Qk{z:List Value}{i n m:Nat}(hy:ys.length=i*m)(hz:z.length=m)(hi:i<n):(ys++bG z (n-i)).take (i*m)++cs++(ys++bG z (n-i)).drop (i*m+m)=ys++cs++bG z (n-(i+1)):=by
 have e:n-i=(n-(i+1))+1:=by omega
 rw[<-hy,EW,F5,Ci ab,e,CO,Eo,<-hz,Jbr]
theorem JjS:∀k∈rg w,k<w.heap.size:=fun k hk=>Jk.1 hk
theorem _root_.Go.Rf.Rws.ones{α:Type}{R:α->List Value->Prop}{l:List α}(h:∀x cs,R x cs->∀u∈cs,u.oneCell'=true)(hr:Rws R l ys):∀u∈ys,u.oneCell'=true:=by
 induction hr with
 |nil=>simp
 |cons h1 _ ih=>
  intro u hu;rcases SE.1 hu with hu|hu
  .exact h _ _ h1 u hu
  .exact ih u hu
theorem LG{x:ByteArray}(h:RD w S (JV x) cs):RD w' S' (JV x) cs:=by
 replace h:=RD.JI (x:=.string x) h;obtain⟨_,rfl,h⟩:=h;obtain rfl:=h.inv0;exact .cons (.c rfl) .nil
theorem Jii(l:List ByteArray)(s:Value)(u:World)(S:List Nat)(hd:DR u S (.l (l.map JV)) s):
 Calls prog 180 #[s] u fun e u'=>∃s',e=.returned s'/\DR u' (rg u) (.l (l.map JV)) s'/\Fr [] u u':=by
 have dx:=hd.bound;have hl:(l.map JV).length=l.length:=Sr ..;obtain⟨ao,c,rfl,_⟩:=hd.slice;rw[hl]at hd ⊢;obtain⟨ys,xK,py,lO⟩:=hd.typed;refine enter func180 rfl ntmps180 rfl ?_;by_cases h0:l.length=0
 .refine rx ?_;exact Yo
 refine rx ?_;refine Qr (fun u1 ef aj bh=>?_);refine rx ?_;have hlen:ys.length=l.length*1:=Rws.len (fun x cs h=>by rw[RD.len h,XE]) lO;refine JC ef rfl (xK.tr0 aj) rfl (by rw[hlen]) (Rws.ones (fun x cs h=>RD.one h) lO) dt ab (fun v u2 gu aq cu _=>?_);rw[Di,CO]at gu;refine bM ?_;refine⟨_,rfl,DR.ofTyped XE ab ⟨ys,gu.src,fun ad n c e hm=>?_,lO.imp (fun x cs _ h=>LG h)⟩,aj.trans aq oz⟩;exact Ybk
theorem JeK{x:Int}(h:RD w S (KI x) cs):RD w' S' (KI x) cs:=by
 replace h:=RD.JI (x:=iV x) h;obtain⟨_,rfl,h⟩:=h;obtain rfl:=h.inv0;exact .cons (.c rfl) .nil
theorem Jkg(l:List Int)(s:Value)(u:World)(S:List Nat)(hd:DR u S (.l (l.map KI)) s):
 Calls prog 183 #[s] u fun e u'=>∃s',e=.returned s'/\DR u' (rg u) (.l (l.map KI)) s'/\Fr [] u u':=by
 have dx:=hd.bound;have hl:(l.map KI).length=l.length:=Sr ..;obtain⟨ao,c,rfl,_⟩:=hd.slice;rw[hl]at hd ⊢;obtain⟨ys,xK,py,lO⟩:=hd.typed;refine enter func183 rfl ntmps183 rfl ?_;by_cases h0:l.length=0
 .refine rx ?_;exact Yo
 refine rx ?_;refine Qr (fun u1 ef aj bh=>?_);refine rx ?_;have hlen:ys.length=l.length*1:=Rws.len (fun x cs h=>by rw[RD.len h,Zq]) lO;refine JC ef rfl (xK.tr0 aj) rfl (by rw[hlen]) (Rws.ones (fun x cs h=>RD.one h) lO) dt ab (fun v u2 gu aq cu _=>?_);rw[Di,CO]at gu;refine bM ?_;refine⟨_,rfl,DR.ofTyped Zq ab ⟨ys,gu.src,fun ad n c e hm=>?_,lO.imp (fun x cs _ h=>JeK h)⟩,aj.trans aq oz⟩;exact Ybk
theorem Jb9{x:Cl}(h:RD w S (iw x) cs):RD w' S' (iw x) cs:=by
 replace h:=RD.JI (x:=.string x.cls) h;obtain⟨_,rfl,h⟩:=h;replace h:=RD.JI (x:=iV x.num) h;obtain⟨_,rfl,h⟩:=h;replace h:=RD.JI (x:=iV x.den) h;obtain⟨_,rfl,h⟩:=h;obtain rfl:=h.inv0;exact .cons (.c rfl) (.cons (.c rfl) (.cons (.c rfl) .nil))
theorem Jhx(l:List Cl)(s:Value)(u:World)(S:List Nat)(hd:DR u S (.l (l.map iw)) s):
 Calls prog 147 #[s] u fun e u'=>∃s',e=.returned s'/\DR u' (rg u) (.l (l.map iw)) s'/\Fr [] u u':=by
 have dx:=hd.bound;have hl:(l.map iw).length=l.length:=Sr ..;obtain⟨ao,c,rfl,_⟩:=hd.slice;rw[hl]at hd ⊢;obtain⟨ys,xK,py,lO⟩:=hd.typed;refine enter func147 rfl ntmps147 rfl ?_;by_cases h0:l.length=0
 .refine rx ?_;exact Yo
 refine rx ?_;refine Qr (fun u1 ef aj bh=>?_);refine rx ?_;have hlen:ys.length=l.length*3:=Rws.len (fun x cs h=>by rw[RD.len h,XV]) lO;refine JC ef rfl (xK.tr0 aj) rfl (by rw[hlen]) (Rws.ones (fun x cs h=>RD.one h) lO) dt ab (fun v u2 gu aq cu _=>?_);rw[Di,CO]at gu;refine bM ?_;refine⟨_,rfl,DR.ofTyped XV ab ⟨ys,gu.src,fun ad n c e hm=>?_,lO.imp (fun x cs _ h=>Jb9 h)⟩,aj.trans aq oz⟩;exact Ybk
theorem Jd1(l:List Ty)(sl:Value)(w:World)(S:List Nat)(hd:DR w S (.l (l.map cg)) sl)
 (H:∀x∈l,∀(cs:List Value) (u:World) (S:List Nat),RD u S (cg x) cs->Calls prog 140 #[.agg cs.toArray] u fun e u'=>∃bS,e=.returned (.agg bS.toArray)/\RD u' (rg u) (cg x) bS/\Fr [] u u'):
 Calls prog 179 #[sl,.func (.func 140) #[] #[]] w fun e w'=>∃j4,e=.returned j4/\DR w' (rg w) (.l (l.map cg)) j4/\Fr [] w w':=by
 have dx:=hd.bound;have hl:(l.map cg).length=l.length:=Sr ..;obtain⟨ao,c,rfl,_⟩:=hd.slice;rw[hl]at hd ⊢;refine enter func179 rfl ntmps179 rfl ?_;by_cases h0:l.length=0
 .refine rx ?_;exact Yo
 refine rx ?_;refine Qh (k:=l.length) rfl rfl ab dt (fun w1 ef aj bh=>?_);refine rx ?_;obtain⟨N,hN⟩:∃N,w.heap.size=N:=⟨_,rfl⟩;rw[hN]at ef bh ⊢;refine Jh 7 [6] (σ:=Nat×List Value) (fun st g u=>g 13=.slice ao l.length c/\g 14=iV l.length/\g 15=iV st.1/\st.1<=l.length/\st.2.length=st.1*3/\
  bx u 90 3 (.slice (some ⟨N,0,none⟩) l.length l.length) l.length (st.2++bG [zI,.string .empty,zS] (l.length-st.1))/\Rws (fun x cs=>RD u (N::rg w) (cg x) cs) (l.take st.1) st.2/\Fr [N] w1 u)
  (fun st=>l.length-st.1) (0,[]) ⟨rfl,rfl,rfl,SL _,rfl,ef,by simpa using Rws.nil,Fr.refl _ _⟩ ?_
 rintro⟨i,ys⟩ g u ⟨kD,js,jo,hi,jK,fp,fU,aY⟩;simp only at jo hi jK fp fU;rw[Ja kD,Ja js,Ja jo];have hF:Fr [] w u:=aj.trans aY aZ;by_cases aC:i<l.length
 case neg=>
  refine bM ?_;have ei:i=l.length:=by omega
  subst ei;rw[DV,show bG [zI,.string .empty,zS] 0=[] from rfl,Ce]at fp;refine⟨_,rfl,DR.ofTyped QT ab ⟨ys,fp.src,fun ad n c e hm=>?_,?_⟩,hF⟩
  .simp only[Value.slice.injEq,Sj]at e;exact Yx
  .rw [Dk]at fU;exact Yz
 obtain⟨ad,cs,bi,hr,qp⟩:=DR.at QT (hd.tr0 hF) aC;subst bi;have hlen:cs.length=3:=by rw[hr.len,QT]
 refine xb ?_;rintro _ u1 ⟨bS,rfl,iN,eh⟩;refine⟨_,rfl,?_⟩;have eJ:bS.length=3:=by rw[iN.len,QT]
 have iE:=fp.tr0 eh;have nE:=aY.size;refine rx ?_;refine Qj (q:=i*3) (m:=3) (cs:=bS) iE rfl rfl rfl rfl eJ (RD.one iN) ab (fun u2 fh aq cz=>?_);rw[Qk jK rfl aC]at fh;have hblk:ag (.slice (some ⟨N,0,none⟩) l.length l.length)=[N]:=rfl;rw[hblk]at aq;refine rx ?_;refine Jc (i+1,ys++bS) a6 ?_ eM;refine⟨rfl,rfl,rfl,by simp only;omega,by simp only[Sm];omega,fh,?_,(aY.Jb eh).trans aq ap⟩;simp only;rw[SK aC];refine Rws.app (fU.imp (fun x cs _ h=>(RD.old h eh ap).old aq (Je ap))) (Rws.one ?_);refine((RD.mono iN (T:=N::rg w) (fun b hb=>.inl (Jk.2 ?_))).old aq (Je ap));rcases SC.1 hb with rfl|hb
 .omega
 .have:=Jk.1 hb;omega
theorem Jd2(l:List Ex)(sl:Value)(w:World)(S:List Nat)(hd:DR w S (.l (l.map aU)) sl)
 (H:∀x∈l,∀(cs:List Value) (u:World) (S:List Nat),RD u S (aU x) cs->Calls prog 141 #[.agg cs.toArray] u fun e u'=>∃bS,e=.returned (.agg bS.toArray)/\RD u' (rg u) (aU x) bS/\Fr [] u u'):
 Calls prog 182 #[sl,.func (.func 141) #[] #[]] w fun e w'=>∃j4,e=.returned j4/\DR w' (rg w) (.l (l.map aU)) j4/\Fr [] w w':=by
 have dx:=hd.bound;have hl:(l.map aU).length=l.length:=Sr ..;obtain⟨ao,c,rfl,_⟩:=hd.slice;rw[hl]at hd ⊢;refine enter func182 rfl ntmps182 rfl ?_;by_cases h0:l.length=0
 .refine rx ?_;exact Yo
 refine rx ?_;refine Qh (k:=l.length) rfl rfl ab dt (fun w1 ef aj bh=>?_);refine rx ?_;obtain⟨N,hN⟩:∃N,w.heap.size=N:=⟨_,rfl⟩;rw[hN]at ef bh ⊢;refine Jh 7 [6] (σ:=Nat×List Value) (fun st g u=>g 13=.slice ao l.length c/\g 14=iV l.length/\g 15=iV st.1/\st.1<=l.length/\st.2.length=st.1*7/\
  bx u 95 7 (.slice (some ⟨N,0,none⟩) l.length l.length) l.length (st.2++bG [zI,.string .empty,zI,zS,zS,zS,zI] (l.length-st.1))/\Rws (fun x cs=>RD u (N::rg w) (aU x) cs) (l.take st.1) st.2/\Fr [N] w1 u)
  (fun st=>l.length-st.1) (0,[]) ⟨rfl,rfl,rfl,SL _,rfl,ef,by simpa using Rws.nil,Fr.refl _ _⟩ ?_
 rintro⟨i,ys⟩ g u ⟨kD,js,jo,hi,jK,fp,fU,aY⟩;simp only at jo hi jK fp fU;rw[Ja kD,Ja js,Ja jo];have hF:Fr [] w u:=aj.trans aY aZ;by_cases aC:i<l.length
 case neg=>
  refine bM ?_;have ei:i=l.length:=by omega
  subst ei;rw[DV,show bG [zI,.string .empty,zI,zS,zS,zS,zI] 0=[] from rfl,Ce]at fp;refine⟨_,rfl,DR.ofTyped Jq ab ⟨ys,fp.src,fun ad n c e hm=>?_,?_⟩,hF⟩
  .simp only[Value.slice.injEq,Sj]at e;exact Yx
  .rw [Dk]at fU;exact Yz
 obtain⟨ad,cs,bi,hr,qp⟩:=DR.at Jq (hd.tr0 hF) aC;subst bi;have hlen:cs.length=7:=by rw[hr.len,Jq]
 refine xb ?_;rintro _ u1 ⟨bS,rfl,iN,eh⟩;refine⟨_,rfl,?_⟩;have eJ:bS.length=7:=by rw[iN.len,Jq]
 have iE:=fp.tr0 eh;have nE:=aY.size;refine rx ?_;refine Qj (q:=i*7) (m:=7) (cs:=bS) iE rfl rfl rfl rfl eJ (RD.one iN) ab (fun u2 fh aq cz=>?_);rw[Qk jK rfl aC]at fh;have hblk:ag (.slice (some ⟨N,0,none⟩) l.length l.length)=[N]:=rfl;rw[hblk]at aq;refine rx ?_;refine Jc (i+1,ys++bS) a6 ?_ eM;refine⟨rfl,rfl,rfl,by simp only;omega,by simp only[Sm];omega,fh,?_,(aY.Jb eh).trans aq ap⟩;simp only;rw[SK aC];refine Rws.app (fU.imp (fun x cs _ h=>(RD.old h eh ap).old aq (Je ap))) (Rws.one ?_);refine((RD.mono iN (T:=N::rg w) (fun b hb=>.inl (Jk.2 ?_))).old aq (Je ap));rcases SC.1 hb with rfl|hb
 .omega
 .have:=Jk.1 hb;omega
end
section
attribute [local irreducible] Code.wp wpList Exit.then Exit.inBlock bodyPost A Calls execOp Addr.add
theorem Jjn(l:List Gn)(sl:Value)(w:World)(S:List Nat)(hd:DR w S (.l (l.map eX)) sl)
 (H:∀x∈l,∀(cs:List Value) (u:World) (S:List Nat),RD u S (eX x) cs->Calls prog 142 #[.agg cs.toArray] u fun e u'=>∃bS,e=.returned (.agg bS.toArray)/\RD u' (rg u) (eX x) bS/\Fr [] u u'):
 Calls prog 184 #[sl,.func (.func 142) #[] #[]] w fun e w'=>∃j4,e=.returned j4/\DR w' (rg w) (.l (l.map eX)) j4/\Fr [] w w':=by
 have dx:=hd.bound;have hl:(l.map eX).length=l.length:=Sr ..;obtain⟨ao,c,rfl,_⟩:=hd.slice;rw[hl]at hd ⊢;refine enter func184 rfl ntmps184 rfl ?_;by_cases h0:l.length=0
 .refine rx ?_;exact Yo
 refine rx ?_;refine Qh (k:=l.length) rfl rfl ab dt (fun w1 ef aj bh=>?_);refine rx ?_;obtain⟨N,hN⟩:∃N,w.heap.size=N:=⟨_,rfl⟩;rw[hN]at ef bh ⊢;refine Jh 7 [6] (σ:=Nat×List Value) (fun st g u=>g 13=.slice ao l.length c/\g 14=iV l.length/\g 15=iV st.1/\st.1<=l.length/\st.2.length=st.1*6/\
  bx u 98 6 (.slice (some ⟨N,0,none⟩) l.length l.length) l.length (st.2++bG [zI,.string .empty,zS,zS,zS,zI] (l.length-st.1))/\Rws (fun x cs=>RD u (N::rg w) (eX x) cs) (l.take st.1) st.2/\Fr [N] w1 u)
  (fun st=>l.length-st.1) (0,[]) ⟨rfl,rfl,rfl,SL _,rfl,ef,by simpa using Rws.nil,Fr.refl _ _⟩ ?_
 rintro⟨i,ys⟩ g u ⟨kD,js,jo,hi,jK,fp,fU,aY⟩;simp only at jo hi jK fp fU;rw[Ja kD,Ja js,Ja jo];have hF:Fr [] w u:=aj.trans aY aZ;by_cases aC:i<l.length
 case neg=>
  refine bM ?_;have ei:i=l.length:=by omega
  subst ei;rw[DV,show bG [zI,.string .empty,zS,zS,zS,zI] 0=[] from rfl,Ce]at fp;refine⟨_,rfl,DR.ofTyped KG ab ⟨ys,fp.src,fun ad n c e hm=>?_,?_⟩,hF⟩
  .simp only[Value.slice.injEq,Sj]at e;exact Yx
  .rw [Dk]at fU;exact Yz
 obtain⟨ad,cs,bi,hr,qp⟩:=DR.at KG (hd.tr0 hF) aC;subst bi;have hlen:cs.length=6:=by rw[hr.len,KG]
 refine xb ?_;rintro _ u1 ⟨bS,rfl,iN,eh⟩;refine⟨_,rfl,?_⟩;have eJ:bS.length=6:=by rw[iN.len,KG]
 have iE:=fp.tr0 eh;have nE:=aY.size;refine rx ?_;refine Qj (q:=i*6) (m:=6) (cs:=bS) iE rfl rfl rfl rfl eJ (RD.one iN) ab (fun u2 fh aq cz=>?_);rw[Qk jK rfl aC]at fh;have hblk:ag (.slice (some ⟨N,0,none⟩) l.length l.length)=[N]:=rfl;rw[hblk]at aq;refine rx ?_;refine Jc (i+1,ys++bS) a6 ?_ eM;refine⟨rfl,rfl,rfl,by simp only;omega,by simp only[Sm];omega,fh,?_,(aY.Jb eh).trans aq ap⟩;simp only;rw[SK aC];refine Rws.app (fU.imp (fun x cs _ h=>(RD.old h eh ap).old aq (Je ap))) (Rws.one ?_);refine((RD.mono iN (T:=N::rg w) (fun b hb=>.inl (Jk.2 ?_))).old aq (Je ap));rcases SC.1 hb with rfl|hb
 .omega
 .have:=Jk.1 hb;omega
theorem JhV(l:List Ct)(sl:Value)(w:World)(S:List Nat)(hd:DR w S (.l (l.map iP)) sl)
 (H:∀x∈l,∀(cs:List Value) (u:World) (S:List Nat),RD u S (iP x) cs->Calls prog 137 #[.agg cs.toArray] u fun e u'=>∃bS,e=.returned (.agg bS.toArray)/\RD u' (rg u) (iP x) bS/\Fr [] u u'):
 Calls prog 136 #[sl,.func (.func 137) #[] #[]] w fun e w'=>∃j4,e=.returned j4/\DR w' (rg w) (.l (l.map iP)) j4/\Fr [] w w':=by
 have dx:=hd.bound;have hl:(l.map iP).length=l.length:=Sr ..;obtain⟨ao,c,rfl,_⟩:=hd.slice;rw[hl]at hd ⊢;refine enter func136 rfl ntmps136 rfl ?_;by_cases h0:l.length=0
 .refine rx ?_;exact Yo
 refine rx ?_;refine Qh (k:=l.length) rfl rfl ab dt (fun w1 ef aj bh=>?_);refine rx ?_;obtain⟨N,hN⟩:∃N,w.heap.size=N:=⟨_,rfl⟩;rw[hN]at ef bh ⊢;refine Jh 7 [6] (σ:=Nat×List Value) (fun st g u=>g 13=.slice ao l.length c/\g 14=iV l.length/\g 15=iV st.1/\st.1<=l.length/\st.2.length=st.1*2/\
  bx u 219 2 (.slice (some ⟨N,0,none⟩) l.length l.length) l.length (st.2++bG [.string .empty,zS] (l.length-st.1))/\Rws (fun x cs=>RD u (N::rg w) (iP x) cs) (l.take st.1) st.2/\Fr [N] w1 u)
  (fun st=>l.length-st.1) (0,[]) ⟨rfl,rfl,rfl,SL _,rfl,ef,by simpa using Rws.nil,Fr.refl _ _⟩ ?_
 rintro⟨i,ys⟩ g u ⟨kD,js,jo,hi,jK,fp,fU,aY⟩;simp only at jo hi jK fp fU;rw[Ja kD,Ja js,Ja jo];have hF:Fr [] w u:=aj.trans aY aZ;by_cases aC:i<l.length
 case neg=>
  refine bM ?_;have ei:i=l.length:=by omega
  subst ei;rw[DV,show bG [.string .empty,zS] 0=[] from rfl,Ce]at fp;refine⟨_,rfl,DR.ofTyped VU ab ⟨ys,fp.src,fun ad n c e hm=>?_,?_⟩,hF⟩
  .simp only[Value.slice.injEq,Sj]at e;exact Yx
  .rw [Dk]at fU;exact Yz
 obtain⟨ad,cs,bi,hr,qp⟩:=DR.at VU (hd.tr0 hF) aC;subst bi;have hlen:cs.length=2:=by rw[hr.len,VU]
 refine xb ?_;rintro _ u1 ⟨bS,rfl,iN,eh⟩;refine⟨_,rfl,?_⟩;have eJ:bS.length=2:=by rw[iN.len,VU]
 have iE:=fp.tr0 eh;have nE:=aY.size;refine rx ?_;refine Qj (q:=i*2) (m:=2) (cs:=bS) iE rfl rfl rfl rfl eJ (RD.one iN) ab (fun u2 fh aq cz=>?_);rw[Qk jK rfl aC]at fh;have hblk:ag (.slice (some ⟨N,0,none⟩) l.length l.length)=[N]:=rfl;rw[hblk]at aq;refine rx ?_;refine Jc (i+1,ys++bS) a6 ?_ eM;refine⟨rfl,rfl,rfl,by simp only;omega,by simp only[Sm];omega,fh,?_,(aY.Jb eh).trans aq ap⟩;simp only;rw[SK aC];refine Rws.app (fU.imp (fun x cs _ h=>(RD.old h eh ap).old aq (Je ap))) (Rws.one ?_);refine((RD.mono iN (T:=N::rg w) (fun b hb=>.inl (Jk.2 ?_))).old aq (Je ap));rcases SC.1 hb with rfl|hb
 .omega
 .have:=Jk.1 hb;omega
theorem Jcr(l:List Pm)(sl:Value)(w:World)(S:List Nat)(hd:DR w S (.l (l.map eK)) sl)
 (H:∀x∈l,∀(cs:List Value) (u:World) (S:List Nat),RD u S (eK x) cs->Calls prog 139 #[.agg cs.toArray] u fun e u'=>∃bS,e=.returned (.agg bS.toArray)/\RD u' (rg u) (eK x) bS/\Fr [] u u'):
 Calls prog 138 #[sl,.func (.func 139) #[] #[]] w fun e w'=>∃j4,e=.returned j4/\DR w' (rg w) (.l (l.map eK)) j4/\Fr [] w w':=by
 have dx:=hd.bound;have hl:(l.map eK).length=l.length:=Sr ..;obtain⟨ao,c,rfl,_⟩:=hd.slice;rw[hl]at hd ⊢;refine enter func138 rfl ntmps138 rfl ?_;by_cases h0:l.length=0
 .refine rx ?_;exact Yo
 refine rx ?_;refine Qh (k:=l.length) rfl rfl ab dt (fun w1 ef aj bh=>?_);refine rx ?_;obtain⟨N,hN⟩:∃N,w.heap.size=N:=⟨_,rfl⟩;rw[hN]at ef bh ⊢;refine Jh 7 [6] (σ:=Nat×List Value) (fun st g u=>g 13=.slice ao l.length c/\g 14=iV l.length/\g 15=iV st.1/\st.1<=l.length/\st.2.length=st.1*4/\
  bx u 223 4 (.slice (some ⟨N,0,none⟩) l.length l.length) l.length (st.2++bG [.string .empty,zI,.string .empty,zS] (l.length-st.1))/\Rws (fun x cs=>RD u (N::rg w) (eK x) cs) (l.take st.1) st.2/\Fr [N] w1 u)
  (fun st=>l.length-st.1) (0,[]) ⟨rfl,rfl,rfl,SL _,rfl,ef,by simpa using Rws.nil,Fr.refl _ _⟩ ?_
 rintro⟨i,ys⟩ g u ⟨kD,js,jo,hi,jK,fp,fU,aY⟩;simp only at jo hi jK fp fU;rw[Ja kD,Ja js,Ja jo];have hF:Fr [] w u:=aj.trans aY aZ;by_cases aC:i<l.length
 case neg=>
  refine bM ?_;have ei:i=l.length:=by omega
  subst ei;rw[DV,show bG [.string .empty,zI,.string .empty,zS] 0=[] from rfl,Ce]at fp;refine⟨_,rfl,DR.ofTyped Xn ab ⟨ys,fp.src,fun ad n c e hm=>?_,?_⟩,hF⟩
  .simp only[Value.slice.injEq,Sj]at e;exact Yx
  .rw [Dk]at fU;exact Yz
 obtain⟨ad,cs,bi,hr,qp⟩:=DR.at Xn (hd.tr0 hF) aC;subst bi;have hlen:cs.length=4:=by rw[hr.len,Xn]
 refine xb ?_;rintro _ u1 ⟨bS,rfl,iN,eh⟩;refine⟨_,rfl,?_⟩;have eJ:bS.length=4:=by rw[iN.len,Xn]
 have iE:=fp.tr0 eh;have nE:=aY.size;refine rx ?_;refine Qj (q:=i*4) (m:=4) (cs:=bS) iE rfl rfl rfl rfl eJ (RD.one iN) ab (fun u2 fh aq cz=>?_);rw[Qk jK rfl aC]at fh;have hblk:ag (.slice (some ⟨N,0,none⟩) l.length l.length)=[N]:=rfl;rw[hblk]at aq;refine rx ?_;refine Jc (i+1,ys++bS) a6 ?_ eM;refine⟨rfl,rfl,rfl,by simp only;omega,by simp only[Sm];omega,fh,?_,(aY.Jb eh).trans aq ap⟩;simp only;rw[SK aC];refine Rws.app (fU.imp (fun x cs _ h=>(RD.old h eh ap).old aq (Je ap))) (Rws.one ?_);refine((RD.mono iN (T:=N::rg w) (fun b hb=>.inl (Jk.2 ?_))).old aq (Je ap));rcases SC.1 hb with rfl|hb
 .omega
 .have:=Jk.1 hb;omega
theorem Jd3(l:List Dw)(sl:Value)(w:World)(S:List Nat)(hd:DR w S (.l (l.map fj)) sl)
 (H:∀x∈l,∀(cs:List Value) (u:World) (S:List Nat),RD u S (fj x) cs->Calls prog 144 #[.agg cs.toArray] u fun e u'=>∃bS,e=.returned (.agg bS.toArray)/\RD u' (rg u) (fj x) bS/\Fr [] u u'):
 Calls prog 143 #[sl,.func (.func 144) #[] #[]] w fun e w'=>∃j4,e=.returned j4/\DR w' (rg w) (.l (l.map fj)) j4/\Fr [] w w':=by
 have dx:=hd.bound;have hl:(l.map fj).length=l.length:=Sr ..;obtain⟨ao,c,rfl,_⟩:=hd.slice;rw[hl]at hd ⊢;refine enter func143 rfl ntmps143 rfl ?_;by_cases h0:l.length=0
 .refine rx ?_;exact Yo
 refine rx ?_;refine Qh (k:=l.length) rfl rfl ab dt (fun w1 ef aj bh=>?_);refine rx ?_;obtain⟨N,hN⟩:∃N,w.heap.size=N:=⟨_,rfl⟩;rw[hN]at ef bh ⊢;refine Jh 7 [6] (σ:=Nat×List Value) (fun st g u=>g 13=.slice ao l.length c/\g 14=iV l.length/\g 15=iV st.1/\st.1<=l.length/\st.2.length=st.1*11/\
  bx u 230 11 (.slice (some ⟨N,0,none⟩) l.length l.length) l.length (st.2++bG [.string .empty,zI,.string .empty,zS,zI,.string .empty,zS,zS,zS,zI,.bool false] (l.length-st.1))/\Rws (fun x cs=>RD u (N::rg w) (fj x) cs) (l.take st.1) st.2/\Fr [N] w1 u)
  (fun st=>l.length-st.1) (0,[]) ⟨rfl,rfl,rfl,SL _,rfl,ef,by simpa using Rws.nil,Fr.refl _ _⟩ ?_
 rintro⟨i,ys⟩ g u ⟨kD,js,jo,hi,jK,fp,fU,aY⟩;simp only at jo hi jK fp fU;rw[Ja kD,Ja js,Ja jo];have hF:Fr [] w u:=aj.trans aY aZ;by_cases aC:i<l.length
 case neg=>
  refine bM ?_;have ei:i=l.length:=by omega
  subst ei;rw[DV,show bG [.string .empty,zI,.string .empty,zS,zI,.string .empty,zS,zS,zS,zI,.bool false] 0=[] from rfl,Ce]at fp;refine⟨_,rfl,DR.ofTyped VQ ab ⟨ys,fp.src,fun ad n c e hm=>?_,?_⟩,hF⟩
  .simp only[Value.slice.injEq,Sj]at e;exact Yx
  .rw [Dk]at fU;exact Yz
 obtain⟨ad,cs,bi,hr,qp⟩:=DR.at VQ (hd.tr0 hF) aC;subst bi;have hlen:cs.length=11:=by rw[hr.len,VQ]
 refine xb ?_;rintro _ u1 ⟨bS,rfl,iN,eh⟩;refine⟨_,rfl,?_⟩;have eJ:bS.length=11:=by rw[iN.len,VQ]
 have iE:=fp.tr0 eh;have nE:=aY.size;refine rx ?_;refine Qj (q:=i*11) (m:=11) (cs:=bS) iE rfl rfl rfl rfl eJ (RD.one iN) ab (fun u2 fh aq cz=>?_);rw[Qk jK rfl aC]at fh;have hblk:ag (.slice (some ⟨N,0,none⟩) l.length l.length)=[N]:=rfl;rw[hblk]at aq;refine rx ?_;refine Jc (i+1,ys++bS) a6 ?_ eM;refine⟨rfl,rfl,rfl,by simp only;omega,by simp only[Sm];omega,fh,?_,(aY.Jb eh).trans aq ap⟩;simp only;rw[SK aC];refine Rws.app (fU.imp (fun x cs _ h=>(RD.old h eh ap).old aq (Je ap))) (Rws.one ?_);refine((RD.mono iN (T:=N::rg w) (fun b hb=>.inl (Jk.2 ?_))).old aq (Je ap));rcases SC.1 hb with rfl|hb
 .omega
 .have:=Jk.1 hb;omega
theorem Jct(l:List Ck)(sl:Value)(w:World)(S:List Nat)(hd:DR w S (.l (l.map dM)) sl)
 (H:∀x∈l,∀(cs:List Value) (u:World) (S:List Nat),RD u S (dM x) cs->Calls prog 146 #[.agg cs.toArray] u fun e u'=>∃bS,e=.returned (.agg bS.toArray)/\RD u' (rg u) (dM x) bS/\Fr [] u u'):
 Calls prog 145 #[sl,.func (.func 146) #[] #[]] w fun e w'=>∃j4,e=.returned j4/\DR w' (rg w) (.l (l.map dM)) j4/\Fr [] w w':=by
 have dx:=hd.bound;have hl:(l.map dM).length=l.length:=Sr ..;obtain⟨ao,c,rfl,_⟩:=hd.slice;rw[hl]at hd ⊢;refine enter func145 rfl ntmps145 rfl ?_;by_cases h0:l.length=0
 .refine rx ?_;exact Yo
 refine rx ?_;refine Qh (k:=l.length) rfl rfl ab dt (fun w1 ef aj bh=>?_);refine rx ?_;obtain⟨N,hN⟩:∃N,w.heap.size=N:=⟨_,rfl⟩;rw[hN]at ef bh ⊢;refine Jh 7 [6] (σ:=Nat×List Value) (fun st g u=>g 13=.slice ao l.length c/\g 14=iV l.length/\g 15=iV st.1/\st.1<=l.length/\st.2.length=st.1*8/\
  bx u 132 8 (.slice (some ⟨N,0,none⟩) l.length l.length) l.length (st.2++bG [.string .empty,zI,.string .empty,zI,zS,zS,zS,zI] (l.length-st.1))/\Rws (fun x cs=>RD u (N::rg w) (dM x) cs) (l.take st.1) st.2/\Fr [N] w1 u)
  (fun st=>l.length-st.1) (0,[]) ⟨rfl,rfl,rfl,SL _,rfl,ef,by simpa using Rws.nil,Fr.refl _ _⟩ ?_
 rintro⟨i,ys⟩ g u ⟨kD,js,jo,hi,jK,fp,fU,aY⟩;simp only at jo hi jK fp fU;rw[Ja kD,Ja js,Ja jo];have hF:Fr [] w u:=aj.trans aY aZ;by_cases aC:i<l.length
 case neg=>
  refine bM ?_;have ei:i=l.length:=by omega
  subst ei;rw[DV,show bG [.string .empty,zI,.string .empty,zI,zS,zS,zS,zI] 0=[] from rfl,Ce]at fp;refine⟨_,rfl,DR.ofTyped QM ab ⟨ys,fp.src,fun ad n c e hm=>?_,?_⟩,hF⟩
  .simp only[Value.slice.injEq,Sj]at e;exact Yx
  .rw [Dk]at fU;exact Yz
 obtain⟨ad,cs,bi,hr,qp⟩:=DR.at QM (hd.tr0 hF) aC;subst bi;have hlen:cs.length=8:=by rw[hr.len,QM]
 refine xb ?_;rintro _ u1 ⟨bS,rfl,iN,eh⟩;refine⟨_,rfl,?_⟩;have eJ:bS.length=8:=by rw[iN.len,QM]
 have iE:=fp.tr0 eh;have nE:=aY.size;refine rx ?_;refine Qj (q:=i*8) (m:=8) (cs:=bS) iE rfl rfl rfl rfl eJ (RD.one iN) ab (fun u2 fh aq cz=>?_);rw[Qk jK rfl aC]at fh;have hblk:ag (.slice (some ⟨N,0,none⟩) l.length l.length)=[N]:=rfl;rw[hblk]at aq;refine rx ?_;refine Jc (i+1,ys++bS) a6 ?_ eM;refine⟨rfl,rfl,rfl,by simp only;omega,by simp only[Sm];omega,fh,?_,(aY.Jb eh).trans aq ap⟩;simp only;rw[SK aC];refine Rws.app (fU.imp (fun x cs _ h=>(RD.old h eh ap).old aq (Je ap))) (Rws.one ?_);refine((RD.mono iN (T:=N::rg w) (fun b hb=>.inl (Jk.2 ?_))).old aq (Je ap));rcases SC.1 hb with rfl|hb
 .omega
 .have:=Jk.1 hb;omega
theorem Jjo(l:List Cm)(sl:Value)(w:World)(S:List Nat)(A2:l.length<=1000000)(hd:DR w S (.l (l.map gf)) sl)
 (H:∀x∈l,∀(cs:List Value) (u:World) (S:List Nat),RD u S (gf x) cs->Calls prog 149 #[.agg cs.toArray] u fun e u'=>∃bS,e=.returned (.agg bS.toArray)/\RD u' (rg u) (gf x) bS/\Fr [] u u'):
 Calls prog 148 #[sl,.func (.func 149) #[] #[]] w fun e w'=>∃j4,e=.returned j4/\DR w' (rg w) (.l (l.map gf)) j4/\Fr [] w w':=by
 have dx:=hd.bound;have hl:(l.map gf).length=l.length:=Sr ..;obtain⟨ao,c,rfl,_⟩:=hd.slice;rw[hl]at hd ⊢;refine enter func148 rfl ntmps148 rfl ?_;by_cases h0:l.length=0
 .refine rx ?_;exact Yo
 refine rx ?_;refine Qh (k:=l.length) rfl rfl ab dt (fun w1 ef aj bh=>?_);refine rx ?_;obtain⟨N,hN⟩:∃N,w.heap.size=N:=⟨_,rfl⟩;rw[hN]at ef bh ⊢;refine Jh 7 [6] (σ:=Nat×List Value) (fun st g u=>g 13=.slice ao l.length c/\g 14=iV l.length/\g 15=iV st.1/\st.1<=l.length/\st.2.length=st.1*23/\
  bx u 176 23 (.slice (some ⟨N,0,none⟩) l.length l.length) l.length (st.2++bG [.string .empty,zS,zI,.string .empty,zI,zS,zS,zS,zI,zI,.string .empty,zI,zS,zS,zS,zI,zI,.string .empty,zI,zS,zS,zS,zI] (l.length-st.1))/\Rws (fun x cs=>RD u (N::rg w) (gf x) cs) (l.take st.1) st.2/\Fr [N] w1 u)
  (fun st=>l.length-st.1) (0,[]) ⟨rfl,rfl,rfl,SL _,rfl,ef,by simpa using Rws.nil,Fr.refl _ _⟩ ?_
 rintro⟨i,ys⟩ g u ⟨kD,js,jo,hi,jK,fp,fU,aY⟩;simp only at jo hi jK fp fU;rw[Ja kD,Ja js,Ja jo];have hF:Fr [] w u:=aj.trans aY aZ;by_cases aC:i<l.length
 case neg=>
  refine bM ?_;have ei:i=l.length:=by omega
  subst ei;rw[DV,show bG [.string .empty,zS,zI,.string .empty,zI,zS,zS,zS,zI,zI,.string .empty,zI,zS,zS,zS,zI,zI,.string .empty,zI,zS,zS,zS,zI] 0=[] from rfl,Ce]at fp;refine⟨_,rfl,DR.ofTyped WU ab ⟨ys,fp.src,fun ad n c e hm=>?_,?_⟩,hF⟩
  .simp only[Value.slice.injEq,Sj]at e;exact Yx
  .rw [Dk]at fU;exact Yz
 obtain⟨ad,cs,bi,hr,qp⟩:=DR.at WU (hd.tr0 hF) aC;subst bi;have hlen:cs.length=23:=by rw[hr.len,WU]
 refine xb ?_;rintro _ u1 ⟨bS,rfl,iN,eh⟩;refine⟨_,rfl,?_⟩;have eJ:bS.length=23:=by rw[iN.len,WU]
 have iE:=fp.tr0 eh;have nE:=aY.size;refine rx ?_;refine Qj (q:=i*23) (m:=23) (cs:=bS) iE rfl rfl rfl rfl eJ (RD.one iN) ab (fun u2 fh aq cz=>?_);rw[Qk jK rfl aC]at fh;have hblk:ag (.slice (some ⟨N,0,none⟩) l.length l.length)=[N]:=rfl;rw[hblk]at aq;refine rx ?_;refine Jc (i+1,ys++bS) a6 ?_ eM;refine⟨rfl,rfl,rfl,by simp only;omega,by simp only[Sm];omega,fh,?_,(aY.Jb eh).trans aq ap⟩;simp only;rw[SK aC];refine Rws.app (fU.imp (fun x cs _ h=>(RD.old h eh ap).old aq (Je ap))) (Rws.one ?_);refine((RD.mono iN (T:=N::rg w) (fun b hb=>.inl (Jk.2 ?_))).old aq (Je ap));rcases SC.1 hb with rfl|hb
 .omega
 .have:=Jk.1 hb;omega
theorem Jkp(l:List Rf.Op)(sl:Value)(w:World)(S:List Nat)(hd:DR w S (.l (l.map fV)) sl)
 (H:∀x∈l,∀(cs:List Value) (u:World) (S:List Nat),RD u S (fV x) cs->Calls prog 151 #[.agg cs.toArray] u fun e u'=>∃bS,e=.returned (.agg bS.toArray)/\RD u' (rg u) (fV x) bS/\Fr [] u u'):
 Calls prog 150 #[sl,.func (.func 151) #[] #[]] w fun e w'=>∃j4,e=.returned j4/\DR w' (rg w) (.l (l.map fV)) j4/\Fr [] w w':=by
 have dx:=hd.bound;have hl:(l.map fV).length=l.length:=Sr ..;obtain⟨ao,c,rfl,_⟩:=hd.slice;rw[hl]at hd ⊢;refine enter func150 rfl ntmps150 rfl ?_;by_cases h0:l.length=0
 .refine rx ?_;exact Yo
 refine rx ?_;refine Qh (k:=l.length) rfl rfl ab dt (fun w1 ef aj bh=>?_);refine rx ?_;obtain⟨N,hN⟩:∃N,w.heap.size=N:=⟨_,rfl⟩;rw[hN]at ef bh ⊢;refine Jh 7 [6] (σ:=Nat×List Value) (fun st g u=>g 13=.slice ao l.length c/\g 14=iV l.length/\g 15=iV st.1/\st.1<=l.length/\st.2.length=st.1*3/\
  bx u 179 3 (.slice (some ⟨N,0,none⟩) l.length l.length) l.length (st.2++bG [.string .empty,zS,zS] (l.length-st.1))/\Rws (fun x cs=>RD u (N::rg w) (fV x) cs) (l.take st.1) st.2/\Fr [N] w1 u)
  (fun st=>l.length-st.1) (0,[]) ⟨rfl,rfl,rfl,SL _,rfl,ef,by simpa using Rws.nil,Fr.refl _ _⟩ ?_
 rintro⟨i,ys⟩ g u ⟨kD,js,jo,hi,jK,fp,fU,aY⟩;simp only at jo hi jK fp fU;rw[Ja kD,Ja js,Ja jo];have hF:Fr [] w u:=aj.trans aY aZ;by_cases aC:i<l.length
 case neg=>
  refine bM ?_;have ei:i=l.length:=by omega
  subst ei;rw[DV,show bG [.string .empty,zS,zS] 0=[] from rfl,Ce]at fp;refine⟨_,rfl,DR.ofTyped QX ab ⟨ys,fp.src,fun ad n c e hm=>?_,?_⟩,hF⟩
  .simp only[Value.slice.injEq,Sj]at e;exact Yx
  .rw [Dk]at fU;exact Yz
 obtain⟨ad,cs,bi,hr,qp⟩:=DR.at QX (hd.tr0 hF) aC;subst bi;have hlen:cs.length=3:=by rw[hr.len,QX]
 refine xb ?_;rintro _ u1 ⟨bS,rfl,iN,eh⟩;refine⟨_,rfl,?_⟩;have eJ:bS.length=3:=by rw[iN.len,QX]
 have iE:=fp.tr0 eh;have nE:=aY.size;refine rx ?_;refine Qj (q:=i*3) (m:=3) (cs:=bS) iE rfl rfl rfl rfl eJ (RD.one iN) ab (fun u2 fh aq cz=>?_);rw[Qk jK rfl aC]at fh;have hblk:ag (.slice (some ⟨N,0,none⟩) l.length l.length)=[N]:=rfl;rw[hblk]at aq;refine rx ?_;refine Jc (i+1,ys++bS) a6 ?_ eM;refine⟨rfl,rfl,rfl,by simp only;omega,by simp only[Sm];omega,fh,?_,(aY.Jb eh).trans aq ap⟩;simp only;rw[SK aC];refine Rws.app (fU.imp (fun x cs _ h=>(RD.old h eh ap).old aq (Je ap))) (Rws.one ?_);refine((RD.mono iN (T:=N::rg w) (fun b hb=>.inl (Jk.2 ?_))).old aq (Je ap));rcases SC.1 hb with rfl|hb
 .omega
 .have:=Jk.1 hb;omega
theorem Jjq(l:List Ac)(sl:Value)(w:World)(S:List Nat)(hd:DR w S (.l (l.map jt)) sl)
 (H:∀x∈l,∀(cs:List Value) (u:World) (S:List Nat),RD u S (jt x) cs->Calls prog 186 #[.agg cs.toArray] u fun e u'=>∃bS,e=.returned (.agg bS.toArray)/\RD u' (rg u) (jt x) bS/\Fr [] u u'):
 Calls prog 185 #[sl,.func (.func 186) #[] #[]] w fun e w'=>∃j4,e=.returned j4/\DR w' (rg w) (.l (l.map jt)) j4/\Fr [] w w':=by
 have dx:=hd.bound;have hl:(l.map jt).length=l.length:=Sr ..;obtain⟨ao,c,rfl,_⟩:=hd.slice;rw[hl]at hd ⊢;refine enter func185 rfl ntmps185 rfl ?_;by_cases h0:l.length=0
 .refine rx ?_;exact Yo
 refine rx ?_;refine Qh (k:=l.length) rfl rfl ab dt (fun w1 ef aj bh=>?_);refine rx ?_;obtain⟨N,hN⟩:∃N,w.heap.size=N:=⟨_,rfl⟩;rw[hN]at ef bh ⊢;refine Jh 7 [6] (σ:=Nat×List Value) (fun st g u=>g 13=.slice ao l.length c/\g 14=iV l.length/\g 15=iV st.1/\st.1<=l.length/\st.2.length=st.1*14/\
  bx u 181 14 (.slice (some ⟨N,0,none⟩) l.length l.length) l.length (st.2++bG [zI,.string .empty,zI,zS,zS,zS,zI,zI,.string .empty,zI,zS,zS,zS,zI] (l.length-st.1))/\Rws (fun x cs=>RD u (N::rg w) (jt x) cs) (l.take st.1) st.2/\Fr [N] w1 u)
  (fun st=>l.length-st.1) (0,[]) ⟨rfl,rfl,rfl,SL _,rfl,ef,by simpa using Rws.nil,Fr.refl _ _⟩ ?_
 rintro⟨i,ys⟩ g u ⟨kD,js,jo,hi,jK,fp,fU,aY⟩;simp only at jo hi jK fp fU;rw[Ja kD,Ja js,Ja jo];have hF:Fr [] w u:=aj.trans aY aZ;by_cases aC:i<l.length
 case neg=>
  refine bM ?_;have ei:i=l.length:=by omega
  subst ei;rw[DV,show bG [zI,.string .empty,zI,zS,zS,zS,zI,zI,.string .empty,zI,zS,zS,zS,zI] 0=[] from rfl,Ce]at fp;refine⟨_,rfl,DR.ofTyped Wn ab ⟨ys,fp.src,fun ad n c e hm=>?_,?_⟩,hF⟩
  .simp only[Value.slice.injEq,Sj]at e;exact Yx
  .rw [Dk]at fU;exact Yz
 obtain⟨ad,cs,bi,hr,qp⟩:=DR.at Wn (hd.tr0 hF) aC;subst bi;have hlen:cs.length=14:=by rw[hr.len,Wn]
 refine xb ?_;rintro _ u1 ⟨bS,rfl,iN,eh⟩;refine⟨_,rfl,?_⟩;have eJ:bS.length=14:=by rw[iN.len,Wn]
 have iE:=fp.tr0 eh;have nE:=aY.size;refine rx ?_;refine Qj (q:=i*14) (m:=14) (cs:=bS) iE rfl rfl rfl rfl eJ (RD.one iN) ab (fun u2 fh aq cz=>?_);rw[Qk jK rfl aC]at fh;have hblk:ag (.slice (some ⟨N,0,none⟩) l.length l.length)=[N]:=rfl;rw[hblk]at aq;refine rx ?_;refine Jc (i+1,ys++bS) a6 ?_ eM;refine⟨rfl,rfl,rfl,by simp only;omega,by simp only[Sm];omega,fh,?_,(aY.Jb eh).trans aq ap⟩;simp only;rw[SK aC];refine Rws.app (fU.imp (fun x cs _ h=>(RD.old h eh ap).old aq (Je ap))) (Rws.one ?_);refine((RD.mono iN (T:=N::rg w) (fun b hb=>.inl (Jk.2 ?_))).old aq (Je ap));rcases SC.1 hb with rfl|hb
 .omega
 .have:=Jk.1 hb;omega
theorem Jjt{w:World}{a:Addr}{v:Value}{l:List Value}(h:Cells w a (v::l)):w.cell? a=some v:=by
 exact Ydb
theorem JhX(l:List (List ByteArray))(sl:Value)(w:World)(S:List Nat)(hd:DR w S (.l (l.map JD)) sl)
 (H:∀x∈l,∀(cs:List Value) (u:World) (S:List Nat),RD u S (JD x) cs->Calls prog 180 #[cs.headD undef] u fun e u'=>∃v',e=.returned v'/\RD u' (rg u) (JD x) [v']/\Fr [] u u'):
 Calls prog 181 #[sl,.func (.func 180) #[] #[]] w fun e w'=>∃j4,e=.returned j4/\DR w' (rg w) (.l (l.map JD)) j4/\Fr [] w w':=by
 have dx:=hd.bound;have hl:(l.map JD).length=l.length:=Sr ..;obtain⟨ao,c,rfl,_⟩:=hd.slice;rw[hl]at hd ⊢;refine enter func181 rfl ntmps181 rfl ?_;by_cases h0:l.length=0
 .refine rx ?_;exact Yo
 refine rx ?_;refine Qh (k:=l.length) rfl rfl ab dt (fun w1 ef aj bh=>?_);refine rx ?_;obtain⟨N,hN⟩:∃N,w.heap.size=N:=⟨_,rfl⟩;rw[hN]at ef bh ⊢;refine Jh 7 [6] (σ:=Nat×List Value) (fun st g u=>g 13=.slice ao l.length c/\g 14=iV l.length/\g 15=iV st.1/\st.1<=l.length/\st.2.length=st.1*1/\
  bx u 91 1 (.slice (some ⟨N,0,none⟩) l.length l.length) l.length (st.2++bG [zS] (l.length-st.1))/\Rws (fun x cs=>RD u (N::rg w) (JD x) cs) (l.take st.1) st.2/\Fr [N] w1 u)
  (fun st=>l.length-st.1) (0,[]) ⟨rfl,rfl,rfl,SL _,rfl,ef,by simpa using Rws.nil,Fr.refl _ _⟩ ?_
 rintro⟨i,ys⟩ g u ⟨kD,js,jo,hi,jK,fp,fU,aY⟩;simp only at jo hi jK fp fU;rw[Ja kD,Ja js,Ja jo];have hF:Fr [] w u:=aj.trans aY aZ;by_cases aC:i<l.length
 case neg=>
  refine bM ?_;have ei:i=l.length:=by omega
  subst ei;rw[DV,show bG [zS] 0=[] from rfl,Ce]at fp;refine⟨_,rfl,DR.ofTyped Zz ab ⟨ys,fp.src,fun ad n c e hm=>?_,?_⟩,hF⟩
  .simp only[Value.slice.injEq,Sj]at e;exact Yx
  .rw [Dk]at fU;exact Yz
 obtain⟨ad,cs,bi,hr,qp⟩:=DR.at Zz (hd.tr0 hF) aC;subst bi;obtain⟨v,pz,rfl,hv,hn⟩:=RD.inv hr;obtain rfl:=hn.inv0;have bV:=Jjt qp;refine rx ?_;refine KW rfl bV ?_;refine rx ?_;refine ZF (first:=[]) (cap:=[]) (H l[i] ap [v] u S hr) rfl rfl rfl ?_;rintro _ u1 ⟨v',rfl,iN,eh⟩;refine⟨_,rfl,?_⟩;have iE:=fp.tr0 eh;have nE:=aY.size;refine rx ?_;refine JbF (q:=i*1) (u:=v') iE rfl rfl rfl rfl (RD.one iN v' ap) ab (fun u2 fh aq cz=>?_);have hfn:=Qk (cs:=[v']) (z:=[zS]) jK rfl aC;rw[Dq]at hfn fh;rw[hfn]at fh;have hblk:ag (.slice (some ⟨N,0,none⟩) l.length l.length)=[N]:=rfl;rw[hblk]at aq;refine rx ?_;refine Jc (i+1,ys++[v']) a6 ?_ eM;refine⟨rfl,rfl,rfl,by simp only;omega,by simp only[Sm,SI,SY];omega,fh,?_,(aY.Jb eh).trans aq ap⟩;simp only;rw[SK aC];refine Rws.app (fU.imp (fun x cs _ h=>(RD.old h eh ap).old aq (Je ap))) (Rws.one ?_);refine((RD.mono iN (T:=N::rg w) (fun b hb=>.inl (Jk.2 ?_))).old aq (Je ap));rcases SC.1 hb with rfl|hb
 .omega
 .have:=Jk.1 hb;omega
end
section
attribute [local irreducible] Code.wp wpList Exit.then Exit.inBlock bodyPost A Calls execOp Addr.add
theorem ZU(t:Ty)(cs:List Value)(w:World)(S:List Nat)(hd:RD w S (cg t) cs):Calls prog 140 #[.agg cs.toArray] w fun e w'=>∃bS,e=.returned (.agg bS.toArray)/\RD w' (rg w) (cg t) bS/\Fr [] w w':=by
 obtain⟨s,rfl,hk⟩:=mc.1 hd;refine enter func140 rfl ntmps140 rfl ?_;refine rx ?_;refine Ju (l:=[iV t.kind,.string t.name,s]) rfl rfl (fun w1 b nQ hb aj bh=>?_);refine rx ?_;refine Jm (l:=[zI,zT,zS]) rfl (fun w2 r pA hr aq cz=>?_);have hb:=hb.tr0 aq;have aS:Fr [] w w2:=aj.Jb aq;refine rx ?_;refine Jl (Jd1 t.kids s w2 S (hk.tr0 aS) (fun x hx cs u S h=>ZU x cs u S h)) ?_;rintro v w3 ⟨hv,aF⟩;have dO:=aF.size;have hb:=hb.tr0 aF;have hr:=hr.tr0 aF;have aV:Fr [] w w3:=aS.Jb aF;have hv:=hv.down (w0:=w2) ab;refine rx ?_
 ((with_reducible apply Ji);exact rfl;(conv=>lhs;whnf);exact hv.one;exact hb;exact rfl)
 intro w4 hb aI eA;replace hb:aG w4 b [iV t.kind,.string t.name,v] 90:=hb;have hr:=hr.tr aI aZ;have bq:Fr [] w w4:=aV.trans aI (fun x hx=>.inr bt);have hv:=hv.old aI (Jf ab);refine rx ?_;have cH:RD w4 (rg w2) (cg t) [iV t.kind,.string t.name,v]:=mc.2 ⟨v,rfl,hv⟩;refine Jd (cs:=[iV t.kind,.string t.name,v]) rfl rfl hr (RD.one cH) rfl rfl (fun u ea aY cI=>?_);exact Ybd
termination_by SizeOf.sizeOf t
decreasing_by
 have h1:=F8 hx;have h2:SizeOf.sizeOf t.kids<SizeOf.sizeOf t:=by cases t;simp;omega
 omega
theorem JhT{l:List (List ByteArray)}:∀x∈l,∀(cs:List Value) (u:World) (S:List Nat),RD u S (JD x) cs->Calls prog 180 #[cs.headD undef] u fun e u'=>∃v',e=.returned v'/\RD u' (rg u) (JD x) [v']/\Fr [] u u':=by
 intro x hx cs u S h;obtain⟨v,pz,rfl,hv,hn⟩:=RD.inv h;obtain rfl:=hn.inv0;exact(Jii x v u S hv).mono (fun e u' ⟨v',h1,h2,h3⟩=>⟨v',h1,.cons h2 .nil,h3⟩)
theorem VW(e:Ex)(cs:List Value)(w:World)(S:List Nat)(hd:RD w S (aU e) cs):Calls prog 141 #[.agg cs.toArray] w fun e1 w'=>∃bS,e1=.returned (.agg bS.toArray)/\RD w' (rg w) (aU e) bS/\Fr [] w w':=by
 obtain⟨s1,s2,s3,rfl,ee,cu,lg⟩:=fW.1 hd;refine enter func141 rfl ntmps141 rfl ?_;refine rx ?_;refine Ju (l:=[iV e.kind,.string e.name,iV e.n,s1,s2,s3,iV e.at_]) rfl rfl (fun w1 b nQ hb aj bh=>?_);refine rx ?_;refine Jm (l:=[zI,zT,zI,zS,zS,zS,zI]) rfl (fun w2 r pA hr aq cz=>?_);have hb:=hb.tr0 aq;have aS:Fr [] w w2:=aj.Jb aq;refine rx ?_;refine Jl (Jii e.names s1 w2 S (DR.tr0 ee aS)) ?_;rintro v1 w3 ⟨iQ,aF⟩;have dO:=aF.size;have hb:=hb.tr0 aF;have hr:=hr.tr0 aF;have aV:Fr [] w w3:=aS.Jb aF;have iQ:=iQ.down (w0:=w2) ab;refine rx ?_
 ((with_reducible apply Ji);exact rfl;(conv=>lhs;whnf);exact iQ.one;exact hb;exact rfl)
 intro w4 hb aI eA;replace hb:aG w4 b [iV e.kind,.string e.name,iV e.n,v1,s2,s3,iV e.at_] 95:=hb;have hr:=hr.tr aI aZ;have bq:Fr [] w w4:=aV.trans aI (fun x hx=>.inr bt);have iQ:=iQ.old aI (Jf ab);refine rx ?_;refine Jl (JhX e.binds s2 w4 S (cu.tr0 bq) JhT) ?_;rintro v2 w5 ⟨fl,aO⟩;have eV:=aO.size;have hb:=hb.tr0 aO;have hr:=hr.tr0 aO;have bX:Fr [] w w5:=bq.Jb aO;have iQ:=iQ.old aO ap;have fl:=fl.down (w0:=w2) ab;refine rx ?_
 ((with_reducible apply Ji);exact rfl;(conv=>lhs;whnf);exact fl.one;exact hb;exact rfl)
 intro w6 hb aJ fm;replace hb:aG w6 b [iV e.kind,.string e.name,iV e.n,v1,v2,s3,iV e.at_] 95:=hb;have hr:=hr.tr aJ aZ;have bR:Fr [] w w6:=bX.trans aJ (fun x hx=>.inr bt);have iQ:=iQ.old aJ (Jf ab);have fl:=fl.old aJ (Jf ab);refine rx ?_;refine Jl (Jd2 e.kids s3 w6 S (lg.tr0 bR) (fun x hx cs u S h=>VW x cs u S h)) ?_;rintro v3 w7 ⟨kW,aQ⟩;have iF:=aQ.size;have hb:=hb.tr0 aQ;have hr:=hr.tr0 aQ;have ed:Fr [] w w7:=bR.Jb aQ;have iQ:=iQ.old aQ ap;have fl:=fl.old aQ ap;have kW:=kW.down (w0:=w2) ab;refine rx ?_
 ((with_reducible apply Ji);exact rfl;(conv=>lhs;whnf);exact kW.one;exact hb;exact rfl)
 intro w8 hb aM fL;replace hb:aG w8 b [iV e.kind,.string e.name,iV e.n,v1,v2,v3,iV e.at_] 95:=hb;have hr:=hr.tr aM aZ;have dS:Fr [] w w8:=ed.trans aM (fun x hx=>.inr bt);have iQ:=iQ.old aM (Jf ab);have fl:=fl.old aM (Jf ab);have kW:=kW.old aM (Jf ab);refine rx ?_;have cH:RD w8 (rg w2) (aU e) [iV e.kind,.string e.name,iV e.n,v1,v2,v3,iV e.at_]:=fW.2 ⟨v1,v2,v3,rfl,iQ,fl,kW⟩;refine Jd (cs:=[iV e.kind,.string e.name,iV e.n,v1,v2,v3,iV e.at_]) rfl rfl hr (RD.one cH) rfl rfl (fun u ea aY cI=>?_);exact Yci
termination_by SizeOf.sizeOf e
decreasing_by
 have h1:=F8 hx;have h2:SizeOf.sizeOf e.kids<SizeOf.sizeOf e:=by cases e;simp;omega
 omega
theorem Jdi(g:Gn)(cs:List Value)(w:World)(S:List Nat)(hd:RD w S (eX g) cs):Calls prog 142 #[.agg cs.toArray] w fun e w'=>∃bS,e=.returned (.agg bS.toArray)/\RD w' (rg w) (eX g) bS/\Fr [] w w':=by
 obtain⟨s1,s2,s3,rfl,ee,cu,lg⟩:=me.1 hd;refine enter func142 rfl ntmps142 rfl ?_;refine rx ?_;refine Ju (l:=[iV g.kind,.string g.name,s1,s2,s3,iV g.at_]) rfl rfl (fun w1 b nQ hb aj bh=>?_);refine rx ?_;refine Jm (l:=[zI,zT,zS,zS,zS,zI]) rfl (fun w2 r pA hr aq cz=>?_);have hb:=hb.tr0 aq;have aS:Fr [] w w2:=aj.Jb aq;refine rx ?_;refine Jl (Jkg g.ws s1 w2 S (ee.tr0 aS)) ?_;rintro v1 w3 ⟨iQ,aF⟩;have dO:=aF.size;have hb:=hb.tr0 aF;have hr:=hr.tr0 aF;have aV:Fr [] w w3:=aS.Jb aF;have iQ:=iQ.down (w0:=w2) ab;refine rx ?_
 ((with_reducible apply Ji);exact rfl;(conv=>lhs;whnf);exact iQ.one;exact hb;exact rfl)
 intro w4 hb aI eA;replace hb:aG w4 b [iV g.kind,.string g.name,v1,s2,s3,iV g.at_] 98:=hb;have hr:=hr.tr aI aZ;have bq:Fr [] w w4:=aV.trans aI (fun x hx=>.inr bt);have iQ:=iQ.old aI (Jf ab);refine rx ?_;refine Jl (Jd2 g.args s2 w4 S (cu.tr0 bq) (fun x hx cs u S h=>VW x cs u S h)) ?_;rintro v2 w5 ⟨fl,aO⟩;have eV:=aO.size;have hb:=hb.tr0 aO;have hr:=hr.tr0 aO;have bX:Fr [] w w5:=bq.Jb aO;have iQ:=iQ.old aO ap;have fl:=fl.down (w0:=w2) ab;refine rx ?_
 ((with_reducible apply Ji);exact rfl;(conv=>lhs;whnf);exact fl.one;exact hb;exact rfl)
 intro w6 hb aJ fm;replace hb:aG w6 b [iV g.kind,.string g.name,v1,v2,s3,iV g.at_] 98:=hb;have hr:=hr.tr aJ aZ;have bR:Fr [] w w6:=bX.trans aJ (fun x hx=>.inr bt);have iQ:=iQ.old aJ (Jf ab);have fl:=fl.old aJ (Jf ab);refine rx ?_;refine Jl (Jjn g.kids s3 w6 S (lg.tr0 bR) (fun x hx cs u S h=>Jdi x cs u S h)) ?_;rintro v3 w7 ⟨kW,aQ⟩;have iF:=aQ.size;have hb:=hb.tr0 aQ;have hr:=hr.tr0 aQ;have ed:Fr [] w w7:=bR.Jb aQ;have iQ:=iQ.old aQ ap;have fl:=fl.old aQ ap;have kW:=kW.down (w0:=w2) ab;refine rx ?_
 ((with_reducible apply Ji);exact rfl;(conv=>lhs;whnf);exact kW.one;exact hb;exact rfl)
 intro w8 hb aM fL;replace hb:aG w8 b [iV g.kind,.string g.name,v1,v2,v3,iV g.at_] 98:=hb;have hr:=hr.tr aM aZ;have dS:Fr [] w w8:=ed.trans aM (fun x hx=>.inr bt);have iQ:=iQ.old aM (Jf ab);have fl:=fl.old aM (Jf ab);have kW:=kW.old aM (Jf ab);refine rx ?_;have cH:RD w8 (rg w2) (eX g) [iV g.kind,.string g.name,v1,v2,v3,iV g.at_]:=me.2 ⟨v1,v2,v3,rfl,iQ,fl,kW⟩;refine Jd (cs:=[iV g.kind,.string g.name,v1,v2,v3,iV g.at_]) rfl rfl hr (RD.one cH) rfl rfl (fun u ea aY cI=>?_);exact Yci
termination_by SizeOf.sizeOf g
decreasing_by
 have h1:=F8 hx;have h2:SizeOf.sizeOf g.kids<SizeOf.sizeOf g:=by cases g;simp;omega
 omega
end
section
attribute [local irreducible] Code.wp wpList Exit.then Exit.inBlock bodyPost A Calls execOp Addr.add
theorem NY:∀f,PC 123 [] (fun _=>Lh f) cg
 |0,bd,p,n,r,w,x,r',hP,hg=>by simp[Lh]at hg
 |f+1,bd,p,n,r,w,x,r',hP,hg=>by
  refine enter func123 rfl ntmps123 rfl ?_;refine rx ?_;refine Jm (l:=[zI,zT,zS]) rfl (fun w0 q gz ah gL mF=>?_);have eH:=hP.tr0 gL;have eG:Fr [p] w w0:=gL.mono ap;have dx:bd<=w.heap.size:=hP.le;have lV:p<w.heap.size:=SV hP.lt dx;simp only[Lh]at hg;refine rx ?_;refine Jg (J8 [105,110,116] p n _ _ eH) ?_;rintro w1 ⟨gj,aj⟩;have ej:=eG.trans aj aX;have bh:=aj.size;have ah:=ah.tr aj ak;cases h1:bg [105,110,116] r with
  |true=>
   simp only[h1,Jz,CX,Sj,Sz]at hg gj;obtain⟨rfl,rfl⟩:=hg;refine rx ?_;refine JF [zI,zT,zS] rfl ?_;refine rx ?_;refine Jd (cs:=[zI,zT,zS]) rfl rfl ah dQ rfl rfl (fun u hu aY cI=>?_);refine rx ?_;exact Qc rfl rfl hu rfl (QJ (w0:=w0) gz ab ab ab gj ej aY (mc.2 ⟨_,rfl,.nil⟩))
  |false=>
  simp only[h1,Jz,SS,CW]at hg gj;refine rx ?_;refine Jg (J8 [98,111,111,108] p n _ _ gj) ?_;rintro w2 ⟨dZ,aq⟩;have aS:=ej.trans aq aX;have cz:=aq.size;have ah:=ah.tr aq ak;cases h2:bg [98,111,111,108] r with
  |true=>
   simp only[h2,Jz,CX,Sj,Sz]at hg dZ;obtain⟨rfl,rfl⟩:=hg;refine rx ?_;refine JF [iV 1,zT,zS] rfl ?_;refine rx ?_;refine Jd (cs:=[iV 1,zT,zS]) rfl rfl ah dQ rfl rfl (fun u hu aY cI=>?_);refine rx ?_;exact Qc rfl rfl hu rfl (QJ (w0:=w0) gz ab ab ab dZ aS aY (mc.2 ⟨_,rfl,.nil⟩))
  |false=>
  simp only[h2,Jz,SS,CW]at hg dZ;refine rx ?_;refine Jg (J8 [91] p n _ _ dZ) ?_;rintro w3 ⟨dK,aF⟩;have aV:=aS.trans aF aX;have dO:=aF.size;have ah:=ah.tr aF ak;cases h3:bg [91] r with
  |true=>
   simp only[h3,Jz,CX]at hg dK;obtain⟨⟨t,r1⟩,h4,hg⟩:=bind_some hg;obtain⟨r2,h5,hg⟩:=bind_some hg;simp only[Sj,Sz]at hg;obtain⟨rfl,rfl⟩:=hg;refine rx ?_;refine Jl ((NY f) bd p n _ _ _ _ dK h4) ?_;rintro cs w4 ⟨hd,dY,aI⟩;have bq:=aV.trans aI aX;have eA:=aI.size;have hl:cs.length=3:=by rw[hd.len,QT]
   have ah:=ah.tr aI ak;refine KR (l:=[zI,zT,zS]) (cs:=cs) rfl rfl hl hd.one rfl (fun v=>rfl) (fun w5 a oq aH aO eV=>?_);have du:=dY.tr0 aO;have bX:=bq.Jb aO;have ah:=ah.tr aO ak;have hd:=RD.keep hd aO ak;refine rx ?_;refine Jg (JL du h5) ?_;rintro w6 ⟨eE,aJ⟩;have bR:=bX.trans aJ aX;have fm:=aJ.size;have ah:=ah.tr aJ ak;have aH:=aH.tr aJ ak;have hd:=RD.keep hd aJ ak;refine rx ?_;refine KE rfl aH hl ?_;refine JQ rfl hl rfl (fun w7 k hk ho aQ iF=>?_);have fa:=eE.tr0 aQ;have ed:=bR.Jb aQ;have ah:=ah.tr aQ ak;have hd:=RD.keep hd aQ ak;refine rx ?_;refine JF [iV 2,zT,.slice (some ⟨k,0,none⟩) 1 1] rfl ?_;have rh:RD w7 (rg w0) (cg ⟨2,aA [],[t]⟩) [iV 2,zT,.slice (some ⟨k,0,none⟩) 1 1]:=mc.2 ⟨_,rfl,Jgr ho (hd.down ab) Φ⟩;refine rx ?_;refine Jd (cs:=[iV 2,zT,.slice (some ⟨k,0,none⟩) 1 1]) rfl rfl ah dQ rfl rfl (fun u hu aY cI=>?_);refine rx ?_;exact Qc rfl rfl hu rfl (QJ (w0:=w0) gz ab ab ab fa ed aY rh)
  |false=>
  simp only[h3,Jz,SS,CW]at hg dK;obtain⟨⟨t,r1⟩,h4,hg⟩:=bind_some hg;simp only[Sj,Sz]at hg;obtain⟨rfl,rfl⟩:=hg;refine rx ?_;refine Jg (VF dK h4) ?_;rintro w4 ⟨dY,aI⟩;have bq:=aV.trans aI aX;have eA:=aI.size;have ah:=ah.tr aI ak;refine na ?_;refine JF [iV 3,.string (aA t.text),zS] rfl ?_;refine rx ?_;refine Jd (cs:=[iV 3,.string (aA t.text),zS]) rfl rfl ah dQ rfl rfl (fun u hu aY cI=>?_);refine rx ?_;exact Qc rfl rfl hu rfl (QJ (w0:=w0) gz ab ab ab dY bq aY (mc.2 ⟨_,rfl,.nil⟩))
theorem Jhd(f:Nat)(hf:f<=1000000):PL 209 [] (fun _=>N7 f) (fun l=>l.map fun t=>JV (aA t)):=by
 intro bd p n r w x r' eH hg;have dx:bd<=w.heap.size:=eH.le;have lV:p<w.heap.size:=SV eH.lt dx;have eG:Fr [p] w w:=Fr.refl _ _;refine enter func209 rfl ntmps209 rfl ?_;refine rx ?_;simp only[N7]at hg;refine Jg (J8 [40] p n _ _ eH) ?_;rintro w1 ⟨gj,aj⟩;have ej:=eG.trans aj aX;have bh:=aj.size;cases h1:bg [40] r with
 |false=>
  simp only[h1,Jz,SS,CW,Sj,Sz]at hg gj;obtain⟨rfl,rfl⟩:=hg;refine bM ?_;exact⟨_,rfl,.nil,gj,ej⟩
 |true=>
 simp only[h1,Jz,CX]at hg gj;obtain⟨⟨l,r1⟩,h2,hg⟩:=bind_some hg;obtain⟨r2,h3,hg⟩:=bind_some hg;simp only[Sj,Sz]at hg;obtain⟨rfl,rfl⟩:=hg;refine rx ?_;refine Jh 5 [3,4] (σ:=Nat×List Bs×List Tk×Bool) (fun s g u=>∃v,g 3=v/\g 4=.bool s.2.2.2/\LI bd p n w (rg w) 9 1 (fun t=>JV (aA t)) Gs l r1 s.1 s.2.1 s.2.2.1 s.2.2.2 u v) (fun s=>2*s.1+s.2.2.2.toNat) (f,[],r.tail,true) ⟨_,rfl,rfl,gj,ej,.nil,by simpa using hf,fun _=>⟨l,h2,rfl⟩,fun h=>by cases h⟩ ?_;rintro⟨f,acc,r,b⟩ g u ⟨v,h4,h5,dZ,aS,hL,hlen,ht,j8⟩;simp only at dZ aS hL hlen ht j8;rw[Ja h4,Ja h5];have cz:=aS.size;obtain⟨S0,T0,xp,c0,i0,ln,_⟩:=id dZ;cases b with
 |false=>
  obtain⟨rfl,rfl⟩:=j8 rfl;refine rx ?_;refine Jg (JL dZ h3) ?_;rintro w3 ⟨dK,aF⟩;have aV:=aS.trans aF aX;have dO:=aF.size;have hL:=LS.keep hL aF sD;refine bM ?_;have hd:=LS.dr hL (k:=1) (fun _=>rfl) ab;exact⟨_,rfl,hd,dK,aV⟩
 |true=>
 obtain⟨l',bZ,fw⟩:=ht rfl;cases f with
 |zero=>simp[Gs]at bZ
 |succ f=>
 simp only[Gs]at bZ;obtain⟨⟨t,r3⟩,h6,bZ⟩:=bind_some bZ;refine rx ?_;refine Jg (VF dZ h6) ?_;rintro w3 ⟨dK,aF⟩;have aV:=aS.trans aF aX;have dO:=aF.size;have hL:=LS.keep hL aF sD;refine XF (l:=kh t) rfl rfl ?_;refine WL hL (fun _=>rfl) rfl rfl rfl (S0:=ag v++rg w) (a:=t.text) (.cons (.c rfl) .nil) (fun b hb=>.inl Ag) rfl rfl rfl dt ab Yjy (fun v' w4 eP aI pU=>?_);have wR:=LS.ge hL (w0:=w) y8;have dY:=dK.tr aI (fun k hk=>CG dx (wR k hk));have bq:=aV.trans aI (fun k hk=>.inr (wR k hk));have eA:=aI.size;refine rx ?_;refine Jg (J8 [44] p n _ _ dY) ?_;rintro w5 ⟨du,aO⟩;have bX:=bq.trans aO aX;have eV:=aO.size;have eP:=LS.keep eP aO sD;refine rx ?_;obtain⟨e1,e2⟩:=Xg (go:=Gs) bZ fw;exact Jc (f,acc++[t.text],Jz (bg [44] r3) r3,bg [44] r3) la ⟨_,rfl,rfl,du,bX,eP,by simp only[Sm,SI,SY];omega,e1,e2⟩ (by cases bg [44] r3<;>simp<;>omega)
end
end Go.Proofs.YtggmccicdhnkgaaGreat
