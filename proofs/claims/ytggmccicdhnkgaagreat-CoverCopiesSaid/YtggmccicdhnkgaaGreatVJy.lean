/-
 The law CoverRuns.
-/
import Derived.Test.YtggmccicdhnkgaaGreatVJl
import Derived.Test.YtggmccicdhnkgaaGreatVJe
import Derived.Test.YtggmccicdhnkgaaGreatVWr
import Derived.Test.YtggmccicdhnkgaaGreatVJc
import Derived.Test.YtggmccicdhnkgaaGreatVQe
set_option linter.all false
set_option maxHeartbeats 64000000
namespace Go.Rf
open Go.RowKit
variable{i:Nat}{α:Type}
theorem rnR{w:World}{S:List Nat}{r:Rn}{cs:List Value}(h:RD w S (vU r) cs):∃vb vl,cs=[iV r.kind,iV r.at_,iV r.code,vb,vl]/\DR w S (.l (r.bs.map jl)) vb/\DR w S (.l (r.cl.map KI)) vl:=by
 obtain⟨c1,e1,k1⟩:=RD.JI (x:=iV r.kind) h;obtain⟨c2,e2,k2⟩:=RD.JI k1;obtain⟨c3,e3,k3⟩:=RD.JI k2;obtain⟨vb,c4,e4,h1,k4⟩:=RD.inv k3;obtain⟨vl,c5,e5,h2,k5⟩:=RD.inv k4;have e6:=RD.inv0 k5;subst e6 e5 e4 e3 e2 e1;exact⟨vb,vl,rfl,h1,h2⟩
theorem Zw{p:α->Bool}{l:List α}(h:i<l.length):(l.take (i+1)).countP p=(l.take i).countP p+k8 (p l[i]):=by
 rw[SK h,Xu]
theorem Xh{p:α->Bool}{l:List α}:(l.take i).countP p<=l.length:=CG Hf (by rw[C9];exact Nat.min_le_right _ _)
end Go.Rf
namespace Go.Proofs.YtggmccicdhnkgaaGreat
open Go.Proofs.Tryz
open Go.Rf Go.RowKit
variable{i q:Nat}{P:Pp}
attribute [local irreducible] Code.wp wpList Exit.then Exit.inBlock bodyPost A Calls execOp Addr.add
theorem JdE{rs:List Rn}(k:Int)(w:World)(hQ:rp w q P rs)(hn:rs.length<=1000000):
 Calls prog 61 #[.pointer (some ⟨q,0,none⟩),iV k] w fun e w'=>e=.returned (iV (rs.countP (fun r=>decide (r.kind=k)):Nat))/\Fr [] w w':=by
 obtain⟨vr,vs,hb,nz,jx⟩:=hQ;have PH:=nz.one;have rF:=jx.one;obtain⟨lE,cs,rfl,_⟩:=jx.slice;have tx:(rs.map vU).length=rs.length:=Sr ..;rw[tx]at hb jx rF;refine enter func61 rfl ntmps61 rfl ?_;refine rx ?_;refine Jh 7 [5,6] (σ:=Nat) (fun i g u=>g 6=iV (i:Nat)/\g 5=iV ((rs.take i).countP (fun r=>decide (r.kind=k)):Nat)/\i<=rs.length/\Fr [] w u) (fun i=>rs.length-i) 0 ⟨rfl,rfl,SL _,Fr.refl _ _⟩ ?_;rintro i g u ⟨g6,g5,hi,hF⟩;rw[Ja g6,Ja g5];have hb:=hb.tr0 hF;have fg:=Xh (p:=fun(r:Rn)=>decide (r.kind=k)) (l:=rs) (i:=i);by_cases aC:i<rs.length
 case neg=>
  rw[show rs.take i=rs from SQ ab]at fg ⊢;refine bM ?_;exact⟨rfl,hF⟩
 obtain⟨ad,bS,bi,hr,hc⟩:=DR.at Gi (jx.tr0 hF) aC;subst bi;obtain⟨vb,vl,rfl,mj,wm⟩:=rnR hr;have ni:=Zw (p:=fun(r:Rn)=>decide (r.kind=k)) aC;refine rx ?_;refine KW rfl (by rw[ta];exact hc 0 _ rfl) ?_;by_cases he:rs[i].kind=k
 .refine rx ?_;exact Yla
 .refine rx ?_;exact Ykz
theorem Jjd(l:List Int)(k:Int)(v:Value)(w:World)(h:Src w v l.length (l.map (.int .i64)))(hl:l.length<=1000000000):
 Calls prog 102 #[v,iV k] w fun e w'=>e=.returned (.bool (decide (k∈l)))/\w'=w:=by
 obtain⟨ao,c,rfl,_⟩:=id h;refine enter func102 rfl ntmps102 rfl ?_;refine rx ?_;refine Jh 6 [5] (σ:=Nat) (fun i g u=>g 5=iV (i:Nat)/\i<=l.length/\k∉l.take i/\u=w) (fun i=>l.length-i) 0 ⟨rfl,SL _,by simp,rfl⟩ ?_;rintro i g u ⟨g5,hi,lm,rfl⟩;rw[Ja g5];by_cases aC:i<l.length
 case neg=>
  rw[SQ ab]at lm;refine bM ?_;exact⟨by rw[SG lm],rfl⟩
 obtain⟨ad,oI,hc⟩:=KO h (WS aC);subst oI;refine rx ?_;refine KW rfl (by rw[Dq];exact hc) ?_;by_cases he:l[i]=k
 .refine rx ?_;refine gZ ?_;exact⟨by rw[SN (he▸Cj aC)],rfl⟩
 .refine rx ?_;refine Jc (i+1) a6 ⟨rfl,aC,?_,rfl⟩ ab;exact Ylf
theorem G9{rs:List Rn}(k:Int)(w:World)(hQ:rp w q P rs)(hn:rs.length<=1000000)(hc:∀r∈rs,r.cl.length<=1000000):
 Calls prog 56 #[.pointer (some ⟨q,0,none⟩),iV k] w fun e w'=>e=.returned (iV (rs.countP (fun r=>decide (k∈r.cl)):Nat))/\Fr [] w w':=by
 obtain⟨vr,vs,hb,nz,jx⟩:=hQ;have PH:=nz.one;have rF:=jx.one;obtain⟨lE,cs,rfl,_⟩:=jx.slice;have tx:(rs.map vU).length=rs.length:=Sr ..;rw[tx]at hb jx rF;refine enter func56 rfl ntmps56 rfl ?_;refine rx ?_;refine Jh 7 [5,6] (σ:=Nat) (fun i g u=>g 6=iV (i:Nat)/\g 5=iV ((rs.take i).countP (fun r=>decide (k∈r.cl)):Nat)/\i<=rs.length/\Fr [] w u) (fun i=>rs.length-i) 0 ⟨rfl,rfl,SL _,Fr.refl _ _⟩ ?_;rintro i g u ⟨g6,g5,hi,hF⟩;rw[Ja g6,Ja g5];have hb:=hb.tr0 hF;have fg:=Xh (p:=fun(r:Rn)=>decide (k∈r.cl)) (l:=rs) (i:=i);by_cases aC:i<rs.length
 case neg=>
  rw[show rs.take i=rs from SQ ab]at fg ⊢;refine bM ?_;exact⟨rfl,hF⟩
 obtain⟨ad,bS,bi,hr,hce⟩:=DR.at Gi (jx.tr0 hF) aC;subst bi;obtain⟨vb,vl,rfl,mj,wm⟩:=rnR hr;have ni:=Zw (p:=fun(r:Rn)=>decide (k∈r.cl)) aC;have hcn:=hc _ (Cj aC);refine rx ?_;refine Jg (Jjd rs[i].cl k vl u (VP wm) ab) ?_;rintro u2 rfl;by_cases he:k∈rs[i].cl
 .rw [SN he];refine rx ?_;exact Yla
 .rw [SG he];refine rx ?_;exact Ykz
theorem JhZ{rs:List Rn}(hn:rs.length<=1000)(hc:∀r∈rs,r.bs.length<=1000):((rs.take i).flatMap (·.bs)).length<=1000000:=by
 have key:∀(l:List Rn),(∀r∈l,r.bs.length<=1000)->(l.flatMap (·.bs)).length<=1000*l.length:=by
  intro l
  induction l with
  |nil=>intro _;simp
  |cons r l ih=>
   intro h;have h1:=ih (fun x hx=>h x lA);have h2:=h r ap;simp only[CP,Sm,SI];omega
 exact Yld
theorem WQ{rs:List Rn}(w:World)(hQ:rp w q P rs)(hn:rs.length<=1000)(hc:∀r∈rs,r.bs.length<=1000):
 Calls prog 55 #[.pointer (some ⟨q,0,none⟩)] w fun e w'=>∃v,e=.returned v/\BO w 50 w' (JM eO (rs.flatMap (·.bs))) v/\Fr [] w w':=by
 obtain⟨vr,vs,hb,nz,jx⟩:=hQ;have PH:=nz.one;have rF:=jx.one;obtain⟨lE,cs,rfl,_⟩:=jx.slice;have tx:(rs.map vU).length=rs.length:=Sr ..;rw[tx]at hb jx rF;refine enter func55 rfl ntmps55 rfl ?_;refine rx ?_;refine Jh 5 [3,4] (σ:=Nat×Value) (fun t g u=>g 4=iV (t.1:Nat)/\g 3=t.2/\t.1<=rs.length/\BO w 50 u ((rs.take t.1).flatMap (·.bs)) t.2/\Fr [] w u) (fun t=>rs.length-t.1) (0,zS) ⟨rfl,rfl,SL _,BO.nil,Fr.refl _ _⟩ ?_;rintro⟨i,va⟩ g u ⟨g4,g3,hi,hA,hF⟩;simp only at g4 g3 hi hA;rw[Ja g4,Ja g3];have hb:=hb.tr0 hF;have hA1:=hA.1.one;have hlen:=JhZ hn hc (i:=i);by_cases aC:i<rs.length
 case neg=>
  rw[show rs.take i=rs from SQ ab]at hA hlen;obtain⟨aov,cv,rfl⟩:=hA.1.slice;refine rx ?_;refine Jl (JaN _ _ u (S:=[]) (ZO hA.1 ab ap) ab) ?_;rintro v2 u2 ⟨hB,aq⟩;refine bM ?_;exact⟨v2,rfl,⟨hB.1,fun x hx=>by have:=hB.2 x hx;have:=hF.size;omega⟩,hF.Jb aq⟩
 obtain⟨ad,bS,bi,hr,hce⟩:=DR.at Gi (jx.tr0 hF) aC;subst bi;obtain⟨vb,vl,rfl,mj,wm⟩:=rnR hr;have hcn:=hc _ (Cj aC);have Ad:=DR.brs mj;obtain⟨iK,cb,rfl,_⟩:=id Ad;obtain⟨aov,cv,rfl⟩:=hA.1.slice;refine rx ?_;refine JC hA.1 rfl Ad rfl (XL _) (fun x hx=>by obtain⟨b,_,hb⟩:=DY.1 hx;exact QD b x hb) dt ab (fun v5 u5 kt aQ sw _=>?_);refine rx ?_;have cI:=hF.size;refine Jc (i+1,v5) a6 ⟨rfl,rfl,aC,⟨?_,fun x hx=>?_⟩,hF.trans aQ (fun x hx=>.inr (hA.2 x hx))⟩ eM
 .simp only;rw[SK aC,List.flatMap_append,List.flatMap_append,Sm];simpa using kt
 .rcases sw x hx with h|h
  .exact hA.2 x h
  .omega
theorem Jai{rs:List Rn}(b:Br)(w:World)(hQ:rp w q P rs)(hn:rs.length<=1000000):
 Calls prog 60 #[.pointer (some ⟨q,0,none⟩),.agg (dH b).toArray] w fun e w'=>e=.returned (iV (rs.countP (fun r=>decide (b∈r.bs)):Nat))/\Fr [] w w':=by
 obtain⟨vr,vs,hb,nz,jx⟩:=hQ;have PH:=nz.one;have rF:=jx.one;obtain⟨lE,cs,rfl,_⟩:=jx.slice;have tx:(rs.map vU).length=rs.length:=Sr ..;rw[tx]at hb jx rF;refine enter func60 rfl ntmps60 rfl ?_;refine rx ?_;refine Ju (l:=dH b) rfl rfl (fun w1 b3 iB h3 aj bh=>?_);replace h3:aG w1 b3 [.string b.decl,iV b.at_,iV b.arm] _:=h3;refine rx ?_;refine Jh 7 [5,6] (σ:=Nat) (fun i g u=>g 6=iV (i:Nat)/\g 5=iV ((rs.take i).countP (fun r=>decide (b∈r.bs)):Nat)/\i<=rs.length/\Fr [] w1 u) (fun i=>rs.length-i) 0 ⟨rfl,rfl,SL _,Fr.refl _ _⟩ ?_;rintro i g u ⟨g6,g5,hi,ej⟩;rw[Ja g6,Ja g5];have hF:=aj.Jb ej;have hb:=hb.tr0 hF;have h3:=h3.tr0 ej;have fg:=Xh (p:=fun(r:Rn)=>decide (b∈r.bs)) (l:=rs) (i:=i);by_cases aC:i<rs.length
 case neg=>
  rw[show rs.take i=rs from SQ ab]at fg ⊢;refine bM ?_;exact⟨rfl,hF⟩
 obtain⟨ad,bS,bi,hr,hce⟩:=DR.at Gi (jx.tr0 hF) aC;subst bi;obtain⟨vb,vl,rfl,mj,wm⟩:=rnR hr;have ni:=Zw (p:=fun(r:Rn)=>decide (b∈r.bs)) aC;refine zB ?_;obtain⟨u1,eu⟩:=aP u.drew;rw[<-eu];have hS:Fr [] u u1:=eu▸Fr.drew _ _;refine Jj 0 1 2 3 hS ?_;refine Jj 4 5 6 7 hS ?_;refine bH 8 hS ?_;refine TC ?_;refine Jg (Jdc rs[i].bs b vb u1 (mj.tr0 hS)) ?_;rintro u2 aq;have hS:=hS.Jb aq;refine ft ?_;refine Kw 10 hS ?_ (aw:=by(intro u hu;exact(JbP rfl)));refine gK ?_;by_cases he:b∈rs[i].bs
 .rw [SN he];refine rx ?_;refine Jc (i+1) a6 ⟨rfl,?_,aC,ej.Jb hS⟩ ab;rw[ni,SN he];rfl
 .rw [SG he];refine rx ?_;refine Jc (i+1) a6 ⟨rfl,?_,aC,ej.Jb hS⟩ ab;rw[ni,SG he];rfl
end Go.Proofs.YtggmccicdhnkgaaGreat
namespace Go.Rf
open Go.RowKit
variable{α:Type}
theorem XR(f:α->List Int):∀(l:List α) (i:Nat),((l.take i).flatMap f).length<=(l.flatMap f).length
 |[],i=>by simp
 |a::l,0=>by simp
 |a::l,i+1=>by
  have:=XR f l i;simp only[DT,CP,Sm];omega
theorem Wy(f:α->List Int){l:List α}{i:Nat}(h:i<l.length):(l.take (i+1)).flatMap f=(l.take i).flatMap f++f l[i]:=by
 rw[SK h,List.flatMap_append,CP,Ey,Ce]
end Go.Rf
namespace Go.Proofs.YtggmccicdhnkgaaGreat
open Go.Proofs.Tryz
open Go.Rf Go.RowKit
variable{p:Nat}{u u1 w:World}
attribute [local irreducible] Code.wp wpList Exit.then Exit.inBlock bodyPost A Calls execOp Addr.add
theorem KJ{n:Nat}(h:n<=1000000000):VE (n:Int):=⟨by omega,by omega⟩
theorem KN.next{v:Value}{bs:List Int}(h:KN p w v bs u)(hf:Fr [] u u1):KN p w v bs u1:=by
 obtain⟨v',hI,h1,h2⟩:=h;exact⟨v',⟨hI.1.tr0 hf,hI.2.tr0 hf⟩,h1.Jb hf,h2⟩
theorem KN.fr{v:Value}{bs:List Int}(h:KN p w v bs u):Fr (p::ag v) w u:=by
 obtain⟨_,_,hf,_⟩:=h;exact hf
theorem KN.from{v:Value}{bs:List Int}(h:KN p w v bs u)(aj:Fr [] u u1):∃v',(∀x∈p::ag v',x<u.heap.size/\(x=p\/x∈ag v\/w.heap.size<=x))/\KN p u1 v' bs u1/\∀yO u2,KN p u1 v' yO u2->KN p w v yO u2:=by
 obtain⟨v',hI,hf,hk⟩:=h;refine⟨v',fun x hx=>?_,KN.refl ⟨hI.1.tr0 aj,hI.2.tr0 aj⟩,fun yO u2 h2=>h2.trans (hf.Jb aj) hk⟩;rcases SC.1 hx with rfl|hx
 .exact ⟨hI.1.lt,.inl rfl⟩
 .exact ⟨hI.2.lt x hx,.inr (hk x hx)⟩
theorem BL{v:Value}{bs:List Int}(n:Int)(h:KN p w v bs u)(hn:VE n)(hl:bs.length<=10000000000):
 Calls prog 66 #[.pointer (some ⟨p,0,none⟩),iV n] u fun e u'=>e=.returned (.tuple #[])/\KN p w v (bs++iv n) u':=by
 obtain⟨v',hI,h1,hk⟩:=h;exact(Jkw p v' bs n u hn.1 hn.2 hI ab).mono fun e u' ⟨he,hs⟩=>⟨he,hs.trans h1 hk⟩
theorem JeW{v:Value}{bs:List Int}(s:ByteArray)(h:KN p w v bs u)(hs:s.size<=10000000000)(hl:bs.length<=10000000000):
 Calls prog 65 #[.pointer (some ⟨p,0,none⟩),.string s] u fun e u'=>e=.returned (.tuple #[])/\KN p w v (bs++raw (sb s)) u':=by
 obtain⟨v',hI,h1,hk⟩:=h;exact(iaV p v' bs s u hI ab ab).mono fun e u' ⟨he,hs⟩=>⟨he,hs.trans h1 hk⟩
def RJ(b:Br):Prop:=b.decl.size<=1000000000/\VE b.at_/\VE b.arm
theorem GZ(b:Br)(h:RJ b):(fZ b).length<=1000000100:=by
 have h1:=VA h.2.1.1 h.2.1.2;have h2:=VA h.2.2.1 h.2.2.2;exact Ycy
theorem Jio{v:Value}{bs:List Int}(b:Br)(hb:RJ b)(h:KN p w v bs u)(hl:bs.length<=5000000000):
 Calls prog 67 #[.pointer (some ⟨p,0,none⟩),.agg (dH b).toArray] u fun e u'=>e=.returned (.tuple #[])/\KN p w v (bs++fZ b) u':=by
 refine enter func67 rfl ntmps67 rfl ?_;refine rx ?_;refine Ju (l:=dH b) rfl rfl (fun u1 q hq h1 aj bh=>?_);replace h1:aG u1 q [.string b.decl,iV b.at_,iV b.arm] _:=h1;obtain⟨v1,aC,hW,bZ⟩:=h.from aj;have Py:q∉p::ag v1:=fun hm=>by have:=(aC q hm).1;omega
 have fJ:=VA hb.2.1.1 hb.2.1.2;have Az:=Xw (sb b.decl).length (by have:=hb.1;have:=Xx b.decl;omega);have hl4:=hb.1;have zC:=Xx b.decl;refine rx ?_;refine Jg (JeW b.decl hW ab ab) ?_;rintro u2 hW2;have g2:=h1.tr hW2.fr Py;refine rx ?_;refine Jg (BL b.at_ hW2 hb.2.1 Yls) ?_;rintro u3 hW3;have g3:=h1.tr hW3.fr Py;refine rx ?_;refine Jg (BL b.arm hW3 hb.2.2 Yls) ?_;rintro u4 hW4;refine rx ?_;refine WI rfl ⟨rfl,?_⟩;have:=bZ _ _ hW4
 rwa [show bs++raw (sb b.decl)++iv b.at_++iv b.arm=bs++fZ b by simp[fZ]]at this
theorem RK{w1:World}{q:Nat}{bs:List Int}(hf:Fr [] w w1)(hq:q=w.heap.size)(h:KN q w1 (zS) bs u):Fr [] w u:=
 hf.trans h.fr (fun x hx=>.inr (by simp[ag,Value.ownBlock]at hx;omega))
theorem JhG{M R:List Nat}{P:Pp}{s:St}(w:World)(hC:Wj w p M R P s)(hn:s.cls.length<=1000000)(hk:s.ks.length<=1000000)(hps:s.ps.length<=1000000)(gY:s.runs<=1000000)(hpr:P.prop.size<=1000000)(eW:∀b∈s.ks,RJ b)(hL:(U0 P.prop s).length<=1000000000):
 Calls prog 27 #[.pointer (some ⟨p,0,none⟩)] w fun e w'=>∃v,e=.returned v/\bx w' 5 1 v (U0 P.prop s).length ((U0 P.prop s).map (.int .u8))/\Fr [] w w'/\(∀x∈ag v,w.heap.size<=x):=by
 obtain⟨bb,pb,vr,vc,mb,mp,rfl,rfl,iJ,hb,hr,hc,jN,lS,iU,rm,eU⟩:=hC;obtain⟨iZ,cc,rfl⟩:=hc.slice;have hlp:mp.length=s.ps.length:=GI Qy iU.nd eU.pasc (fun a=>rm.keys);have Pz:mb.length=s.ks.length:=GI Qu jN.nd eU.kasc (fun a=>lS.keys.trans (eU.cnt a));have ho:=eU.o;simp only[U0,Sm]at hL;refine enter func27 rfl ntmps27 rfl ?_;refine rx ?_;refine Jm (l:=[zS]) rfl (fun w1 q nJ hq aj bh=>?_);have hW:=KN.refl (bs:=[]) ⟨hq,bx.nil _ _ _⟩;have bJ:=hb.tr0 aj;refine rx ?_;refine Jg (JeW P.prop hW ab ap) ?_;rintro u hW;have dN:=hb.tr0 (RK aj nJ hW);refine rx ?_;refine Jg (BL s.runs hW (KJ ab) (by simp only[CO];omega)) ?_;rintro u2 hW;have iB:=hb.tr0 (RK aj nJ hW);refine rx ?_;clear bJ dN iB;refine Jh 26 [5] (σ:=Nat) (fun i g u=>g 26=iV (i:Nat)/\i<=3/\KN q w1 (zS) (raw (sb P.prop)++iv s.runs++([s.o 0,s.o 1,s.o 2].take i).flatMap (fun n=>iv (n:Nat))) u) (fun i=>3-i) 0 ⟨rfl,SL _,by simpa using hW⟩ ?_;clear hW;rintro i g u ⟨g26,hi,hW⟩;rw[Ja g26];have qG:=XR (fun(n:Nat)=>iv (n:Nat)) [s.o 0,s.o 1,s.o 2] i;by_cases aC:i<3
 case pos=>
  refine rx ?_;refine JcY (cs:=Vk [s.o 0,s.o 1,s.o 2]) (v:=iV ([s.o 0,s.o 1,s.o 2][i]:Nat)) rfl rfl aC (V9 aC) ?_;refine rx ?_;have hoi:[s.o 0,s.o 1,s.o 2][i]<=1000000:=by
   have:∀n∈[s.o 0,s.o 1,s.o 2],n<=1000000:=by simp;omega
   exact this _ (Cj _)
  refine Jg (BL _ hW (KJ ab) (by simp only[Sm];rw[show([s.o 0,s.o 1,s.o 2].flatMap (fun(n:Nat)=>iv (n:Nat))).length=(iv (s.o 0)).length+((iv (s.o 1)).length+(iv (s.o 2)).length) by simp]at qG;omega)) ?_;rintro u2 hW;refine rx ?_;refine Jc (i+1) a6 ⟨rfl,aC,?_⟩ ab;rw[Wy _ aC,<-List.append_assoc];exact hW
 rw[SQ aZ,show[s.o 0,s.o 1,s.o 2].flatMap (fun n=>iv (n:Nat))=iv (s.o 0)++(iv (s.o 1)++iv (s.o 2)) by simp,<-List.append_assoc,<-List.append_assoc]at hW;have bJ:=hb.tr0 (RK aj nJ hW);clear qG hi g26;refine rx ?_;refine Jg (BL s.cls.length hW (KJ ab) qH) ?_;rintro u2 hW;have dN:=hb.tr0 (RK aj nJ hW);refine rx ?_;clear bJ dN;obtain⟨B,hB⟩:=aP (raw (sb P.prop)++iv s.runs++iv (s.o 0)++iv (s.o 1)++iv (s.o 2)++iv s.cls.length);have hBL:B.length+(s.cls.flatMap (fun n=>iv (n:Nat))).length<=1000000000:=by rw[hB];simp only[Sm];omega
 rw[<-hB]at hW;refine Jh 43 [7] (σ:=Nat) (fun i g u=>g 43=iV (i:Nat)/\i<=s.cls.length/\KN q w1 (zS) (B++(s.cls.take i).flatMap (fun n=>iv (n:Nat))) u) (fun i=>s.cls.length-i) 0 ⟨rfl,SL _,by simpa using hW⟩ ?_;clear hW;rintro i g u ⟨g43,hi,hW⟩;rw[Ja g43];have qG:=XR (fun(n:Nat)=>iv (n:Nat)) s.cls i;by_cases aC:i<s.cls.length
 case pos=>
  obtain⟨ad,bi,bV⟩:=KO (hc.tr0 (RK aj nJ hW)).src (V9 aC);subst bi;refine Yfm ?_;refine rx ?_;refine Jg (BL _ hW (KJ (by have:=eU.ocls _ (Cj aC);omega)) qH) ?_;rintro u2 hW;refine rx ?_;refine Jc (i+1) a6 ⟨rfl,aC,?_⟩ ab;rw[Wy _ aC,<-List.append_assoc];exact hW
 rw[SQ ab]at hW;have eD:=RK aj nJ hW;have bJ:=hb.tr0 eD;have idj:=jN.tr0 eD;clear qG g43;refine rx ?_;refine G7 rfl idj ?_;rw[Pz];refine rx ?_;refine Jg (BL s.ks.length hW (KJ ab) qH) ?_;rintro u2 hW;have nO:=RK aj nJ hW;have dN:=hb.tr0 nO;have idk:=jN.tr0 nO;refine rx ?_;refine Jl (JbB mb bb u2 idk ab) ?_;rintro vq w3 ⟨nN,aF⟩;rw[Uw Qu eU.kasc (fun a=>lS.keys.trans (eU.cnt a))]at nN;obtain⟨aoq,cq,rfl⟩:=nN.1.slice;obtain⟨v3,kW,hV,bZ⟩:=hW.from aF;have yP:=nO.Jb aF;have ifQ:=yP.size;have Tl:=aF.size;have yQ:∀x∈q::ag v3,x<u2.heap.size/\w.heap.size<=x:=fun x hx=>by
  have h1:=kW x hx;have:=bh;refine⟨h1.1,?_⟩;rcases h1.2 with h|h|h
  .omega
  .simp [ag,Value.ownBlock]at h
  .omega
 have hQ:∀x∈ag (Value.slice aoq s.ks.length cq),x∉q::ag v3:=fun x hx hm=>by
  have h1:=nN.2 x hx;have h2:=(yQ x hm).1;omega
 have aV:∀bs u,KN q w3 v3 bs u->Fr [] w u:=fun bs u h=>yP.trans h.fr (fun x hx=>.inr (yQ x hx).2)
 clear hW;obtain⟨B2,nL⟩:=aP (B++s.cls.flatMap (fun n=>iv (n:Nat))++iv s.ks.length);rw[<-nL]at hV;have idl:B2.length+(s.ks.flatMap (fun b=>fZ b++iv (s.cnt b))).length<=1000000000:=by rw[nL,hB];simp only[Sm];omega
 refine rx ?_;refine Jh 62 [9] (σ:=Nat) (fun i g u=>g 62=iV (i:Nat)/\i<=s.ks.length/\KN q w3 v3 (B2++(s.ks.take i).flatMap (fun b=>fZ b++iv (s.cnt b))) u) (fun i=>s.ks.length-i) 0 ⟨rfl,SL _,by simpa using hV⟩ ?_;clear hV;rintro i g u ⟨g62,hi,hV⟩;rw[Ja g62];have qG:=XR (fun b=>fZ b++iv (s.cnt b)) s.ks i;have eD:=aV _ _ hV;by_cases aC:i<s.ks.length
 case pos=>
  obtain⟨yF,lT,ow⟩:=JZ QN (nN.1.tr hV.fr hQ).src aC bU;subst lT;have ow:Cells u (yF.add (i*3)) [.string s.ks[i].decl,iV s.ks[i].at_,iV s.ks[i].arm]:=ow;refine rx ?_;refine Jm (l:=[zT,zI,zI]) rfl (fun u1 b9 Rj h9 aO eV=>?_);refine rx ?_;refine Jd (cs:=dH s.ks[i]) rfl rfl h9 (QD _) rfl rfl (fun u2 h9 aJ fm=>?_);replace h9:aG u2 b9 [.string s.ks[i].decl,iV s.ks[i].at_,iV s.ks[i].arm] _:=h9;have aS:Fr [] u u2:=aO.trans aJ (fun x hx=>.inr bt);obtain⟨v4,tt,hV4,RL⟩:=hV.from aS;have jQ:=eW _ (Cj aC);have n9:b9∉q::ag v4:=fun hm=>by have:=(tt _ hm).1;omega
  have nO:=eD.Jb aS;refine rx ?_;refine Jg (Jio s.ks[i] jQ hV4 qH) ?_;rintro u3 hV5;have Ru:=hb.tr0 nO;have tp:=jN.tr0 nO;refine rx ?_;refine JE (fun z=>Fr (q::ag v4) u2 z) az rfl ?_;obtain⟨u4,uR⟩:=aP u3.drew;rw[<-uR];have hd:Fr [] u3 u4:=uR▸Fr.drew _ _;have hS:Fr (q::ag v4) u2 u4:=hV5.fr.Jb hd;have np:p∉q::ag v4:=fun hm=>by
   have h1:=hb.lt;have h2:=(tt p hm).2;rcases h2 with h|h|h
   .omega
   .have:=(yQ p (CY _ h)).2;omega
   .omega
  have nb:bb∉q::ag v4:=fun hm=>by
   have h1:=jN.lt;have h2:=(tt bb hm).2;rcases h2 with h|h|h
   .omega
   .have:=(yQ bb (CY _ h)).2;omega
   .omega
  refine JX 0 1 hS ?_;refine bH 2 hS ?_;refine Kw 3 hS ?_ (aw:=by(intro u hu;exact(J7 rfl (aG.cell (Ru.tr hu np) rfl))));refine Kw 4 hS ?_ (aw:=by(intro u hu;exact(Kv rfl (Cells.VO (h9.tr hu n9)) fD)));refine Kw 5 hS ?_ (aw:=by(intro u hu;refine(Ax (P:=prog) (t:=122) (a:=s.ks[i]) ?_ ?_ (tp.tr hu nb) lS);exact rfl;exact rfl));refine JJ (i:=6) rfl az ?_;have hV7:=hV5.next hd;have oD:=GZ _ jQ;refine Jg (BL _ hV7 (KJ (by have:=eU.ocnt s.ks[i];omega)) qH) ?_;rintro u5 hV8;refine wpList_nil (Jv hV8.fr ?_);refine j5 ?_;refine Jc (i+1) a6 ⟨rfl,aC,?_⟩ ab;have:=RL _ _ hV8;rw[Wy _ aC];simpa only[List.append_assoc]using this
 rw[SQ ab]at hV;have bJ:=hb.tr0 eD;have qT:=iU.tr0 eD;clear qG g62;refine rx ?_;refine G7 rfl qT ?_;rw[hlp];refine rx ?_;refine Jg (BL s.ps.length hV (KJ ab) qH) ?_;rintro u2 hV;have nO:=aV _ _ hV;have dN:=hb.tr0 nO;have TU:=iU.tr0 nO;refine rx ?_;refine Jl (Jfe mp pb u2 TU ab) ?_;rintro vq2 w5 ⟨hPq,aO⟩;rw[Uw Qy eU.pasc (fun a=>rm.keys)]at hPq;obtain⟨Ab,cp,rfl⟩:=hPq.1.slice;obtain⟨v5,tu,hU,idm⟩:=(bZ _ _ hV).from aO;have te:=nO.Jb aO;have ifR:=te.size;have iaW:∀x∈q::ag v5,x<u2.heap.size/\w.heap.size<=x:=fun x hx=>by
  have h1:=tu x hx;have:=bh;refine⟨h1.1,?_⟩;rcases h1.2 with h|h|h
  .omega
  .simp [ag,Value.ownBlock]at h
  .omega
 have hQ5:∀x∈ag (Value.slice Ab s.ps.length cp),x∉q::ag v5:=fun x hx hm=>by
  have h1:=hPq.2 x hx;have h2:=(iaW x hm).1;omega
 have bX:∀bs u,KN q w5 v5 bs u->Fr [] w u:=fun bs u h=>te.trans h.fr (fun x hx=>.inr (iaW x hx).2)
 clear hV;obtain⟨B3,mI⟩:=aP (B2++s.ks.flatMap (fun b=>fZ b++iv (s.cnt b))++iv s.ps.length);rw[<-mI]at hU;have idn:B3.length+(s.ps.flatMap (fun p=>fZ p.1++fZ p.2)).length<=1000000000:=by rw[mI,nL,hB];simp only[Sm];omega
 refine rx ?_;refine Jh 88 [11] (σ:=Nat) (fun i g u=>g 88=iV (i:Nat)/\i<=s.ps.length/\KN q w5 v5 (B3++(s.ps.take i).flatMap (fun p=>fZ p.1++fZ p.2)) u) (fun i=>s.ps.length-i) 0 ⟨rfl,SL _,by simpa using hU⟩ ?_;clear hU;rintro k g u ⟨g88,hi,hU⟩;rw[Ja g88];have qG:=XR (fun(p:Pr)=>fZ p.1++fZ p.2) s.ps k;have eD:=bX _ _ hU;by_cases aC:k<s.ps.length
 case pos=>
  obtain⟨yF,lT,ow⟩:=JZ VK (hPq.1.tr hU.fr hQ5).src aC bU;subst lT;have ow:Cells u (yF.add (k*6)) [.string s.ps[k].1.decl,iV s.ps[k].1.at_,iV s.ps[k].1.arm,.string s.ps[k].2.decl,iV s.ps[k].2.at_,iV s.ps[k].2.arm]:=ow;refine rx ?_;refine Jm (l:=[zT,zI,zI,zT,zI,zI]) rfl (fun u1 b9 Rj h9 aO eV=>?_);refine rx ?_;refine Jd (cs:=fK s.ps[k]) rfl rfl h9 (Wu _) rfl rfl (fun u2 h9 aJ fm=>?_);replace h9:aG u2 b9 [.string s.ps[k].1.decl,iV s.ps[k].1.at_,iV s.ps[k].1.arm,.string s.ps[k].2.decl,iV s.ps[k].2.at_,iV s.ps[k].2.arm] _:=h9;have aS:Fr [] u u2:=aO.trans aJ (fun x hx=>.inr bt);obtain⟨v4,tt,hV4,RL⟩:=hU.from aS;have hpk:=eU.pks _ (Cj aC);have xE:=eW _ hpk.1;have jQ:=eW _ hpk.2;have oD:=GZ _ xE;have n9:b9∉q::ag v4:=fun hm=>by have:=(tt _ hm).1;omega
  refine rx ?_;refine ZH (j:=0) rfl rfl bU ?_;refine rx ?_;refine Jg (Jio s.ps[k].1 xE hV4 qH) ?_;rintro u3 hV5;have h9:=h9.tr hV5.fr n9;refine rx ?_;refine ZH (j:=1) rfl rfl bU ?_;refine rx ?_;refine Jg (Jio s.ps[k].2 jQ hV5 qH) ?_;rintro u4 hV6;refine rx ?_;refine Jc (k+1) a6 ⟨rfl,aC,?_⟩ ab;have:=RL _ _ hV6;rw[Wy _ aC];simpa only[List.append_assoc]using this
 rw[SQ ab]at hU;clear qG g88;refine rx ?_;obtain⟨v6,hI,_,PA⟩:=idm _ _ hU;refine Jl (JjE q v6 _ u hI (by rw[Sm];omega)) ?_;rintro v u2 ⟨gu,aq,cu,_⟩;refine bM ?_;refine⟨v,rfl,?_,eD.Jb aq,fun x hx=>?_⟩
 .rw [show U0 P.prop s=B3++s.ps.flatMap (fun p=>fZ p.1++fZ p.2) by rw[mI,nL,hB];rfl];simpa using gu
 .have:=cu x hx;have:=eD.size;omega
end Go.Proofs.YtggmccicdhnkgaaGreat
namespace Go.Rf
open Go.RowKit
theorem ts{α β:Type}{left gN:List (α×β)}{a:α}{v:β}{q:α×β->Prop}(hl:left.Perm ((a,v)::gN))(h:∀x∈left,q x):q (a,v)/\∀x∈gN,q x:=⟨h _ (hl.mem_iff.2 ap),fun x hx=>h _ (hl.mem_iff.2 lA)⟩
theorem fE.mem{m:List (Br×Int)}{cnt:Br->Nat}(hn:(m.map Prod.fst).Nodup)(h:fE m cnt):∀x∈m,x.2=(cnt x.1:Int)/\cnt x.1≠0:=fun x hx=>by
 have h1:=(Jll hn).2 (show(x.1,x.2)∈m from hx);rw[h x.1]at h1;by_cases h0:cnt x.1=0
 .rw [Cb h0]at h1;cases h1
 .rw [SH h0]at h1;exact⟨(Dl h1).symm,h0⟩
end Go.Rf
namespace Go.Proofs.YtggmccicdhnkgaaGreat
open Go.Proofs.Tryz
open Go.Rf Go.RowKit
attribute [local irreducible] Code.wp wpList Exit.then Exit.inBlock bodyPost A Calls execOp Addr.add
theorem Jlw{p:Nat}{M R:List Nat}{P:Pp}{s:St}(w:World)(hC:Wj w p M R P s)(hn:s.cls.length<=1000000):
 Calls prog 31 #[.pointer (some ⟨p,0,none⟩)] w fun e w'=>∃q M',e=.returned (.pointer (some ⟨q,0,none⟩))/\Wj w' q M' R P s/\(∀x∈M',w.heap.size<=x)/\Fr [] w w':=by
 obtain⟨bb,pb,vr,vc,mb,mp,rfl,rfl,iJ,hb,hr,hc,jN,lS,iU,rm,eU⟩:=hC;have eN:=hr.one;have gI:=hc.one;have tg:=hr.lt;have iaR:=hc.src;refine enter func31 rfl ntmps31 rfl ?_;refine rx ?_;refine Jm (l:=[zT,zI,zS,zI,zI,zI,zI,zS,.map none,.map none]) rfl (fun w1 q nJ hq aj bh=>?_);refine rx ?_;refine Jd (cs:=([.string P.prop,iV (P.checks:Nat),vr,iV (s.runs:Nat),iV (s.o 0:Nat),iV (s.o 1:Nat),iV (s.o 2:Nat),vc,.map (some bb),.map (some pb)])) rfl rfl hq (by intro c hc;simp only[SC,S9,CU]at hc;rcases hc with rfl|rfl|rfl|rfl|rfl|rfl|rfl|rfl|rfl|rfl<;>first|rfl|assumption) rfl rfl (fun w2 nv aq cz=>?_);have aS:Fr [] w w2:=aj.trans aq (fun x hx=>.inr bt);have dN:=hb.tr0 aS;refine rx ?_;refine Qr (fun w3 ho aF dO=>?_);have iB:=dN.tr0 aF;refine rx ?_;refine JC ho rfl ((iaR.tr0 aS).tr0 aF) rfl Ykf (WX _) dt ab (fun AA w4 nI aI pU _=>?_);have eA:=aI.size;have tc:∀x∈ag AA,w2.heap.size<=x:=fun x hx=>(pU x hx).elim (fun h=>by simp[ag,Value.ownBlock]at h;omega) kX
 have sL:Fr [] w2 w4:=aF.trans aI (fun x hx=>.inr (by simp[ag,Value.ownBlock]at hx;omega));have mL:=nv.tr0 sL;rw[CO,Di]at nI;have idd:=nI.one;have A':=sL.size;have wj:=nI.lt;refine rx ?_
 ((with_reducible apply Ji);exact rfl;(conv=>lhs;whnf);exact idd;exact mL;exact rfl)
 intro w5 pJ aO eV;replace pJ:aG w5 q [.string P.prop,iV (P.checks:Nat),vr,iV (s.runs:Nat),iV (s.o 0:Nat),iV (s.o 1:Nat),iV (s.o 2:Nat),AA,.map (some bb),.map (some pb)] _:=pJ;have vB:=nI.tr aO Yja;have bX:Fr [] w w5:=(aS.Jb sL).trans aO (fun x hx=>.inr bt);refine rx ?_;refine Kt (key:=gg) (val:=Value.int .i64) (fun w6 xD aJ fm=>?_);obtain⟨nb,hnb⟩:=aP w5.heap.size;rw[<-hnb]at xD ⊢;refine rx ?_
 ((with_reducible apply Ji);exact rfl;(conv=>lhs;whnf);exact rfl;exact(pJ.tr0 aJ);exact rfl)
 intro w7 TE aQ iF;replace TE:aG w7 q [.string P.prop,iV (P.checks:Nat),vr,iV (s.runs:Nat),iV (s.o 0:Nat),iV (s.o 1:Nat),iV (s.o 2:Nat),AA,.map (some nb),.map (some pb)] _:=TE;have iaS:Fr [q] w5 w7:=(aJ.mono ap).trans aQ (fun x hx=>.inl hx);have hm7:=xD.tr aQ aZ;have hc7:=vB.tr iaS Yja;have ed:Fr [] w w7:=bX.trans iaS (fun x hx=>.inr bt);have Aq:=hb.tr0 ed;have Rz:=jN.tr0 ed;refine rx ?_;refine BR rfl Rz (fun w8 ij aM fL=>?_);obtain⟨rr,nz⟩:=aP w7.heap.size;rw[<-nz]at ij ⊢;have hq8:=TE.tr0 aM;have hm8:=hm7.tr0 aM;have hc8:=hc7.tr0 aM;have dS:=ed.Jb aM;have vW:=jN.lt;have vZ:=iU.lt;have Rv:=hb.lt;have ifN:=dS.size;have TI:=lS.mem jN.nd;clear hq nv mL pJ TE xD hm7 nI vB hc7 dN iB;refine rx ?_;refine Jh 24 [4,5] (σ:=List Br×List (Br×Int)×Option (Br×Int)×List (Br×Int)) (fun t g u=>nu gg (Value.int .i64) u bb rr mb t.2.1 t.2.2.1/\Mp gg (Value.int .i64) u nb t.2.2.2/\fE t.2.2.2 (fun b=>if b∈t.1 then s.cnt b else 0)/\(t.1++t.2.1.map Prod.fst).Perm (mb.map Prod.fst)/\(∀x∈t.2.1,x∈mb)/\Fr [rr,nb] w8 u) (fun t=>t.2.1.length) ([],mb,none,[]) ⟨ij,hm8,fE.nil.congr (fun b=>by simp),by simp,fun x hx=>hx,Fr.refl _ _⟩ ?_;clear ij hm8;rintro⟨xs,left,eS,m2⟩ g u ⟨ij,iD,ea,hp,mC,hF⟩;simp only at ij iD ea hp mC;have cI:=hF.size;have k7:=ij.lt;have ieN:=iD.lt;have ua:=hq8.tr hF aZ;refine rx ?_;refine Θ rfl ij (fun h0=>?_) (fun a av gN u3 qR kO aF dO=>?_)
 .have hk:=LC h0 hp;have iA:fE m2 s.cnt:=ea.congr (fun b=>by
   by_cases h:b∈xs
   .rw [Cb h]
   .rw [SH h];have h1:¬b∈mb.map Prod.fst:=fun h2=>h (hk.mem_iff.2 h2)
    have h3:s.cnt b=0:=DZ (fun h2=>h1 (lS.keys.2 h2));omega)
  have mB:=hc8.tr hF (fun x hx hm=>by have:=wj x hx;simp at hm;omega);have eD:Fr [] w u:=dS.trans hF (fun x hx=>.inr (by simp at hx;omega));clear ij ea hp mC hq8 hc8;refine rx ?_;refine Kt (key:=iC) (val:=Value.bool) (fun v1 Rk mo uf=>?_);obtain⟨np,hnp⟩:=aP u.heap.size;rw[<-hnp]at Rk ⊢;refine rx ?_
  ((with_reducible apply Ji);exact rfl;(conv=>lhs;whnf);exact rfl;exact(ua.tr0 mo);exact rfl)
  intro v2 zU Y8 ht2;replace zU:aG v2 q [.string P.prop,iV (P.checks:Nat),vr,iV (s.runs:Nat),iV (s.o 0:Nat),iV (s.o 1:Nat),iV (s.o 2:Nat),AA,.map (some nb),.map (some np)] _:=zU;have xw:=Rk.tr Y8 aZ;have jn:Fr [q] u v2:=(mo.mono ap).trans Y8 (fun x hx=>.inl hx);have hc9:=mB.tr jn Yja;have hm9:=iD.tr jn aZ;have eL:Fr [] w v2:=eD.trans jn (fun x hx=>.inr bt);have Rj:=hb.tr0 eL;have yl:=iU.tr0 eL;have ifO:=jn.size;refine rx ?_;refine BR rfl yl (fun v3 ij hg3 ht3=>?_);obtain⟨rs,As⟩:=aP v2.heap.size;rw[<-As]at ij ⊢;have qZ:=zU.tr0 hg3;have hn3:=xw.tr0 hg3;have ide:=hc9.tr0 hg3;have yG:=hm9.tr0 hg3;have bk:=eL.Jb hg3;clear zU xw Rk hc9 hm9 Rj;refine rx ?_;refine Jh 40 [6] (σ:=List Pr×List (Pr×Bool)×Option (Pr×Bool)×List (Pr×Bool)) (fun t g u=>nu iC Value.bool u pb rs mp t.2.1 t.2.2.1/\Mp iC Value.bool u np t.2.2.2/\BJ t.2.2.2 (· ∈t.1)/\(t.1++t.2.1.map Prod.fst).Perm (mp.map Prod.fst)/\Fr [rs,np] v3 u) (fun t=>t.2.1.length) ([],mp,none,[]) ⟨ij,hn3,BJ.nil.congr (fun b=>by simp),by simp,Fr.refl _ _⟩ ?_;clear ij hn3;rintro⟨ys,left,eS,m3⟩ g u ⟨ij,zJ,nn,hp,hF⟩;simp only at ij zJ nn hp;have iaE:=hF.size;have k7:=ij.lt;have ieO:=zJ.lt;have ua:=qZ.tr hF aZ;refine rx ?_;refine Θ rfl ij (fun h0=>?_) (fun a av gN u3 qR kO aF dO=>?_)
  .have hk:=LC h0 hp;refine bM ?_;have mB:=ide.tr hF (fun x hx hm=>by have:=wj x hx;simp at hm;omega);have kA:=yG.tr hF aZ;refine⟨q,[q,nb,np]++ag AA,rfl,⟨nb,np,vr,AA,m2,m3,rfl,rfl,Jj8 (Ao mB) (Ao hr) ab ab ab (fun x hx=>?_) (fun x hx=>?_),ua,(hr.tr0 bk).tr hF (fun x hx hm=>by have:=tg x hx;simp at hm;omega),mB,kA,iA,zJ,nn.congr (fun b=>?_),eU⟩,fun x hx=>?_,bk.trans hF (fun x hx=>.inr (by simp at hx;omega))⟩
   .have h1:=tc x hx;have h2:=wj x hx;refine⟨by omega,by omega,by omega,fun hm=>?_⟩;have:=tg x hm;omega
   .have:=tg x hx;exact⟨by omega,by omega,by omega⟩
   .rw [hk.mem_iff];exact rm.keys
   .simp only[SE,SC,S9,CU]at hx;rcases hx with(rfl|rfl|rfl)|hx
    .omega
    .omega
    .omega
    .have:=tc x hx;omega
  .have hm4:=zJ.tr aF aZ;have uV:=ua.tr aF aZ;have lq:=qR.length_eq;simp only[SI]at lq;have aV:Fr [rs,np] v3 u3:=hF.trans aF (fun x hx=>.inl Yip);refine rx ?_;refine JbH rfl kO ?_;refine rx ?_;refine Jm (l:=[zT,zI,zI,zT,zI,zI]) rfl (fun u4 bv gJ tt aI eA=>?_);refine rx ?_;refine Jd (cs:=fK a) rfl rfl tt (Wu a) rfl rfl (fun u5 tu aO eV=>?_);replace tu:aG u5 bv (fK a) _:=tu;have ls:Fr [] u3 u5:=aI.trans aO (fun x hx=>.inr bt);have pq:=uV.tr0 ls;have idf:=ls.size;refine rx ?_;refine BX (key:=iC) (val:=Value.bool) (a:=a) (v:=true) (hm4.tr0 ls) rfl rfl rfl (fun u6 xD aJ fm=>?_);refine rx ?_;refine Jc (ys++[a],gN,some (a,av),_) a6 ⟨(kO.tr0 ls).tr aJ aZ aZ,xD,nn.put.congr (fun b=>by simp[or_comm]),JeH qR hp,(aV.Jb ls).trans aJ (fun x hx=>.inl Yip)⟩ eM
 .have zJ:=iD.tr aF aZ;have uV:=ua.tr aF aZ;have lq:=qR.length_eq;simp only[SI]at lq;obtain⟨Py,nv⟩:=ts qR mC;obtain⟨hav,po⟩:=TI _ Py;simp only at hav po;subst hav;have aV:Fr [rr,nb] w8 u3:=hF.trans aF (fun x hx=>.inl Yip);refine rx ?_;refine JbH rfl kO ?_;refine rx ?_;refine Jm (l:=[zT,zI,zI]) rfl (fun u4 bv gJ tt aI eA=>?_);refine rx ?_;refine Jd (cs:=dH a) rfl rfl tt (QD a) rfl rfl (fun u5 tu aO eV=>?_);replace tu:aG u5 bv [.string a.decl,iV a.at_,iV a.arm] _:=tu;have ls:Fr [] u3 u5:=aI.trans aO (fun x hx=>.inr bt);have pq:=uV.tr0 ls;have idf:=ls.size;refine rx ?_;refine BX (key:=gg) (val:=Value.int .i64) (a:=a) (v:=(s.cnt a:Int)) (zJ.tr0 ls) rfl rfl rfl (fun u6 xD aJ fm=>?_);refine rx ?_;refine Jc (xs++[a],gN,some (a,(s.cnt a:Int)),_) a6 ⟨(kO.tr0 ls).tr aJ aZ aZ,xD,(ea.put (b:=a) po).congr (fun b=>?_),JeH qR hp,nv,(aV.Jb ls).trans aJ (fun x hx=>.inl Yip)⟩ eM;by_cases e:b=a
  .subst e;simp
  .simp [e]
end Go.Proofs.YtggmccicdhnkgaaGreat
namespace Go.Rf
open Go.RowKit
theorem JaP{P:Program}{n:Nat}{f:Env}{w:World}{d:Nat}{ty:TypeId}{ps:String}{af:Array Edge}{gd:Option (Nat×Bool)}{x y:Operand}{t t2:Nat}[B:BrT P t]{a b:Br}{p:Bool}(hx:ev n f x=.agg (dH a).toArray)(hy:ev n f y=.agg (dH b).toArray)(hp:decide (¬a=b)=p):(execOp (ev n f) ⟨some d,.binOp .neq t x y t2,ty,ps,af,gd⟩).run P w=.ok (.value (.bool p)) w:=by
 have h2:(Op.equal t (.agg (dH a).toArray) (.agg (dH b).toArray)).run P w=.ok (decide (a=b)) w:=UE (P:=P) (t:=t) (w:=w) 9998 a b;subst hp;by_cases h:a=b
 .subst h;rw[SN rfl]at h2;simp[execOp,eqGuard,binOp,hx,hy,h2,B.grd]
 .rw [SG h]at h2;simp[execOp,eqGuard,binOp,hx,hy,h2,B.grd,h]
end Go.Rf
namespace Go.Proofs.YtggmccicdhnkgaaGreat
open Go.Rf Go.RowKit
attribute [local irreducible] Code.wp wpList Exit.then Exit.inBlock bodyPost A Calls execOp Addr.add
end Go.Proofs.YtggmccicdhnkgaaGreat
namespace Go.Rf
open Go.RowKit
theorem Jlb{n:Nat}{m:List Nat}(hp:m.Pairwise (· < ·))(hb:∀x∈m,x<n):WB n (m.map (fun(i:Nat)=>(i:Int)))=true:=by
 refine UK (fun j hj=>?_);rw[Sr]at hj;unfold Bf;rw[ff (by rw[Sr];exact hj),F7];refine SN ⟨by omega,?_,fun h0=>?_⟩
 .have:=hb m[j] (Cj hj);omega
 .rw [ff (by rw[Sr];omega),F7];have:=Fj.1 hp (j-1) j ab hj ab;omega
end Go.Rf
namespace Go.Proofs.YtggmccicdhnkgaaGreat
open Go.Rf Go.RowKit
variable{at_:Int}{l:List Int}{P:Pp}
theorem Jld:Qd P (XW P l at_ false)=true:=by
 obtain⟨k,hk⟩:=aP (pk l at_ 1000000);have h0:∀{q:Prop} [Decidable q],¬((false=true)/\q):=fun h=>by cases h.1
 refine Jgi ?_ ?_
 .unfold Gt XW;rw[SH h0,SH h0,<-hk];refine SN ?_;simp only;unfold rD pY;by_cases c:0<k/6%3/\0<P.checks
  .rw [Cb c,Cb c];have h1:=Fq (k/18) (show(P.checks:Int)≠0 by omega);have h2:=EP (k/18) (show(0:Int)<P.checks by omega);refine⟨by omega,by omega,fun h=>by omega,fun _=>⟨h1,h2⟩,?_⟩;by_cases e:k/6%3=2<;>simp[e]
  .rw [SH c,SH c];simp
 .unfold XW;simp only[SS,false_and,CW,Ce];unfold Vx;refine Jlb (List.Pairwise.filter _ List.pairwise_lt_range) (fun x hx=>?_);exact FT.1 (Fp.1 hx).1
theorem Jfh{b:Bool}:(XW P l at_ b).bs.length<=5:=by
 have AB:=Zf (l:=l) (i:=at_) (m:=1000000) bU;show(VG P l at_ _).length<=5;rw[Jaa];omega
theorem Jfg{b:Bool}:(XW P l at_ b).cl.length<=P.ncls+1:=by
 have h:=Bg (l:=l) (at_:=at_) (m:=P.ncls);show(Vx l at_ P.ncls++_).length<=_;rw[Sm]
 split<;>simp<;>omega
theorem JfK{ds:List De}{nm:ByteArray}{d:De}(hm:MD ds)(hf:jz ds 3 nm=some d):(Rm ds nm d).checks<=16/\(Rm ds nm d).ncls<=16/\(Rm ds nm d).reach.length<=253000:=by
 obtain⟨hd,hk,_⟩:=XT hf;have hl:=(hm.2.1 d hd).1;unfold UZ at hl;rw[SH ab,SH ab,SH ab,Cb hk]at hl;simp only[Cc]at hl;have h1:=hl.2.1;have h2:=hl.2.2.1;unfold GH at h1 h2;simp only[Cc]at h1 h2;have hb:∀n,j9 16 n=false->n<=16:=fun n h=>Iu (fun hh=>by unfold j9 at h;rw[Nat.blt_eq.mpr hh]at h;cases h)
 have h1:=hb _ h1.1;have h2:=hb _ h2.1;have h3:=Jex (nm:=nm) hm.sz;have h4:=hm.len;refine⟨?_,?_,?_⟩
 .show d.checks.length<=16;omega
 .show d.classes.length<=16;omega
 .show (JM eO (KX ds nm)).length<=253000;omega
attribute [local irreducible] Code.wp wpList Exit.then Exit.inBlock bodyPost A Calls execOp Addr.add
end Go.Proofs.YtggmccicdhnkgaaGreat
namespace Go.Rf
open Go.RowKit
variable{nm:ByteArray}
theorem L6{ds:List De}:∀(f:Nat) (s:List ByteArray×List De),(∀d∈s.2,d∈ds)->∀b∈KD ds f s,∃d∈ds,b∈mf d
 |0,_,_,b,hb=>by simp[KD]at hb
 |f+1,(seen,[]),_,b,hb=>by simp[KD]at hb
 |f+1,(seen,d::q),h,b,hb=>by
  rw[KD,SE]at hb;rcases hb with hb|hb
  .exact ⟨d,h d ap,hb⟩
  .exact L6 f _ (WO (fun x hx=>h x (by simp at hx ⊢;exact .inr hx))) b hb
theorem Jc2{ds:List De}{b:Br}(hb:b∈JM eO (KX ds nm)):∃d∈ds,b∈mf d:=by
 rw[KF Qu]at hb;unfold KX at hb;cases he:QF ds nm with
 |none=>rw[he]at hb;cases hb
 |some d=>
  rw[he]at hb;exact L6 _ _ (fun x hx=>by rw[Sv.1 hx];exact Ei he) b hb
end Go.Rf
namespace Go.Proofs.YtggmccicdhnkgaaGreat
open Go.Rf Go.RowKit
variable{nm:ByteArray}{n p:Nat}{P:Pp}{s:St}{u u':World}
structure SmP (P:Pp):Prop where
 prop:P.prop.size<=100000
 checks:P.checks<=16
 ncls:P.ncls<=16
 reach:P.reach.length<=253000
 br:∀b∈P.reach,si b
theorem Rl{b:Br}(h:si b):RJ b:=by
 obtain⟨h1,⟨h2,h3⟩,h4,h5⟩:=h;exact⟨by omega,⟨by omega,by omega⟩,⟨by omega,by omega⟩⟩
theorem Jbm{b:Br}(h:si b):(fZ b).length<=100100:=by
 have h1:=VA (Rl h).2.1.1 (Rl h).2.1.2;have h2:=VA (Rl h).2.2.1 (Rl h).2.2.2;exact Ycy
def xx(rs:List Rn):Prop:=rs.length<=20/\∀r∈rs,r.bs.length<=5/\∀b∈r.bs,si b
theorem WJ{α:Type}{f:α->List Int}:∀{l:List α},(∀a∈l,(f a).length<=n)->(l.flatMap f).length<=l.length*n
 |[],_=>by simp
 |a::l,h=>by
  have h1:=WJ (l:=l) (fun x hx=>h x lA);have h2:=h a ap;rw[CP,Sm,SI,DN];omega
theorem xx.bs{rs:List Rn}(h:xx rs):(rs.flatMap (·.bs)).length<=100/\(rs.flatMap (fun r=>Jy r.bs)).length<=100:=by
 have key:∀(rs:List Rn),(∀r∈rs,r.bs.length<=5/\∀b∈r.bs,si b)->(rs.flatMap (·.bs)).length<=5*rs.length/\(rs.flatMap (fun r=>Jy r.bs)).length<=5*rs.length:=by
  intro rs
  induction rs with
  |nil=>intro _;simp
  |cons r rs ih=>
   intro h;have h1:=ih (fun x hx=>h x lA);have h2:=(h r ap).1;have h3:=QI (l:=r.bs);simp only[CP,Sm,SI];omega
 have:=key rs h.2;have:=h.1;omega
theorem xx.ks{rs:List Rn}(h:xx rs):(J6 n rs).ks.length<=100/\(J6 n rs).ps.length<=100/\∀b∈(J6 n rs).ks,si b:=by
 have h1:=h.bs;have h2:=KQ (lt:=eO) (l:=rs.flatMap (·.bs));have h3:=KQ (lt:=eC) (l:=rs.flatMap (fun r=>Jy r.bs));refine⟨by show(JM eO _).length<=_;omega,by show(JM eC _).length<=_;omega,fun b hb=>?_⟩;have hb:b∈JM eO (rs.flatMap (·.bs)):=hb;rw[KF Qu,DY]at hb;obtain⟨r,hr,hb⟩:=hb;exact(h.2 r hr).2 b hb
theorem Jjh(hP:SmP P)(hs:StOk P s)(hr:s.runs<=1000000)(hk:s.ks.length<=100)(hp:s.ps.length<=100)(hb:∀b∈s.ks,si b):(U0 P.prop s).length<=1000000000:=by
 have hv:∀n:Nat,n<=1000000000->(iv (n:Int)).length<=10:=fun n hn=>VA ab ab
 have ho:=hs.o;have h0:=hv s.runs ab;have h1:=hv (s.o 0) ab;have h2:=hv (s.o 1) ab;have h3:=hv (s.o 2) ab;have hc:=hs.ncls;have hn:=hP.ncls;have h4:=hv s.cls.length ab;have h5:=hv s.ks.length ab;have h6:=hv s.ps.length ab;have h7:=Xw P.prop.size (by have:=hP.prop;omega);have h8:=hP.prop;have h9:(s.cls.flatMap (fun n=>iv (n:Nat))).length<=s.cls.length*10:=WJ (fun n hn=>hv n (by have:=hs.ocls n hn;omega));have ez:(s.ks.flatMap (fun b=>fZ b++iv (s.cnt b))).length<=s.ks.length*100200:=WJ (fun b hm=>by
  have:=Jbm (hb b hm);have:=hv (s.cnt b) (by have:=hs.ocnt b;omega);rw[Sm];omega)
 have jH:(s.ps.flatMap (fun p=>fZ p.1++fZ p.2)).length<=s.ps.length*200200:=WJ (fun p hm=>by
  have h:=hs.pks p hm;have:=Jbm (hb _ h.1);have:=Jbm (hb _ h.2);rw[Sm];omega)
 have pZ:s.ks.length*100200<=100*100200:=Em _ hk;have kD:s.ps.length*200200<=100*200200:=Em _ hp;simp only[U0,raw,Sm,Xx];omega
theorem JjO(hP:SmP P)(n:Int)(hn:0<=n/\n<=1000):si (yR P n):=by
 unfold yR
 split
 .rename_i h;have aC:(n/17%P.reach.length).toNat<P.reach.length:=by
   have:=EP (n/17) (show(0:Int)<P.reach.length by omega);have:=Fq (n/17) (show(P.reach.length:Int)≠0 by omega);omega
  rw[Ig,Dc aC];exact hP.br _ (Cj _)
 .exact ⟨show(aA [111,116,104,101,114]).size<=100000 by decide,⟨show 0<=n/17%3 by omega,show n/17%3<=1000000 by omega⟩,show 0<=n/51%2 by omega,show n/51%2<=1000000 by omega⟩
theorem JgR(hP:SmP P){l:List Int}{a:Int}{bad:Bool}:∀b∈(XW P l a bad).bs,si b:=fun b hb=>by
 obtain⟨i,_,rfl⟩:=Du.1 hb;have:=Zf (l:=l) (i:=a+i+1) (m:=1000) ab;exact JjO hP _ ⟨by omega,by omega⟩
theorem Jix{ds:List De}{d:De}(hm:MD ds)(hf:jz ds 3 nm=some d):SmP (Rm ds nm d):=by
 have h:=JfK hm hf;obtain⟨hd,hk,hn⟩:=XT hf;refine⟨?_,h.1,h.2.1,h.2.2,fun b hb=>?_⟩
 .have:=(hm.gd d hd).name;show nm.size<=_;rw[<-hn];exact this
 .obtain ⟨d',hd',hb⟩:=Jc2 hb;exact hm.br d' hd' b hb
def CI(u:World)(p:Nat)(P:Pp)(s:St)(A B:Nat->Prop):Prop:=∃M R,Wj u p M R P s/\(∀x∈M,A x)/\(∀x∈R,B x)
def FI(A:Nat->Prop)(u u':World):Prop:=∃T,Fr T u u'/\∀x∈T,A x
theorem FI.of0{A:Nat->Prop}(h:Fr [] u u'):FI A u u':=⟨[],h,by simp⟩
theorem FI.trans{A B C:Nat->Prop}{u1 u2:World}(h:FI A u u1)(k:FI B u1 u2)(h1:∀x,A x->C x)(h2:∀x,B x->C x\/u.heap.size<=x):FI C u u2:=by
 obtain⟨T,hT,hA⟩:=h;obtain⟨V,hV,hB⟩:=k;refine⟨T++V.filter (fun x=>decide (x<u.heap.size)),(hT.mono (fun x hx=>.inl (SA _ hx))).trans hV (fun x hx=>?_),fun x hx=>?_⟩
 .by_cases aC:x<u.heap.size
  .exact .inl (CJ _ (Fp.2 ⟨hx,SN aC⟩))
  .exact .inr ab
 .rcases SE.1 hx with hx|hx
  .exact h1 x (hA x hx)
  .obtain ⟨h3,h4⟩:=Fp.1 hx;have:=DJ h4;rcases h2 x (hB x h3)with h|h
   .exact h
   .omega
theorem FI.size{A:Nat->Prop}(h:FI A u u'):u.heap.size<=u'.heap.size:=by
 obtain⟨T,hT,_⟩:=h;exact hT.size
theorem CI.fi{A B C:Nat->Prop}(h:CI u p P s A B)(hf:FI C u u')(h1:∀x,A x->¬C x)(h2:∀x,B x->¬C x):CI u' p P s A B:=by
 obtain⟨M,R,hC,hM,hR⟩:=h;obtain⟨T,hT,hi⟩:=hf;refine⟨M,R,hC.tr hT (fun x hx hm=>?_),hM,hR⟩;rcases SE.1 hx with hx|hx
 .exact h1 x (hM x hx) (hi x hm)
 .exact h2 x (hR x hx) (hi x hm)
theorem CI.tr0{A B:Nat->Prop}(h:CI u p P s A B)(hf:Fr [] u u'):CI u' p P s A B:=h.fi (C:=fun _=>False) (.of0 hf) (fun _ _ h=>h) (fun _ _ h=>h)
theorem CI.ok{A B:Nat->Prop}(h:CI u p P s A B):StOk P s:=by
 obtain⟨M,R,hC,_,_⟩:=h;obtain⟨_,_,_,_,_,_,_,_,_,_,_,_,_,_,_,_,h⟩:=hC;exact h
end Go.Proofs.YtggmccicdhnkgaaGreat
namespace Go.Rf
open Go.RowKit
theorem Jen{A:List Pr}{bs:List Br}{k:Nat}(hk:k<(JM eC (Jy bs)).length):JM eC (A++(JM eC (Jy bs)).take (k+1))=gQ eC (JM eC (Jy bs))[k] (JM eC (A++(JM eC (Jy bs)).take k)):=by
 rw[SK hk,<-List.append_assoc,BQ Qy (l:=A++_)];rfl
theorem Jfj{A:List Pr}{bs:List Br}:JM eC (A++JM eC (Jy bs))=JM eC (A++Jy bs):=V6 Qy (fun y=>by rw[SE,SE,KF Qy])
theorem Jjz{rs:List Rn}{i:Nat}(hn:rs.length<=1000)(hc:∀r∈rs,r.bs.length<=100):((rs.take i).flatMap (fun r=>Jy r.bs)).length<=100000:=by
 have key:∀(l:List Rn),(∀r∈l,r.bs.length<=100)->(l.flatMap (fun r=>Jy r.bs)).length<=100*l.length:=by
  intro l
  induction l with
  |nil=>intro _;simp
  |cons r l ih=>
   intro h;have h1:=ih (fun x hx=>h x lA);have h2:=h r ap;have h3:=QI (l:=r.bs);simp only[CP,Sm,SI];omega
 exact Yld
end Go.Rf
namespace Go.Proofs.YtggmccicdhnkgaaGreat
open Go.Proofs.Tryz
open Go.Rf Go.RowKit
variable{af:Array Edge}{f:Env}{Q:Exit->Act->World->Prop}{cs:List Int}{T:List Nat}{rest:List Oper}{eZ d n q t:Nat}{s x:Operand}{P:Pp}{ps:String}{xv:Value}{u u0 w w0 w1:World}
attribute [local irreducible] Code.wp wpList Exit.then Exit.inBlock bodyPost A Calls execOp Addr.add
theorem X9{rs:List Rn}(w:World)(hQ:rp w q P rs)(hn:rs.length<=1000)(hc:∀r∈rs,r.bs.length<=100):
 Calls prog 57 #[.pointer (some ⟨q,0,none⟩)] w fun e w'=>∃v,e=.returned v/\PO w 128 w' (JM eC (rs.flatMap (fun r=>Jy r.bs))) v/\Fr [] w w':=by
 obtain⟨vr,vs,hb,nz,jx⟩:=hQ;have PH:=nz.one;have rF:=jx.one;obtain⟨lE,cs,rfl,_⟩:=jx.slice;have tx:(rs.map vU).length=rs.length:=Sr ..;rw[tx]at hb jx rF;refine enter func57 rfl ntmps57 rfl ?_;refine rx ?_;refine Jh 7 [3,4,5,6] (σ:=Nat×Value) (fun t g u=>g 4=iV (t.1:Nat)/\g 3=t.2/\t.1<=rs.length/\PO w 128 u (JM eC ((rs.take t.1).flatMap (fun r=>Jy r.bs))) t.2/\Fr [] w u) (fun t=>rs.length-t.1) (0,zS) ⟨rfl,rfl,SL _,⟨bx.nil _ _ _,fun b hb=>by simp[ag,Value.ownBlock]at hb⟩,Fr.refl _ _⟩ ?_;rintro⟨i,va⟩ g u ⟨g4,g3,hi,hA,hF⟩;simp only at g4 g3 hi hA;rw[Ja g4,Ja g3];have hb:=hb.tr0 hF;by_cases aC:i<rs.length
 case neg=>
  rw[show rs.take i=rs from SQ ab]at hA;refine bM ?_;exact⟨va,rfl,hA,hF⟩
 obtain⟨ad,bS,bi,hr,hce⟩:=DR.at Gi (jx.tr0 hF) aC;subst bi;obtain⟨vb,vl,rfl,mj,wm⟩:=rnR hr;have hcn:=hc _ (Cj aC);obtain⟨iK,cb,rfl,_⟩:=mj.slice;refine rx ?_;refine Jl (Jak rs[i].bs _ u mj ab) ?_;rintro v2 u2 ⟨hB,aq⟩;obtain⟨Ab,cp,rfl⟩:=hB.1.slice;have hA:=(show PO w 128 u2 _ _ from⟨hA.1.tr0 aq,hA.2⟩);have fA:=Jjz hn hc (i:=i);have pj:=QI (l:=rs[i].bs);have aS:=hF.Jb aq;refine rx ?_;refine Jh 7 [3,6] (σ:=Nat×Value) (fun t g z=>g 6=iV (t.1:Nat)/\g 3=t.2/\t.1<=(JM eC (Jy rs[i].bs)).length/\PO w 128 z (JM eC ((rs.take i).flatMap (fun r=>Jy r.bs)++(JM eC (Jy rs[i].bs)).take t.1)) t.2/\Fr [] u2 z) (fun t=>(JM eC (Jy rs[i].bs)).length-t.1) (0,va) ⟨rfl,rfl,SL _,by simpa using hA,Fr.refl _ _⟩ ?_;rintro⟨k,vk⟩ g' z ⟨g6,g3',hk,hA',AE⟩;simp only at g6 g3' hk hA';rw[Ja g6,Ja g3'];have aV:=aS.Jb AE;by_cases hlk:k<(JM eC (Jy rs[i].bs)).length
 case neg=>
  rw[show(JM eC (Jy rs[i].bs)).take k=JM eC (Jy rs[i].bs) from SQ ab,Jfj]at hA';refine rx ?_;refine Jc (i+1,vk) a6 ⟨rfl,rfl,aC,?_,aV⟩ eM;simp only;rw[SK aC,List.flatMap_append];simpa using hA'
 obtain⟨xF,oQ,iy⟩:=JZ VK (hB.1.tr0 AE).src hlk bU;subst oQ;refine rx ?_;have idB:=KQ (lt:=eC) (l:=(rs.take i).flatMap (fun r=>Jy r.bs)++(JM eC (Jy rs[i].bs)).take k);have ifV:=KQ (lt:=eC) (l:=Jy rs[i].bs);rw[Sm,C9]at idB;refine Jl (Jal _ (JM eC (Jy rs[i].bs))[k] vk w z hA' aV.size (QA Qy _) ab) ?_;rintro v3 z2 ⟨hA2,aF⟩;refine rx ?_;refine Jc (k+1,v3) a6 ⟨rfl,rfl,hlk,?_,AE.Jb aF⟩ eM;simp only;rw[Jen hlk];exact hA2
theorem Jfv{rs:List Rn}(w:World)(hQ:rp w q P rs)(hn:rs.length<=1000)(hc:∀r∈rs,r.bs.length<=100)(hP:P.reach.length<=1000000)(vJ:gR eO P.reach):
 Calls prog 63 #[.pointer (some ⟨q,0,none⟩)] w fun e w'=>∃v,e=.returned v/\BO w 50 w' (Ur P (J6 P.ncls rs)) v/\Fr [] w w':=by
 have zM:=hQ;obtain⟨vr,vs,hb,nz,jx⟩:=hQ;have PH:=nz.one;have rF:=jx.one;obtain⟨lE,cs,rfl,_⟩:=jx.slice;have tx:(rs.map vU).length=rs.length:=Sr ..;rw[tx]at hb jx rF;obtain⟨mr,cr,rfl,_⟩:=nz.slice;have hlr:(P.reach.map jl).length=P.reach.length:=Sr ..;rw[hlr]at hb nz PH;refine enter func63 rfl ntmps63 rfl ?_;refine rx ?_;refine Jl (WQ w zM hn (fun r hr=>by have:=hc r hr;omega)) ?_;rintro v1 w1 ⟨hB,aj⟩;have hb:=hb.tr0 aj;refine rx ?_;refine Jl (JaN P.reach _ w1 (nz.tr0 aj) hP) ?_;rintro v2 w2 ⟨hR,aq⟩;rw[BP Qu vJ (fun y=>Iff.rfl)]at hR;obtain⟨K,hK⟩:=aP (JM eO (rs.flatMap (·.bs)));rw[<-hK]at hB;have RA:∀b,decide ((J6 P.ncls rs).cnt b=0)= !decide (b∈K):=fun b=>by
  have:=Nv (n:=P.ncls) (rs:=rs) (b:=b);have e:(J6 P.ncls rs).ks=K:=hK.symm;rw[e]at this;by_cases h:b∈K
  .simp only[h,decide_true,Bool.not_true];exact SG (this.2 h)
  .simp only[h,decide_false,Bool.not_false];exact SN (DZ fun hn=>h (this.1 hn))
 have hKl:K.length<=1000000:=by
  have h1:=KQ (lt:=eO) (l:=rs.flatMap (·.bs));have h2:=JhZ (i:=rs.length) hn (fun r hr=>by have:=hc r hr;omega);rw[Dk]at h2;rw[<-hK]at h1;omega
 have aS:=aj.Jb aq;have nL:=hB.1.tr0 aq;obtain⟨wv,ck,rfl⟩:=hB.1.slice;obtain⟨ifW,gU,rfl⟩:=hR.1.slice;clear hB;refine rx ?_;refine Jh 8 [5,6,7] (σ:=Nat×Value) (fun t g u=>g 6=iV (t.1:Nat)/\g 5=t.2/\t.1<=P.reach.length/\BO w2 50 u ((P.reach.take t.1).filter (fun b=>decide ((J6 P.ncls rs).cnt b=0))) t.2/\Fr [] w2 u) (fun t=>P.reach.length-t.1) (0,zS) ⟨rfl,rfl,SL _,BO.nil,Fr.refl _ _⟩ ?_;rintro⟨i,va⟩ g u ⟨g6,g5,hi,hA,hF⟩;simp only at g6 g5 hi hA;rw[Ja g6,Ja g5];have lD:=aS.Jb hF;by_cases aC:i<P.reach.length
 case neg=>
  rw[SQ ab]at hA;refine bM ?_;exact⟨va,rfl,⟨hA.1,fun x hx=>by have:=hA.2 x hx;have:=aS.size;omega⟩,lD⟩
 obtain⟨xF,oQ,iy⟩:=JZ QN (hR.1.tr0 hF).src aC bU;subst oQ;have iy:Cells u (xF.add (i*3)) [.string P.reach[i].decl,iV P.reach[i].at_,iV P.reach[i].arm]:=iy;refine rx ?_;refine Jg (Jdc K P.reach[i] _ u (S:=[]) (ZO (nL.tr0 hF) ab ap)) ?_;rintro u2 aF;have ai:=Zr (p:=fun b=>decide ((J6 P.ncls rs).cnt b=0)) aC;have rG:=RA P.reach[i];have ia3:=hF.Jb aF;by_cases he:P.reach[i]∈K
 .rw [SN he]at rG ⊢;refine rx ?_;refine Jc (i+1,va) a6 ⟨rfl,rfl,aC,?_,ia3⟩ eM;simp only;rw[ai,rG];simpa using(show BO w2 _ u2 _ _ from⟨hA.1.tr0 aF,hA.2⟩)
 .rw [SG he]at rG ⊢;have hA1:=hA.1.one;have hAl:=hA.1.lt;have iy:=iy.tr0 aF;have j8:=D5 (fun b=>decide ((J6 P.ncls rs).cnt b=0)) (P.reach.take i);rw[C9]at j8;obtain⟨aov,cv,rfl⟩:=hA.1.slice;refine rx ?_;refine JQ (c1:=dH P.reach[i]) rfl rfl rfl (fun z2 q2 nv gu ia4 uX=>?_);refine rx ?_;refine JC (hA.1.tr0 (aF.Jb ia4)) rfl gu.src rfl rfl (QD _) dt ab (fun v3 z3 pw idC lg _=>?_);have cI:=hF.size;have dO:=aF.size;refine rx ?_;refine Jc (i+1,v3) a6 ⟨rfl,rfl,aC,⟨?_,fun x hx=>?_⟩,(ia3.Jb ia4).trans idC (fun x hx=>.inr (hA.2 x hx))⟩ eM
  .simp only;rw[ai,rG];simp only[Bool.not_false,CX,List.flatMap_append,Sm,CP,Ey,Ce,SI,SY];exact pw
  .rcases lg x hx with h|h
   .exact hA.2 x h
   .omega
theorem Out.UW{v:Value}{bs:List Int}(h:Out w w1 v bs)(hf:Fr [] w1 u):Out w u v bs:=⟨h.1.tr0 hf,h.2.1.Jb hf,h.2.2⟩
theorem Out.Jj1{w2:World}{v:Value}{bs:List Int}(hf:Fr [] w w1)(h:Out w1 w2 v bs):Out w w2 v bs:=⟨h.1,hf.Jb h.2.1,fun k hk=>CG hf.size (h.2.2 k hk)⟩
theorem ZE{P:Program}{ops:Array Oper}{ty:TypeId}[Rr:RowT P t 5 1 eZ]{v:Value}{bs:List Int}(ho:Out w0 w v bs)(hs:ev n f s=v)(eo:Src w xv cs.length (cs.map (.int .u8)))(hx:ev n f x=xv)(hl:bs.length+cs.length<=10000000000)(sy:eZ<=1)
 (h:∀v' w',Out w0 w' v' (bs++cs)->Fr (ag v) w w'->wpList P ops Q rest (A n (bz f d v')) w'):
 wpList P ops Q (⟨some d,.call {callee:=.builtin .append,args:=#[s,x],argTypes:=#[t,t]},ty,ps,af,none⟩::rest) (A n f) w:=by
 have hb:(bs.length+cs.length)*eZ<=(bs.length+cs.length)*1:=IQ _ sy
 refine JC ho.1 hs eo hx ap (Zp _ _) dt ab (fun v' w' RW sA nA _=>h v' w' (ho.app (Fr.refl _ _) RW sA nA) sA)
def BK(T:List Nat)(u0 u:World)(v:Value)(bs:List Int):Prop:=bx u 5 1 v bs.length (bs.map (.int .u8))/\Fr T u0 u/\∀k∈ag v,k∈T\/u0.heap.size<=k
theorem BK.of{v:Value}{bs:List Int}(h:Out w u v bs):BK (ag v) u u v bs:=⟨h.1,Fr.refl _ _,fun k hk=>.inl hk⟩
theorem BK.fin{va v:Value}{bs:List Int}(h0:Out w u0 va cs)(h:BK (ag va) u0 u v bs):Out w u v bs:=
 ⟨h.1,h0.2.1.trans h.2.1 (fun x hx=>.inr (h0.2.2 x hx)),fun k hk=>(h.2.2 k hk).elim (h0.2.2 k) (fun h=>CG h0.2.1.size h)⟩
theorem BK.old{z:World}{v:Value}{bs:List Int}(h:BK T u0 u v bs)(hf:Fr [] u z):BK T u0 z v bs:=⟨h.1.tr0 hf,h.2.1.Jb hf,h.2.2⟩
theorem ZC{P:Program}{ops:Array Oper}{ty:TypeId}[Rr:RowT P t 5 1 eZ]{v:Value}{bs:List Int}(ho:BK T w0 w v bs)(hs:ev n f s=v)(eo:Src w xv cs.length (cs.map (.int .u8)))(hx:ev n f x=xv)(hl:bs.length+cs.length<=10000000000)(sy:eZ<=1)
 (h:∀v' w',BK T w0 w' v' (bs++cs)->wpList P ops Q rest (A n (bz f d v')) w'):
 wpList P ops Q (⟨some d,.call {callee:=.builtin .append,args:=#[s,x],argTypes:=#[t,t]},ty,ps,af,none⟩::rest) (A n f) w:=by
 have hb:(bs.length+cs.length)*eZ<=(bs.length+cs.length)*1:=IQ _ sy
 refine JC ho.1 hs eo hx ap (Zp _ _) dt ab (fun v' w' RW sA nA _=>h v' w' ⟨?_,ho.2.1.trans sA (fun x hx=>ho.2.2 x hx),fun k hk=>?_⟩)
 .rw [Sm,Dp];exact RW
 .rcases nA k hk with h|h
  .exact ho.2.2 k h
  .exact .inr (CG ho.2.1.size h)
theorem JeX(b:Br)(w:World)(hb:RJ b):
 Calls prog 107 #[.agg (dH b).toArray] w fun e w'=>∃v',e=.returned v'/\Out w w' v' (fZ b):=by
 have hd:=hb.1;have Aa:=Xx b.decl;have Aw:=Xw (sb b.decl).length ab;refine enter func107 rfl ntmps107 rfl ?_;refine rx ?_;refine Ju (l:=dH b) rfl rfl (fun w1 b1 bJ h1 aj bh=>?_);replace h1:aG w1 b1 [.string b.decl,iV b.at_,iV b.arm] _:=h1;refine rx ?_;refine Jad rfl (fun c w2 hc eo aq=>?_);have fG:b.decl.data.toList.map (fun c=>Value.int .u8 (c.toNat:Int))=(sb b.decl).map (.int .u8):=by simp[sb]
 refine Jl (Jfu _ (sb b.decl) w2 (by rw[Xx,<-fG];exact eo) ab) ?_;rintro v3 w3 hO;have fv:=hO.2.1;have ifX:b1<w2.heap.size:=by have:=aq.size;omega
 have hnb:b1∉ag v3:=fun hm=>by have:=hO.2.2 b1 hm;omega
 have hO:=hO.Jj1 (aj.Jb aq);have h1:=h1.tr0 aq;have h1:=h1.tr0 fv;refine rx ?_;refine Jl (XO b.at_ w3 hb.2.1) ?_;rintro r4 m4 ub;have hl4:=VA hb.2.1.1 hb.2.1.2;refine ZE (hO.UW ub.2.1) rfl ub.1.src rfl Yls bU (fun v4 w4 hO4 hg4=>?_);have bq:=ub.2.1;have h1:=(h1.tr0 bq).tr hg4 hnb;refine rx ?_;refine Jl (XO b.arm w4 hb.2.2) ?_;rintro r5 m5 qy;have zC:=VA hb.2.2.1 hb.2.2.2;refine ZE (hO4.UW qy.2.1) rfl qy.1.src rfl Yls bU (fun v5 w5 PJ hg5=>?_);have bX:=qy.2.1;refine bM ?_;exact⟨_,rfl,by simpa only[fZ,List.append_assoc]using PJ⟩
theorem Jg6{rs:List Rn}(w:World)(hQ:rp w q P rs)(hn:rs.length<=1000)(hc:∀r∈rs,r.bs.length<=100/\r.cl.length<=1000000)(hpr:P.prop.size<=1000000)(kY:P.ncls<=1000000)(eW:∀b∈(J6 P.ncls rs).ks,RJ b)(hL:(U0 P.prop (J6 P.ncls rs)).length<=1000000000):
 Calls prog 64 #[.pointer (some ⟨q,0,none⟩)] w fun e w'=>∃v,e=.returned v/\Out w w' v (U0 P.prop (J6 P.ncls rs)):=by
 have wz:(J6 P.ncls rs).cls.length=P.ncls:=by simp[J6]
 have rH:∀p:Rn->Bool,rs.countP p<=rs.length:=fun p=>Hf
 have sY:=JhZ (i:=rs.length) hn (fun r hr=>by have:=hc r hr;omega);have hps:=Jjz (i:=rs.length) hn (fun r hr=>(hc r hr).1);rw[Dk]at sY hps;have Ay:(J6 P.ncls rs).ks.length<=1000000:=CG (KQ (lt:=eO)) sY;have pj:(J6 P.ncls rs).ps.length<=1000000:=CG (KQ (lt:=eC)) ab;have hkk:∀p∈(J6 P.ncls rs).ps,p.1∈(J6 P.ncls rs).ks/\p.2∈(J6 P.ncls rs).ks:=fun p hp=>by
  simp only[J6,KF Qu,KF Qy,DY]at hp ⊢;obtain⟨r,hr,hp⟩:=hp;exact⟨⟨r,hr,(QS hp).1⟩,⟨r,hr,(QS hp).2⟩⟩
 obtain⟨s,hs⟩:=aP (J6 P.ncls rs);have AF:∀k:Nat,s.o k=rs.countP (fun r=>decide (r.kind=(k:Int))):=fun k=>by rw[hs];rfl
 have xK:s.runs=rs.length:=by rw[hs];rfl
 have hsc:∀i (h:i<s.cls.length),s.cls[i]=rs.countP (fun r=>decide ((i:Int)∈r.cl)):=fun i h=>by subst hs;simp[J6]
 have vn:JM eO (rs.flatMap (·.bs))=s.ks:=by rw[hs];rfl
 have hsp:JM eC (rs.flatMap (fun r=>Jy r.bs))=s.ps:=by rw[hs];rfl
 have ai:∀b,s.cnt b=rs.countP (fun r=>decide (b∈r.bs)):=fun b=>by rw[hs];rfl
 rw[<-hs]at wz eW hL Ay pj hkk ⊢;clear hs;have Aa:=Xx P.prop;have Aw:=Xw (sb P.prop).length ab;simp only[U0,Sm]at hL;have zM:=hQ;obtain⟨vr,vs,hb,nz,jx⟩:=hQ;have PH:=nz.one;have rF:=jx.one;obtain⟨lE,cs,rfl,_⟩:=jx.slice;have tx:(rs.map vU).length=rs.length:=Sr ..;rw[tx]at hb jx rF;have hFq:∀{u:World},Fr [] w u->aG u q [.string P.prop,iV (P.checks:Nat),iV (P.ncls:Nat),vr,.slice lE rs.length cs] _:=fun hf=>hb.tr0 hf
 have gI:∀r∈rs,r.bs.length<=1000:=fun r hr=>by have:=hc r hr;omega
 refine enter func64 rfl ntmps64 rfl ?_;refine rx ?_;refine Jad rfl (fun c w2 qB eo aq=>?_);have fG:P.prop.data.toList.map (fun c=>Value.int .u8 (c.toNat:Int))=(sb P.prop).map (.int .u8):=by simp[sb]
 refine Jl (Jfu _ (sb P.prop) w2 (by rw[Xx,<-fG];exact eo) ab) ?_;rintro v3 w3 hO;have hO:=hO.Jj1 aq;have gh:=hb.tr0 hO.2.1;refine rx ?_;refine Jl (XO rs.length w3 (KJ (show rs.length<=1000000000 by omega))) ?_;rintro r4 m4 ub;have hl4:=VA (KJ (show rs.length<=1000000000 by omega)).1 (KJ (show rs.length<=1000000000 by omega)).2;refine ZE (hO.UW ub.2.1) rfl ub.1.src rfl Yls bU (fun v4 w4 hO4 hg4=>?_);have bq:=ub.2.1;rw[<-xK]at hO4 hl4;refine rx ?_;refine Jh 10 [3,4] (σ:=Nat×Value) (fun t g u=>g 4=iV (t.1:Nat)/\g 3=t.2/\t.1<=3/\Out w u t.2 (raw (sb P.prop)++iv s.runs++([s.o 0,s.o 1,s.o 2].take t.1).flatMap (fun n=>iv (n:Nat)))) (fun t=>3-t.1) (0,v4) ⟨rfl,rfl,SL _,by simpa using hO4⟩ ?_;rintro⟨i,va⟩ g u ⟨g4,g3,hi,hO⟩;simp only at g4 g3 hi hO;rw[Ja g4,Ja g3];have qG:=XR (fun(n:Nat)=>iv (n:Nat)) [s.o 0,s.o 1,s.o 2] i;rw[show([s.o 0,s.o 1,s.o 2].flatMap (fun(n:Nat)=>iv (n:Nat))).length=(iv (s.o 0)).length+((iv (s.o 1)).length+(iv (s.o 2)).length) by simp]at qG;by_cases aC:i<3
 case pos=>
  have hoi:[s.o 0,s.o 1,s.o 2][i]=rs.countP (fun r=>decide (r.kind=(i:Int))):=by
   match i,aC with
   |0,_=>exact AF 0
   |1,_=>exact AF 1
   |2,_=>exact AF 2
  have rG:=rH (fun r=>decide (r.kind=(i:Int)));refine rx ?_;refine Jg (JdE (i:Int) u (zM.tr0 hO.2.1) ab) ?_;rintro u2 aO;rw[<-hoi];have ox:VE (([s.o 0,s.o 1,s.o 2][i]:Nat):Int):=KJ ab;have hO:=hO.UW aO;refine rx ?_;refine Jl (XO _ u2 ox) ?_;rintro r6 m6 qz;have A2:=VA ox.1 ox.2;refine ZE (hO.UW qz.2.1) rfl qz.1.src rfl qH bU (fun v6 w6 RX hg6=>?_);have bR:=qz.2.1;refine rx ?_;refine Jc (i+1,v6) a6 ⟨rfl,rfl,aC,?_⟩ eM;simp only;rw[Wy _ aC,<-List.append_assoc];exact RX
 rw[SQ aZ,show[s.o 0,s.o 1,s.o 2].flatMap (fun n=>iv (n:Nat))=iv (s.o 0)++(iv (s.o 1)++iv (s.o 2)) by simp,<-List.append_assoc,<-List.append_assoc]at hO;have gh:=hb.tr0 hO.2.1;clear qG hi hO4;refine rx ?_;refine Jl (XO P.ncls u (KJ (show P.ncls<=1000000000 by omega))) ?_;rintro r7 m7 hR7;have hl7:=VA (KJ (show P.ncls<=1000000000 by omega)).1 (KJ (show P.ncls<=1000000000 by omega)).2;refine ZE (hO.UW hR7.2.1) rfl hR7.1.src rfl (by simp only[raw,Sm];rw[wz]at hL;omega) bU (fun v7 w7 hO7 hg7=>?_);have ed:=hR7.2.1;rw[<-wz]at hO7;obtain⟨B,hB⟩:=aP (raw (sb P.prop)++iv s.runs++iv (s.o 0)++iv (s.o 1)++iv (s.o 2)++iv s.cls.length);have hBL:B.length+(s.cls.flatMap (fun n=>iv (n:Nat))).length+(iv (s.ks.length:Nat)).length+(s.ks.flatMap (fun b=>fZ b++iv (s.cnt b))).length+(iv (s.ps.length:Nat)).length+(s.ps.flatMap (fun p=>fZ p.1++fZ p.2)).length<=1000000000:=by rw[hB];simp only[Sm];omega
 rw[<-hB]at hO7;have hBd:=hB;clear hB hL;refine rx ?_;refine Jh 10 [3,5] (σ:=Nat×Value) (fun t g u=>g 5=iV (t.1:Nat)/\g 3=t.2/\t.1<=s.cls.length/\Out w u t.2 (B++(s.cls.take t.1).flatMap (fun n=>iv (n:Nat)))) (fun t=>s.cls.length-t.1) (0,v7) ⟨rfl,rfl,SL _,by simpa using hO7⟩ ?_;clear hO hO7;rintro⟨i,va⟩ g u ⟨g5,g3,hi,hO⟩;simp only at g5 g3 hi hO;rw[Ja g5,Ja g3];have qG:=XR (fun(n:Nat)=>iv (n:Nat)) s.cls i;have gh:=hb.tr0 hO.2.1;by_cases aC:i<s.cls.length
 case pos=>
  have rG:=rH (fun r=>decide ((i:Int)∈r.cl));refine rx ?_;refine Jg (G9 (i:Int) u (zM.tr0 hO.2.1) ab (fun r hr=>(hc r hr).2)) ?_;rintro u2 aO;rw[<-hsc i aC]at rG ⊢;have ox:VE ((s.cls[i]:Nat):Int):=KJ ab;have hO:=hO.UW aO;refine rx ?_;refine Jl (XO _ u2 ox) ?_;rintro r6 m6 qz;have A2:=VA ox.1 ox.2;refine ZE (hO.UW qz.2.1) rfl qz.1.src rfl qH bU (fun v6 w6 RX hg6=>?_);have bR:=qz.2.1;refine rx ?_;refine Jc (i+1,v6) a6 ⟨rfl,rfl,aC,?_⟩ eM;simp only;rw[Wy _ aC,<-List.append_assoc];exact RX
 rw[SQ ab]at hO;clear qG hi;refine rx ?_;refine Jl (WQ u (zM.tr0 hO.2.1) hn gI) ?_;rintro vb u2 ⟨hBr,aO⟩;rw[vn]at hBr;obtain⟨iK,cb,rfl⟩:=hBr.1.slice;have oF:∀x∈ag va,x<u.heap.size:=hO.1.lt;have idy:=aO.size;have hO:=hO.UW aO;have hG:=BK.of hO;have gJ:∀x∈ag (Value.slice iK s.ks.length cb),x∉ag va:=fun x hx hm=>by
  have h1:=hBr.2 x hx;have h2:=oF x hm;omega
 have uV:∀{z:World},Fr (ag va) u2 z->Fr [] w z:=fun hf=>hO.2.1.trans hf (fun x hx=>.inr (hO.2.2 x hx))
 refine rx ?_;refine Jl (XO s.ks.length u2 (KJ (show s.ks.length<=1000000000 by omega))) ?_;rintro r8 m8 hR8;have xq:=VA (KJ (show s.ks.length<=1000000000 by omega)).1 (KJ (show s.ks.length<=1000000000 by omega)).2;refine ZC (hG.old hR8.2.1) rfl hR8.1.src rfl qH bU (fun v8 w8 hO8=>?_);obtain⟨B2,nL⟩:=aP (B++s.cls.flatMap (fun n=>iv (n:Nat))++iv s.ks.length);have idl:B2.length+(s.ks.flatMap (fun b=>fZ b++iv (s.cnt b))).length+(iv (s.ps.length:Nat)).length+(s.ps.flatMap (fun p=>fZ p.1++fZ p.2)).length<=1000000000:=by rw[nL];simp only[Sm];omega
 rw[<-nL]at hO8;refine rx ?_;refine Jh 10 [3,7] (σ:=Nat×Value) (fun t g z=>g 7=iV (t.1:Nat)/\g 3=t.2/\t.1<=s.ks.length/\BK (ag va) u2 z t.2 (B2++(s.ks.take t.1).flatMap (fun b=>fZ b++iv (s.cnt b)))) (fun t=>s.ks.length-t.1) (0,v8) ⟨rfl,rfl,SL _,by simpa using hO8⟩ ?_;clear hO8 hG;rintro⟨i,vx⟩ g z ⟨g7,g3',hi,hZ⟩;simp only at g7 g3' hi hZ;rw[Ja g7,Ja g3'];have qG:=XR (fun b=>fZ b++iv (s.cnt b)) s.ks i;have AE:=hZ.2.1;by_cases aC:i<s.ks.length
 case pos=>
  obtain⟨xF,oQ,iy⟩:=JZ QN (hBr.1.tr AE gJ).src aC bU;subst oQ;have iy:Cells z (xF.add (i*3)) [.string s.ks[i].decl,iV s.ks[i].at_,iV s.ks[i].arm]:=iy;have wA:=eW _ (Cj aC);have oD:=GZ _ wA;have rG:=rH (fun r=>decide (s.ks[i]∈r.bs));rw[<-ai]at rG;refine rx ?_;refine Jl (JeX s.ks[i] z wA) ?_;rintro r5 m5 qy;refine ZC (hZ.old qy.2.1) rfl qy.1.src rfl qH bU (fun v5 w5 PJ=>?_);obtain⟨idD,wB,wC⟩:=JZ QN (hBr.1.tr PJ.2.1 gJ).src aC bU;obtain rfl:=Dl wB;have wC:Cells w5 (xF.add (i*3)) [.string s.ks[i].decl,iV s.ks[i].at_,iV s.ks[i].arm]:=wC;refine rx ?_;refine Jg (Jai s.ks[i] w5 (zM.tr0 (uV PJ.2.1)) ab) ?_;rintro m7 aQ;rw[<-ai];have ox:VE ((s.cnt s.ks[i]:Nat):Int):=KJ ab;refine rx ?_;refine Jl (XO _ m7 ox) ?_;rintro r6 m6 qz;have A2:=VA ox.1 ox.2;refine ZC ((PJ.old aQ).old qz.2.1) rfl qz.1.src rfl qH bU (fun v6 w6 RX=>?_);refine rx ?_;refine Jc (i+1,v6) a6 ⟨rfl,rfl,aC,?_⟩ eM;simp only;rw[Wy _ aC];simpa only[List.append_assoc]using RX
 rw[SQ ab]at hZ;clear qG hi;refine rx ?_;refine Jl (X9 z (zM.tr0 (uV AE)) hn (fun r hr=>(hc r hr).1)) ?_;rintro vp z2 ⟨hPr,aM⟩;rw[hsp]at hPr;obtain⟨Ab,cp,rfl⟩:=hPr.1.slice;have zx:∀x∈ag vx,x<z.heap.size:=hZ.1.lt;have uX:=aM.size;have hOz:Out w z2 vx _:=(BK.fin hO hZ).UW aM;have hG:=BK.of hOz;have hpv:∀x∈ag (Value.slice Ab s.ps.length cp),x∉ag vx:=fun x hx hm=>by
  have h1:=hPr.2 x hx;have h2:=zx x hm;omega
 refine rx ?_;refine Jl (XO s.ps.length z2 (KJ (show s.ps.length<=1000000000 by omega))) ?_;rintro r9 m9 hR9;have hl9:=VA (KJ (show s.ps.length<=1000000000 by omega)).1 (KJ (show s.ps.length<=1000000000 by omega)).2;refine ZC (hG.old hR9.2.1) rfl hR9.1.src rfl qH bU (fun v9 w9 hO9=>?_);obtain⟨B3,mI⟩:=aP (B2++s.ks.flatMap (fun b=>fZ b++iv (s.cnt b))++iv s.ps.length);have idn:B3.length+(s.ps.flatMap (fun p=>fZ p.1++fZ p.2)).length<=1000000000:=by rw[mI];simp only[Sm];omega
 rw[<-mI]at hO9;refine rx ?_;refine Jh 10 [3,9] (σ:=Nat×Value) (fun t g y=>g 9=iV (t.1:Nat)/\g 3=t.2/\t.1<=s.ps.length/\BK (ag vx) z2 y t.2 (B3++(s.ps.take t.1).flatMap (fun p=>fZ p.1++fZ p.2))) (fun t=>s.ps.length-t.1) (0,v9) ⟨rfl,rfl,SL _,by simpa using hO9⟩ ?_;clear hO9 hG;rintro⟨i,vy⟩ g y ⟨g9,ia5,hi,hY⟩;simp only at g9 ia5 hi hY;rw[Ja g9,Ja ia5];have qG:=XR (fun(p:Pr)=>fZ p.1++fZ p.2) s.ps i;by_cases aC:i<s.ps.length
 case neg=>
  rw[SQ ab]at hY;refine bM ?_;refine⟨_,rfl,?_⟩;have:=BK.fin hOz hY;rw[mI,nL,hBd]at this;exact this
 obtain⟨xF,oQ,iy⟩:=JZ VK (hPr.1.tr hY.2.1 hpv).src aC bU;subst oQ;have iy:Cells y (xF.add (i*6)) [.string s.ps[i].1.decl,iV s.ps[i].1.at_,iV s.ps[i].1.arm,.string s.ps[i].2.decl,iV s.ps[i].2.at_,iV s.ps[i].2.arm]:=iy;have hpk:=hkk _ (Cj aC);have wA:=eW _ hpk.1;have ia6:=eW _ hpk.2;have oD:=GZ _ wA;have ifY:=GZ _ ia6;refine rx ?_;refine JR (V8 (j:=0) rfl rfl bU) ?_;refine rx ?_;refine Jl (JeX s.ps[i].1 y wA) ?_;rintro r5 m5 qy;refine ZC (hY.old qy.2.1) rfl qy.1.src rfl qH bU (fun v5 w5 PJ=>?_);obtain⟨idD,wB,wC⟩:=JZ VK (hPr.1.tr PJ.2.1 hpv).src aC bU;obtain rfl:=Dl wB;have wC:Cells w5 (xF.add (i*6)) [.string s.ps[i].1.decl,iV s.ps[i].1.at_,iV s.ps[i].1.arm,.string s.ps[i].2.decl,iV s.ps[i].2.at_,iV s.ps[i].2.arm]:=wC;refine rx ?_;refine JR (V8 (j:=1) rfl rfl bU) ?_;refine rx ?_;refine Jl (JeX s.ps[i].2 w5 ia6) ?_;rintro r6 m6 qz;refine ZC (PJ.old qz.2.1) rfl qz.1.src rfl qH bU (fun v6 w6 RX=>?_);refine rx ?_;refine Jc (i+1,v6) a6 ⟨rfl,rfl,aC,?_⟩ eM;simp only;rw[Wy _ aC];simpa only[List.append_assoc]using RX
end Go.Proofs.YtggmccicdhnkgaaGreat
namespace Go.Rf
open Go.RowKit
variable{q:Nat}
theorem UN(v:Value):ag v=[]\/∃b,ag v=[b]:=by
 unfold ag;cases v.ownBlock with
 |none=>exact .inl rfl
 |some b=>exact .inr ⟨b,rfl⟩
theorem Ji5{v r:Value}(h1:q∉ag v)(h2:q∉ag r)(h3:∀x∈ag v,x∉ag r):(([q]++ag v)++ag r).Nodup:=by
 rcases UN v with e|⟨b,e⟩<;>rcases UN r with e'|⟨b',e'⟩<;>rw[e]at h1 h3<;>rw[e']at h2 h3<;>rw[e,e']<;>simp_all
theorem Ji6{v r:Value}(h:(([q]++ag v)++ag r).Nodup):q∉ag v/\q∉ag r/\∀x∈ag v,x∉ag r:=by
 simp only[CQ,CO,EF,SE,IC]at h;exact⟨h.1.1,h.1.2,fun x hx hm=>(DW.1 h.2).2.2 x hx x hm rfl⟩
end Go.Rf
namespace Go.Proofs.YtggmccicdhnkgaaGreat
open Go.Proofs.Tryz
open Go.Rf Go.RowKit
variable{S:List Nat}{q:Nat}{P:Pp}
attribute [local irreducible] Code.wp wpList Exit.then Exit.inBlock bodyPost A Calls execOp Addr.add
theorem Jg8{N T:List Nat}{rs:List Rn}(r:Rn)(vb vl:Value)(w:World)(h:jP w q N T S P rs)(eW:DR w S (.l (r.bs.map jl)) vb)(hl:DR w S (.l (r.cl.map KI)) vl)(hn:rs.length<=1000)(k7:P.reach.length<=1000000):
 Calls prog 22 #[.pointer (some ⟨q,0,none⟩),.agg ([iV r.kind,iV r.at_,iV r.code,vb,vl]:List Value).toArray] w fun e w'=>if Qd P r=true then e=.returned (zI)/\(∃N',jP w' q N' T (S++N') P (rs++[r])/\∀x∈N',x∈N\/w.heap.size<=x)/\Fr N w w' else e=.returned (iV 1)/\Fr [] w w':=by
 have hQ:=h.v ab ab;obtain⟨vr,vs,xs,rfl,rfl,iJ,pX,hb,hr,hs,hw⟩:=h;obtain⟨nd1,nd2,nd3⟩:=Ji6 iJ;have xA:=eW.one;have yC:=hl.one;obtain⟨iK,cb,rfl,_⟩:=eW.slice;obtain⟨jG,cl,rfl,_⟩:=hl.slice;have Pz:(r.bs.map jl).length=r.bs.length:=Sr ..;have lq:(r.cl.map KI).length=r.cl.length:=Sr ..;rw[Pz]at eW xA ⊢;rw[lq]at hl yC ⊢;refine enter func22 rfl ntmps22 rfl ?_;refine rx ?_;refine Ju (l:=[iV r.kind,iV r.at_,iV r.code,.slice iK r.bs.length cb,.slice jG r.cl.length cl]) rfl rfl (fun w1 b3 iB h3 aj bh=>?_);refine rx ?_;refine Jg (JbL r (.slice iK r.bs.length cb) (.slice jG r.cl.length cl) w1 (hQ.tr0 aj) (hl.tr0 aj) xA) ?_;rintro w2 aq;have h3:=h3.tr0 aq;have aS:=aj.Jb aq;cases kN:Qd P r with
 |false=>
  refine bM ?_;rw[SH ap];exact⟨rfl,aS⟩
 |true=>?_
 have dN:=hb.tr0 aS;have cz:=hs.tr0 aS;have hq:=hb.lt;have wm:=hs.lt;obtain⟨lE,cs,rfl⟩:=hs.slice;have rF:=hs.one;refine rx ?_;refine Kr 8 (fun z=>Fr (ag (Value.slice lE rs.length cs)) w2 z) az rfl ?_;obtain⟨w3,xL⟩:=aP w2.drew;rw[<-xL];have kB:Fr [] w2 w3:=xL▸Fr.drew _ _;have hS:Fr (ag (Value.slice lE rs.length cs)) w2 w3:=kB.mono ap;have n3:b3∉ag (Value.slice lE rs.length cs):=fun hm=>by have:=wm b3 hm;omega
 ((refine Jp 0 hS ?_);(refine Jp 1 hS ?_);(refine Jp 2 hS ?_);(refine Jp 3 hS ?_))
 refine Jp 4 hS ?_ (aw:=(by intro u hu;exact(J7 rfl (aG.cell (dN.tr hu nd1) rfl))));refine Jp 5 hS ?_ (aw:=(by intro u hu;exact(Kv rfl (Cells.VO (h3.tr hu n3)) fD)));refine AG ?_;refine JQ (c1:=[iV r.kind,iV r.at_,iV r.code,.slice iK r.bs.length cb,.slice jG r.cl.length cl]) rfl rfl rfl (fun u4 q4 mL jA aI eA=>?_);have j6:=hS.Jb aI;refine wpList_nil (Xz j6 ?_);refine xd ?_;refine JC ((cz.tr0 kB).tr0 aI) rfl jA.src rfl rfl dQ dt ab (fun v5 u5 kt aQ sw _=>?_);have fP:=j6.trans aQ (fun x hx=>.inl hx);have lu:=kt.one;have dO:=kB.size;have eV:=aQ.size;have ifZ:=aS.size;refine wpList_nil (Xz fP ?_);refine Tj ?_;refine Vy rfl ?_;refine qs ?_;refine KH (i:=9) rfl az ?_;refine Ku rfl ?_;rw[add_lit];refine qs ?_;refine tR ?_
 ((with_reducible apply Ji);exact rfl;(conv=>lhs;whnf);exact lu;exact(dN.tr fP nd1);exact rfl)
 intro u6 kg aM fL;replace kg:aG u6 q [.string P.prop,iV (P.checks:Nat),iV (P.ncls:Nat),vr,v5] _:=kg;refine kE ?_;refine bM ?_;rw[Cb rfl];have ml:∀x∈ag v5,x∈ag (Value.slice lE rs.length cs)\/w.heap.size<=x:=fun x hx=>by
  rcases sw x hx with h|h
  .exact .inl h
  .exact .inr ab
 have nq5:q∉ag v5:=fun hm=>(ml q hm).elim nd1 kX
 have tg:=hr.lt;have n5r:∀x∈ag v5,x∉ag vr:=fun x hx hm=>(ml x hx).elim (fun h=>nd3 x h hm) (fun h=>by have:=tg x hm;omega)
 have hN:∀x∈[q]++ag v5,x∈[q]++ag (Value.slice lE rs.length cs)\/w.heap.size<=x:=fun x hx=>by
  rcases SE.1 hx with h|h
  .exact .inl (SA _ h)
  .exact (ml x h).imp (fun h=>CJ _ h) id
 have bR:Fr ([q]++ag (Value.slice lE rs.length cs)) w u6:=((aS.mono (fun x hx=>by simp at hx)).trans fP (fun x hx=>.inl (CJ _ hx))).trans aM (fun x hx=>.inl (SA _ hx));have hSm:∀x∈S++([q]++ag v5),x∈S\/w.heap.size<=x:=fun x hx=>by
  rcases SE.1 hx with h|h
  .exact .inl h
  .exact (hN x h).imp (fun h=>pX x h) id
 have uY:∀x∈[q]++ag (Value.slice lE rs.length cs),x∈S++([q]++ag v5)\/w.heap.size<=x:=fun x hx=>.inl (SA _ (pX x hx))
 refine⟨rfl,⟨_,⟨vr,v5,xs++[iV r.kind,iV r.at_,iV r.code,.slice iK r.bs.length cb,.slice jG r.cl.length cl],rfl,rfl,Ji5 nq5 nd2 n5r,fun x hx=>CJ _ hx,kg,hr.tr bR (fun x hx hm=>?_),?_,?_⟩,fun x hx=>by subst iB;exact hN x hx⟩,bR⟩
 .rcases SE.1 hm with h|h
  .rw [Sv.1 h]at hx;exact nd2 hx
  .exact nd3 x h hx
 .rw [Sm];exact kt.tr aM (fun x hx hm=>nq5 (Sv.1 hm▸hx))
 .refine (hw.imp (fun r' bS _ h=>(h.mono hSm).old bR uY)).app (Rws.one ?_);exact RD.c1 rfl (RD.c1 rfl (RD.c1 rfl (RD.cons ((eW.mono hSm).old bR uY) (RD.cons ((hl.mono hSm).old bR uY) .nil))))
theorem JeU(l m:List Br)(va vb:Value)(w:World)(hA:DR w S (.l (l.map jl)) va)(hB:DR w S (.l (m.map jl)) vb)(hl:l.length<=1000000)(hm:m.length<=1000000):
 Calls prog 62 #[va,vb] w fun e w'=>e=.returned (.bool (decide (l=m)))/\Fr [] w w':=by
 obtain⟨qF,ca,rfl,_⟩:=hA.slice;obtain⟨iK,cb,rfl,_⟩:=hB.slice;have yU:(l.map jl).length=l.length:=Sr ..;have Pz:(m.map jl).length=m.length:=Sr ..;rw[yU]at hA ⊢;rw[Pz]at hB ⊢;refine enter func62 rfl ntmps62 rfl ?_;by_cases iz:l.length=m.length
 case neg=>
  refine bM ?_;exact⟨by rw[SG (fun e=>iz (by rw[e]))],Fr.refl _ _⟩
 refine rx ?_;refine Jh 6 [5] (σ:=Nat) (fun i g u=>g 5=iV (i:Nat)/\i<=l.length/\(∀j (h1:j<l.length) (h2:j<m.length),j<i->l[j]=m[j])/\Fr [] w u) (fun i=>l.length-i) 0 ⟨rfl,SL _,fun j h1 h2 h=>by omega,Fr.refl _ _⟩ ?_;rintro i g u ⟨g5,hi,iL,hF⟩;rw[Ja g5];by_cases aC:i<l.length
 case neg=>
  refine bM ?_;exact⟨by rw[SN (Ew iz (fun j h1 h2=>iL j h1 h2 ab))],hF⟩
 have nM:i<m.length:=by omega
 obtain⟨wo,RI,zF⟩:=(hA.tr0 hF).br aC;obtain⟨adb,RY,Rw⟩:=(hB.tr0 hF).br nM;subst RI RY;refine zB ?_;obtain⟨u1,eu⟩:=aP u.drew;rw[<-eu];have hS:Fr [] u u1:=eu▸Fr.drew _ _;refine An ?_;by_cases he:l[i]=m[i]
 . (apply XU (i:=8);exact rfl;kernel_rfl;kernel_rfl;kernel_rfl;(intro u hu;refine(JaP (a:=l[i]) (b:=m[i]) ?_ ?_ (SG (fun h=>h he)));exact rfl;exact rfl);exact hS)
   refine j5 ?_;refine Jc (i+1) a6 ⟨rfl,aC,fun j h1 h2 h=>?_,hF.Jb hS⟩ ab;by_cases e:j=i
   .subst e;exact he
   .exact iL j h1 h2 ab
 . (apply XU (i:=8);exact rfl;kernel_rfl;kernel_rfl;kernel_rfl;(intro u hu;refine(JaP (a:=l[i]) (b:=m[i]) ?_ ?_ (SN he));exact rfl;exact rfl);exact hS)
   refine gK ?_;refine bM ?_;exact⟨by rw[SG (fun e=>he (by subst e;rfl))],hF.Jb hS⟩
theorem JjP{p:Nat}{M R:List Nat}{rs:List Rn}(w:World)(hC:Wj w p M R P (J6 P.ncls rs))(hQ:rp w q P rs)(hP:SmP P)(hr:xx rs)(fg:∀r∈rs,r.cl.length<=1000000)(vJ:gR eO P.reach):
 Calls prog 23 #[.pointer (some ⟨p,0,none⟩),.pointer (some ⟨q,0,none⟩)] w fun e w'=>e=.returned (.bool true)/\Fr [] w w':=by
 have hp1:=hP.prop;have vu:=hP.ncls;have ri:=hP.reach;have eN:=hr.1;have hn:rs.length<=1000:=by omega
 have gI:∀r∈rs,r.bs.length<=1000:=fun r h=>by have:=(hr.2 r h).1;omega
 have fO:∀r∈rs,r.bs.length<=100:=fun r h=>by have:=(hr.2 r h).1;omega
 have oN:∀r∈rs,r.bs.length<=100/\r.cl.length<=1000000:=fun r h=>⟨fO r h,fg r h⟩
 obtain⟨Ay,hps,ug⟩:=hr.ks (n:=P.ncls);have qI:∀b∈(J6 P.ncls rs).ks,RJ b:=fun b hb=>Rl (ug b hb)
 have eU:StOk P (J6 P.ncls rs):=by obtain⟨_,_,_,_,_,_,_,_,_,_,_,_,_,_,_,_,h⟩:=hC;exact h
 have mY:=eU.ncls;have ia7:(J6 P.ncls rs).runs=rs.length:=rfl;have sB:=Jjh hP eU ab Ay hps ug;have AF:∀(i:Nat) (h:i<3),[(J6 P.ncls rs).o 0,(J6 P.ncls rs).o 1,(J6 P.ncls rs).o 2][i]=rs.countP (fun r=>decide (r.kind=(i:Int))):=fun i h=>by
  match i,h with
  |0,_=>rfl
  |1,_=>rfl
  |2,_=>rfl
 have hsc:∀i (h:i<(J6 P.ncls rs).cls.length),(J6 P.ncls rs).cls[i]=rs.countP (fun r=>decide ((i:Int)∈r.cl)):=fun i h=>by simp[J6]
 have vn:JM eO (rs.flatMap (·.bs))=(J6 P.ncls rs).ks:=rfl;have hsp:JM eC (rs.flatMap (fun r=>Jy r.bs))=(J6 P.ncls rs).ps:=rfl;have ai:∀b,(J6 P.ncls rs).cnt b=rs.countP (fun r=>decide (b∈r.bs)):=fun b=>rfl
 have rH:∀p:Rn->Bool,rs.countP p<=rs.length:=fun p=>Hf
 have gJ:∀{u:World},Fr [] w u->∃vr lE cs,aG u q [.string P.prop,iV (P.checks:Nat),iV (P.ncls:Nat),vr,.slice lE rs.length cs] 120:=fun hf=>by
  obtain⟨vr,vs,hb,_,jx⟩:=hQ.tr0 hf;obtain⟨lE,cs,rfl,_⟩:=jx.slice;rw[Sr]at hb;exact⟨vr,lE,cs,hb⟩
 refine enter func23 rfl ntmps23 rfl ?_;refine rx ?_;refine Jl (JkD w hC ab ab) ?_;rintro _ w1 ⟨_,⟨vk,vc,vo,rfl,pU,qB,pt,hJ⟩,aj⟩;obtain⟨wv,ck,rfl⟩:=pU.slice;obtain⟨iZ,cc,rfl⟩:=qB.slice;obtain⟨aoo,co,rfl⟩:=pt.slice;refine rx ?_;refine Jm (l:=[zI,zS,zI,zS,zS]) rfl (fun w2 b5 Ru h5 aq cz=>?_);refine rx ?_;refine Jd (cs:=[iV ((J6 P.ncls rs).runs:Nat),.slice wv (J6 P.ncls rs).ks.length ck,iV ((J6 P.ncls rs).ps.length:Nat),.slice iZ (J6 P.ncls rs).cls.length cc,.slice aoo 3 co]) rfl rfl h5 dQ rfl rfl (fun w3 h5 aF dO=>?_);have aL:Fr [] w1 w3:=aq.trans aF (fun x hx=>.inr bt);have aV:=aj.Jb aL;have pU:=pU.tr0 aL;have qB:=qB.tr0 aL;have pt:=pt.tr0 aL;clear aj aq aF aL;refine rx ?_;refine Jl (WQ w3 (hQ.tr0 aV) hn gI) ?_;rintro v6 w4 ⟨hB,aI⟩;have bq:=aV.Jb aI;have h5:=h5.tr0 aI;have pU:=pU.tr0 aI;have qB:=qB.tr0 aI;have pt:=pt.tr0 aI;rw[vn]at hB;obtain⟨ao6,c6,rfl⟩:=hB.1.slice;obtain⟨vr,lE,cs,ah⟩:=gJ bq;obtain⟨s,hs⟩:=aP (J6 P.ncls rs);rw[<-hs]at hC Ay hps qI eU mY ia7 sB AF hsc vn hsp ai h5 pU qB pt hB ⊢;refine rx ?_;refine JE (fun z=>Fr [] w4 z) az rfl ?_;obtain⟨w5,zo⟩:=aP w4.drew;rw[<-zo];have hS:Fr [] w4 w5:=zo▸Fr.drew _ _;refine Jj 0 1 2 3 hS ?_;refine Jj 4 5 6 7 hS ?_;refine Jj 8 9 10 11 hS ?_;refine JJ (i:=12) rfl az ?_;refine rx ?_;refine Jl (X9 w5 (hQ.tr0 (bq.Jb hS)) hn fO) ?_;rintro v7 w6 ⟨hPp,aJ⟩;rw[hsp]at hPp;obtain⟨ao7,c7,rfl⟩:=hPp.1.slice;have hS:=hS.Jb aJ;refine ft ?_;refine Jj 13 14 15 16 hS ?_;refine Jj 17 18 19 20 hS ?_;refine Jj 21 22 23 24 hS ?_;refine Jj 25 26 27 28 hS ?_;refine Jj 29 30 31 32 hS ?_;refine Jj 33 34 35 36 hS ?_;refine JX 37 38 hS ?_;refine bH 39 hS ?_;refine gK ?_;have bR:=bq.Jb hS;have h5:=h5.tr0 hS;have pU:=pU.tr0 hS;have qB:=qB.tr0 hS;have pt:=pt.tr0 hS;have hBw:bx w6 50 3 (.slice ao6 s.ks.length c6) s.ks.length (s.ks.flatMap dH):=hB.1.tr0 hS;clear hB ah zo;refine rx ?_;refine Jh 10 [7] (σ:=Nat) (fun i g u=>g 7=iV (i:Nat)/\i<=s.ks.length/\Fr [] w6 u) (fun i=>s.ks.length-i) 0 ⟨rfl,SL _,Fr.refl _ _⟩ ?_;rintro i g u ⟨g7,hi,hF⟩;rw[Ja g7];have eD:=bR.Jb hF;have h5u:=h5.tr0 hF;by_cases aC:i<s.ks.length
 case pos=>
  obtain⟨xF,oQ,iy⟩:=JZ (Jjj s.cnt) (pU.tr0 hF).src aC bU;subst oQ;have iy:Cells u (xF.add (i*4)) [.string s.ks[i].decl,iV s.ks[i].at_,iV s.ks[i].arm,iV (s.cnt s.ks[i]:Nat)]:=iy;obtain⟨adb,RY,Rw⟩:=JZ QN (hBw.tr0 hF).src aC bU;subst RY;have Rw:Cells u (adb.add (i*3)) [.string s.ks[i].decl,iV s.ks[i].at_,iV s.ks[i].arm]:=Rw;have rG:=rH (fun r=>decide (s.ks[i]∈r.bs));refine zB ?_;obtain⟨u1,eu⟩:=aP u.drew;rw[<-eu];have hS:Fr [] u u1:=eu▸Fr.drew _ _;refine Ylr ?_;refine Kw 10 hS ?_ (aw:=by(intro u hu;refine(JaP (a:=s.ks[i]) (b:=s.ks[i]) ?_ ?_ (SG (fun h=>h rfl)));exact rfl;exact rfl));refine Jj 11 12 13 14 hS ?_;refine Jj 15 16 17 18 hS ?_;refine Jj 19 20 21 22 hS ?_;refine JJ (i:=23) rfl az ?_;refine rx ?_;refine Jg (Jai s.ks[i] u1 (hQ.tr0 (eD.Jb hS)) ab) ?_;rintro u2 aQ;rw[<-ai]at rG ⊢;have hS:=hS.Jb aQ;refine ft ?_;refine JX 24 25 hS ?_;refine j5 ?_;refine Jc (i+1) a6 ⟨rfl,aC,hF.Jb hS⟩ ab
 refine rx ?_;clear aC hi g7;obtain⟨u0,hu0⟩:=aP u;refine Jh 10 [8] (σ:=Nat) (fun i g z=>g 8=iV (i:Nat)/\i<=P.ncls/\Fr [] w6 z) (fun i=>P.ncls-i) 0 ⟨rfl,SL _,hF⟩ ?_;clear eD h5u hF;rintro i g u ⟨g8,hi,hF⟩;rw[Ja g8];have eD:=bR.Jb hF;have h5u:=h5.tr0 hF;obtain⟨vr,lE,cs,ah⟩:=gJ eD;by_cases aC:i<P.ncls
 case pos=>
  have xG:i<s.cls.length:=by omega
  obtain⟨adc,oJ,RV⟩:=KO (qB.tr0 hF).src (V9 xG);subst oJ;have bV:∀{z:World},Fr [] u z->z.cell? (adc.add i)=some (iV (s.cls[i]:Nat)):=fun hf=>Vs ((qB.tr0 hF).tr0 hf).src (V9 xG)
  have rG:=rH (fun r=>decide ((i:Int)∈r.cl));refine zB ?_;obtain⟨u1,eu⟩:=aP u.drew;rw[<-eu];have hS:Fr [] u u1:=eu▸Fr.drew _ _;refine Jj 0 1 2 3 hS ?_;refine Kw 4 hS ?_ (aw:=by(intro u hu;exact(J7 rfl Ylu)));refine JX 5 6 hS ?_;refine Tu ?_;refine rx ?_;refine Jg (G9 (i:Int) u1 (hQ.tr0 (eD.Jb hS)) ab fg) ?_;rintro u2 aQ;rw[<-hsc i xG]at rG ⊢;have hS:=hS.Jb aQ;refine ft ?_;refine bH 8 hS ?_;refine j5 ?_;refine Jc (i+1) a6 ⟨rfl,aC,hF.Jb hS⟩ ab
 refine rx ?_;clear aC hi g8;refine Jh 10 [9] (σ:=Nat) (fun i g z=>g 9=iV (i:Nat)/\i<=3/\Fr [] w6 z) (fun i=>3-i) 0 ⟨rfl,SL _,hF⟩ ?_;clear eD h5u hF ah;rintro i g u ⟨g9,hi,hF⟩;rw[Ja g9];have eD:=bR.Jb hF;have h5u:=h5.tr0 hF;by_cases aC:i<3
 case pos=>
  have bV:∀{z:World},Fr [] u z->∃ado,aoo=some ado/\z.cell? (ado.add i)=some (iV ([s.o 0,s.o 1,s.o 2][i]:Nat)):=fun hf=>KO ((pt.tr0 hF).tr0 hf).src (V9 aC)
  obtain⟨ado,idE,_⟩:=bV (Fr.refl _ _);subst idE;have bV:∀{z:World},Fr [] u z->z.cell? (ado.add i)=some (iV ([s.o 0,s.o 1,s.o 2][i]:Nat)):=fun hf=>by
   obtain⟨a,h1,h2⟩:=bV hf;obtain rfl:=Dl h1;exact h2
  have rG:=rH (fun r=>decide (r.kind=(i:Int)));refine zB ?_;obtain⟨u1,eu⟩:=aP u.drew;rw[<-eu];have hS:Fr [] u u1:=eu▸Fr.drew _ _;refine Jj 0 1 2 3 hS ?_;refine Kw 4 hS ?_ (aw:=by(intro u hu;exact(J7 rfl Ylu)));refine JX 5 6 hS ?_;refine Tu ?_;refine rx ?_;refine Jg (JdE (i:Int) u1 (hQ.tr0 (eD.Jb hS)) ab) ?_;rintro u2 aQ;rw[<-AF i aC]at rG ⊢;have hS:=hS.Jb aQ;refine ft ?_;refine bH 8 hS ?_;refine j5 ?_;refine Jc (i+1) a6 ⟨rfl,aC,hF.Jb hS⟩ ab
 have hCu:=hC.tr0 eD;refine rx ?_;clear aC hi g9;refine Jl (Jig u hCu ab) ?_;rintro va u1 ⟨hA,aj⟩;have ej:=eD.Jb aj;have xm:(Ur P s).length<=1000000:=by
  have:=D5 (fun b=>decide (s.cnt b=0)) P.reach;show(List.filter _ _).length<=_;omega
 obtain⟨qF,ca,rfl⟩:=hA.1.slice;refine rx ?_;refine Jl (Jfv u1 (hQ.tr0 ej) hn fO ab vJ) ?_;rintro vb u2 ⟨hB,aq⟩;have aS:=ej.Jb aq;rw[<-hs]at hB;obtain⟨iK,cb,rfl⟩:=hB.1.slice;refine rx ?_;refine Jg (JeU (Ur P s) (Ur P s) _ _ u2 (S:=[]) (ZO (hA.1.tr0 aq) ab ap) (ZO hB.1 ab ap) xm xm) ?_;rintro u3 aF;rw[SN rfl];have ia8:=aS.Jb aF;refine rx ?_;refine Jl (JhG u3 (hC.tr0 ia8) ab ab ab ab ab qI sB) ?_;rintro ve u4 ⟨hE,aI,_⟩;have ia9:=ia8.Jb aI;obtain⟨aoe,ce,rfl⟩:=hE.slice;refine rx ?_;rw[hs]at sB qI;refine Jl (Jg6 u4 (hQ.tr0 ia9) hn oN ab ab qI sB) ?_;rintro vf u5 hO;rw[<-hs]at hO;obtain⟨aof,cf,rfl⟩:=hO.1.slice;refine rx ?_;refine Jg (Jeo _ _ _ _ u5 (hE.tr0 hO.2.1).src hO.1.src (by rw[hs];omega)) ?_;rintro u6 aJ;rw[SN rfl];refine bM ?_;exact⟨rfl,(ia9.Jb hO.2.1).Jb aJ⟩
end Go.Proofs.YtggmccicdhnkgaaGreat
namespace Go.Rf
open Go.RowKit
end Go.Rf
namespace Go.Proofs.YtggmccicdhnkgaaGreat
open Go.Proofs.Tryz
open Go.Rf Go.RowKit
variable{a:Int}{ms:List Int}{M N R S T:List Nat}{n p q:Nat}{P:Pp}{u u':World}
attribute [local irreducible] Code.wp wpList Exit.then Exit.inBlock bodyPost A Calls execOp Addr.add
def Bo(u:World)(p q:Nat)(M R N T S:List Nat)(P:Pp)(rs:List Rn):Prop:=Wj u p M R P (J6 P.ncls rs)/\jP u q N T S P rs/\(∀x∈M,x∈S)/\(∀x∈N++T,x∉M++R)/\(∀x∈S,x<u.heap.size)
theorem Bo.NS{rs:List Rn}(h:Bo u p q M R N T S P rs):∀x∈M++N,x∈S:=fun x hx=>by
 rcases SE.1 hx with hx|hx
 .exact h.2.2.1 x hx
 .obtain ⟨_,_,_,_,_,_,AH,_⟩:=h.2.1;exact AH x hx
theorem Bo.tr{V:List Nat}{rs:List Rn}(h:Bo u p q M R N T S P rs)(hf:Fr V u u')(h1:∀x∈M++R,x∉V)(h2:∀x∈N++T,x∉V)(h3:∀x∈V,x∈S\/u.heap.size<=x):Bo u' p q M R N T S P rs:=
 ⟨h.1.tr hf h1,h.2.1.tr hf h2 h3,h.2.2.1,h.2.2.2.1,fun x hx=>SV (h.2.2.2.2 x hx) hf.size⟩
theorem Bo.tr0{rs:List Rn}(h:Bo u p q M R N T S P rs)(hf:Fr [] u u'):Bo u' p q M R N T S P rs:=h.tr hf ap ap ap
theorem Bo.cov{rs:List Rn}(h:Bo u p q M R N T S P rs)(hf:Fr M u u'):jP u' q N T S P rs:=h.2.1.tr hf (fun x hx hm=>h.2.2.2.1 x hx (SA _ hm)) (fun x hx=>.inl (h.2.2.1 x hx))
theorem jP.JkQ{S':List Nat}(h:jP u q N T S P [])(hN:∀x∈N,x∈S'):jP u q N T S' P []:=by
 obtain⟨vr,vs,xs,rfl,rfl,iJ,pX,hb,hr,hs,hw⟩:=h;have hxs:xs=[]:=by cases hw;rfl
 subst hxs;exact⟨vr,vs,[],rfl,rfl,iJ,hN,hb,hr,hs,.nil⟩
theorem jP.NS{rs:List Rn}(h:jP u q N T S P rs):∀x∈N,x∈S:=by
 obtain⟨_,_,_,_,_,_,AH,_⟩:=h;exact AH
theorem Bo.beg(hn:n=P.ncls)(hC:Wj u p M R P (J6 n []))(hQ:jP u q N T S P [])(hd:∀x∈N++T,x∉M++R)(V:List Nat)(hV:∀x∈V,x<u.heap.size):Bo u p q M R N T (M++N++V) P []:=by
 subst hn;refine⟨hC,jP.JkQ hQ (fun x hx=>by simp[hx]),fun x hx=>by simp[hx],hd,fun x hx=>?_⟩;simp only[SE]at hx;rcases hx with(hx|hx)|hx
 .exact hC.lt x (SA _ hx)
 .exact hQ.lt x (SA _ hx)
 .exact hV x hx
def xy(P:Pp)(rs:List Rn)(r:Rn):List Rn:=if Qd P r=true then rs++[r] else rs
def stN(P:Pp)(s:St)(r:Rn):St:=if Qd P r=true then Qb s r else s
def JgJ(P:Pp)(r:Rn):Int:=if Qd P r=true then 0 else 1
theorem Jiu{rs:List Rn}{r:Rn}:stN P (J6 P.ncls rs) r=J6 P.ncls (xy P rs r):=by
 unfold stN xy
 split
 .rw [Jbz]
 .rfl
theorem Rs{s:St}(r:Rn)(vb vl:Value)(w:World)(hC:Wj w p M R P s)(pX:∀x∈M,x∈S)(eW:DR w S (.l (r.bs.map jl)) vb)(hl:DR w S (.l (r.cl.map KI)) vl)(hrn:s.runs<=1000000)(oD:r.bs.length<=1000000):
 Calls prog 15 #[.pointer (some ⟨p,0,none⟩),.agg ([iV r.kind,iV r.at_,iV r.code,vb,vl,zI]:List Value).toArray] w fun e w'=>e=.returned (iV (JgJ P r))/\Wj w' p M R P (stN P s r)/\Fr M w w':=by
 refine(Jkr r vb vl w hC pX eW hl hrn oD).mono fun e u' hh=>?_
 unfold JgJ stN
 split at hh
 .rename_i h;rw[Cb h,Cb h];exact hh
 .rename_i h;rw[SH h,SH h];exact⟨hh.1,hC.tr0 hh.2,hh.2.mono ap⟩
theorem Jg7{rs:List Rn}(r:Rn)(vb vl:Value)(w:World)(h:jP w q N T S P rs)(eW:DR w S (.l (r.bs.map jl)) vb)(hl:DR w S (.l (r.cl.map KI)) vl)(hn:rs.length<=1000)(k7:P.reach.length<=1000000):
 Calls prog 22 #[.pointer (some ⟨q,0,none⟩),.agg ([iV r.kind,iV r.at_,iV r.code,vb,vl]:List Value).toArray] w fun e w'=>e=.returned (iV (JgJ P r))/\(∃N',jP w' q N' T (S++N') P (xy P rs r)/\∀x∈N',x∈N\/w.heap.size<=x)/\Fr N w w':=by
 refine(Jg8 r vb vl w h eW hl hn k7).mono fun e u' hh=>?_
 unfold JgJ xy
 split at hh
 .rename_i h;rw[Cb h,Cb h];exact hh
 .rename_i h';have AH:=jP.NS h;rw[SH h',SH h'];refine⟨hh.1,⟨N,(h.tr0 hh.2).mono (fun x hx=>CJ _ hx) (fun x hx=>.inl ?_),fun x hx=>.inl hx⟩,hh.2.mono ap⟩;rcases SE.1 hx with hx|hx
  .exact hx
  .exact AH x hx
theorem Bo.add{u1 u2:World}{N':List Nat}{rs:List Rn}{r:Rn}(h:Bo u p q M R N T S P rs)(hC:Wj u1 p M R P (stN P (J6 P.ncls rs) r))(aj:Fr M u u1)(hQ:jP u2 q N' T (S++N') P (xy P rs r))(hN:∀x∈N',x∈N\/u1.heap.size<=x)(aq:Fr N u1 u2):Bo u2 p q M R N' T (S++N') P (xy P rs r):=by
 have hl:=hC.lt;refine⟨?_,hQ,fun x hx=>SA _ (h.2.2.1 x hx),fun x hx hm=>?_,fun x hx=>?_⟩
 .rw [<-Jiu];exact hC.tr aq (fun x hx hm=>h.2.2.2.1 x (SA _ hm) hx)
 .rcases SE.1 hx with hx|hx
  .rcases hN x hx with h1|h1
   .exact h.2.2.2.1 x (SA _ h1) hm
   .have:=hl x hm;omega
  .exact h.2.2.2.1 x (CJ _ hx) hm
 .rcases SE.1 hx with hx|hx
  .have:=h.2.2.2.2 x hx;have:=aj.size;have:=aq.size;omega
  .exact hQ.lt x (SA _ hx)
theorem Bo.rv{rs:List Rn}(h:Bo u p q M R N T S P rs)(h1:P.reach.length<=1000000000000:=by omega)(h2:rs.length<=1000000000000:=by omega):rp u q P rs:=h.2.1.v h1 h2
def tj(P:Pp)(ms:List Int)(a:Int)(n:Nat):List Rn:=(List.range n).map (fun(j:Nat)=>XW P ms (a+12*(j:Int)) false)
theorem Jlh:tj P ms a (n+1)=tj P ms a n++[XW P ms (a+12*(n:Int)) false]:=by simp[tj,Fv]
theorem Jla:(tj P ms a n).length=n:=by simp[tj]
theorem Jle{N0 S0:List Nat}{rs:List Rn}(y:Value)(ms:List Int)(a:Int)(n:Nat)(w0 w:World)(hB:Bo w p q M R N0 T S0 P rs)(hP:SmP P)(hw:Fr [] w0 w)(idF:∀x∈M++N0,w0.heap.size<=x)(hy:Src w0 y ms.length (ms.map (.int .i64)))(Ap:∀n∈ms,VE n)(ha:0<=a/\a<=100)(hn:n<=10)(k7:rs.length<=100):
 Calls prog 26 #[.pointer (some ⟨p,0,none⟩),.pointer (some ⟨q,0,none⟩),y,iV a,iV (n:Nat)] w fun e w'=>e=.returned (.bool true)/\∃N' S',Bo w' p q M R N' T S' P (rs++tj P ms a n)/\Fr (M++N0) w w'/\(∀x∈N',x∈N0\/w.heap.size<=x)/\(∀x∈S0,x∈S'):=by
 obtain⟨aoy,cy,rfl,_⟩:=id hy;have hp1:=hP.checks;have vu:=hP.ncls;have ri:=hP.reach;refine enter func26 rfl ntmps26 rfl ?_;refine rx ?_;refine Jh 12 [11] (σ:=Nat×List Nat×List Nat) (fun t g u=>g 11=iV (t.1:Nat)/\t.1<=n/\Bo u p q M R t.2.1 T t.2.2 P (rs++tj P ms a t.1)/\Fr (M++N0) w u/\(∀x∈t.2.1,x∈N0\/w.heap.size<=x)/\(∀x∈S0,x∈t.2.2)) (fun t=>n-t.1) (0,N0,S0) ⟨rfl,SL _,by simpa[tj]using hB,Fr.refl _ _,fun x hx=>.inl hx,fun x hx=>hx⟩ ?_;clear hB;rintro⟨i,N,S⟩ g u ⟨g11,hi,hB,hF,hN,hSS⟩;simp only at g11 hi hB hN hSS;rw[Ja g11];by_cases aC:i<n
 case neg=>
  obtain rfl:i=n:=by omega
  refine bM ?_;exact⟨rfl,N,S,hB,hF,hN,hSS⟩
 have lD:Fr [] w0 u:=hw.trans hF (fun x hx=>.inr (idF x hx));have hyu:=hy.tr0 lD;have if0:(rs++tj P ms a i).length<=200:=by rw[Sm,Jla];omega
 refine rx ?_;refine Y9 (JjM _ ms (a+12*(i:Int)) false u hB.rv hyu Ap ab ab) ?_;rintro vb vl u1 ⟨qU,vO,pR,pW⟩;have lS:=Jfh (P:=P) (l:=ms) (at_:=a+12*(i:Int)) (b:=false);have nF:=Jfg (P:=P) (l:=ms) (at_:=a+12*(i:Int)) (b:=false);have yd:=JgR hP (l:=ms) (a:=a+12*(i:Int)) (bad:=false);obtain⟨r,hr⟩:=aP (XW P ms (a+12*(i:Int)) false);rw[<-hr]at qU vO lS nF yd ⊢;obtain⟨iK,cb,rfl⟩:=qU.1.slice;obtain⟨jG,cl,rfl⟩:=vO.slice;refine rx ?_;refine Jm (l:=[zI,zI,zI,zS,zS]) rfl (fun u3 b12 iba pZ vL iaE=>?_);refine rx ?_;refine Jd (cs:=[iV r.kind,iV r.at_,iV r.code,.slice iK r.bs.length cb,.slice jG r.cl.length cl]) rfl rfl pZ dQ rfl rfl (fun u4 pZ vN icU=>?_);have aR:Fr [] u1 u4:=vL.trans vN (fun x hx=>.inr bt);have rj:=pW.Jb aR;have qU:=qU.tr0 aR;have vO:=vO.tr0 aR;have j0:=pW.size;have hBu:=hB;have lU:=hB.2.2.2.2;have hB:=hB.tr0 rj;have hMN:=hB.NS;have pX:=hB.2.2.1;have AH:=jP.NS hB.2.1;have hbM:∀x∈ag (Value.slice iK r.bs.length cb),x∉S:=fun x hx hm=>by have h1:=qU.2 x hx;have h2:=lU x hm;omega
 have Ar:∀x∈ag (Value.slice jG r.cl.length cl),x∉S:=fun x hx hm=>by have h1:=pR x hx;have h2:=lU x hm;omega
 have nS:b12∉S:=fun hm=>by have h2:=lU _ hm;omega
 have n12:b12∉M++N:=fun hm=>nS (hMN _ hm)
 have dB:∀{z:World},Fr (M++N) u4 z->DR z S (.l (r.bs.map jl)) (.slice iK r.bs.length cb):=fun{z} hf=>ZO (qU.1.tr hf (fun x hx hm=>hbM x hx (hMN x hm))) ab hbM
 have dL:∀{z:World},Fr (M++N) u4 z->DR z S (.l (r.cl.map KI)) (.slice jG r.cl.length cl):=fun{z} hf=>Jgd (vO.tr hf (fun x hx hm=>Ar x hx (hMN x hm))) ab Ar
 have kN:Qd P r=true:=hr▸Jld;refine rx ?_;refine JE (fun z=>Fr (M++N) u4 z) az rfl ?_;obtain⟨u5,hu5⟩:=aP u4.drew;rw[<-hu5];have vP:Fr [] u4 u5:=hu5▸Fr.drew _ _;have hS:Fr (M++N) u4 u5:=vP.mono ap;refine bH 0 hS ?_;refine Kw 1 hS ?_ (aw:=by(intro u hu;exact(Kv rfl (Cells.VO (pZ.tr hu n12)) fD)));refine bH 4 hS ?_;refine Kw 5 hS ?_ (aw:=by(intro u hu;exact(Kv rfl (Cells.VO (pZ.tr hu n12)) fD)));refine JJ (i:=2) rfl az ?_;refine Jg (Jj6 r.kind r.at_ r.code (.slice iK r.bs.length cb) (.slice jG r.cl.length cl) _ rfl rfl) ?_;rintro u6 Y6;have hS:=hS.Jb Y6;refine ft ?_;have hB:=hB.tr0 (vP.Jb Y6);refine JJ (i:=3) rfl az ?_;refine Jg (Rs r (.slice iK r.bs.length cb) (.slice jG r.cl.length cl) u6 hB.1 pX (dB hS) (dL hS) (by show(rs++tj P ms a i).length<=1000000;omega) ab) ?_;rintro u7 ⟨hC7,aQ⟩;have TO:=hB.cov aQ;have hS:=hS.trans aQ (fun x hx=>.inl (SA _ hx));refine ft ?_;refine JJ (i:=6) rfl az ?_;refine Jg (Jg7 r (.slice iK r.bs.length cb) (.slice jG r.cl.length cl) u7 TO (dB hS) (dL hS) ab ab) ?_;rintro u8 ⟨⟨N',hQ8,hN'⟩,aM⟩;have idG:=aQ.size;have if1:=(vP.Jb Y6).size;have if2:=rj.size;have if3:=hF.size;have hB8:=hB.add hC7 aQ hQ8 hN' aM;have hS:=hS.trans aM (fun x hx=>.inl (CJ _ hx));refine ft ?_;refine bH 7 hS ?_;refine j5 ?_;refine Jc (i+1,N',S++N') a6 ⟨rfl,aC,?_,?_,fun x hx=>?_,fun x hx=>SA _ (hSS x hx)⟩ eM
 .simp only;rw[Jlh,<-hr,<-List.append_assoc];rw[show xy P (rs++tj P ms a i) r=(rs++tj P ms a i)++[r] from Cb kN]at hB8;exact hB8
 .refine (hF.Jb rj).trans hS (fun x hx=>?_);rcases SE.1 hx with h|h
  .exact .inl (SA _ h)
  .exact (hN x h).imp (fun h=>CJ _ h) id
 .rcases hN' x hx with h|h
  .exact hN x h
  .exact .inr ab
end Go.Proofs.YtggmccicdhnkgaaGreat
namespace Go.Rf
end Go.Rf
namespace Go.Proofs.YtggmccicdhnkgaaGreat
open Go.Rf Go.RowKit
variable{n:Nat}
def Av(n:Nat)(rs:List Rn):Prop:=rs.length<=n/\∀r∈rs,(r.bs.length<=5/\∀b∈r.bs,si b)/\r.cl.length<=17
theorem Av.next{P:Pp}{rs:List Rn}{r:Rn}(h:Av n rs)(h1:r.bs.length<=5)(h2:∀b∈r.bs,si b)(h3:r.cl.length<=17):Av (n+1) (xy P rs r):=by
 unfold xy
 split
 .refine ⟨by have:=h.1;simp;omega,fun x hx=>?_⟩;rcases SE.1 hx with hx|hx
  .exact h.2 x hx
  .rw [Sv.1 hx];exact⟨⟨h1,h2⟩,h3⟩
 .exact ⟨by have:=h.1;omega,h.2⟩
theorem Av.r{rs:List Rn}(h:Av n rs)(hn:n<=20):xx rs:=⟨CG h.1 hn,fun r hr=>(h.2 r hr).1⟩
attribute [local irreducible] Code.wp wpList Exit.then Exit.inBlock bodyPost A Calls execOp Addr.add
end Go.Proofs.YtggmccicdhnkgaaGreat
