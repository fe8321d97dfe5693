/-
 Covers in intervals of the heap:Add,Copy,Merge and Encode of package cover there.
-/
import Derived.Test.YtggmccicdhnkgaaGreatZJt
import Derived.Test.YtggmccicdhnkgaaGreatZJl
import Derived.Test.YtggmccicdhnkgaaGreatZMs
import Derived.Test.YtggmccicdhnkgaaGreatZRf2
import Derived.Test.YtggmccicdhnkgaaGreatZJc
set_option linter.all false
namespace Go.Rf
open Go.RowKit
variable{i:Nat}{α:Type}
theorem rnR{w:World}{S:List Nat}{r:Rn}{cs:List Value}(h:RD w S (rnC r) cs):∃vb vl,cs=[iV r.kind,iV r.at_,iV r.code,vb,vl]/\DR w S (.l (r.bs.map brC)) vb/\DR w S (.l (r.cl.map KI)) vl:=by
 obtain⟨c1,e1,k1⟩:=RD.JI (x:=iV r.kind) h;obtain⟨c2,e2,k2⟩:=RD.JI k1;obtain⟨c3,e3,k3⟩:=RD.JI k2;obtain⟨vb,c4,e4,h1,k4⟩:=RD.inv k3;obtain⟨vl,c5,e5,h2,k5⟩:=RD.inv k4;have e6:=RD.inv0 k5;subst e6 e5 e4 e3 e2 e1;exact⟨vb,vl,rfl,h1,h2⟩
theorem Zw{p:α->Bool}{l:List α}(h:i<l.length):(l.take (i+1)).countP p=(l.take i).countP p+b2n (p l[i]):=by
 rw[List.take_succ_eq_append_getElem h,Xu]
theorem Xh{p:α->Bool}{l:List α}:(l.take i).countP p<=l.length:=Nat.le_trans List.countP_le_length (by rw[List.length_take];exact Nat.min_le_right _ _)
end Go.Rf
namespace Go.Proofs.YtggmccicdhnkgaaGreat
open Go.Proofs.Tryz
open Go.Rf Go.RowKit
variable{i q:Nat}{P:Pp}
attribute [local irreducible] Code.wp wpList Exit.then Exit.inBlock bodyPost A Calls execOp Addr.add
theorem JdE{rs:List Rn}(k:Int)(w:World)(hQ:RcV w q P rs)(hn:rs.length<=1000000):
 Calls prog 61 #[.pointer (some ⟨q,0,none⟩),iV k] w fun e w'=>e=.returned (iV (rs.countP (fun r=>decide (r.kind=k)):Nat))/\Fr [] w w':=by
 obtain⟨vr,vs,hb,hrr,hss⟩:=hQ;have h1r:=hrr.one;have h1s:=hss.one;obtain⟨aos,cs,rfl,_⟩:=hss.slice;have hlm:(rs.map rnC).length=rs.length:=List.length_map ..;rw[hlm]at hb hss h1s;refine enter func61 rfl ntmps61 rfl ?_;refine rx ?_;refine Jh 7 [5,6] (σ:=Nat) (fun i g u=>g 6=iV (i:Nat)/\g 5=iV ((rs.take i).countP (fun r=>decide (r.kind=k)):Nat)/\i<=rs.length/\Fr [] w u) (fun i=>rs.length-i) 0 ⟨rfl,rfl,Nat.zero_le _,Fr.refl _ _⟩ ?_;rintro i g u ⟨g6,g5,hi,hF⟩;rw[Ja g6,Ja g5];have hb:=hb.tr0 hF;have hcl:=Xh (p:=fun(r:Rn)=>decide (r.kind=k)) (l:=rs) (i:=i);by_cases hlt:i<rs.length
 case neg=>
  rw[show rs.take i=rs from List.take_of_length_le Yhn]at hcl ⊢;refine Yeo ?_;exact⟨rfl,hF⟩
 obtain⟨ad,cs',had,hr,hc⟩:=DR.at Gi (hss.tr0 hF) hlt;subst had;obtain⟨vb,vl,rfl,hvb,hvl⟩:=rnR hr;have hct:=Zw (p:=fun(r:Rn)=>decide (r.kind=k)) hlt;refine rx ?_;refine KW rfl (by rw[add0];exact hc 0 _ rfl) ?_;by_cases he:rs[i].kind=k
 .refine rx ?_;exact Yla
 .refine rx ?_;exact Ykz
theorem Jjd(l:List Int)(k:Int)(v:Value)(w:World)(h:Src w v l.length (l.map (.int .i64)))(hl:l.length<=1000000000):
 Calls prog 102 #[v,iV k] w fun e w'=>e=.returned (.bool (decide (k∈l)))/\w'=w:=by
 obtain⟨ao,c,rfl,_⟩:=id h;refine enter func102 rfl ntmps102 rfl ?_;refine rx ?_;refine Jh 6 [5] (σ:=Nat) (fun i g u=>g 5=iV (i:Nat)/\i<=l.length/\k∉l.take i/\u=w) (fun i=>l.length-i) 0 ⟨rfl,Nat.zero_le _,by simp,rfl⟩ ?_;rintro i g u ⟨g5,hi,hnm,rfl⟩;rw[Ja g5];by_cases hlt:i<l.length
 case neg=>
  rw[List.take_of_length_le Yhn]at hnm;refine Yeo ?_;exact⟨by rw[decide_eq_false hnm],rfl⟩
 obtain⟨ad,hade,hc⟩:=KO h (WS hlt);subst hade;refine rx ?_;refine KW rfl (by rw[Nat.mul_one];exact hc) ?_;by_cases he:l[i]=k
 .refine rx ?_;refine Yfw ?_;exact⟨by rw[decide_eq_true (he▸List.getElem_mem hlt)],rfl⟩
 .refine rx ?_;refine Jc (i+1) Yhl ⟨rfl,hlt,?_,rfl⟩ Yhn;exact Ylf
theorem G9{rs:List Rn}(k:Int)(w:World)(hQ:RcV w q P rs)(hn:rs.length<=1000000)(hc:∀r∈rs,r.cl.length<=1000000):
 Calls prog 56 #[.pointer (some ⟨q,0,none⟩),iV k] w fun e w'=>e=.returned (iV (rs.countP (fun r=>decide (k∈r.cl)):Nat))/\Fr [] w w':=by
 obtain⟨vr,vs,hb,hrr,hss⟩:=hQ;have h1r:=hrr.one;have h1s:=hss.one;obtain⟨aos,cs,rfl,_⟩:=hss.slice;have hlm:(rs.map rnC).length=rs.length:=List.length_map ..;rw[hlm]at hb hss h1s;refine enter func56 rfl ntmps56 rfl ?_;refine rx ?_;refine Jh 7 [5,6] (σ:=Nat) (fun i g u=>g 6=iV (i:Nat)/\g 5=iV ((rs.take i).countP (fun r=>decide (k∈r.cl)):Nat)/\i<=rs.length/\Fr [] w u) (fun i=>rs.length-i) 0 ⟨rfl,rfl,Nat.zero_le _,Fr.refl _ _⟩ ?_;rintro i g u ⟨g6,g5,hi,hF⟩;rw[Ja g6,Ja g5];have hb:=hb.tr0 hF;have hcl:=Xh (p:=fun(r:Rn)=>decide (k∈r.cl)) (l:=rs) (i:=i);by_cases hlt:i<rs.length
 case neg=>
  rw[show rs.take i=rs from List.take_of_length_le Yhn]at hcl ⊢;refine Yeo ?_;exact⟨rfl,hF⟩
 obtain⟨ad,cs',had,hr,hce⟩:=DR.at Gi (hss.tr0 hF) hlt;subst had;obtain⟨vb,vl,rfl,hvb,hvl⟩:=rnR hr;have hct:=Zw (p:=fun(r:Rn)=>decide (k∈r.cl)) hlt;have hcn:=hc _ (List.getElem_mem hlt);refine rx ?_;refine Jg (Jjd rs[i].cl k vl u (VP hvl) Yhn) ?_;rintro u2 rfl;by_cases he:k∈rs[i].cl
 .rw [decide_eq_true he];refine rx ?_;exact Yla
 .rw [decide_eq_false he];refine rx ?_;exact Ykz
theorem JhZ{rs:List Rn}(hn:rs.length<=1000)(hc:∀r∈rs,r.bs.length<=1000):((rs.take i).flatMap (·.bs)).length<=1000000:=by
 have key:∀(l:List Rn),(∀r∈l,r.bs.length<=1000)->(l.flatMap (·.bs)).length<=1000*l.length:=by
  intro l
  induction l with
  |nil=>intro _;simp
  |cons r l ih=>
   intro h;have h1:=ih (fun x hx=>h x Yix);have h2:=h r Yhs;simp only[List.flatMap_cons,List.length_append,List.length_cons];omega
 exact Yld
theorem WQ{rs:List Rn}(w:World)(hQ:RcV w q P rs)(hn:rs.length<=1000)(hc:∀r∈rs,r.bs.length<=1000):
 Calls prog 55 #[.pointer (some ⟨q,0,none⟩)] w fun e w'=>∃v,e=.returned v/\BO w 50 w' (JM ltB (rs.flatMap (·.bs))) v/\Fr [] w w':=by
 obtain⟨vr,vs,hb,hrr,hss⟩:=hQ;have h1r:=hrr.one;have h1s:=hss.one;obtain⟨aos,cs,rfl,_⟩:=hss.slice;have hlm:(rs.map rnC).length=rs.length:=List.length_map ..;rw[hlm]at hb hss h1s;refine enter func55 rfl ntmps55 rfl ?_;refine rx ?_;refine Jh 5 [3,4] (σ:=Nat×Value) (fun t g u=>g 4=iV (t.1:Nat)/\g 3=t.2/\t.1<=rs.length/\BO w 50 u ((rs.take t.1).flatMap (·.bs)) t.2/\Fr [] w u) (fun t=>rs.length-t.1) (0,zS) ⟨rfl,rfl,Nat.zero_le _,BO.nil,Fr.refl _ _⟩ ?_;rintro⟨i,va⟩ g u ⟨g4,g3,hi,hA,hF⟩;simp only at g4 g3 hi hA;rw[Ja g4,Ja g3];have hb:=hb.tr0 hF;have hA1:=hA.1.one;have hlen:=JhZ hn hc (i:=i);by_cases hlt:i<rs.length
 case neg=>
  rw[show rs.take i=rs from List.take_of_length_le Yhn]at hA hlen;obtain⟨aov,cv,rfl⟩:=hA.1.slice;refine rx ?_;refine Jl (JaN _ _ u (S:=[]) (ZO hA.1 Yhn Yhs) Yhn) ?_;rintro v2 u2 ⟨hB,hf2⟩;refine Yeo ?_;exact⟨v2,rfl,⟨hB.1,fun x hx=>by have:=hB.2 x hx;have:=hF.size;omega⟩,hF.Jb hf2⟩
 obtain⟨ad,cs',had,hr,hce⟩:=DR.at Gi (hss.tr0 hF) hlt;subst had;obtain⟨vb,vl,rfl,hvb,hvl⟩:=rnR hr;have hcn:=hc _ (List.getElem_mem hlt);have hvs:=DR.brs hvb;obtain⟨aob,cb,rfl,_⟩:=id hvs;obtain⟨aov,cv,rfl⟩:=hA.1.slice;refine rx ?_;refine JC hA.1 rfl hvs rfl (XL _) (fun x hx=>by obtain⟨b,_,hb⟩:=List.mem_flatMap.1 hx;exact QD b x hb) Yhv Yhn (fun v5 u5 ho5 hf7 hk7 _=>?_);refine rx ?_;have hsu:=hF.size;refine Jc (i+1,v5) Yhl ⟨rfl,rfl,hlt,⟨?_,fun x hx=>?_⟩,hF.trans hf7 (fun x hx=>.inr (hA.2 x hx))⟩ Yhw
 .simp only;rw[List.take_succ_eq_append_getElem hlt,List.flatMap_append,List.flatMap_append,List.length_append];simpa using ho5
 .rcases hk7 x hx with h|h
  .exact hA.2 x h
  .omega
theorem Jai{rs:List Rn}(b:Br)(w:World)(hQ:RcV w q P rs)(hn:rs.length<=1000000):
 Calls prog 60 #[.pointer (some ⟨q,0,none⟩),.agg (brV b).toArray] w fun e w'=>e=.returned (iV (rs.countP (fun r=>decide (b∈r.bs)):Nat))/\Fr [] w w':=by
 obtain⟨vr,vs,hb,hrr,hss⟩:=hQ;have h1r:=hrr.one;have h1s:=hss.one;obtain⟨aos,cs,rfl,_⟩:=hss.slice;have hlm:(rs.map rnC).length=rs.length:=List.length_map ..;rw[hlm]at hb hss h1s;refine enter func60 rfl ntmps60 rfl ?_;refine rx ?_;refine Ju (l:=brV b) rfl rfl (fun w1 b3 hb3 h3 hf1 hs1=>?_);replace h3:Blk w1 b3 [.string b.decl,iV b.at_,iV b.arm] _:=h3;refine rx ?_;refine Jh 7 [5,6] (σ:=Nat) (fun i g u=>g 6=iV (i:Nat)/\g 5=iV ((rs.take i).countP (fun r=>decide (b∈r.bs)):Nat)/\i<=rs.length/\Fr [] w1 u) (fun i=>rs.length-i) 0 ⟨rfl,rfl,Nat.zero_le _,Fr.refl _ _⟩ ?_;rintro i g u ⟨g6,g5,hi,hF1⟩;rw[Ja g6,Ja g5];have hF:=hf1.Jb hF1;have hb:=hb.tr0 hF;have h3:=h3.tr0 hF1;have hcl:=Xh (p:=fun(r:Rn)=>decide (b∈r.bs)) (l:=rs) (i:=i);by_cases hlt:i<rs.length
 case neg=>
  rw[show rs.take i=rs from List.take_of_length_le Yhn]at hcl ⊢;refine Yeo ?_;exact⟨rfl,hF⟩
 obtain⟨ad,cs',had,hr,hce⟩:=DR.at Gi (hss.tr0 hF) hlt;subst had;obtain⟨vb,vl,rfl,hvb,hvl⟩:=rnR hr;have hct:=Zw (p:=fun(r:Rn)=>decide (b∈r.bs)) hlt;refine Ylk ?_;obtain⟨u1,hu1⟩:=exq u.drew;rw[<-hu1];have hS:Fr [] u u1:=hu1▸Fr.drew _ _;refine Jj 0 1 2 3 hS ?_;refine Jj 4 5 6 7 hS ?_;refine d_z 8 hS ?_;refine Ygx ?_;refine Jg (Jdc rs[i].bs b vb u1 (hvb.tr0 hS)) ?_;rintro u2 hf2;have hS:=hS.Jb hf2;refine Yfz ?_;refine Kw 10 hS ?_ (hrun:=by(intro u hu;exact(JbP rfl)));refine Yfx ?_;by_cases he:b∈rs[i].bs
 .rw [decide_eq_true he];refine rx ?_;refine Jc (i+1) Yhl ⟨rfl,?_,hlt,hF1.Jb hS⟩ Yhn;rw[hct,decide_eq_true he];rfl
 .rw [decide_eq_false he];refine rx ?_;refine Jc (i+1) Yhl ⟨rfl,?_,hlt,hF1.Jb hS⟩ Yhn;rw[hct,decide_eq_false he];rfl
end Go.Proofs.YtggmccicdhnkgaaGreat
namespace Go.Rf
open Go.RowKit
variable{α:Type}
theorem XR(f:α->List Int):∀(l:List α) (i:Nat),((l.take i).flatMap f).length<=(l.flatMap f).length
 |[],i=>by simp
 |a::l,0=>by simp
 |a::l,i+1=>by
  have:=XR f l i;simp only[List.take_succ_cons,List.flatMap_cons,List.length_append];omega
theorem Wy(f:α->List Int){l:List α}{i:Nat}(h:i<l.length):(l.take (i+1)).flatMap f=(l.take i).flatMap f++f l[i]:=by
 rw[List.take_succ_eq_append_getElem h,List.flatMap_append,List.flatMap_cons,List.flatMap_nil,List.append_nil]
end Go.Rf
namespace Go.Proofs.YtggmccicdhnkgaaGreat
open Go.Proofs.Tryz
open Go.Rf Go.RowKit
variable{p:Nat}{u u1 w:World}
attribute [local irreducible] Code.wp wpList Exit.then Exit.inBlock bodyPost A Calls execOp Addr.add
theorem KJ{n:Nat}(h:n<=1000000000):VE (n:Int):=⟨by omega,by omega⟩
theorem KN.next{v:Value}{bs:List Int}(h:KN p w v bs u)(hf:Fr [] u u1):KN p w v bs u1:=by
 obtain⟨v',hI,h1,h2⟩:=h;exact⟨v',⟨hI.1.tr0 hf,hI.2.tr0 hf⟩,h1.Jb hf,h2⟩
theorem KN.fr{v:Value}{bs:List Int}(h:KN p w v bs u):Fr (p::blks v) w u:=by
 obtain⟨_,_,hf,_⟩:=h;exact hf
theorem KN.from{v:Value}{bs:List Int}(h:KN p w v bs u)(hf1:Fr [] u u1):∃v',(∀x∈p::blks v',x<u.heap.size/\(x=p\/x∈blks v\/w.heap.size<=x))/\KN p u1 v' bs u1/\∀bs2 u2,KN p u1 v' bs2 u2->KN p w v bs2 u2:=by
 obtain⟨v',hI,hf,hk⟩:=h;refine⟨v',fun x hx=>?_,KN.refl ⟨hI.1.tr0 hf1,hI.2.tr0 hf1⟩,fun bs2 u2 h2=>h2.trans (hf.Jb hf1) hk⟩;rcases List.mem_cons.1 hx with rfl|hx
 .exact ⟨hI.1.lt,.inl rfl⟩
 .exact ⟨hI.2.lt x hx,.inr (hk x hx)⟩
theorem BL{v:Value}{bs:List Int}(n:Int)(h:KN p w v bs u)(hn:VE n)(hl:bs.length<=10000000000):
 Calls prog 66 #[.pointer (some ⟨p,0,none⟩),iV n] u fun e u'=>e=.returned (.tuple #[])/\KN p w v (bs++iv n) u':=by
 obtain⟨v',hI,h1,hk⟩:=h;exact(Jkw p v' bs n u hn.1 hn.2 hI Yhn).mono fun e u' ⟨he,hs⟩=>⟨he,hs.trans h1 hk⟩
theorem JeW{v:Value}{bs:List Int}(s:ByteArray)(h:KN p w v bs u)(hs:s.size<=10000000000)(hl:bs.length<=10000000000):
 Calls prog 65 #[.pointer (some ⟨p,0,none⟩),.string s] u fun e u'=>e=.returned (.tuple #[])/\KN p w v (bs++raw (sb s)) u':=by
 obtain⟨v',hI,h1,hk⟩:=h;exact(wText p v' bs s u hI Yhn Yhn).mono fun e u' ⟨he,hs⟩=>⟨he,hs.trans h1 hk⟩
def BrE(b:Br):Prop:=b.decl.size<=1000000000/\VE b.at_/\VE b.arm
theorem GZ(b:Br)(h:BrE b):(brE b).length<=1000000100:=by
 have h1:=VA h.2.1.1 h.2.1.2;have h2:=VA h.2.2.1 h.2.2.2;exact Ycy
theorem Jio{v:Value}{bs:List Int}(b:Br)(hb:BrE b)(h:KN p w v bs u)(hl:bs.length<=5000000000):
 Calls prog 67 #[.pointer (some ⟨p,0,none⟩),.agg (brV b).toArray] u fun e u'=>e=.returned (.tuple #[])/\KN p w v (bs++brE b) u':=by
 refine enter func67 rfl ntmps67 rfl ?_;refine rx ?_;refine Ju (l:=brV b) rfl rfl (fun u1 q hq h1 hf1 hs1=>?_);replace h1:Blk u1 q [.string b.decl,iV b.at_,iV b.arm] _:=h1;obtain⟨v1,hlt,hW,hgo⟩:=h.from hf1;have hq1:q∉p::blks v1:=fun hm=>by have:=(hlt q hm).1;omega
 have hl1:=VA hb.2.1.1 hb.2.1.2;have hl3:=Xw (sb b.decl).length (by have:=hb.1;have:=Xx b.decl;omega);have hl4:=hb.1;have hl5:=Xx b.decl;refine rx ?_;refine Jg (JeW b.decl hW Yhn Yhn) ?_;rintro u2 hW2;have g2:=h1.tr hW2.fr hq1;refine rx ?_;refine Jg (BL b.at_ hW2 hb.2.1 Yls) ?_;rintro u3 hW3;have g3:=h1.tr hW3.fr hq1;refine rx ?_;refine Jg (BL b.arm hW3 hb.2.2 Yls) ?_;rintro u4 hW4;refine rx ?_;refine WI rfl ⟨rfl,?_⟩;have:=hgo _ _ hW4
 rwa [show bs++raw (sb b.decl)++iv b.at_++iv b.arm=bs++brE b by simp[brE]]at this
theorem wfr{w1:World}{q:Nat}{bs:List Int}(hf:Fr [] w w1)(hq:q=w.heap.size)(h:KN q w1 (zS) bs u):Fr [] w u:=
 hf.trans h.fr (fun x hx=>.inr (by simp[blks,Value.ownBlock]at hx;omega))
set_option maxHeartbeats 32000000 in
theorem JhG{M R:List Nat}{P:Pp}{s:St}(w:World)(hC:Wj w p M R P s)(hn:s.cls.length<=1000000)(hk:s.ks.length<=1000000)(hps:s.ps.length<=1000000)(hr0:s.runs<=1000000)(hpr:P.prop.size<=1000000)(hbr:∀b∈s.ks,BrE b)(hL:(U0 P.prop s).length<=1000000000):
 Calls prog 27 #[.pointer (some ⟨p,0,none⟩)] w fun e w'=>∃v,e=.returned v/\Own w' 5 1 v (U0 P.prop s).length ((U0 P.prop s).map (.int .u8))/\Fr [] w w'/\(∀x∈blks v,w.heap.size<=x):=by
 obtain⟨bb,pb,vr,vc,mb,mp,rfl,rfl,hnd,hb,hr,hc,hmb,hrb,hmp,hrp,hok⟩:=hC;obtain⟨aoc,cc,rfl⟩:=hc.slice;have hlp:mp.length=s.ps.length:=GI Qy hmp.nd hok.pasc (fun a=>hrp.keys);have hlb:mb.length=s.ks.length:=GI Qu hmb.nd hok.kasc (fun a=>hrb.keys.trans (hok.cnt a));have ho:=hok.o;simp only[U0,List.length_append]at hL;refine enter func27 rfl ntmps27 rfl ?_;refine rx ?_;refine Jm (l:=[zS]) rfl (fun w1 q hqe hq hf1 hs1=>?_);have hW:=KN.refl (bs:=[]) ⟨hq,Own.nil _ _ _⟩;have hb1:=hb.tr0 hf1;refine rx ?_;refine Jg (JeW P.prop hW Yhn Yhs) ?_;rintro u hW;have hb2:=hb.tr0 (wfr hf1 hqe hW);refine rx ?_;refine Jg (BL s.runs hW (KJ Yhn) (by simp only[List.nil_append];omega)) ?_;rintro u2 hW;have hb3:=hb.tr0 (wfr hf1 hqe hW);refine rx ?_;clear hb1 hb2 hb3;refine Jh 26 [5] (σ:=Nat) (fun i g u=>g 26=iV (i:Nat)/\i<=3/\KN q w1 (zS) (raw (sb P.prop)++iv s.runs++([s.o 0,s.o 1,s.o 2].take i).flatMap (fun n=>iv (n:Nat))) u) (fun i=>3-i) 0 ⟨rfl,Nat.zero_le _,by simpa using hW⟩ ?_;clear hW;rintro i g u ⟨g26,hi,hW⟩;rw[Ja g26];have hbt:=XR (fun(n:Nat)=>iv (n:Nat)) [s.o 0,s.o 1,s.o 2] i;by_cases hlt:i<3
 case pos=>
  refine rx ?_;refine JcY (cs:=Vk [s.o 0,s.o 1,s.o 2]) (v:=iV ([s.o 0,s.o 1,s.o 2][i]:Nat)) rfl rfl hlt (V9 hlt) ?_;refine rx ?_;have hoi:[s.o 0,s.o 1,s.o 2][i]<=1000000:=by
   have:∀n∈[s.o 0,s.o 1,s.o 2],n<=1000000:=by simp;omega
   exact this _ (List.getElem_mem _)
  refine Jg (BL _ hW (KJ Yhn) (by simp only[List.length_append];rw[show([s.o 0,s.o 1,s.o 2].flatMap (fun(n:Nat)=>iv (n:Nat))).length=(iv (s.o 0)).length+((iv (s.o 1)).length+(iv (s.o 2)).length) by simp]at hbt;omega)) ?_;rintro u2 hW;refine rx ?_;refine Jc (i+1) Yhl ⟨rfl,hlt,?_⟩ Yhn;rw[Wy _ hlt,<-List.append_assoc];exact hW
 rw[List.take_of_length_le Yht,show[s.o 0,s.o 1,s.o 2].flatMap (fun n=>iv (n:Nat))=iv (s.o 0)++(iv (s.o 1)++iv (s.o 2)) by simp,<-List.append_assoc,<-List.append_assoc]at hW;have hb1:=hb.tr0 (wfr hf1 hqe hW);clear hbt hi g26;refine rx ?_;refine Jg (BL s.cls.length hW (KJ Yhn) Yim) ?_;rintro u2 hW;have hb2:=hb.tr0 (wfr hf1 hqe hW);refine rx ?_;clear hb1 hb2;obtain⟨B,hB⟩:=exq (raw (sb P.prop)++iv s.runs++iv (s.o 0)++iv (s.o 1)++iv (s.o 2)++iv s.cls.length);have hBL:B.length+(s.cls.flatMap (fun n=>iv (n:Nat))).length<=1000000000:=by rw[hB];simp only[List.length_append];omega
 rw[<-hB]at hW;refine Jh 43 [7] (σ:=Nat) (fun i g u=>g 43=iV (i:Nat)/\i<=s.cls.length/\KN q w1 (zS) (B++(s.cls.take i).flatMap (fun n=>iv (n:Nat))) u) (fun i=>s.cls.length-i) 0 ⟨rfl,Nat.zero_le _,by simpa using hW⟩ ?_;clear hW;rintro i g u ⟨g43,hi,hW⟩;rw[Ja g43];have hbt:=XR (fun(n:Nat)=>iv (n:Nat)) s.cls i;by_cases hlt:i<s.cls.length
 case pos=>
  obtain⟨ad,had,hcell⟩:=KO (hc.tr0 (wfr hf1 hqe hW)).src (V9 hlt);subst had;refine Yfm ?_;refine rx ?_;refine Jg (BL _ hW (KJ (by have:=hok.ocls _ (List.getElem_mem hlt);omega)) Yim) ?_;rintro u2 hW;refine rx ?_;refine Jc (i+1) Yhl ⟨rfl,hlt,?_⟩ Yhn;rw[Wy _ hlt,<-List.append_assoc];exact hW
 rw[List.take_of_length_le Yhn]at hW;have hFu:=wfr hf1 hqe hW;have hb1:=hb.tr0 hFu;have hmb1:=hmb.tr0 hFu;clear hbt g43;refine rx ?_;refine G7 rfl hmb1 ?_;rw[hlb];refine rx ?_;refine Jg (BL s.ks.length hW (KJ Yhn) Yim) ?_;rintro u2 hW;have hFu2:=wfr hf1 hqe hW;have hb2:=hb.tr0 hFu2;have hmb2:=hmb.tr0 hFu2;refine rx ?_;refine Jl (JbB mb bb u2 hmb2 Yhn) ?_;rintro vq w3 ⟨hBq,hf3⟩;rw[Uw Qu hok.kasc (fun a=>hrb.keys.trans (hok.cnt a))]at hBq;obtain⟨aoq,cq,rfl⟩:=hBq.1.slice;obtain⟨v3,hv3,hV,hgo⟩:=hW.from hf3;have hFw3:=hFu2.Jb hf3;have hsw3:=hFw3.size;have hs23:=hf3.size;have hv30:∀x∈q::blks v3,x<u2.heap.size/\w.heap.size<=x:=fun x hx=>by
  have h1:=hv3 x hx;have:=hs1;refine⟨h1.1,?_⟩;rcases h1.2 with h|h|h
  .omega
  .simp [blks,Value.ownBlock]at h
  .omega
 have hQ:∀x∈blks (Value.slice aoq s.ks.length cq),x∉q::blks v3:=fun x hx hm=>by
  have h1:=hBq.2 x hx;have h2:=(hv30 x hm).1;omega
 have hF3:∀bs u,KN q w3 v3 bs u->Fr [] w u:=fun bs u h=>hFw3.trans h.fr (fun x hx=>.inr (hv30 x hx).2)
 clear hW;obtain⟨B2,hB2⟩:=exq (B++s.cls.flatMap (fun n=>iv (n:Nat))++iv s.ks.length);rw[<-hB2]at hV;have hBL2:B2.length+(s.ks.flatMap (fun b=>brE b++iv (s.cnt b))).length<=1000000000:=by rw[hB2,hB];simp only[List.length_append];omega
 refine rx ?_;refine Jh 62 [9] (σ:=Nat) (fun i g u=>g 62=iV (i:Nat)/\i<=s.ks.length/\KN q w3 v3 (B2++(s.ks.take i).flatMap (fun b=>brE b++iv (s.cnt b))) u) (fun i=>s.ks.length-i) 0 ⟨rfl,Nat.zero_le _,by simpa using hV⟩ ?_;clear hV;rintro i g u ⟨g62,hi,hV⟩;rw[Ja g62];have hbt:=XR (fun b=>brE b++iv (s.cnt b)) s.ks i;have hFu:=hF3 _ _ hV;by_cases hlt:i<s.ks.length
 case pos=>
  obtain⟨adq,hadq,hcq⟩:=JZ QN (hBq.1.tr hV.fr hQ).src hlt Yhy;subst hadq;have hcq:Cells u (adq.add (i*3)) [.string s.ks[i].decl,iV s.ks[i].at_,iV s.ks[i].arm]:=hcq;refine rx ?_;refine Jm (l:=[zT,zI,zI]) rfl (fun u1 b9 hb9 h9 hf5 hs5=>?_);refine rx ?_;refine Jd (cs:=brV s.ks[i]) rfl rfl h9 (QD _) rfl rfl (fun u2 h9 hf6 hs6=>?_);replace h9:Blk u2 b9 [.string s.ks[i].decl,iV s.ks[i].at_,iV s.ks[i].arm] _:=h9;have hF2:Fr [] u u2:=hf5.trans hf6 (fun x hx=>.inr Yhq);obtain⟨v4,hv4,hV4,hgo4⟩:=hV.from hF2;have hbB:=hbr _ (List.getElem_mem hlt);have n9:b9∉q::blks v4:=fun hm=>by have:=(hv4 _ hm).1;omega
  have hFu2:=hFu.Jb hF2;refine rx ?_;refine Jg (Jio s.ks[i] hbB hV4 Yim) ?_;rintro u3 hV5;have hb5:=hb.tr0 hFu2;have hmb5:=hmb.tr0 hFu2;refine rx ?_;refine JE (fun z=>Fr (q::blks v4) u2 z) Yhp rfl ?_;obtain⟨u4,hu4⟩:=exq u3.drew;rw[<-hu4];have hd:Fr [] u3 u4:=hu4▸Fr.drew _ _;have hS:Fr (q::blks v4) u2 u4:=hV5.fr.Jb hd;have np:p∉q::blks v4:=fun hm=>by
   have h1:=hb.lt;have h2:=(hv4 p hm).2;rcases h2 with h|h|h
   .omega
   .have:=(hv30 p (List.mem_cons_of_mem _ h)).2;omega
   .omega
  have nb:bb∉q::blks v4:=fun hm=>by
   have h1:=hmb.lt;have h2:=(hv4 bb hm).2;rcases h2 with h|h|h
   .omega
   .have:=(hv30 bb (List.mem_cons_of_mem _ h)).2;omega
   .omega
  refine JX 0 1 hS ?_;refine d_z 2 hS ?_;refine Kw 3 hS ?_ (hrun:=by(intro u hu;exact(J7 rfl (Blk.cell (hb5.tr hu np) rfl))));refine Kw 4 hS ?_ (hrun:=by(intro u hu;exact(Kv rfl (Cells.VO (h9.tr hu n9)) Yik)));refine Kw 5 hS ?_ (hrun:=by(intro u hu;refine(JdF (P:=prog) (t:=122) (a:=s.ks[i]) ?_ ?_ (hmb5.tr hu nb) hrb);exact rfl;exact rfl));refine JJ (i:=6) rfl Yhp ?_;have hV7:=hV5.next hd;have hbl:=GZ _ hbB;refine Jg (BL _ hV7 (KJ (by have:=hok.ocnt s.ks[i];omega)) Yim) ?_;rintro u5 hV8;refine wpList_nil (Jv hV8.fr ?_);refine Yev ?_;refine Jc (i+1) Yhl ⟨rfl,hlt,?_⟩ Yhn;have:=hgo4 _ _ hV8;rw[Wy _ hlt];simpa only[List.append_assoc]using this
 rw[List.take_of_length_le Yhn]at hV;have hb1:=hb.tr0 hFu;have hmp1:=hmp.tr0 hFu;clear hbt g62;refine rx ?_;refine G7 rfl hmp1 ?_;rw[hlp];refine rx ?_;refine Jg (BL s.ps.length hV (KJ Yhn) Yim) ?_;rintro u2 hV;have hFu2:=hF3 _ _ hV;have hb2:=hb.tr0 hFu2;have hmp2:=hmp.tr0 hFu2;refine rx ?_;refine Jl (Jfe mp pb u2 hmp2 Yhn) ?_;rintro vq2 w5 ⟨hPq,hf5⟩;rw[Uw Qy hok.pasc (fun a=>hrp.keys)]at hPq;obtain⟨aop,cp,rfl⟩:=hPq.1.slice;obtain⟨v5,hv5,hU,hgoU⟩:=(hgo _ _ hV).from hf5;have hFw5:=hFu2.Jb hf5;have hsw5:=hFw5.size;have hv50:∀x∈q::blks v5,x<u2.heap.size/\w.heap.size<=x:=fun x hx=>by
  have h1:=hv5 x hx;have:=hs1;refine⟨h1.1,?_⟩;rcases h1.2 with h|h|h
  .omega
  .simp [blks,Value.ownBlock]at h
  .omega
 have hQ5:∀x∈blks (Value.slice aop s.ps.length cp),x∉q::blks v5:=fun x hx hm=>by
  have h1:=hPq.2 x hx;have h2:=(hv50 x hm).1;omega
 have hF5:∀bs u,KN q w5 v5 bs u->Fr [] w u:=fun bs u h=>hFw5.trans h.fr (fun x hx=>.inr (hv50 x hx).2)
 clear hV;obtain⟨B3,hB3⟩:=exq (B2++s.ks.flatMap (fun b=>brE b++iv (s.cnt b))++iv s.ps.length);rw[<-hB3]at hU;have hBL3:B3.length+(s.ps.flatMap (fun p=>brE p.1++brE p.2)).length<=1000000000:=by rw[hB3,hB2,hB];simp only[List.length_append];omega
 refine rx ?_;refine Jh 88 [11] (σ:=Nat) (fun i g u=>g 88=iV (i:Nat)/\i<=s.ps.length/\KN q w5 v5 (B3++(s.ps.take i).flatMap (fun p=>brE p.1++brE p.2)) u) (fun i=>s.ps.length-i) 0 ⟨rfl,Nat.zero_le _,by simpa using hU⟩ ?_;clear hU;rintro k g u ⟨g88,hi,hU⟩;rw[Ja g88];have hbt:=XR (fun(p:Pr)=>brE p.1++brE p.2) s.ps k;have hFu:=hF5 _ _ hU;by_cases hlt:k<s.ps.length
 case pos=>
  obtain⟨adq,hadq,hcq⟩:=JZ VK (hPq.1.tr hU.fr hQ5).src hlt Yhy;subst hadq;have hcq:Cells u (adq.add (k*6)) [.string s.ps[k].1.decl,iV s.ps[k].1.at_,iV s.ps[k].1.arm,.string s.ps[k].2.decl,iV s.ps[k].2.at_,iV s.ps[k].2.arm]:=hcq;refine rx ?_;refine Jm (l:=[zT,zI,zI,zT,zI,zI]) rfl (fun u1 b9 hb9 h9 hf5 hs5=>?_);refine rx ?_;refine Jd (cs:=prV s.ps[k]) rfl rfl h9 (Wu _) rfl rfl (fun u2 h9 hf6 hs6=>?_);replace h9:Blk u2 b9 [.string s.ps[k].1.decl,iV s.ps[k].1.at_,iV s.ps[k].1.arm,.string s.ps[k].2.decl,iV s.ps[k].2.at_,iV s.ps[k].2.arm] _:=h9;have hF2:Fr [] u u2:=hf5.trans hf6 (fun x hx=>.inr Yhq);obtain⟨v4,hv4,hV4,hgo4⟩:=hU.from hF2;have hpk:=hok.pks _ (List.getElem_mem hlt);have hbA:=hbr _ hpk.1;have hbB:=hbr _ hpk.2;have hbl:=GZ _ hbA;have n9:b9∉q::blks v4:=fun hm=>by have:=(hv4 _ hm).1;omega
  refine rx ?_;refine ZH (j:=0) rfl rfl Yhy ?_;refine rx ?_;refine Jg (Jio s.ps[k].1 hbA hV4 Yim) ?_;rintro u3 hV5;have h9:=h9.tr hV5.fr n9;refine rx ?_;refine ZH (j:=1) rfl rfl Yhy ?_;refine rx ?_;refine Jg (Jio s.ps[k].2 hbB hV5 Yim) ?_;rintro u4 hV6;refine rx ?_;refine Jc (k+1) Yhl ⟨rfl,hlt,?_⟩ Yhn;have:=hgo4 _ _ hV6;rw[Wy _ hlt];simpa only[List.append_assoc]using this
 rw[List.take_of_length_le Yhn]at hU;clear hbt g88;refine rx ?_;obtain⟨v6,hI,_,hk6⟩:=hgoU _ _ hU;refine Jl (JjE q v6 _ u hI (by rw[List.length_append];omega)) ?_;rintro v u2 ⟨ho2,hf2,hk2,_⟩;refine Yeo ?_;refine⟨v,rfl,?_,hFu.Jb hf2,fun x hx=>?_⟩
 .rw [show U0 P.prop s=B3++s.ps.flatMap (fun p=>brE p.1++brE p.2) by rw[hB3,hB2,hB];rfl];simpa using ho2
 .have:=hk2 x hx;have:=hFu.size;omega
end Go.Proofs.YtggmccicdhnkgaaGreat
namespace Go.Rf
open Go.RowKit
end Go.Rf
namespace Go.Proofs.YtggmccicdhnkgaaGreat
open Go.Rf Go.RowKit
attribute [local irreducible] Code.wp wpList Exit.then Exit.inBlock bodyPost A Calls execOp Addr.add
end Go.Proofs.YtggmccicdhnkgaaGreat
namespace Go.Rf
open Go.RowKit
theorem JaP{P:Program}{n:Nat}{f:Env}{w:World}{d:Nat}{ty:TypeId}{ps:String}{af:Array Edge}{gd:Option (Nat×Bool)}{x y:Operand}{t t2:Nat}[B:BrT P t]{a b:Br}{p:Bool}(hx:ev n f x=.agg (brV a).toArray)(hy:ev n f y=.agg (brV b).toArray)(hp:decide (¬a=b)=p):(execOp (ev n f) ⟨some d,.binOp .neq t x y t2,ty,ps,af,gd⟩).run P w=.ok (.value (.bool p)) w:=by
 have h2:(Op.equal t (.agg (brV a).toArray) (.agg (brV b).toArray)).run P w=.ok (decide (a=b)) w:=UE (P:=P) (t:=t) (w:=w) 9998 a b;subst hp;by_cases h:a=b
 .subst h;rw[decide_eq_true rfl]at h2;simp[execOp,eqGuard,binOp,hx,hy,h2,B.grd]
 .rw [decide_eq_false h]at h2;simp[execOp,eqGuard,binOp,hx,hy,h2,B.grd,h]
end Go.Rf
namespace Go.Proofs.YtggmccicdhnkgaaGreat
open Go.Rf Go.RowKit
attribute [local irreducible] Code.wp wpList Exit.then Exit.inBlock bodyPost A Calls execOp Addr.add
end Go.Proofs.YtggmccicdhnkgaaGreat
namespace Go.Rf
open Go.RowKit
end Go.Rf
namespace Go.Proofs.YtggmccicdhnkgaaGreat
open Go.Rf Go.RowKit
variable{at_:Int}{l:List Int}{P:Pp}
theorem Jfh{b:Bool}:(XW P l at_ b).bs.length<=5:=by
 have hkr:=Zf (l:=l) (i:=at_) (m:=1000000) Yhy;show(VG P l at_ _).length<=5;rw[Jaa];omega
theorem Jfg{b:Bool}:(XW P l at_ b).cl.length<=P.ncls+1:=by
 have h:=Bg (l:=l) (at_:=at_) (m:=P.ncls);show(Vx l at_ P.ncls++_).length<=_;rw[List.length_append]
 split<;>simp<;>omega
theorem JfK{ds:List De}{nm:ByteArray}{d:De}(hm:MD ds)(hf:fdD ds 3 nm=some d):(Jc6 ds nm d).checks<=16/\(Jc6 ds nm d).ncls<=16/\(Jc6 ds nm d).reach.length<=253000:=by
 obtain⟨hd,hk,_⟩:=XT hf;have hl:=(hm.2.1 d hd).1;unfold UZ at hl;rw[if_neg Yhn,if_neg Yhn,if_neg Yhn,if_pos hk]at hl;simp only[Bool.or_eq_false_iff]at hl;have h1:=hl.2.1;have h2:=hl.2.2.1;unfold GH at h1 h2;simp only[Bool.or_eq_false_iff]at h1 h2;have hb:∀n,ltN 16 n=false->n<=16:=fun n h=>Nat.le_of_not_lt (fun hh=>by unfold ltN at h;rw[Nat.blt_eq.mpr hh]at h;cases h)
 have h1:=hb _ h1.1;have h2:=hb _ h2.1;have h3:=Jex (nm:=nm) hm.sz;have h4:=hm.len;refine⟨?_,?_,?_⟩
 .show d.checks.length<=16;omega
 .show d.classes.length<=16;omega
 .show (JM ltB (KX ds nm)).length<=253000;omega
attribute [local irreducible] Code.wp wpList Exit.then Exit.inBlock bodyPost A Calls execOp Addr.add
end Go.Proofs.YtggmccicdhnkgaaGreat
namespace Go.Rf
open Go.RowKit
variable{nm:ByteArray}
theorem L6{ds:List De}:∀(f:Nat) (s:List ByteArray×List De),(∀d∈s.2,d∈ds)->∀b∈KD ds f s,∃d∈ds,b∈ofD d
 |0,_,_,b,hb=>by simp[KD]at hb
 |f+1,(seen,[]),_,b,hb=>by simp[KD]at hb
 |f+1,(seen,d::q),h,b,hb=>by
  rw[KD,List.mem_append]at hb;rcases hb with hb|hb
  .exact ⟨d,h d Yhs,hb⟩
  .exact L6 f _ (WO (fun x hx=>h x (by simp at hx ⊢;exact .inr hx))) b hb
theorem Jc2{ds:List De}{b:Br}(hb:b∈JM ltB (KX ds nm)):∃d∈ds,b∈ofD d:=by
 rw[KF Qu]at hb;unfold KX at hb;cases he:QF ds nm with
 |none=>rw[he]at hb;cases hb
 |some d=>
  rw[he]at hb;exact L6 _ _ (fun x hx=>by rw[List.mem_singleton.1 hx];exact List.mem_of_find?_eq_some he) b hb
end Go.Rf
namespace Go.Proofs.YtggmccicdhnkgaaGreat
open Go.Rf Go.RowKit
variable{nm:ByteArray}{n p:Nat}{P:Pp}{s:St}{u u':World}
structure SmP (P:Pp):Prop where
 prop:P.prop.size<=100000
 checks:P.checks<=16
 ncls:P.ncls<=16
 reach:P.reach.length<=253000
 br:∀b∈P.reach,BrK b
theorem JcP{b:Br}(h:BrK b):BrE b:=by
 obtain⟨h1,⟨h2,h3⟩,h4,h5⟩:=h;exact⟨by omega,⟨by omega,by omega⟩,⟨by omega,by omega⟩⟩
theorem Jbm{b:Br}(h:BrK b):(brE b).length<=100100:=by
 have h1:=VA (JcP h).2.1.1 (JcP h).2.1.2;have h2:=VA (JcP h).2.2.1 (JcP h).2.2.2;exact Ycy
def SmR(rs:List Rn):Prop:=rs.length<=20/\∀r∈rs,r.bs.length<=5/\∀b∈r.bs,BrK b
theorem WJ{α:Type}{f:α->List Int}:∀{l:List α},(∀a∈l,(f a).length<=n)->(l.flatMap f).length<=l.length*n
 |[],_=>by simp
 |a::l,h=>by
  have h1:=WJ (l:=l) (fun x hx=>h x Yix);have h2:=h a Yhs;rw[List.flatMap_cons,List.length_append,List.length_cons,Nat.succ_mul];omega
theorem SmR.bs{rs:List Rn}(h:SmR rs):(rs.flatMap (·.bs)).length<=100/\(rs.flatMap (fun r=>Jy r.bs)).length<=100:=by
 have key:∀(rs:List Rn),(∀r∈rs,r.bs.length<=5/\∀b∈r.bs,BrK b)->(rs.flatMap (·.bs)).length<=5*rs.length/\(rs.flatMap (fun r=>Jy r.bs)).length<=5*rs.length:=by
  intro rs
  induction rs with
  |nil=>intro _;simp
  |cons r rs ih=>
   intro h;have h1:=ih (fun x hx=>h x Yix);have h2:=(h r Yhs).1;have h3:=QI (l:=r.bs);simp only[List.flatMap_cons,List.length_append,List.length_cons];omega
 have:=key rs h.2;have:=h.1;omega
theorem SmR.ks{rs:List Rn}(h:SmR rs):(J6 n rs).ks.length<=100/\(J6 n rs).ps.length<=100/\∀b∈(J6 n rs).ks,BrK b:=by
 have h1:=h.bs;have h2:=KQ (lt:=ltB) (l:=rs.flatMap (·.bs));have h3:=KQ (lt:=ltP) (l:=rs.flatMap (fun r=>Jy r.bs));refine⟨by show(JM ltB _).length<=_;omega,by show(JM ltP _).length<=_;omega,fun b hb=>?_⟩;have hb:b∈JM ltB (rs.flatMap (·.bs)):=hb;rw[KF Qu,List.mem_flatMap]at hb;obtain⟨r,hr,hb⟩:=hb;exact(h.2 r hr).2 b hb
theorem Jjh(hP:SmP P)(hs:StOk P s)(hr:s.runs<=1000000)(hk:s.ks.length<=100)(hp:s.ps.length<=100)(hb:∀b∈s.ks,BrK b):(U0 P.prop s).length<=1000000000:=by
 have hv:∀n:Nat,n<=1000000000->(iv (n:Int)).length<=10:=fun n hn=>VA Yhn Yhn
 have ho:=hs.o;have h0:=hv s.runs Yhn;have h1:=hv (s.o 0) Yhn;have h2:=hv (s.o 1) Yhn;have h3:=hv (s.o 2) Yhn;have hc:=hs.ncls;have hn:=hP.ncls;have h4:=hv s.cls.length Yhn;have h5:=hv s.ks.length Yhn;have h6:=hv s.ps.length Yhn;have h7:=Xw P.prop.size (by have:=hP.prop;omega);have h8:=hP.prop;have h9:(s.cls.flatMap (fun n=>iv (n:Nat))).length<=s.cls.length*10:=WJ (fun n hn=>hv n (by have:=hs.ocls n hn;omega));have h10:(s.ks.flatMap (fun b=>brE b++iv (s.cnt b))).length<=s.ks.length*100200:=WJ (fun b hm=>by
  have:=Jbm (hb b hm);have:=hv (s.cnt b) (by have:=hs.ocnt b;omega);rw[List.length_append];omega)
 have h11:(s.ps.flatMap (fun p=>brE p.1++brE p.2)).length<=s.ps.length*200200:=WJ (fun p hm=>by
  have h:=hs.pks p hm;have:=Jbm (hb _ h.1);have:=Jbm (hb _ h.2);rw[List.length_append];omega)
 have h12:s.ks.length*100200<=100*100200:=Nat.mul_le_mul_right _ hk;have h13:s.ps.length*200200<=100*200200:=Nat.mul_le_mul_right _ hp;simp only[U0,raw,List.length_append,Xx];omega
theorem JjO(hP:SmP P)(n:Int)(hn:0<=n/\n<=1000):BrK (sbr P n):=by
 unfold sbr
 split
 .rename_i h;have hlt:(n/17%P.reach.length).toNat<P.reach.length:=by
   have:=Int.emod_lt_of_pos (n/17) (show(0:Int)<P.reach.length by omega);have:=Int.emod_nonneg (n/17) (show(P.reach.length:Int)≠0 by omega);omega
  rw[List.getD_eq_getElem?_getD,List.getElem?_eq_getElem hlt];exact hP.br _ (List.getElem_mem _)
 .exact ⟨show(bst [111,116,104,101,114]).size<=100000 by decide,⟨show 0<=n/17%3 by omega,show n/17%3<=1000000 by omega⟩,show 0<=n/51%2 by omega,show n/51%2<=1000000 by omega⟩
theorem JgR(hP:SmP P){l:List Int}{a:Int}{bad:Bool}:∀b∈(XW P l a bad).bs,BrK b:=fun b hb=>by
 obtain⟨i,_,rfl⟩:=List.mem_map.1 hb;have:=Zf (l:=l) (i:=a+i+1) (m:=1000) Yhn;exact JjO hP _ ⟨by omega,by omega⟩
theorem Jix{ds:List De}{d:De}(hm:MD ds)(hf:fdD ds 3 nm=some d):SmP (Jc6 ds nm d):=by
 have h:=JfK hm hf;obtain⟨hd,hk,hn⟩:=XT hf;refine⟨?_,h.1,h.2.1,h.2.2,fun b hb=>?_⟩
 .have:=(hm.gd d hd).name;show nm.size<=_;rw[<-hn];exact this
 .obtain ⟨d',hd',hb⟩:=Jc2 hb;exact hm.br d' hd' b hb
def CI(u:World)(p:Nat)(P:Pp)(s:St)(A B:Nat->Prop):Prop:=∃M R,Wj u p M R P s/\(∀x∈M,A x)/\(∀x∈R,B x)
def FI(A:Nat->Prop)(u u':World):Prop:=∃T,Fr T u u'/\∀x∈T,A x
theorem FI.of0{A:Nat->Prop}(h:Fr [] u u'):FI A u u':=⟨[],h,by simp⟩
theorem FI.trans{A B C:Nat->Prop}{u1 u2:World}(h:FI A u u1)(k:FI B u1 u2)(h1:∀x,A x->C x)(h2:∀x,B x->C x\/u.heap.size<=x):FI C u u2:=by
 obtain⟨T,hT,hA⟩:=h;obtain⟨V,hV,hB⟩:=k;refine⟨T++V.filter (fun x=>decide (x<u.heap.size)),(hT.mono (fun x hx=>.inl (List.mem_append_left _ hx))).trans hV (fun x hx=>?_),fun x hx=>?_⟩
 .by_cases hlt:x<u.heap.size
  .exact .inl (List.mem_append_right _ (List.mem_filter.2 ⟨hx,decide_eq_true hlt⟩))
  .exact .inr Yhn
 .rcases List.mem_append.1 hx with hx|hx
  .exact h1 x (hA x hx)
  .obtain ⟨h3,h4⟩:=List.mem_filter.1 hx;have:=of_decide_eq_true h4;rcases h2 x (hB x h3)with h|h
   .exact h
   .omega
theorem FI.size{A:Nat->Prop}(h:FI A u u'):u.heap.size<=u'.heap.size:=by
 obtain⟨T,hT,_⟩:=h;exact hT.size
theorem CI.fi{A B C:Nat->Prop}(h:CI u p P s A B)(hf:FI C u u')(h1:∀x,A x->¬C x)(h2:∀x,B x->¬C x):CI u' p P s A B:=by
 obtain⟨M,R,hC,hM,hR⟩:=h;obtain⟨T,hT,hi⟩:=hf;refine⟨M,R,hC.tr hT (fun x hx hm=>?_),hM,hR⟩;rcases List.mem_append.1 hx with hx|hx
 .exact h1 x (hM x hx) (hi x hm)
 .exact h2 x (hR x hx) (hi x hm)
theorem CI.tr0{A B:Nat->Prop}(h:CI u p P s A B)(hf:Fr [] u u'):CI u' p P s A B:=h.fi (C:=fun _=>False) (.of0 hf) (fun _ _ h=>h) (fun _ _ h=>h)
theorem CI.ok{A B:Nat->Prop}(h:CI u p P s A B):StOk P s:=by
 obtain⟨M,R,hC,_,_⟩:=h;obtain⟨_,_,_,_,_,_,_,_,_,_,_,_,_,_,_,_,h⟩:=hC;exact h
end Go.Proofs.YtggmccicdhnkgaaGreat
