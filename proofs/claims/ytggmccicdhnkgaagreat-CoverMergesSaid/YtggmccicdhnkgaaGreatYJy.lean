/-
 The law CoverRuns.
-/
import Derived.Test.YtggmccicdhnkgaaGreatYJn
import Derived.Test.YtggmccicdhnkgaaGreatYJp
import Derived.Test.YtggmccicdhnkgaaGreatYRf2
import Derived.Test.YtggmccicdhnkgaaGreatYMs
set_option linter.all false
set_option maxHeartbeats 64000000
namespace Go.Rf
open Go.RowKit
theorem Jen{A:List Pr}{bs:List Br}{k:Nat}(hk:k<(JM ltP (Jy bs)).length):JM ltP (A++(JM ltP (Jy bs)).take (k+1))=insL ltP (JM ltP (Jy bs))[k] (JM ltP (A++(JM ltP (Jy bs)).take k)):=by
 rw[SK hk,<-List.append_assoc,BQ Qy (l:=A++_)];rfl
theorem Jfj{A:List Pr}{bs:List Br}:JM ltP (A++JM ltP (Jy bs))=JM ltP (A++Jy bs):=V6 Qy (fun y=>by rw[SE,SE,KF Qy])
theorem Jjz{rs:List Rn}{i:Nat}(hn:rs.length<=1000)(hc:∀r∈rs,r.bs.length<=100):((rs.take i).flatMap (fun r=>Jy r.bs)).length<=100000:=by
 have key:∀(l:List Rn),(∀r∈l,r.bs.length<=100)->(l.flatMap (fun r=>Jy r.bs)).length<=100*l.length:=by
  intro l
  induction l with
  |nil=>intro _;simp
  |cons r l ih=>
   intro h;have h1:=ih (fun x hx=>h x Yix);have h2:=h r Yhs;have h3:=QI (l:=r.bs);simp only[CP,Sm,SI];omega
 exact Yld
end Go.Rf
namespace Go.Proofs.YtggmccicdhnkgaaGreat
open Go.Proofs.Tryz
open Go.Rf Go.RowKit
variable{af:Array Edge}{f:Env}{Q:Exit->Act->World->Prop}{cs:List Int}{T:List Nat}{rest:List Oper}{by_ d n q t:Nat}{s x:Operand}{P:Pp}{ps:String}{xv:Value}{u u0 w w0 w1:World}
attribute [local irreducible] Code.wp wpList Exit.then Exit.inBlock bodyPost A Calls execOp Addr.add
theorem X9{rs:List Rn}(w:World)(hQ:RcV w q P rs)(hn:rs.length<=1000)(hc:∀r∈rs,r.bs.length<=100):
 Calls prog 57 #[.pointer (some ⟨q,0,none⟩)] w fun e w'=>∃v,e=.returned v/\PO w 128 w' (JM ltP (rs.flatMap (fun r=>Jy r.bs))) v/\Fr [] w w':=by
 obtain⟨vr,vs,hb,hrr,hss⟩:=hQ;have h1r:=hrr.one;have h1s:=hss.one;obtain⟨aos,cs,rfl,_⟩:=hss.slice;have hlm:(rs.map rnC).length=rs.length:=Sr ..;rw[hlm]at hb hss h1s;refine enter func57 rfl ntmps57 rfl ?_;refine rx ?_;refine Jh 7 [3,4,5,6] (σ:=Nat×Value) (fun t g u=>g 4=iV (t.1:Nat)/\g 3=t.2/\t.1<=rs.length/\PO w 128 u (JM ltP ((rs.take t.1).flatMap (fun r=>Jy r.bs))) t.2/\Fr [] w u) (fun t=>rs.length-t.1) (0,zS) ⟨rfl,rfl,SL _,⟨Own.nil _ _ _,fun b hb=>by simp[blks,Value.ownBlock]at hb⟩,Fr.refl _ _⟩ ?_;rintro⟨i,va⟩ g u ⟨g4,g3,hi,hA,hF⟩;simp only at g4 g3 hi hA;rw[Ja g4,Ja g3];have hb:=hb.tr0 hF;by_cases hlt:i<rs.length
 case neg=>
  rw[show rs.take i=rs from SQ Yhn]at hA;refine Yeo ?_;exact⟨va,rfl,hA,hF⟩
 obtain⟨ad,cs',had,hr,hce⟩:=DR.at Gi (hss.tr0 hF) hlt;subst had;obtain⟨vb,vl,rfl,hvb,hvl⟩:=rnR hr;have hcn:=hc _ (Cj hlt);obtain⟨aob,cb,rfl,_⟩:=hvb.slice;refine rx ?_;refine Jl (Jak rs[i].bs _ u hvb Yhn) ?_;rintro v2 u2 ⟨hB,hf2⟩;obtain⟨aop,cp,rfl⟩:=hB.1.slice;have hA:=(show PO w 128 u2 _ _ from⟨hA.1.tr0 hf2,hA.2⟩);have hsz:=Jjz hn hc (i:=i);have hpl:=QI (l:=rs[i].bs);have hF2:=hF.Jb hf2;refine rx ?_;refine Jh 7 [3,6] (σ:=Nat×Value) (fun t g z=>g 6=iV (t.1:Nat)/\g 3=t.2/\t.1<=(JM ltP (Jy rs[i].bs)).length/\PO w 128 z (JM ltP ((rs.take i).flatMap (fun r=>Jy r.bs)++(JM ltP (Jy rs[i].bs)).take t.1)) t.2/\Fr [] u2 z) (fun t=>(JM ltP (Jy rs[i].bs)).length-t.1) (0,va) ⟨rfl,rfl,SL _,by simpa using hA,Fr.refl _ _⟩ ?_;rintro⟨k,vk⟩ g' z ⟨g6,g3',hk,hA',hFz⟩;simp only at g6 g3' hk hA';rw[Ja g6,Ja g3'];have hF3:=hF2.Jb hFz;by_cases hlk:k<(JM ltP (Jy rs[i].bs)).length
 case neg=>
  rw[show(JM ltP (Jy rs[i].bs)).take k=JM ltP (Jy rs[i].bs) from SQ Yhn,Jfj]at hA';refine rx ?_;refine Jc (i+1,vk) Yhl ⟨rfl,rfl,hlt,?_,hF3⟩ Yhw;simp only;rw[SK hlt,List.flatMap_append];simpa using hA'
 obtain⟨adk,hadk,hck⟩:=JZ VK (hB.1.tr0 hFz).src hlk Yhy;subst hadk;refine rx ?_;have hss2:=KQ (lt:=ltP) (l:=(rs.take i).flatMap (fun r=>Jy r.bs)++(JM ltP (Jy rs[i].bs)).take k);have hss3:=KQ (lt:=ltP) (l:=Jy rs[i].bs);rw[Sm,C9]at hss2;refine Jl (Jal _ (JM ltP (Jy rs[i].bs))[k] vk w z hA' hF3.size (QA Qy _) Yhn) ?_;rintro v3 z2 ⟨hA2,hf3⟩;refine rx ?_;refine Jc (k+1,v3) Yhl ⟨rfl,rfl,hlk,?_,hFz.Jb hf3⟩ Yhw;simp only;rw[Jen hlk];exact hA2
theorem Jfv{rs:List Rn}(w:World)(hQ:RcV w q P rs)(hn:rs.length<=1000)(hc:∀r∈rs,r.bs.length<=100)(hP:P.reach.length<=1000000)(hasc:Asc ltB P.reach):
 Calls prog 63 #[.pointer (some ⟨q,0,none⟩)] w fun e w'=>∃v,e=.returned v/\BO w 50 w' (Ur P (J6 P.ncls rs)) v/\Fr [] w w':=by
 have hQ0:=hQ;obtain⟨vr,vs,hb,hrr,hss⟩:=hQ;have h1r:=hrr.one;have h1s:=hss.one;obtain⟨aos,cs,rfl,_⟩:=hss.slice;have hlm:(rs.map rnC).length=rs.length:=Sr ..;rw[hlm]at hb hss h1s;obtain⟨aor,cr,rfl,_⟩:=hrr.slice;have hlr:(P.reach.map brC).length=P.reach.length:=Sr ..;rw[hlr]at hb hrr h1r;refine enter func63 rfl ntmps63 rfl ?_;refine rx ?_;refine Jl (WQ w hQ0 hn (fun r hr=>by have:=hc r hr;omega)) ?_;rintro v1 w1 ⟨hB,hf1⟩;have hb:=hb.tr0 hf1;refine rx ?_;refine Jl (JaN P.reach _ w1 (hrr.tr0 hf1) hP) ?_;rintro v2 w2 ⟨hR,hf2⟩;rw[BP Qu hasc (fun y=>Iff.rfl)]at hR;obtain⟨K,hK⟩:=exq (JM ltB (rs.flatMap (·.bs)));rw[<-hK]at hB;have hcnt:∀b,decide ((J6 P.ncls rs).cnt b=0)= !decide (b∈K):=fun b=>by
  have:=Nv (n:=P.ncls) (rs:=rs) (b:=b);have e:(J6 P.ncls rs).ks=K:=hK.symm;rw[e]at this;by_cases h:b∈K
  .simp only[h,decide_true,Bool.not_true];exact SG (this.2 h)
  .simp only[h,decide_false,Bool.not_false];exact SN (DZ fun hn=>h (this.1 hn))
 have hKl:K.length<=1000000:=by
  have h1:=KQ (lt:=ltB) (l:=rs.flatMap (·.bs));have h2:=JhZ (i:=rs.length) hn (fun r hr=>by have:=hc r hr;omega);rw[Dk]at h2;rw[<-hK]at h1;omega
 have hF2:=hf1.Jb hf2;have hB2:=hB.1.tr0 hf2;obtain⟨aok,ck,rfl⟩:=hB.1.slice;obtain⟨aos2,cs2,rfl⟩:=hR.1.slice;clear hB;refine rx ?_;refine Jh 8 [5,6,7] (σ:=Nat×Value) (fun t g u=>g 6=iV (t.1:Nat)/\g 5=t.2/\t.1<=P.reach.length/\BO w2 50 u ((P.reach.take t.1).filter (fun b=>decide ((J6 P.ncls rs).cnt b=0))) t.2/\Fr [] w2 u) (fun t=>P.reach.length-t.1) (0,zS) ⟨rfl,rfl,SL _,BO.nil,Fr.refl _ _⟩ ?_;rintro⟨i,va⟩ g u ⟨g6,g5,hi,hA,hF⟩;simp only at g6 g5 hi hA;rw[Ja g6,Ja g5];have hFw:=hF2.Jb hF;by_cases hlt:i<P.reach.length
 case neg=>
  rw[SQ Yhn]at hA;refine Yeo ?_;exact⟨va,rfl,⟨hA.1,fun x hx=>by have:=hA.2 x hx;have:=hF2.size;omega⟩,hFw⟩
 obtain⟨adk,hadk,hck⟩:=JZ QN (hR.1.tr0 hF).src hlt Yhy;subst hadk;have hck:Cells u (adk.add (i*3)) [.string P.reach[i].decl,iV P.reach[i].at_,iV P.reach[i].arm]:=hck;refine rx ?_;refine Jg (Jdc K P.reach[i] _ u (S:=[]) (ZO (hB2.tr0 hF) Yhn Yhs)) ?_;rintro u2 hf3;have hst:=Zr (p:=fun b=>decide ((J6 P.ncls rs).cnt b=0)) hlt;have hci:=hcnt P.reach[i];have hfw3:=hF.Jb hf3;by_cases he:P.reach[i]∈K
 .rw [SN he]at hci ⊢;refine rx ?_;refine Jc (i+1,va) Yhl ⟨rfl,rfl,hlt,?_,hfw3⟩ Yhw;simp only;rw[hst,hci];simpa using(show BO w2 _ u2 _ _ from⟨hA.1.tr0 hf3,hA.2⟩)
 .rw [SG he]at hci ⊢;have hA1:=hA.1.one;have hAl:=hA.1.lt;have hck:=hck.tr0 hf3;have hfl:=D5 (fun b=>decide ((J6 P.ncls rs).cnt b=0)) (P.reach.take i);rw[C9]at hfl;obtain⟨aov,cv,rfl⟩:=hA.1.slice;refine rx ?_;refine JQ (c1:=brV P.reach[i]) rfl rfl rfl (fun z2 q2 hq2 ho2 hfz2 hsz2=>?_);refine rx ?_;refine JC (hA.1.tr0 (hf3.Jb hfz2)) rfl ho2.src rfl rfl (QD _) Yhv Yhn (fun v3 z3 ho3 hfz3 hk3 _=>?_);have hsu:=hF.size;have hs3:=hf3.size;refine rx ?_;refine Jc (i+1,v3) Yhl ⟨rfl,rfl,hlt,⟨?_,fun x hx=>?_⟩,(hfw3.Jb hfz2).trans hfz3 (fun x hx=>.inr (hA.2 x hx))⟩ Yhw
  .simp only;rw[hst,hci];simp only[Bool.not_false,CX,List.flatMap_append,Sm,CP,Ey,Ce,SI,SY];exact ho3
  .rcases hk3 x hx with h|h
   .exact hA.2 x h
   .omega
theorem Out.UW{v:Value}{bs:List Int}(h:Out w w1 v bs)(hf:Fr [] w1 u):Out w u v bs:=⟨h.1.tr0 hf,h.2.1.Jb hf,h.2.2⟩
theorem Out.Jj1{w2:World}{v:Value}{bs:List Int}(hf:Fr [] w w1)(h:Out w1 w2 v bs):Out w w2 v bs:=⟨h.1,hf.Jb h.2.1,fun k hk=>CG hf.size (h.2.2 k hk)⟩
theorem ZE{P:Program}{ops:Array Oper}{ty:TypeId}[Rr:RowT P t 5 1 by_]{v:Value}{bs:List Int}(ho:Out w0 w v bs)(hs:ev n f s=v)(hsrc:Src w xv cs.length (cs.map (.int .u8)))(hx:ev n f x=xv)(hl:bs.length+cs.length<=10000000000)(hby:by_<=1)
 (h:∀v' w',Out w0 w' v' (bs++cs)->Fr (blks v) w w'->wpList P ops Q rest (A n (upd f d v')) w'):
 wpList P ops Q (⟨some d,.call {callee:=.builtin .append,args:=#[s,x],argTypes:=#[t,t]},ty,ps,af,none⟩::rest) (A n f) w:=by
 have hb:(bs.length+cs.length)*by_<=(bs.length+cs.length)*1:=IQ _ hby
 refine JC ho.1 hs hsrc hx Yhs (Zp _ _) Yhv Yhn (fun v' w' ho' hf' hk' _=>h v' w' (ho.app (Fr.refl _ _) ho' hf' hk') hf')
def BK(T:List Nat)(u0 u:World)(v:Value)(bs:List Int):Prop:=Own u 5 1 v bs.length (bs.map (.int .u8))/\Fr T u0 u/\∀k∈blks v,k∈T\/u0.heap.size<=k
theorem BK.of{v:Value}{bs:List Int}(h:Out w u v bs):BK (blks v) u u v bs:=⟨h.1,Fr.refl _ _,fun k hk=>.inl hk⟩
theorem BK.fin{va v:Value}{bs:List Int}(h0:Out w u0 va cs)(h:BK (blks va) u0 u v bs):Out w u v bs:=
 ⟨h.1,h0.2.1.trans h.2.1 (fun x hx=>.inr (h0.2.2 x hx)),fun k hk=>(h.2.2 k hk).elim (h0.2.2 k) (fun h=>CG h0.2.1.size h)⟩
theorem BK.old{z:World}{v:Value}{bs:List Int}(h:BK T u0 u v bs)(hf:Fr [] u z):BK T u0 z v bs:=⟨h.1.tr0 hf,h.2.1.Jb hf,h.2.2⟩
theorem ZC{P:Program}{ops:Array Oper}{ty:TypeId}[Rr:RowT P t 5 1 by_]{v:Value}{bs:List Int}(ho:BK T w0 w v bs)(hs:ev n f s=v)(hsrc:Src w xv cs.length (cs.map (.int .u8)))(hx:ev n f x=xv)(hl:bs.length+cs.length<=10000000000)(hby:by_<=1)
 (h:∀v' w',BK T w0 w' v' (bs++cs)->wpList P ops Q rest (A n (upd f d v')) w'):
 wpList P ops Q (⟨some d,.call {callee:=.builtin .append,args:=#[s,x],argTypes:=#[t,t]},ty,ps,af,none⟩::rest) (A n f) w:=by
 have hb:(bs.length+cs.length)*by_<=(bs.length+cs.length)*1:=IQ _ hby
 refine JC ho.1 hs hsrc hx Yhs (Zp _ _) Yhv Yhn (fun v' w' ho' hf' hk' _=>h v' w' ⟨?_,ho.2.1.trans hf' (fun x hx=>ho.2.2 x hx),fun k hk=>?_⟩)
 .rw [Sm,Dp];exact ho'
 .rcases hk' k hk with h|h
  .exact ho.2.2 k h
  .exact .inr (CG ho.2.1.size h)
theorem JeX(b:Br)(w:World)(hb:BrE b):
 Calls prog 107 #[.agg (brV b).toArray] w fun e w'=>∃v',e=.returned v'/\Out w w' v' (brE b):=by
 have hd:=hb.1;have hsl:=Xx b.decl;have hul:=Xw (sb b.decl).length Yhn;refine enter func107 rfl ntmps107 rfl ?_;refine rx ?_;refine Ju (l:=brV b) rfl rfl (fun w1 b1 hb1 h1 hf1 hs1=>?_);replace h1:Blk w1 b1 [.string b.decl,iV b.at_,iV b.arm] _:=h1;refine rx ?_;refine Jad rfl (fun c w2 hc hsrc hf2=>?_);have hcs:b.decl.data.toList.map (fun c=>Value.int .u8 (c.toNat:Int))=(sb b.decl).map (.int .u8):=by simp[sb]
 refine Jl (Jfu _ (sb b.decl) w2 (by rw[Xx,<-hcs];exact hsrc) Yhn) ?_;rintro v3 w3 hO;have hfr:=hO.2.1;have hb1w:b1<w2.heap.size:=by have:=hf2.size;omega
 have hnb:b1∉blks v3:=fun hm=>by have:=hO.2.2 b1 hm;omega
 have hO:=hO.Jj1 (hf1.Jb hf2);have h1:=h1.tr0 hf2;have h1:=h1.tr0 hfr;refine rx ?_;refine Jl (XO b.at_ w3 hb.2.1) ?_;rintro r4 m4 hR4;have hl4:=VA hb.2.1.1 hb.2.1.2;refine ZE (hO.UW hR4.2.1) rfl hR4.1.src rfl Yls Yhy (fun v4 w4 hO4 hg4=>?_);have hF4:=hR4.2.1;have h1:=(h1.tr0 hF4).tr hg4 hnb;refine rx ?_;refine Jl (XO b.arm w4 hb.2.2) ?_;rintro r5 m5 hR5;have hl5:=VA hb.2.2.1 hb.2.2.2;refine ZE (hO4.UW hR5.2.1) rfl hR5.1.src rfl Yls Yhy (fun v5 w5 hO5 hg5=>?_);have hF5:=hR5.2.1;refine Yeo ?_;exact⟨_,rfl,by simpa only[brE,List.append_assoc]using hO5⟩
theorem Jg6{rs:List Rn}(w:World)(hQ:RcV w q P rs)(hn:rs.length<=1000)(hc:∀r∈rs,r.bs.length<=100/\r.cl.length<=1000000)(hpr:P.prop.size<=1000000)(hnc:P.ncls<=1000000)(hbr:∀b∈(J6 P.ncls rs).ks,BrE b)(hL:(U0 P.prop (J6 P.ncls rs)).length<=1000000000):
 Calls prog 64 #[.pointer (some ⟨q,0,none⟩)] w fun e w'=>∃v,e=.returned v/\Out w w' v (U0 P.prop (J6 P.ncls rs)):=by
 have hclen:(J6 P.ncls rs).cls.length=P.ncls:=by simp[J6]
 have hcle:∀p:Rn->Bool,rs.countP p<=rs.length:=fun p=>Hf
 have hbs:=JhZ (i:=rs.length) hn (fun r hr=>by have:=hc r hr;omega);have hps:=Jjz (i:=rs.length) hn (fun r hr=>(hc r hr).1);rw[Dk]at hbs hps;have hks:(J6 P.ncls rs).ks.length<=1000000:=CG (KQ (lt:=ltB)) hbs;have hpl:(J6 P.ncls rs).ps.length<=1000000:=CG (KQ (lt:=ltP)) Yhn;have hkk:∀p∈(J6 P.ncls rs).ps,p.1∈(J6 P.ncls rs).ks/\p.2∈(J6 P.ncls rs).ks:=fun p hp=>by
  simp only[J6,KF Qu,KF Qy,DY]at hp ⊢;obtain⟨r,hr,hp⟩:=hp;exact⟨⟨r,hr,(QS hp).1⟩,⟨r,hr,(QS hp).2⟩⟩
 obtain⟨s,hs⟩:=exq (J6 P.ncls rs);have hso:∀k:Nat,s.o k=rs.countP (fun r=>decide (r.kind=(k:Int))):=fun k=>by rw[hs];rfl
 have hsr:s.runs=rs.length:=by rw[hs];rfl
 have hsc:∀i (h:i<s.cls.length),s.cls[i]=rs.countP (fun r=>decide ((i:Int)∈r.cl)):=fun i h=>by subst hs;simp[J6]
 have hsk:JM ltB (rs.flatMap (·.bs))=s.ks:=by rw[hs];rfl
 have hsp:JM ltP (rs.flatMap (fun r=>Jy r.bs))=s.ps:=by rw[hs];rfl
 have hst:∀b,s.cnt b=rs.countP (fun r=>decide (b∈r.bs)):=fun b=>by rw[hs];rfl
 rw[<-hs]at hclen hbr hL hks hpl hkk ⊢;clear hs;have hsl:=Xx P.prop;have hul:=Xw (sb P.prop).length Yhn;simp only[U0,Sm]at hL;have hQ0:=hQ;obtain⟨vr,vs,hb,hrr,hss⟩:=hQ;have h1r:=hrr.one;have h1s:=hss.one;obtain⟨aos,cs,rfl,_⟩:=hss.slice;have hlm:(rs.map rnC).length=rs.length:=Sr ..;rw[hlm]at hb hss h1s;have hFq:∀{u:World},Fr [] w u->Blk u q [.string P.prop,iV (P.checks:Nat),iV (P.ncls:Nat),vr,.slice aos rs.length cs] _:=fun hf=>hb.tr0 hf
 have hc1:∀r∈rs,r.bs.length<=1000:=fun r hr=>by have:=hc r hr;omega
 refine enter func64 rfl ntmps64 rfl ?_;refine rx ?_;refine Jad rfl (fun c w2 hcc hsrc hf2=>?_);have hcs:P.prop.data.toList.map (fun c=>Value.int .u8 (c.toNat:Int))=(sb P.prop).map (.int .u8):=by simp[sb]
 refine Jl (Jfu _ (sb P.prop) w2 (by rw[Xx,<-hcs];exact hsrc) Yhn) ?_;rintro v3 w3 hO;have hO:=hO.Jj1 hf2;have hbu:=hb.tr0 hO.2.1;refine rx ?_;refine Jl (XO rs.length w3 (KJ (show rs.length<=1000000000 by omega))) ?_;rintro r4 m4 hR4;have hl4:=VA (KJ (show rs.length<=1000000000 by omega)).1 (KJ (show rs.length<=1000000000 by omega)).2;refine ZE (hO.UW hR4.2.1) rfl hR4.1.src rfl Yls Yhy (fun v4 w4 hO4 hg4=>?_);have hF4:=hR4.2.1;rw[<-hsr]at hO4 hl4;refine rx ?_;refine Jh 10 [3,4] (σ:=Nat×Value) (fun t g u=>g 4=iV (t.1:Nat)/\g 3=t.2/\t.1<=3/\Out w u t.2 (raw (sb P.prop)++iv s.runs++([s.o 0,s.o 1,s.o 2].take t.1).flatMap (fun n=>iv (n:Nat)))) (fun t=>3-t.1) (0,v4) ⟨rfl,rfl,SL _,by simpa using hO4⟩ ?_;rintro⟨i,va⟩ g u ⟨g4,g3,hi,hO⟩;simp only at g4 g3 hi hO;rw[Ja g4,Ja g3];have hbt:=XR (fun(n:Nat)=>iv (n:Nat)) [s.o 0,s.o 1,s.o 2] i;rw[show([s.o 0,s.o 1,s.o 2].flatMap (fun(n:Nat)=>iv (n:Nat))).length=(iv (s.o 0)).length+((iv (s.o 1)).length+(iv (s.o 2)).length) by simp]at hbt;by_cases hlt:i<3
 case pos=>
  have hoi:[s.o 0,s.o 1,s.o 2][i]=rs.countP (fun r=>decide (r.kind=(i:Int))):=by
   match i,hlt with
   |0,_=>exact hso 0
   |1,_=>exact hso 1
   |2,_=>exact hso 2
  have hci:=hcle (fun r=>decide (r.kind=(i:Int)));refine rx ?_;refine Jg (JdE (i:Int) u (hQ0.tr0 hO.2.1) Yhn) ?_;rintro u2 hf5;rw[<-hoi];have hin:VE (([s.o 0,s.o 1,s.o 2][i]:Nat):Int):=KJ Yhn;have hO:=hO.UW hf5;refine rx ?_;refine Jl (XO _ u2 hin) ?_;rintro r6 m6 hR6;have hl6:=VA hin.1 hin.2;refine ZE (hO.UW hR6.2.1) rfl hR6.1.src rfl Yim Yhy (fun v6 w6 hO6 hg6=>?_);have hF6:=hR6.2.1;refine rx ?_;refine Jc (i+1,v6) Yhl ⟨rfl,rfl,hlt,?_⟩ Yhw;simp only;rw[Wy _ hlt,<-List.append_assoc];exact hO6
 rw[SQ Yht,show[s.o 0,s.o 1,s.o 2].flatMap (fun n=>iv (n:Nat))=iv (s.o 0)++(iv (s.o 1)++iv (s.o 2)) by simp,<-List.append_assoc,<-List.append_assoc]at hO;have hbu:=hb.tr0 hO.2.1;clear hbt hi hO4;refine rx ?_;refine Jl (XO P.ncls u (KJ (show P.ncls<=1000000000 by omega))) ?_;rintro r7 m7 hR7;have hl7:=VA (KJ (show P.ncls<=1000000000 by omega)).1 (KJ (show P.ncls<=1000000000 by omega)).2;refine ZE (hO.UW hR7.2.1) rfl hR7.1.src rfl (by simp only[raw,Sm];rw[hclen]at hL;omega) Yhy (fun v7 w7 hO7 hg7=>?_);have hF7:=hR7.2.1;rw[<-hclen]at hO7;obtain⟨B,hB⟩:=exq (raw (sb P.prop)++iv s.runs++iv (s.o 0)++iv (s.o 1)++iv (s.o 2)++iv s.cls.length);have hBL:B.length+(s.cls.flatMap (fun n=>iv (n:Nat))).length+(iv (s.ks.length:Nat)).length+(s.ks.flatMap (fun b=>brE b++iv (s.cnt b))).length+(iv (s.ps.length:Nat)).length+(s.ps.flatMap (fun p=>brE p.1++brE p.2)).length<=1000000000:=by rw[hB];simp only[Sm];omega
 rw[<-hB]at hO7;have hBd:=hB;clear hB hL;refine rx ?_;refine Jh 10 [3,5] (σ:=Nat×Value) (fun t g u=>g 5=iV (t.1:Nat)/\g 3=t.2/\t.1<=s.cls.length/\Out w u t.2 (B++(s.cls.take t.1).flatMap (fun n=>iv (n:Nat)))) (fun t=>s.cls.length-t.1) (0,v7) ⟨rfl,rfl,SL _,by simpa using hO7⟩ ?_;clear hO hO7;rintro⟨i,va⟩ g u ⟨g5,g3,hi,hO⟩;simp only at g5 g3 hi hO;rw[Ja g5,Ja g3];have hbt:=XR (fun(n:Nat)=>iv (n:Nat)) s.cls i;have hbu:=hb.tr0 hO.2.1;by_cases hlt:i<s.cls.length
 case pos=>
  have hci:=hcle (fun r=>decide ((i:Int)∈r.cl));refine rx ?_;refine Jg (G9 (i:Int) u (hQ0.tr0 hO.2.1) Yhn (fun r hr=>(hc r hr).2)) ?_;rintro u2 hf5;rw[<-hsc i hlt]at hci ⊢;have hin:VE ((s.cls[i]:Nat):Int):=KJ Yhn;have hO:=hO.UW hf5;refine rx ?_;refine Jl (XO _ u2 hin) ?_;rintro r6 m6 hR6;have hl6:=VA hin.1 hin.2;refine ZE (hO.UW hR6.2.1) rfl hR6.1.src rfl Yim Yhy (fun v6 w6 hO6 hg6=>?_);have hF6:=hR6.2.1;refine rx ?_;refine Jc (i+1,v6) Yhl ⟨rfl,rfl,hlt,?_⟩ Yhw;simp only;rw[Wy _ hlt,<-List.append_assoc];exact hO6
 rw[SQ Yhn]at hO;clear hbt hi;refine rx ?_;refine Jl (WQ u (hQ0.tr0 hO.2.1) hn hc1) ?_;rintro vb u2 ⟨hBr,hf5⟩;rw[hsk]at hBr;obtain⟨aob,cb,rfl⟩:=hBr.1.slice;have hval:∀x∈blks va,x<u.heap.size:=hO.1.lt;have hsu2:=hf5.size;have hO:=hO.UW hf5;have hG:=BK.of hO;have hbv:∀x∈blks (Value.slice aob s.ks.length cb),x∉blks va:=fun x hx hm=>by
  have h1:=hBr.2 x hx;have h2:=hval x hm;omega
 have hqv:∀{z:World},Fr (blks va) u2 z->Fr [] w z:=fun hf=>hO.2.1.trans hf (fun x hx=>.inr (hO.2.2 x hx))
 refine rx ?_;refine Jl (XO s.ks.length u2 (KJ (show s.ks.length<=1000000000 by omega))) ?_;rintro r8 m8 hR8;have hl8:=VA (KJ (show s.ks.length<=1000000000 by omega)).1 (KJ (show s.ks.length<=1000000000 by omega)).2;refine ZC (hG.old hR8.2.1) rfl hR8.1.src rfl Yim Yhy (fun v8 w8 hO8=>?_);obtain⟨B2,hB2⟩:=exq (B++s.cls.flatMap (fun n=>iv (n:Nat))++iv s.ks.length);have hBL2:B2.length+(s.ks.flatMap (fun b=>brE b++iv (s.cnt b))).length+(iv (s.ps.length:Nat)).length+(s.ps.flatMap (fun p=>brE p.1++brE p.2)).length<=1000000000:=by rw[hB2];simp only[Sm];omega
 rw[<-hB2]at hO8;refine rx ?_;refine Jh 10 [3,7] (σ:=Nat×Value) (fun t g z=>g 7=iV (t.1:Nat)/\g 3=t.2/\t.1<=s.ks.length/\BK (blks va) u2 z t.2 (B2++(s.ks.take t.1).flatMap (fun b=>brE b++iv (s.cnt b)))) (fun t=>s.ks.length-t.1) (0,v8) ⟨rfl,rfl,SL _,by simpa using hO8⟩ ?_;clear hO8 hG;rintro⟨i,vx⟩ g z ⟨g7,g3',hi,hZ⟩;simp only at g7 g3' hi hZ;rw[Ja g7,Ja g3'];have hbt:=XR (fun b=>brE b++iv (s.cnt b)) s.ks i;have hFz:=hZ.2.1;by_cases hlt:i<s.ks.length
 case pos=>
  obtain⟨adk,hadk,hck⟩:=JZ QN (hBr.1.tr hFz hbv).src hlt Yhy;subst hadk;have hck:Cells z (adk.add (i*3)) [.string s.ks[i].decl,iV s.ks[i].at_,iV s.ks[i].arm]:=hck;have hbB5:=hbr _ (Cj hlt);have hbl:=GZ _ hbB5;have hci:=hcle (fun r=>decide (s.ks[i]∈r.bs));rw[<-hst]at hci;refine rx ?_;refine Jl (JeX s.ks[i] z hbB5) ?_;rintro r5 m5 hR5;refine ZC (hZ.old hR5.2.1) rfl hR5.1.src rfl Yim Yhy (fun v5 w5 hO5=>?_);obtain⟨adk2,hadk2,hck2⟩:=JZ QN (hBr.1.tr hO5.2.1 hbv).src hlt Yhy;obtain rfl:=Dl hadk2;have hck2:Cells w5 (adk.add (i*3)) [.string s.ks[i].decl,iV s.ks[i].at_,iV s.ks[i].arm]:=hck2;refine rx ?_;refine Jg (Jai s.ks[i] w5 (hQ0.tr0 (hqv hO5.2.1)) Yhn) ?_;rintro m7 hf7;rw[<-hst];have hin:VE ((s.cnt s.ks[i]:Nat):Int):=KJ Yhn;refine rx ?_;refine Jl (XO _ m7 hin) ?_;rintro r6 m6 hR6;have hl6:=VA hin.1 hin.2;refine ZC ((hO5.old hf7).old hR6.2.1) rfl hR6.1.src rfl Yim Yhy (fun v6 w6 hO6=>?_);refine rx ?_;refine Jc (i+1,v6) Yhl ⟨rfl,rfl,hlt,?_⟩ Yhw;simp only;rw[Wy _ hlt];simpa only[List.append_assoc]using hO6
 rw[SQ Yhn]at hZ;clear hbt hi;refine rx ?_;refine Jl (X9 z (hQ0.tr0 (hqv hFz)) hn (fun r hr=>(hc r hr).1)) ?_;rintro vp z2 ⟨hPr,hf8⟩;rw[hsp]at hPr;obtain⟨aop,cp,rfl⟩:=hPr.1.slice;have hxl:∀x∈blks vx,x<z.heap.size:=hZ.1.lt;have hsz2:=hf8.size;have hOz:Out w z2 vx _:=(BK.fin hO hZ).UW hf8;have hG:=BK.of hOz;have hpv:∀x∈blks (Value.slice aop s.ps.length cp),x∉blks vx:=fun x hx hm=>by
  have h1:=hPr.2 x hx;have h2:=hxl x hm;omega
 refine rx ?_;refine Jl (XO s.ps.length z2 (KJ (show s.ps.length<=1000000000 by omega))) ?_;rintro r9 m9 hR9;have hl9:=VA (KJ (show s.ps.length<=1000000000 by omega)).1 (KJ (show s.ps.length<=1000000000 by omega)).2;refine ZC (hG.old hR9.2.1) rfl hR9.1.src rfl Yim Yhy (fun v9 w9 hO9=>?_);obtain⟨B3,hB3⟩:=exq (B2++s.ks.flatMap (fun b=>brE b++iv (s.cnt b))++iv s.ps.length);have hBL3:B3.length+(s.ps.flatMap (fun p=>brE p.1++brE p.2)).length<=1000000000:=by rw[hB3];simp only[Sm];omega
 rw[<-hB3]at hO9;refine rx ?_;refine Jh 10 [3,9] (σ:=Nat×Value) (fun t g y=>g 9=iV (t.1:Nat)/\g 3=t.2/\t.1<=s.ps.length/\BK (blks vx) z2 y t.2 (B3++(s.ps.take t.1).flatMap (fun p=>brE p.1++brE p.2))) (fun t=>s.ps.length-t.1) (0,v9) ⟨rfl,rfl,SL _,by simpa using hO9⟩ ?_;clear hO9 hG;rintro⟨i,vy⟩ g y ⟨g9,g3'',hi,hY⟩;simp only at g9 g3'' hi hY;rw[Ja g9,Ja g3''];have hbt:=XR (fun(p:Pr)=>brE p.1++brE p.2) s.ps i;by_cases hlt:i<s.ps.length
 case neg=>
  rw[SQ Yhn]at hY;refine Yeo ?_;refine⟨_,rfl,?_⟩;have:=BK.fin hOz hY;rw[hB3,hB2,hBd]at this;exact this
 obtain⟨adk,hadk,hck⟩:=JZ VK (hPr.1.tr hY.2.1 hpv).src hlt Yhy;subst hadk;have hck:Cells y (adk.add (i*6)) [.string s.ps[i].1.decl,iV s.ps[i].1.at_,iV s.ps[i].1.arm,.string s.ps[i].2.decl,iV s.ps[i].2.at_,iV s.ps[i].2.arm]:=hck;have hpk:=hkk _ (Cj hlt);have hbB5:=hbr _ hpk.1;have hbB6:=hbr _ hpk.2;have hbl:=GZ _ hbB5;have hbl2:=GZ _ hbB6;refine rx ?_;refine JR (V8 (j:=0) rfl rfl Yhy) ?_;refine rx ?_;refine Jl (JeX s.ps[i].1 y hbB5) ?_;rintro r5 m5 hR5;refine ZC (hY.old hR5.2.1) rfl hR5.1.src rfl Yim Yhy (fun v5 w5 hO5=>?_);obtain⟨adk2,hadk2,hck2⟩:=JZ VK (hPr.1.tr hO5.2.1 hpv).src hlt Yhy;obtain rfl:=Dl hadk2;have hck2:Cells w5 (adk.add (i*6)) [.string s.ps[i].1.decl,iV s.ps[i].1.at_,iV s.ps[i].1.arm,.string s.ps[i].2.decl,iV s.ps[i].2.at_,iV s.ps[i].2.arm]:=hck2;refine rx ?_;refine JR (V8 (j:=1) rfl rfl Yhy) ?_;refine rx ?_;refine Jl (JeX s.ps[i].2 w5 hbB6) ?_;rintro r6 m6 hR6;refine ZC (hO5.old hR6.2.1) rfl hR6.1.src rfl Yim Yhy (fun v6 w6 hO6=>?_);refine rx ?_;refine Jc (i+1,v6) Yhl ⟨rfl,rfl,hlt,?_⟩ Yhw;simp only;rw[Wy _ hlt];simpa only[List.append_assoc]using hO6
end Go.Proofs.YtggmccicdhnkgaaGreat
namespace Go.Rf
open Go.RowKit
variable{q:Nat}
theorem UN(v:Value):blks v=[]\/∃b,blks v=[b]:=by
 unfold blks;cases v.ownBlock with
 |none=>exact .inl rfl
 |some b=>exact .inr ⟨b,rfl⟩
theorem Ji5{v r:Value}(h1:q∉blks v)(h2:q∉blks r)(h3:∀x∈blks v,x∉blks r):(([q]++blks v)++blks r).Nodup:=by
 rcases UN v with e|⟨b,e⟩<;>rcases UN r with e'|⟨b',e'⟩<;>rw[e]at h1 h3<;>rw[e']at h2 h3<;>rw[e,e']<;>simp_all
theorem Ji6{v r:Value}(h:(([q]++blks v)++blks r).Nodup):q∉blks v/\q∉blks r/\∀x∈blks v,x∉blks r:=by
 simp only[CQ,CO,EF,SE,IC]at h;exact⟨h.1.1,h.1.2,fun x hx hm=>(DW.1 h.2).2.2 x hx x hm rfl⟩
end Go.Rf
namespace Go.Proofs.YtggmccicdhnkgaaGreat
open Go.Proofs.Tryz
open Go.Rf Go.RowKit
variable{S:List Nat}{q:Nat}{P:Pp}
attribute [local irreducible] Code.wp wpList Exit.then Exit.inBlock bodyPost A Calls execOp Addr.add
theorem Jg8{N T:List Nat}{rs:List Rn}(r:Rn)(vb vl:Value)(w:World)(h:RcM w q N T S P rs)(hbr:DR w S (.l (r.bs.map brC)) vb)(hl:DR w S (.l (r.cl.map KI)) vl)(hn:rs.length<=1000)(hrl:P.reach.length<=1000000):
 Calls prog 22 #[.pointer (some ⟨q,0,none⟩),.agg ([iV r.kind,iV r.at_,iV r.code,vb,vl]:List Value).toArray] w fun e w'=>if Qd P r=true then e=.returned (zI)/\(∃N',RcM w' q N' T (S++N') P (rs++[r])/\∀x∈N',x∈N\/w.heap.size<=x)/\Fr N w w' else e=.returned (iV 1)/\Fr [] w w':=by
 have hQ:=h.v Yhn Yhn;obtain⟨vr,vs,xs,rfl,rfl,hnd,hMS,hb,hr,hs,hw⟩:=h;obtain⟨nd1,nd2,nd3⟩:=Ji6 hnd;have h1b:=hbr.one;have h1l:=hl.one;obtain⟨aob,cb,rfl,_⟩:=hbr.slice;obtain⟨aol,cl,rfl,_⟩:=hl.slice;have hlb:(r.bs.map brC).length=r.bs.length:=Sr ..;have hll:(r.cl.map KI).length=r.cl.length:=Sr ..;rw[hlb]at hbr h1b ⊢;rw[hll]at hl h1l ⊢;refine enter func22 rfl ntmps22 rfl ?_;refine rx ?_;refine Ju (l:=[iV r.kind,iV r.at_,iV r.code,.slice aob r.bs.length cb,.slice aol r.cl.length cl]) rfl rfl (fun w1 b3 hb3 h3 hf1 hs1=>?_);refine rx ?_;refine Jg (JbL r (.slice aob r.bs.length cb) (.slice aol r.cl.length cl) w1 (hQ.tr0 hf1) (hl.tr0 hf1) h1b) ?_;rintro w2 hf2;have h3:=h3.tr0 hf2;have hF2:=hf1.Jb hf2;cases hfit:Qd P r with
 |false=>
  refine Yeo ?_;rw[SH Yhs];exact⟨rfl,hF2⟩
 |true=>?_
 have hb2:=hb.tr0 hF2;have hs2:=hs.tr0 hF2;have hq:=hb.lt;have hvl:=hs.lt;obtain⟨aos,cs,rfl⟩:=hs.slice;have h1s:=hs.one;refine rx ?_;refine Kr 8 (fun z=>Fr (blks (Value.slice aos rs.length cs)) w2 z) Yhp rfl ?_;obtain⟨w3,hw3⟩:=exq w2.drew;rw[<-hw3];have hd3:Fr [] w2 w3:=hw3▸Fr.drew _ _;have hS:Fr (blks (Value.slice aos rs.length cs)) w2 w3:=hd3.mono Yhs;have n3:b3∉blks (Value.slice aos rs.length cs):=fun hm=>by have:=hvl b3 hm;omega
 ((refine Jp 0 hS ?_);(refine Jp 1 hS ?_);(refine Jp 2 hS ?_);(refine Jp 3 hS ?_))
 refine Jp 4 hS ?_ (hrun:=(by intro u hu;exact(J7 rfl (Blk.cell (hb2.tr hu nd1) rfl))));refine Jp 5 hS ?_ (hrun:=(by intro u hu;exact(Kv rfl (Cells.VO (h3.tr hu n3)) Yik)));refine Yln ?_;refine JQ (c1:=[iV r.kind,iV r.at_,iV r.code,.slice aob r.bs.length cb,.slice aol r.cl.length cl]) rfl rfl rfl (fun u4 q4 hq4 ho4 hf4 hs4=>?_);have hS4:=hS.Jb hf4;refine wpList_nil (Xz hS4 ?_);refine Ygm ?_;refine JC ((hs2.tr0 hd3).tr0 hf4) rfl ho4.src rfl rfl Yhu Yhv Yhn (fun v5 u5 ho5 hf7 hk7 _=>?_);have hS5:=hS4.trans hf7 (fun x hx=>.inl hx);have hv51:=ho5.one;have hs3:=hd3.size;have hs5:=hf7.size;have hsF2:=hF2.size;refine wpList_nil (Xz hS5 ?_);refine Yly ?_;refine Ygp ?_;refine KH (i:=9) rfl Yhp ?_;refine Ku rfl ?_;rw[add_lit];refine Ygp ?_;refine Ygo ?_
 ((with_reducible apply Ji);exact rfl;(conv=>lhs;whnf);exact hv51;exact(hb2.tr hS5 nd1);exact rfl)
 intro u6 hb6 hf8 hs8;replace hb6:Blk u6 q [.string P.prop,iV (P.checks:Nat),iV (P.ncls:Nat),vr,v5] _:=hb6;refine Yeu ?_;refine Yeo ?_;rw[Cb rfl];have hk5:∀x∈blks v5,x∈blks (Value.slice aos rs.length cs)\/w.heap.size<=x:=fun x hx=>by
  rcases hk7 x hx with h|h
  .exact .inl h
  .exact .inr Yhn
 have nq5:q∉blks v5:=fun hm=>(hk5 q hm).elim nd1 Yid
 have hrlt:=hr.lt;have n5r:∀x∈blks v5,x∉blks vr:=fun x hx hm=>(hk5 x hx).elim (fun h=>nd3 x h hm) (fun h=>by have:=hrlt x hm;omega)
 have hN:∀x∈[q]++blks v5,x∈[q]++blks (Value.slice aos rs.length cs)\/w.heap.size<=x:=fun x hx=>by
  rcases SE.1 hx with h|h
  .exact .inl (SA _ h)
  .exact (hk5 x h).imp (fun h=>CJ _ h) id
 have hF6:Fr ([q]++blks (Value.slice aos rs.length cs)) w u6:=((hF2.mono (fun x hx=>by simp at hx)).trans hS5 (fun x hx=>.inl (CJ _ hx))).trans hf8 (fun x hx=>.inl (SA _ hx));have hSm:∀x∈S++([q]++blks v5),x∈S\/w.heap.size<=x:=fun x hx=>by
  rcases SE.1 hx with h|h
  .exact .inl h
  .exact (hN x h).imp (fun h=>hMS x h) id
 have hTm:∀x∈[q]++blks (Value.slice aos rs.length cs),x∈S++([q]++blks v5)\/w.heap.size<=x:=fun x hx=>.inl (SA _ (hMS x hx))
 refine⟨rfl,⟨_,⟨vr,v5,xs++[iV r.kind,iV r.at_,iV r.code,.slice aob r.bs.length cb,.slice aol r.cl.length cl],rfl,rfl,Ji5 nq5 nd2 n5r,fun x hx=>CJ _ hx,hb6,hr.tr hF6 (fun x hx hm=>?_),?_,?_⟩,fun x hx=>by subst hb3;exact hN x hx⟩,hF6⟩
 .rcases SE.1 hm with h|h
  .rw [Sv.1 h]at hx;exact nd2 hx
  .exact nd3 x h hx
 .rw [Sm];exact ho5.tr hf8 (fun x hx hm=>nq5 (Sv.1 hm▸hx))
 .refine (hw.imp (fun r' cs' _ h=>(h.mono hSm).old hF6 hTm)).app (Rws.one ?_);exact RD.c1 rfl (RD.c1 rfl (RD.c1 rfl (RD.cons ((hbr.mono hSm).old hF6 hTm) (RD.cons ((hl.mono hSm).old hF6 hTm) .nil))))
theorem JeU(l m:List Br)(va vb:Value)(w:World)(hA:DR w S (.l (l.map brC)) va)(hB:DR w S (.l (m.map brC)) vb)(hl:l.length<=1000000)(hm:m.length<=1000000):
 Calls prog 62 #[va,vb] w fun e w'=>e=.returned (.bool (decide (l=m)))/\Fr [] w w':=by
 obtain⟨aoa,ca,rfl,_⟩:=hA.slice;obtain⟨aob,cb,rfl,_⟩:=hB.slice;have hla:(l.map brC).length=l.length:=Sr ..;have hlb:(m.map brC).length=m.length:=Sr ..;rw[hla]at hA ⊢;rw[hlb]at hB ⊢;refine enter func62 rfl ntmps62 rfl ?_;by_cases hne:l.length=m.length
 case neg=>
  refine Yeo ?_;exact⟨by rw[SG (fun e=>hne (by rw[e]))],Fr.refl _ _⟩
 refine rx ?_;refine Jh 6 [5] (σ:=Nat) (fun i g u=>g 5=iV (i:Nat)/\i<=l.length/\(∀j (h1:j<l.length) (h2:j<m.length),j<i->l[j]=m[j])/\Fr [] w u) (fun i=>l.length-i) 0 ⟨rfl,SL _,fun j h1 h2 h=>by omega,Fr.refl _ _⟩ ?_;rintro i g u ⟨g5,hi,hpre,hF⟩;rw[Ja g5];by_cases hlt:i<l.length
 case neg=>
  refine Yeo ?_;exact⟨by rw[SN (Ew hne (fun j h1 h2=>hpre j h1 h2 Yhn))],hF⟩
 have hlt2:i<m.length:=by omega
 obtain⟨ada,hada,hca⟩:=(hA.tr0 hF).br hlt;obtain⟨adb,hadb,hcb⟩:=(hB.tr0 hF).br hlt2;subst hada hadb;refine Ylk ?_;obtain⟨u1,hu1⟩:=exq u.drew;rw[<-hu1];have hS:Fr [] u u1:=hu1▸Fr.drew _ _;refine Yfy ?_;by_cases he:l[i]=m[i]
 . (apply XU (i:=8);exact rfl;kernel_rfl;kernel_rfl;kernel_rfl;(intro u hu;refine(JaP (a:=l[i]) (b:=m[i]) ?_ ?_ (SG (fun h=>h he)));exact rfl;exact rfl);exact hS)
   exact Ylw
 . (apply XU (i:=8);exact rfl;kernel_rfl;kernel_rfl;kernel_rfl;(intro u hu;refine(JaP (a:=l[i]) (b:=m[i]) ?_ ?_ (SN he));exact rfl;exact rfl);exact hS)
   refine Yfx ?_;refine Yeo ?_;exact⟨by rw[SG (fun e=>he (by subst e;rfl))],hF.Jb hS⟩
theorem JjP{p:Nat}{M R:List Nat}{rs:List Rn}(w:World)(hC:Wj w p M R P (J6 P.ncls rs))(hQ:RcV w q P rs)(hP:SmP P)(hr:SmR rs)(hcl:∀r∈rs,r.cl.length<=1000000)(hasc:Asc ltB P.reach):
 Calls prog 23 #[.pointer (some ⟨p,0,none⟩),.pointer (some ⟨q,0,none⟩)] w fun e w'=>e=.returned (.bool true)/\Fr [] w w':=by
 have hp1:=hP.prop;have hp2:=hP.ncls;have hp3:=hP.reach;have hr1:=hr.1;have hn:rs.length<=1000:=by omega
 have hc1:∀r∈rs,r.bs.length<=1000:=fun r h=>by have:=(hr.2 r h).1;omega
 have hc2:∀r∈rs,r.bs.length<=100:=fun r h=>by have:=(hr.2 r h).1;omega
 have hc3:∀r∈rs,r.bs.length<=100/\r.cl.length<=1000000:=fun r h=>⟨hc2 r h,hcl r h⟩
 obtain⟨hks,hps,hkb⟩:=hr.ks (n:=P.ncls);have hbE:∀b∈(J6 P.ncls rs).ks,BrE b:=fun b hb=>JcP (hkb b hb)
 have hok:StOk P (J6 P.ncls rs):=by obtain⟨_,_,_,_,_,_,_,_,_,_,_,_,_,_,_,_,h⟩:=hC;exact h
 have hcls:=hok.ncls;have hruns:(J6 P.ncls rs).runs=rs.length:=rfl;have hencL:=Jjh hP hok Yhn hks hps hkb;have hso:∀(i:Nat) (h:i<3),[(J6 P.ncls rs).o 0,(J6 P.ncls rs).o 1,(J6 P.ncls rs).o 2][i]=rs.countP (fun r=>decide (r.kind=(i:Int))):=fun i h=>by
  match i,h with
  |0,_=>rfl
  |1,_=>rfl
  |2,_=>rfl
 have hsc:∀i (h:i<(J6 P.ncls rs).cls.length),(J6 P.ncls rs).cls[i]=rs.countP (fun r=>decide ((i:Int)∈r.cl)):=fun i h=>by simp[J6]
 have hsk:JM ltB (rs.flatMap (·.bs))=(J6 P.ncls rs).ks:=rfl;have hsp:JM ltP (rs.flatMap (fun r=>Jy r.bs))=(J6 P.ncls rs).ps:=rfl;have hst:∀b,(J6 P.ncls rs).cnt b=rs.countP (fun r=>decide (b∈r.bs)):=fun b=>rfl
 have hcle:∀p:Rn->Bool,rs.countP p<=rs.length:=fun p=>Hf
 have hbv:∀{u:World},Fr [] w u->∃vr aos cs,Blk u q [.string P.prop,iV (P.checks:Nat),iV (P.ncls:Nat),vr,.slice aos rs.length cs] 120:=fun hf=>by
  obtain⟨vr,vs,hb,_,hss⟩:=hQ.tr0 hf;obtain⟨aos,cs,rfl,_⟩:=hss.slice;rw[Sr]at hb;exact⟨vr,aos,cs,hb⟩
 refine enter func23 rfl ntmps23 rfl ?_;refine rx ?_;refine Jl (JkD w hC Yhn Yhn) ?_;rintro _ w1 ⟨_,⟨vk,vc,vo,rfl,hk4,hcc,hoo,hge⟩,hf1⟩;obtain⟨aok,ck,rfl⟩:=hk4.slice;obtain⟨aoc,cc,rfl⟩:=hcc.slice;obtain⟨aoo,co,rfl⟩:=hoo.slice;refine rx ?_;refine Jm (l:=[zI,zS,zI,zS,zS]) rfl (fun w2 b5 hb5 h5 hf2 hs2=>?_);refine rx ?_;refine Jd (cs:=[iV ((J6 P.ncls rs).runs:Nat),.slice aok (J6 P.ncls rs).ks.length ck,iV ((J6 P.ncls rs).ps.length:Nat),.slice aoc (J6 P.ncls rs).cls.length cc,.slice aoo 3 co]) rfl rfl h5 Yhu rfl rfl (fun w3 h5 hf3 hs3=>?_);have hf13:Fr [] w1 w3:=hf2.trans hf3 (fun x hx=>.inr Yhq);have hF3:=hf1.Jb hf13;have hk4:=hk4.tr0 hf13;have hcc:=hcc.tr0 hf13;have hoo:=hoo.tr0 hf13;clear hf1 hf2 hf3 hf13;refine rx ?_;refine Jl (WQ w3 (hQ.tr0 hF3) hn hc1) ?_;rintro v6 w4 ⟨hB,hf4⟩;have hF4:=hF3.Jb hf4;have h5:=h5.tr0 hf4;have hk4:=hk4.tr0 hf4;have hcc:=hcc.tr0 hf4;have hoo:=hoo.tr0 hf4;rw[hsk]at hB;obtain⟨ao6,c6,rfl⟩:=hB.1.slice;obtain⟨vr,aos,cs,hbq⟩:=hbv hF4;obtain⟨s,hs⟩:=exq (J6 P.ncls rs);rw[<-hs]at hC hks hps hbE hok hcls hruns hencL hso hsc hsk hsp hst h5 hk4 hcc hoo hB ⊢;refine rx ?_;refine JE (fun z=>Fr [] w4 z) Yhp rfl ?_;obtain⟨w5,hw5⟩:=exq w4.drew;rw[<-hw5];have hS:Fr [] w4 w5:=hw5▸Fr.drew _ _;refine Jj 0 1 2 3 hS ?_;refine Jj 4 5 6 7 hS ?_;refine Jj 8 9 10 11 hS ?_;refine JJ (i:=12) rfl Yhp ?_;refine rx ?_;refine Jl (X9 w5 (hQ.tr0 (hF4.Jb hS)) hn hc2) ?_;rintro v7 w6 ⟨hPp,hf6⟩;rw[hsp]at hPp;obtain⟨ao7,c7,rfl⟩:=hPp.1.slice;have hS:=hS.Jb hf6;refine Yfz ?_;refine Jj 13 14 15 16 hS ?_;refine Jj 17 18 19 20 hS ?_;refine Jj 21 22 23 24 hS ?_;refine Jj 25 26 27 28 hS ?_;refine Jj 29 30 31 32 hS ?_;refine Jj 33 34 35 36 hS ?_;refine JX 37 38 hS ?_;refine d_z 39 hS ?_;refine Yfx ?_;have hF6:=hF4.Jb hS;have h5:=h5.tr0 hS;have hk4:=hk4.tr0 hS;have hcc:=hcc.tr0 hS;have hoo:=hoo.tr0 hS;have hBw:Own w6 50 3 (.slice ao6 s.ks.length c6) s.ks.length (s.ks.flatMap brV):=hB.1.tr0 hS;clear hB hbq hw5;refine rx ?_;refine Jh 10 [7] (σ:=Nat) (fun i g u=>g 7=iV (i:Nat)/\i<=s.ks.length/\Fr [] w6 u) (fun i=>s.ks.length-i) 0 ⟨rfl,SL _,Fr.refl _ _⟩ ?_;rintro i g u ⟨g7,hi,hF⟩;rw[Ja g7];have hFu:=hF6.Jb hF;have h5u:=h5.tr0 hF;by_cases hlt:i<s.ks.length
 case pos=>
  obtain⟨adk,hadk,hck⟩:=JZ (Jjj s.cnt) (hk4.tr0 hF).src hlt Yhy;subst hadk;have hck:Cells u (adk.add (i*4)) [.string s.ks[i].decl,iV s.ks[i].at_,iV s.ks[i].arm,iV (s.cnt s.ks[i]:Nat)]:=hck;obtain⟨adb,hadb,hcb⟩:=JZ QN (hBw.tr0 hF).src hlt Yhy;subst hadb;have hcb:Cells u (adb.add (i*3)) [.string s.ks[i].decl,iV s.ks[i].at_,iV s.ks[i].arm]:=hcb;have hci:=hcle (fun r=>decide (s.ks[i]∈r.bs));refine Ylk ?_;obtain⟨u1,hu1⟩:=exq u.drew;rw[<-hu1];have hS:Fr [] u u1:=hu1▸Fr.drew _ _;refine Ylr ?_;refine Kw 10 hS ?_ (hrun:=by(intro u hu;refine(JaP (a:=s.ks[i]) (b:=s.ks[i]) ?_ ?_ (SG (fun h=>h rfl)));exact rfl;exact rfl));refine Jj 11 12 13 14 hS ?_;refine Jj 15 16 17 18 hS ?_;refine Jj 19 20 21 22 hS ?_;refine JJ (i:=23) rfl Yhp ?_;refine rx ?_;refine Jg (Jai s.ks[i] u1 (hQ.tr0 (hFu.Jb hS)) Yhn) ?_;rintro u2 hf7;rw[<-hst]at hci ⊢;have hS:=hS.Jb hf7;refine Yfz ?_;refine JX 24 25 hS ?_;refine Yev ?_;refine Jc (i+1) Yhl ⟨rfl,hlt,hF.Jb hS⟩ Yhn
 refine rx ?_;clear hlt hi g7;obtain⟨u0,hu0⟩:=exq u;refine Jh 10 [8] (σ:=Nat) (fun i g z=>g 8=iV (i:Nat)/\i<=P.ncls/\Fr [] w6 z) (fun i=>P.ncls-i) 0 ⟨rfl,SL _,hF⟩ ?_;clear hFu h5u hF;rintro i g u ⟨g8,hi,hF⟩;rw[Ja g8];have hFu:=hF6.Jb hF;have h5u:=h5.tr0 hF;obtain⟨vr,aos,cs,hbq⟩:=hbv hFu;by_cases hlt:i<P.ncls
 case pos=>
  have hlc:i<s.cls.length:=by omega
  obtain⟨adc,hadc,hcell0⟩:=KO (hcc.tr0 hF).src (V9 hlc);subst hadc;have hcell:∀{z:World},Fr [] u z->z.cell? (adc.add i)=some (iV (s.cls[i]:Nat)):=fun hf=>Vs ((hcc.tr0 hF).tr0 hf).src (V9 hlc)
  have hci:=hcle (fun r=>decide ((i:Int)∈r.cl));refine Ylk ?_;obtain⟨u1,hu1⟩:=exq u.drew;rw[<-hu1];have hS:Fr [] u u1:=hu1▸Fr.drew _ _;refine Jj 0 1 2 3 hS ?_;refine Kw 4 hS ?_ (hrun:=by(intro u hu;exact(J7 rfl Ylu)));refine JX 5 6 hS ?_;refine Ylm ?_;refine rx ?_;refine Jg (G9 (i:Int) u1 (hQ.tr0 (hFu.Jb hS)) Yhn hcl) ?_;rintro u2 hf7;rw[<-hsc i hlc]at hci ⊢;have hS:=hS.Jb hf7;refine Yfz ?_;refine d_z 8 hS ?_;refine Yev ?_;refine Jc (i+1) Yhl ⟨rfl,hlt,hF.Jb hS⟩ Yhn
 refine rx ?_;clear hlt hi g8;refine Jh 10 [9] (σ:=Nat) (fun i g z=>g 9=iV (i:Nat)/\i<=3/\Fr [] w6 z) (fun i=>3-i) 0 ⟨rfl,SL _,hF⟩ ?_;clear hFu h5u hF hbq;rintro i g u ⟨g9,hi,hF⟩;rw[Ja g9];have hFu:=hF6.Jb hF;have h5u:=h5.tr0 hF;by_cases hlt:i<3
 case pos=>
  have hcell:∀{z:World},Fr [] u z->∃ado,aoo=some ado/\z.cell? (ado.add i)=some (iV ([s.o 0,s.o 1,s.o 2][i]:Nat)):=fun hf=>KO ((hoo.tr0 hF).tr0 hf).src (V9 hlt)
  obtain⟨ado,hado,_⟩:=hcell (Fr.refl _ _);subst hado;have hcell:∀{z:World},Fr [] u z->z.cell? (ado.add i)=some (iV ([s.o 0,s.o 1,s.o 2][i]:Nat)):=fun hf=>by
   obtain⟨a,h1,h2⟩:=hcell hf;obtain rfl:=Dl h1;exact h2
  have hci:=hcle (fun r=>decide (r.kind=(i:Int)));refine Ylk ?_;obtain⟨u1,hu1⟩:=exq u.drew;rw[<-hu1];have hS:Fr [] u u1:=hu1▸Fr.drew _ _;refine Jj 0 1 2 3 hS ?_;refine Kw 4 hS ?_ (hrun:=by(intro u hu;exact(J7 rfl Ylu)));refine JX 5 6 hS ?_;refine Ylm ?_;refine rx ?_;refine Jg (JdE (i:Int) u1 (hQ.tr0 (hFu.Jb hS)) Yhn) ?_;rintro u2 hf7;rw[<-hso i hlt]at hci ⊢;have hS:=hS.Jb hf7;refine Yfz ?_;refine d_z 8 hS ?_;refine Yev ?_;refine Jc (i+1) Yhl ⟨rfl,hlt,hF.Jb hS⟩ Yhn
 have hCu:=hC.tr0 hFu;refine rx ?_;clear hlt hi g9;refine Jl (Jig u hCu Yhn) ?_;rintro va u1 ⟨hA,hf1⟩;have hF1:=hFu.Jb hf1;have hml:(Ur P s).length<=1000000:=by
  have:=D5 (fun b=>decide (s.cnt b=0)) P.reach;show(List.filter _ _).length<=_;omega
 obtain⟨aoa,ca,rfl⟩:=hA.1.slice;refine rx ?_;refine Jl (Jfv u1 (hQ.tr0 hF1) hn hc2 Yhn hasc) ?_;rintro vb u2 ⟨hB,hf2⟩;have hF2:=hF1.Jb hf2;rw[<-hs]at hB;obtain⟨aob,cb,rfl⟩:=hB.1.slice;refine rx ?_;refine Jg (JeU (Ur P s) (Ur P s) _ _ u2 (S:=[]) (ZO (hA.1.tr0 hf2) Yhn Yhs) (ZO hB.1 Yhn Yhs) hml hml) ?_;rintro u3 hf3;rw[SN rfl];have hF3':=hF2.Jb hf3;refine rx ?_;refine Jl (JhG u3 (hC.tr0 hF3') Yhn Yhn Yhn Yhn Yhn hbE hencL) ?_;rintro ve u4 ⟨hE,hf4,_⟩;have hF4':=hF3'.Jb hf4;obtain⟨aoe,ce,rfl⟩:=hE.slice;refine rx ?_;rw[hs]at hencL hbE;refine Jl (Jg6 u4 (hQ.tr0 hF4') hn hc3 Yhn Yhn hbE hencL) ?_;rintro vf u5 hO;rw[<-hs]at hO;obtain⟨aof,cf,rfl⟩:=hO.1.slice;refine rx ?_;refine Jg (Jeo _ _ _ _ u5 (hE.tr0 hO.2.1).src hO.1.src (by rw[hs];omega)) ?_;rintro u6 hf6;rw[SN rfl];refine Yeo ?_;exact⟨rfl,(hF4'.Jb hO.2.1).Jb hf6⟩
end Go.Proofs.YtggmccicdhnkgaaGreat
namespace Go.Rf
open Go.RowKit
end Go.Rf
namespace Go.Proofs.YtggmccicdhnkgaaGreat
open Go.Proofs.Tryz
open Go.Rf Go.RowKit
variable{a:Int}{ms:List Int}{M N R S T:List Nat}{n p q:Nat}{P:Pp}{u u':World}
attribute [local irreducible] Code.wp wpList Exit.then Exit.inBlock bodyPost A Calls execOp Addr.add
def Bo(u:World)(p q:Nat)(M R N T S:List Nat)(P:Pp)(rs:List Rn):Prop:=Wj u p M R P (J6 P.ncls rs)/\RcM u q N T S P rs/\(∀x∈M,x∈S)/\(∀x∈N++T,x∉M++R)/\(∀x∈S,x<u.heap.size)
theorem Bo.NS{rs:List Rn}(h:Bo u p q M R N T S P rs):∀x∈M++N,x∈S:=fun x hx=>by
 rcases SE.1 hx with hx|hx
 .exact h.2.2.1 x hx
 .obtain ⟨_,_,_,_,_,_,hNS,_⟩:=h.2.1;exact hNS x hx
theorem Bo.tr{V:List Nat}{rs:List Rn}(h:Bo u p q M R N T S P rs)(hf:Fr V u u')(h1:∀x∈M++R,x∉V)(h2:∀x∈N++T,x∉V)(h3:∀x∈V,x∈S\/u.heap.size<=x):Bo u' p q M R N T S P rs:=
 ⟨h.1.tr hf h1,h.2.1.tr hf h2 h3,h.2.2.1,h.2.2.2.1,fun x hx=>SV (h.2.2.2.2 x hx) hf.size⟩
theorem Bo.tr0{rs:List Rn}(h:Bo u p q M R N T S P rs)(hf:Fr [] u u'):Bo u' p q M R N T S P rs:=h.tr hf Yhs Yhs Yhs
theorem Bo.cov{rs:List Rn}(h:Bo u p q M R N T S P rs)(hf:Fr M u u'):RcM u' q N T S P rs:=h.2.1.tr hf (fun x hx hm=>h.2.2.2.1 x hx (SA _ hm)) (fun x hx=>.inl (h.2.2.1 x hx))
theorem RcM.JkQ{S':List Nat}(h:RcM u q N T S P [])(hN:∀x∈N,x∈S'):RcM u q N T S' P []:=by
 obtain⟨vr,vs,xs,rfl,rfl,hnd,hMS,hb,hr,hs,hw⟩:=h;have hxs:xs=[]:=by cases hw;rfl
 subst hxs;exact⟨vr,vs,[],rfl,rfl,hnd,hN,hb,hr,hs,.nil⟩
theorem RcM.NS{rs:List Rn}(h:RcM u q N T S P rs):∀x∈N,x∈S:=by
 obtain⟨_,_,_,_,_,_,hNS,_⟩:=h;exact hNS
theorem Bo.beg(hn:n=P.ncls)(hC:Wj u p M R P (J6 n []))(hQ:RcM u q N T S P [])(hd:∀x∈N++T,x∉M++R)(V:List Nat)(hV:∀x∈V,x<u.heap.size):Bo u p q M R N T (M++N++V) P []:=by
 subst hn;refine⟨hC,RcM.JkQ hQ (fun x hx=>by simp[hx]),fun x hx=>by simp[hx],hd,fun x hx=>?_⟩;simp only[SE]at hx;rcases hx with(hx|hx)|hx
 .exact hC.lt x (SA _ hx)
 .exact hQ.lt x (SA _ hx)
 .exact hV x hx
def rsN(P:Pp)(rs:List Rn)(r:Rn):List Rn:=if Qd P r=true then rs++[r] else rs
def stN(P:Pp)(s:St)(r:Rn):St:=if Qd P r=true then Qb s r else s
def JgJ(P:Pp)(r:Rn):Int:=if Qd P r=true then 0 else 1
theorem Jiu{rs:List Rn}{r:Rn}:stN P (J6 P.ncls rs) r=J6 P.ncls (rsN P rs r):=by
 unfold stN rsN
 split
 .rw [Jbz]
 .rfl
theorem addN{s:St}(r:Rn)(vb vl:Value)(w:World)(hC:Wj w p M R P s)(hMS:∀x∈M,x∈S)(hbr:DR w S (.l (r.bs.map brC)) vb)(hl:DR w S (.l (r.cl.map KI)) vl)(hrn:s.runs<=1000000)(hbl:r.bs.length<=1000000):
 Calls prog 15 #[.pointer (some ⟨p,0,none⟩),.agg ([iV r.kind,iV r.at_,iV r.code,vb,vl,zI]:List Value).toArray] w fun e w'=>e=.returned (iV (JgJ P r))/\Wj w' p M R P (stN P s r)/\Fr M w w':=by
 refine(Jkr r vb vl w hC hMS hbr hl hrn hbl).mono fun e u' hh=>?_
 unfold JgJ stN
 split at hh
 .rename_i h;rw[Cb h,Cb h];exact hh
 .rename_i h;rw[SH h,SH h];exact⟨hh.1,hC.tr0 hh.2,hh.2.mono Yhs⟩
theorem Jg7{rs:List Rn}(r:Rn)(vb vl:Value)(w:World)(h:RcM w q N T S P rs)(hbr:DR w S (.l (r.bs.map brC)) vb)(hl:DR w S (.l (r.cl.map KI)) vl)(hn:rs.length<=1000)(hrl:P.reach.length<=1000000):
 Calls prog 22 #[.pointer (some ⟨q,0,none⟩),.agg ([iV r.kind,iV r.at_,iV r.code,vb,vl]:List Value).toArray] w fun e w'=>e=.returned (iV (JgJ P r))/\(∃N',RcM w' q N' T (S++N') P (rsN P rs r)/\∀x∈N',x∈N\/w.heap.size<=x)/\Fr N w w':=by
 refine(Jg8 r vb vl w h hbr hl hn hrl).mono fun e u' hh=>?_
 unfold JgJ rsN
 split at hh
 .rename_i h;rw[Cb h,Cb h];exact hh
 .rename_i h';have hNS:=RcM.NS h;rw[SH h',SH h'];refine⟨hh.1,⟨N,(h.tr0 hh.2).mono (fun x hx=>CJ _ hx) (fun x hx=>.inl ?_),fun x hx=>.inl hx⟩,hh.2.mono Yhs⟩;rcases SE.1 hx with hx|hx
  .exact hx
  .exact hNS x hx
theorem Bo.add{u1 u2:World}{N':List Nat}{rs:List Rn}{r:Rn}(h:Bo u p q M R N T S P rs)(hC:Wj u1 p M R P (stN P (J6 P.ncls rs) r))(hf1:Fr M u u1)(hQ:RcM u2 q N' T (S++N') P (rsN P rs r))(hN:∀x∈N',x∈N\/u1.heap.size<=x)(hf2:Fr N u1 u2):Bo u2 p q M R N' T (S++N') P (rsN P rs r):=by
 have hl:=hC.lt;refine⟨?_,hQ,fun x hx=>SA _ (h.2.2.1 x hx),fun x hx hm=>?_,fun x hx=>?_⟩
 .rw [<-Jiu];exact hC.tr hf2 (fun x hx hm=>h.2.2.2.1 x (SA _ hm) hx)
 .rcases SE.1 hx with hx|hx
  .rcases hN x hx with h1|h1
   .exact h.2.2.2.1 x (SA _ h1) hm
   .have:=hl x hm;omega
  .exact h.2.2.2.1 x (CJ _ hx) hm
 .rcases SE.1 hx with hx|hx
  .have:=h.2.2.2.2 x hx;have:=hf1.size;have:=hf2.size;omega
  .exact hQ.lt x (SA _ hx)
theorem Bo.rv{rs:List Rn}(h:Bo u p q M R N T S P rs)(h1:P.reach.length<=1000000000000:=by omega)(h2:rs.length<=1000000000000:=by omega):RcV u q P rs:=h.2.1.v h1 h2
def rsF(P:Pp)(ms:List Int)(a:Int)(n:Nat):List Rn:=(List.range n).map (fun(j:Nat)=>XW P ms (a+12*(j:Int)) false)
theorem Jlh:rsF P ms a (n+1)=rsF P ms a n++[XW P ms (a+12*(n:Int)) false]:=by simp[rsF,Fv]
theorem Jla:(rsF P ms a n).length=n:=by simp[rsF]
theorem Jle{N0 S0:List Nat}{rs:List Rn}(y:Value)(ms:List Int)(a:Int)(n:Nat)(w0 w:World)(hB:Bo w p q M R N0 T S0 P rs)(hP:SmP P)(hw:Fr [] w0 w)(hMN0:∀x∈M++N0,w0.heap.size<=x)(hy:Src w0 y ms.length (ms.map (.int .i64)))(hms:∀n∈ms,VE n)(ha:0<=a/\a<=100)(hn:n<=10)(hrl:rs.length<=100):
 Calls prog 26 #[.pointer (some ⟨p,0,none⟩),.pointer (some ⟨q,0,none⟩),y,iV a,iV (n:Nat)] w fun e w'=>e=.returned (.bool true)/\∃N' S',Bo w' p q M R N' T S' P (rs++rsF P ms a n)/\Fr (M++N0) w w'/\(∀x∈N',x∈N0\/w.heap.size<=x)/\(∀x∈S0,x∈S'):=by
 obtain⟨aoy,cy,rfl,_⟩:=id hy;have hp1:=hP.checks;have hp2:=hP.ncls;have hp3:=hP.reach;refine enter func26 rfl ntmps26 rfl ?_;refine rx ?_;refine Jh 12 [11] (σ:=Nat×List Nat×List Nat) (fun t g u=>g 11=iV (t.1:Nat)/\t.1<=n/\Bo u p q M R t.2.1 T t.2.2 P (rs++rsF P ms a t.1)/\Fr (M++N0) w u/\(∀x∈t.2.1,x∈N0\/w.heap.size<=x)/\(∀x∈S0,x∈t.2.2)) (fun t=>n-t.1) (0,N0,S0) ⟨rfl,SL _,by simpa[rsF]using hB,Fr.refl _ _,fun x hx=>.inl hx,fun x hx=>hx⟩ ?_;clear hB;rintro⟨i,N,S⟩ g u ⟨g11,hi,hB,hF,hN,hSS⟩;simp only at g11 hi hB hN hSS;rw[Ja g11];by_cases hlt:i<n
 case neg=>
  obtain rfl:i=n:=by omega
  refine Yeo ?_;exact⟨rfl,N,S,hB,hF,hN,hSS⟩
 have hFw:Fr [] w0 u:=hw.trans hF (fun x hx=>.inr (hMN0 x hx));have hyu:=hy.tr0 hFw;have hrl2:(rs++rsF P ms a i).length<=200:=by rw[Sm,Jla];omega
 refine rx ?_;refine JiH (JjM _ ms (a+12*(i:Int)) false u hB.rv hyu hms Yhn Yhn) ?_;rintro vb vl u1 ⟨hBo,hCl,hln,hfu1⟩;have hrb:=Jfh (P:=P) (l:=ms) (at_:=a+12*(i:Int)) (b:=false);have hrc:=Jfg (P:=P) (l:=ms) (at_:=a+12*(i:Int)) (b:=false);have hrk:=JgR hP (l:=ms) (a:=a+12*(i:Int)) (bad:=false);obtain⟨r,hr⟩:=exq (XW P ms (a+12*(i:Int)) false);rw[<-hr]at hBo hCl hrb hrc hrk ⊢;obtain⟨aob,cb,rfl⟩:=hBo.1.slice;obtain⟨aol,cl,rfl⟩:=hCl.slice;refine rx ?_;refine Jm (l:=[zI,zI,zI,zS,zS]) rfl (fun u3 b12 hb12 h12 hfu3 hsu3=>?_);refine rx ?_;refine Jd (cs:=[iV r.kind,iV r.at_,iV r.code,.slice aob r.bs.length cb,.slice aol r.cl.length cl]) rfl rfl h12 Yhu rfl rfl (fun u4 h12 hfu4 hsu4=>?_);have hf14:Fr [] u1 u4:=hfu3.trans hfu4 (fun x hx=>.inr Yhq);have hf04:=hfu1.Jb hf14;have hBo:=hBo.tr0 hf14;have hCl:=hCl.tr0 hf14;have hsz1:=hfu1.size;have hBu:=hB;have hSl:=hB.2.2.2.2;have hB:=hB.tr0 hf04;have hMN:=hB.NS;have hMS:=hB.2.2.1;have hNS:=RcM.NS hB.2.1;have hbM:∀x∈blks (Value.slice aob r.bs.length cb),x∉S:=fun x hx hm=>by have h1:=hBo.2 x hx;have h2:=hSl x hm;omega
 have hlM:∀x∈blks (Value.slice aol r.cl.length cl),x∉S:=fun x hx hm=>by have h1:=hln x hx;have h2:=hSl x hm;omega
 have nS:b12∉S:=fun hm=>by have h2:=hSl _ hm;omega
 have n12:b12∉M++N:=fun hm=>nS (hMN _ hm)
 have dB:∀{z:World},Fr (M++N) u4 z->DR z S (.l (r.bs.map brC)) (.slice aob r.bs.length cb):=fun{z} hf=>ZO (hBo.1.tr hf (fun x hx hm=>hbM x hx (hMN x hm))) Yhn hbM
 have dL:∀{z:World},Fr (M++N) u4 z->DR z S (.l (r.cl.map KI)) (.slice aol r.cl.length cl):=fun{z} hf=>Jgd (hCl.tr hf (fun x hx hm=>hlM x hx (hMN x hm))) Yhn hlM
 have hfit:Qd P r=true:=hr▸Jld;refine rx ?_;refine JE (fun z=>Fr (M++N) u4 z) Yhp rfl ?_;obtain⟨u5,hu5⟩:=exq u4.drew;rw[<-hu5];have hd5:Fr [] u4 u5:=hu5▸Fr.drew _ _;have hS:Fr (M++N) u4 u5:=hd5.mono Yhs;refine d_z 0 hS ?_;refine Kw 1 hS ?_ (hrun:=by(intro u hu;exact(Kv rfl (Cells.VO (h12.tr hu n12)) Yik)));refine d_z 4 hS ?_;refine Kw 5 hS ?_ (hrun:=by(intro u hu;exact(Kv rfl (Cells.VO (h12.tr hu n12)) Yik)));refine JJ (i:=2) rfl Yhp ?_;refine Jg (Jj6 r.kind r.at_ r.code (.slice aob r.bs.length cb) (.slice aol r.cl.length cl) _ rfl rfl) ?_;rintro u6 hfo;have hS:=hS.Jb hfo;refine Yfz ?_;have hB:=hB.tr0 (hd5.Jb hfo);refine JJ (i:=3) rfl Yhp ?_;refine Jg (addN r (.slice aob r.bs.length cb) (.slice aol r.cl.length cl) u6 hB.1 hMS (dB hS) (dL hS) (by show(rs++rsF P ms a i).length<=1000000;omega) Yhn) ?_;rintro u7 ⟨hC7,hf7⟩;have hQ7:=hB.cov hf7;have hS:=hS.trans hf7 (fun x hx=>.inl (SA _ hx));refine Yfz ?_;refine JJ (i:=6) rfl Yhp ?_;refine Jg (Jg7 r (.slice aob r.bs.length cb) (.slice aol r.cl.length cl) u7 hQ7 (dB hS) (dL hS) Yhn Yhn) ?_;rintro u8 ⟨⟨N',hQ8,hN'⟩,hf8⟩;have hsz7:=hf7.size;have hsz6:=(hd5.Jb hfo).size;have hsz4:=hf04.size;have hszF:=hF.size;have hB8:=hB.add hC7 hf7 hQ8 hN' hf8;have hS:=hS.trans hf8 (fun x hx=>.inl (CJ _ hx));refine Yfz ?_;refine d_z 7 hS ?_;refine Yev ?_;refine Jc (i+1,N',S++N') Yhl ⟨rfl,hlt,?_,?_,fun x hx=>?_,fun x hx=>SA _ (hSS x hx)⟩ Yhw
 .simp only;rw[Jlh,<-hr,<-List.append_assoc];rw[show rsN P (rs++rsF P ms a i) r=(rs++rsF P ms a i)++[r] from Cb hfit]at hB8;exact hB8
 .refine (hF.Jb hf04).trans hS (fun x hx=>?_);rcases SE.1 hx with h|h
  .exact .inl (SA _ h)
  .exact (hN x h).imp (fun h=>CJ _ h) id
 .rcases hN' x hx with h|h
  .exact hN x h
  .exact .inr Yhn
end Go.Proofs.YtggmccicdhnkgaaGreat
namespace Go.Rf
variable{n t:Nat}{P:Program}{w:World}
theorem Jdg(dd:Nat){e:Nat}(hu:P.underlying t=some (.pointer e)):(Op.equalIn (dd+1) t (.pointer none) (.pointer none)).run P w=.ok true w:=by
 simp[Op.equalIn,run_underlying hu]
theorem JgY{D:Dfs}{ops:Array Oper}{Q:Exit->Act->World->Prop}{rest:List Oper}{f:Env}{d:Nat}{ty:TypeId}{ps:String}{af:Array Edge}{x y:Operand}{t2:Nat}[T:PtrT P t](hx:ev n f x=.pointer none)(hy:ev n f y=.pointer none)(h:wpList P ops Q rest (A n (upd f d (.bool true))) w):
 wpList P ops Q (⟨some d,.binOp .eql t x y t2,ty,ps,af,none⟩::rest) (A n f) w:=by
 obtain⟨e,hu⟩:=T.u;have:(Op.equal t (.pointer none) (.pointer none)).run P w=.ok true w:=Jdg 9999 hu;exact JR (by simp[execOp,eqGuard,binOp,hx,hy,this]) h
end Go.Rf
namespace Go.Proofs.YtggmccicdhnkgaaGreat
open Go.Rf Go.RowKit
variable{n:Nat}
def SmQ(n:Nat)(rs:List Rn):Prop:=rs.length<=n/\∀r∈rs,(r.bs.length<=5/\∀b∈r.bs,BrK b)/\r.cl.length<=17
theorem SmQ.next{P:Pp}{rs:List Rn}{r:Rn}(h:SmQ n rs)(h1:r.bs.length<=5)(h2:∀b∈r.bs,BrK b)(h3:r.cl.length<=17):SmQ (n+1) (rsN P rs r):=by
 unfold rsN
 split
 .refine ⟨by have:=h.1;simp;omega,fun x hx=>?_⟩;rcases SE.1 hx with hx|hx
  .exact h.2 x hx
  .rw [Sv.1 hx];exact⟨⟨h1,h2⟩,h3⟩
 .exact ⟨by have:=h.1;omega,h.2⟩
theorem SmQ.r{rs:List Rn}(h:SmQ n rs)(hn:n<=20):SmR rs:=⟨CG h.1 hn,fun r hr=>(h.2 r hr).1⟩
attribute [local irreducible] Code.wp wpList Exit.then Exit.inBlock bodyPost A Calls execOp Addr.add
end Go.Proofs.YtggmccicdhnkgaaGreat
