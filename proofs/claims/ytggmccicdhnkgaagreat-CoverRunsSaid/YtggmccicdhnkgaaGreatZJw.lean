/-
 The reference's Add;a cover shows what the reference says (branches,same).
-/
import Derived.Test.YtggmccicdhnkgaaGreatZJp
import Derived.Test.YtggmccicdhnkgaaGreatZRf2
set_option linter.all false
namespace Go.Rf
open Go.RowKit
variable{n:Nat}
theorem Jen{A:List Pr}{bs:List Br}{k:Nat}(hk:k<(JM ltP (Jy bs)).length):JM ltP (A++(JM ltP (Jy bs)).take (k+1))=insL ltP (JM ltP (Jy bs))[k] (JM ltP (A++(JM ltP (Jy bs)).take k)):=by
 rw[List.take_succ_eq_append_getElem hk,<-List.append_assoc,BQ Qy (l:=A++_)];rfl
theorem Jfj{A:List Pr}{bs:List Br}:JM ltP (A++JM ltP (Jy bs))=JM ltP (A++Jy bs):=V6 Qy (fun y=>by rw[List.mem_append,List.mem_append,KF Qy])
theorem Jjz{rs:List Rn}{i:Nat}(hn:rs.length<=1000)(hc:∀r∈rs,r.bs.length<=100):((rs.take i).flatMap (fun r=>Jy r.bs)).length<=100000:=by
 have key:∀(l:List Rn),(∀r∈l,r.bs.length<=100)->(l.flatMap (fun r=>Jy r.bs)).length<=100*l.length:=by
  intro l
  induction l with
  |nil=>intro _;simp
  |cons r l ih=>
   intro h;have h1:=ih (fun x hx=>h x Yix);have h2:=h r Yhs;have h3:=QI (l:=r.bs);simp only[List.flatMap_cons,List.length_append,List.length_cons];omega
 exact Yld
theorem Jhc{A:List Pr}{p:Pr}(hA:Asc ltP A):(A.length<(insL ltP p A).length)↔p∉A:=by
 have h1:=Asc.nd Qy hA;have h2:=Asc.nd Qy (Asc.ins Qy (x:=p) hA);have hm:∀y,y∈insL ltP p A↔y=p\/y∈A:=fun y=>by
  have:=ZR Qy (l:=[p]) (s:=A) hA;have h:=this.2 y;simpa[or_comm]using h
 constructor
 .intro h hp;have hpm:(insL ltP p A).Perm A:=(List.perm_ext_iff_of_nodup h2 h1).2 (fun y=>by rw[hm];exact⟨fun h=>h.elim (fun e=>e▸hp) id,.inr⟩);have:=hpm.length_eq;omega
 .intro hp;have hpm:(insL ltP p A).Perm (p::A):=(List.perm_ext_iff_of_nodup h2 (List.nodup_cons.2 ⟨hp,h1⟩)).2 (fun y=>by rw[hm,List.mem_cons]);have:=hpm.length_eq;simp at this;omega
theorem Jhw{rs:List Rn}{r:Rn}(hc:WB n r.cl=true):VB (J6 n rs) r=(r.bs.any (fun b=>decide (b∉JM ltB (rs.flatMap (·.bs))))||(r.cl.any (fun k=>decide (rs.countP (fun r=>decide (k∈r.cl))=0))||(JM ltP (Jy r.bs)).any (fun p=>decide (p∉JM ltP (rs.flatMap (fun r=>Jy r.bs)))))):=by
 unfold VB;have h1:r.cl.any (fun x=>decide ((J6 n rs).cls.getD x.toNat 0=0))=r.cl.any (fun k=>decide (rs.countP (fun r=>decide (k∈r.cl))=0)):=by
  rw[Bool.eq_iff_iff,List.any_eq_true,List.any_eq_true];have key:∀x∈r.cl,(J6 n rs).cls.getD x.toNat 0=rs.countP (fun r=>decide (x∈r.cl)):=fun x hx=>by
   have hx:=Jdh hc hx;have hlt:x.toNat<(J6 n rs).cls.length:=by simp[J6];omega
   rw[getD_at hlt];simp only[J6,List.getElem_map,List.getElem_range];rw[show((x.toNat:Nat):Int)=x by omega]
  constructor
  .rintro ⟨x,hx,h⟩;exact⟨x,hx,by rw[key x hx]at h;exact h⟩
  .rintro ⟨x,hx,h⟩;exact⟨x,hx,by rw[key x hx];exact h⟩
 have h2:r.bs.any (fun b=>decide ((J6 n rs).cnt b=0))=r.bs.any (fun b=>decide (b∉JM ltB (rs.flatMap (·.bs)))):=by
  congr 1
  funext b
  have:=Nv (n:=n) (rs:=rs) (b:=b);have e:(J6 n rs).ks=JM ltB (rs.flatMap (·.bs)):=rfl;rw[e]at this;by_cases h:(J6 n rs).cnt b=0
  .simp only[h,decide_true];exact(decide_eq_true (show b∉JM ltB (rs.flatMap (·.bs)) from fun hm=>this.2 hm h)).symm
  .simp only[h,decide_false];exact(decide_eq_false (p:=b∉JM ltB (rs.flatMap (·.bs))) (fun hm=>hm (this.1 h))).symm
 have h3:(Jy r.bs).any (fun p=> !decide (p∈(J6 n rs).ps))=(JM ltP (Jy r.bs)).any (fun p=>decide (p∉JM ltP (rs.flatMap (fun r=>Jy r.bs)))):=by
  rw[Bool.eq_iff_iff,List.any_eq_true,List.any_eq_true];constructor
  .rintro ⟨x,hx,h⟩;exact⟨x,(KF Qy).2 hx,by rw[<-decide_not]at h;exact h⟩
  .rintro ⟨x,hx,h⟩;exact⟨x,(KF Qy).1 hx,by rw[<-decide_not];exact h⟩
 rw[h1,h2,h3,Bool.or_comm (r.cl.any _),Bool.or_assoc]
end Go.Rf
namespace Go.Proofs.YtggmccicdhnkgaaGreat
open Go.Proofs.Tryz
open Go.Rf Go.RowKit
variable{af:Array Edge}{f:Env}{Q:Exit->Act->World->Prop}{cs:List Int}{T:List Nat}{rest:List Oper}{by_ d n q t:Nat}{s x:Operand}{P:Pp}{ps:String}{xv:Value}{u u0 w w0 w1:World}
attribute [local irreducible] Code.wp wpList Exit.then Exit.inBlock bodyPost A Calls execOp Addr.add
set_option maxHeartbeats 8000000 in
theorem X9{rs:List Rn}(w:World)(hQ:RcV w q P rs)(hn:rs.length<=1000)(hc:∀r∈rs,r.bs.length<=100):
 Calls prog 57 #[.pointer (some ⟨q,0,none⟩)] w fun e w'=>∃v,e=.returned v/\PO w 128 w' (JM ltP (rs.flatMap (fun r=>Jy r.bs))) v/\Fr [] w w':=by
 obtain⟨vr,vs,hb,hrr,hss⟩:=hQ;have h1r:=hrr.one;have h1s:=hss.one;obtain⟨aos,cs,rfl,_⟩:=hss.slice;have hlm:(rs.map rnC).length=rs.length:=List.length_map ..;rw[hlm]at hb hss h1s;refine enter func57 rfl ntmps57 rfl ?_;refine rx ?_;refine Jh 7 [3,4,5,6] (σ:=Nat×Value) (fun t g u=>g 4=iV (t.1:Nat)/\g 3=t.2/\t.1<=rs.length/\PO w 128 u (JM ltP ((rs.take t.1).flatMap (fun r=>Jy r.bs))) t.2/\Fr [] w u) (fun t=>rs.length-t.1) (0,zS) ⟨rfl,rfl,Nat.zero_le _,⟨Own.nil _ _ _,fun b hb=>by simp[blks,Value.ownBlock]at hb⟩,Fr.refl _ _⟩ ?_;rintro⟨i,va⟩ g u ⟨g4,g3,hi,hA,hF⟩;simp only at g4 g3 hi hA;rw[Ja g4,Ja g3];have hb:=hb.tr0 hF;by_cases hlt:i<rs.length
 case neg=>
  rw[show rs.take i=rs from List.take_of_length_le Yhn]at hA;refine Yeo ?_;exact⟨va,rfl,hA,hF⟩
 obtain⟨ad,cs',had,hr,hce⟩:=DR.at Gi (hss.tr0 hF) hlt;subst had;obtain⟨vb,vl,rfl,hvb,hvl⟩:=rnR hr;have hcn:=hc _ (List.getElem_mem hlt);obtain⟨aob,cb,rfl,_⟩:=hvb.slice;refine rx ?_;refine Jl (Jak rs[i].bs _ u hvb Yhn) ?_;rintro v2 u2 ⟨hB,hf2⟩;obtain⟨aop,cp,rfl⟩:=hB.1.slice;have hA:=(show PO w 128 u2 _ _ from⟨hA.1.tr0 hf2,hA.2⟩);have hsz:=Jjz hn hc (i:=i);have hpl:=QI (l:=rs[i].bs);have hF2:=hF.Jb hf2;refine rx ?_;refine Jh 7 [3,6] (σ:=Nat×Value) (fun t g z=>g 6=iV (t.1:Nat)/\g 3=t.2/\t.1<=(JM ltP (Jy rs[i].bs)).length/\PO w 128 z (JM ltP ((rs.take i).flatMap (fun r=>Jy r.bs)++(JM ltP (Jy rs[i].bs)).take t.1)) t.2/\Fr [] u2 z) (fun t=>(JM ltP (Jy rs[i].bs)).length-t.1) (0,va) ⟨rfl,rfl,Nat.zero_le _,by simpa using hA,Fr.refl _ _⟩ ?_;rintro⟨k,vk⟩ g' z ⟨g6,g3',hk,hA',hFz⟩;simp only at g6 g3' hk hA';rw[Ja g6,Ja g3'];have hF3:=hF2.Jb hFz;by_cases hlk:k<(JM ltP (Jy rs[i].bs)).length
 case neg=>
  rw[show(JM ltP (Jy rs[i].bs)).take k=JM ltP (Jy rs[i].bs) from List.take_of_length_le Yhn,Jfj]at hA';refine rx ?_;refine Jc (i+1,vk) Yhl ⟨rfl,rfl,hlt,?_,hF3⟩ Yhw;simp only;rw[List.take_succ_eq_append_getElem hlt,List.flatMap_append];simpa using hA'
 obtain⟨adk,hadk,hck⟩:=JZ VK (hB.1.tr0 hFz).src hlk Yhy;subst hadk;refine rx ?_;have hss2:=KQ (lt:=ltP) (l:=(rs.take i).flatMap (fun r=>Jy r.bs)++(JM ltP (Jy rs[i].bs)).take k);have hss3:=KQ (lt:=ltP) (l:=Jy rs[i].bs);rw[List.length_append,List.length_take]at hss2;refine Jl (Jal _ (JM ltP (Jy rs[i].bs))[k] vk w z hA' hF3.size (QA Qy _) Yhn) ?_;rintro v3 z2 ⟨hA2,hf3⟩;refine rx ?_;refine Jc (k+1,v3) Yhl ⟨rfl,rfl,hlk,?_,hFz.Jb hf3⟩ Yhw;simp only;rw[Jen hlk];exact hA2
set_option maxHeartbeats 8000000 in
theorem Jfv{rs:List Rn}(w:World)(hQ:RcV w q P rs)(hn:rs.length<=1000)(hc:∀r∈rs,r.bs.length<=100)(hP:P.reach.length<=1000000)(hasc:Asc ltB P.reach):
 Calls prog 63 #[.pointer (some ⟨q,0,none⟩)] w fun e w'=>∃v,e=.returned v/\BO w 50 w' (Ur P (J6 P.ncls rs)) v/\Fr [] w w':=by
 have hQ0:=hQ;obtain⟨vr,vs,hb,hrr,hss⟩:=hQ;have h1r:=hrr.one;have h1s:=hss.one;obtain⟨aos,cs,rfl,_⟩:=hss.slice;have hlm:(rs.map rnC).length=rs.length:=List.length_map ..;rw[hlm]at hb hss h1s;obtain⟨aor,cr,rfl,_⟩:=hrr.slice;have hlr:(P.reach.map brC).length=P.reach.length:=List.length_map ..;rw[hlr]at hb hrr h1r;refine enter func63 rfl ntmps63 rfl ?_;refine rx ?_;refine Jl (WQ w hQ0 hn Ylt) ?_;rintro v1 w1 ⟨hB,hf1⟩;have hb:=hb.tr0 hf1;refine rx ?_;refine Jl (JaN P.reach _ w1 (hrr.tr0 hf1) hP) ?_;rintro v2 w2 ⟨hR,hf2⟩;rw[BP Qu hasc (fun y=>Iff.rfl)]at hR;obtain⟨K,hK⟩:=exq (JM ltB (rs.flatMap (·.bs)));rw[<-hK]at hB;have hcnt:∀b,decide ((J6 P.ncls rs).cnt b=0)= !decide (b∈K):=fun b=>by
  have:=Nv (n:=P.ncls) (rs:=rs) (b:=b);have e:(J6 P.ncls rs).ks=K:=hK.symm;rw[e]at this;by_cases h:b∈K
  .simp only[h,decide_true,Bool.not_true];exact decide_eq_false (this.2 h)
  .simp only[h,decide_false,Bool.not_false];exact decide_eq_true (Classical.byContradiction fun hn=>h (this.1 hn))
 have hKl:K.length<=1000000:=by
  have h1:=KQ (lt:=ltB) (l:=rs.flatMap (·.bs));have h2:=JhZ (i:=rs.length) hn Ylt;rw[List.take_length]at h2;rw[<-hK]at h1;omega
 have hF2:=hf1.Jb hf2;have hB2:=hB.1.tr0 hf2;obtain⟨aok,ck,rfl⟩:=hB.1.slice;obtain⟨aos2,cs2,rfl⟩:=hR.1.slice;clear hB;refine rx ?_;refine Jh 8 [5,6,7] (σ:=Nat×Value) (fun t g u=>g 6=iV (t.1:Nat)/\g 5=t.2/\t.1<=P.reach.length/\BO w2 50 u ((P.reach.take t.1).filter (fun b=>decide ((J6 P.ncls rs).cnt b=0))) t.2/\Fr [] w2 u) (fun t=>P.reach.length-t.1) (0,zS) ⟨rfl,rfl,Nat.zero_le _,BO.nil,Fr.refl _ _⟩ ?_;rintro⟨i,va⟩ g u ⟨g6,g5,hi,hA,hF⟩;simp only at g6 g5 hi hA;rw[Ja g6,Ja g5];have hFw:=hF2.Jb hF;by_cases hlt:i<P.reach.length
 case neg=>
  rw[List.take_of_length_le Yhn]at hA;refine Yeo ?_;exact⟨va,rfl,⟨hA.1,fun x hx=>by have:=hA.2 x hx;have:=hF2.size;omega⟩,hFw⟩
 obtain⟨adk,hadk,hck⟩:=JZ QN (hR.1.tr0 hF).src hlt Yhy;subst hadk;have hck:Cells u (adk.add (i*3)) [.string P.reach[i].decl,iV P.reach[i].at_,iV P.reach[i].arm]:=hck;refine rx ?_;refine Jg (Jdc K P.reach[i] _ u (S:=[]) (ZO (hB2.tr0 hF) Yhn Yhs)) ?_;rintro u2 hf3;have hst:=Zr (p:=fun b=>decide ((J6 P.ncls rs).cnt b=0)) hlt;have hci:=hcnt P.reach[i];have hfw3:=hF.Jb hf3;by_cases he:P.reach[i]∈K
 .rw [decide_eq_true he]at hci ⊢;refine rx ?_;refine Jc (i+1,va) Yhl ⟨rfl,rfl,hlt,?_,hfw3⟩ Yhw;simp only;rw[hst,hci];simpa using(show BO w2 _ u2 _ _ from⟨hA.1.tr0 hf3,hA.2⟩)
 .rw [decide_eq_false he]at hci ⊢;have hA1:=hA.1.one;have hAl:=hA.1.lt;have hck:=hck.tr0 hf3;have hfl:=List.length_filter_le (fun b=>decide ((J6 P.ncls rs).cnt b=0)) (P.reach.take i);rw[List.length_take]at hfl;obtain⟨aov,cv,rfl⟩:=hA.1.slice;refine rx ?_;refine JQ (c1:=brV P.reach[i]) rfl rfl rfl (fun z2 q2 hq2 ho2 hfz2 hsz2=>?_);refine rx ?_;refine JC (hA.1.tr0 (hf3.Jb hfz2)) rfl ho2.src rfl rfl (QD _) Yhv Yhn (fun v3 z3 ho3 hfz3 hk3 _=>?_);have hsu:=hF.size;have hs3:=hf3.size;refine rx ?_;refine Jc (i+1,v3) Yhl ⟨rfl,rfl,hlt,⟨?_,fun x hx=>?_⟩,(hfw3.Jb hfz2).trans hfz3 (fun x hx=>.inr (hA.2 x hx))⟩ Yhw
  .simp only;rw[hst,hci];simp only[Bool.not_false,if_true,List.flatMap_append,List.length_append,List.flatMap_cons,List.flatMap_nil,List.append_nil,List.length_cons,List.length_nil];exact ho3
  .rcases hk3 x hx with h|h
   .exact hA.2 x h
   .omega
set_option maxHeartbeats 16000000 in
theorem Jev{rs:List Rn}(r:Rn)(vb vl:Value)(w:World){S:List Nat}(hQ:RcV w q P rs)(hbr:DR w S (.l (r.bs.map brC)) vb)(hl:DR w S (.l (r.cl.map KI)) vl)(hn:rs.length<=1000)(hc:∀r∈rs,r.bs.length<=100/\r.cl.length<=1000000)(hrb:r.bs.length<=1000):
 Calls prog 21 #[.pointer (some ⟨q,0,none⟩),.agg ([iV r.kind,iV r.at_,iV r.code,vb,vl]:List Value).toArray] w fun e w'=>e=.returned (.bool (Qd P r&&VB (J6 P.ncls rs) r))/\Fr [] w w':=by
 have h1b:=hbr.one;have h1l:=hl.one;obtain⟨aob,cb,rfl,_⟩:=hbr.slice;obtain⟨aol,cl,rfl,_⟩:=hl.slice;have hlb:(r.bs.map brC).length=r.bs.length:=List.length_map ..;have hll:(r.cl.map KI).length=r.cl.length:=List.length_map ..;have hlbd:=hl.bound;rw[hlb]at hbr h1b ⊢;rw[hll]at hl h1l hlbd ⊢;refine enter func21 rfl ntmps21 rfl ?_;refine rx ?_;refine Ju (l:=[iV r.kind,iV r.at_,iV r.code,.slice aob r.bs.length cb,.slice aol r.cl.length cl]) rfl rfl (fun w1 b3 hb3 h3 hf1 hs1=>?_);refine rx ?_;refine Jg (JbL r (.slice aob r.bs.length cb) (.slice aol r.cl.length cl) w1 (hQ.tr0 hf1) (hl.tr0 hf1) h1b) ?_;rintro w2 hf2;have h3:=h3.tr0 hf2;have hF2:=hf1.Jb hf2;cases hfit:Qd P r with
 |false=>
  refine Yeo ?_;exact⟨rfl,hF2⟩
 |true=>?_
 have hcok:WB P.ncls r.cl=true:=by unfold Qd at hfit;rw[Bool.and_eq_true]at hfit;exact hfit.2
 rw[Jhw hcok,Bool.true_and];refine rx ?_;refine Jl (WQ w2 (hQ.tr0 hF2) hn Ylt) ?_;rintro v3 w3 ⟨hB,hf3⟩;have h3:=h3.tr0 hf3;have hF3:=hF2.Jb hf3;have hKl:(JM ltB (rs.flatMap (·.bs))).length<=1000000:=by
  have h1:=KQ (lt:=ltB) (l:=rs.flatMap (·.bs));have h2:=JhZ (i:=rs.length) hn Ylt;rw[List.take_length]at h2;omega
 obtain⟨K,hK⟩:=exq (JM ltB (rs.flatMap (·.bs)));rw[<-hK]at hB hKl ⊢;obtain⟨aok,ck,rfl⟩:=hB.1.slice;refine rx ?_;refine Jh 13 [7,8] (σ:=Nat) (fun i g u=>g 7=iV (i:Nat)/\i<=r.bs.length/\(∀j (hj:j<r.bs.length),j<i->decide (r.bs[j]∉K)=false)/\Fr [] w3 u) (fun i=>r.bs.length-i) 0 ⟨rfl,Nat.zero_le _,fun j hj h=>by omega,Fr.refl _ _⟩ ?_;rintro i g u ⟨g7,hi,hpre,hF⟩;rw[Ja g7];have hFu:=hF3.Jb hF;have h3:=h3.tr0 hF;by_cases hlt:i<r.bs.length
 .obtain ⟨adk,hadk,hck⟩:=(hbr.tr0 hFu).br hlt;subst hadk;have hck:Cells u (adk.add (i*3)) [.string r.bs[i].decl,iV r.bs[i].at_,iV r.bs[i].arm]:=hck;refine rx ?_;refine Jg (Jdc K r.bs[i] _ u (S:=[]) (ZO (hB.1.tr0 hF) Yhn Yhs)) ?_;rintro u2 hf4;by_cases he:r.bs[i]∈K
  .rw [decide_eq_true he];refine rx ?_;refine Jc (i+1) Yhl ⟨rfl,hlt,fun k hk h=>?_,hF.Jb hf4⟩ Yhn;by_cases e:k=i
   .subst e;exact decide_eq_false (fun h=>h he)
   .exact hpre k hk Yhn
  .rw [decide_eq_false he];refine Yeo ?_;refine⟨?_,hFu.Jb hf4⟩;rw[ZW hlt (decide_eq_true he)];rfl
 have hb0:r.bs.any (fun b=>decide (b∉K))=false:=LQ (fun j hj=>hpre j hj Yhn);rw[hb0,Bool.false_or];clear hpre;refine rx ?_;clear hlt;refine Jh 13 [9] (σ:=Nat) (fun i g u'=>g 9=iV (i:Nat)/\i<=r.cl.length/\(∀j (hj:j<r.cl.length),j<i->decide (rs.countP (fun r'=>decide (r.cl[j]∈r'.cl))=0)=false)/\Fr [] u u') (fun i=>r.cl.length-i) 0 ⟨rfl,Nat.zero_le _,fun j hj h=>by omega,Fr.refl _ _⟩ ?_;rintro k g u1 ⟨g9,hk,hpre,hF1⟩;rw[Ja g9];have hFu1:=hFu.Jb hF1;have h3:=h3.tr0 hF1;by_cases hlt:k<r.cl.length
 .obtain ⟨adl,hadl,hcell⟩:=KO (VP (hl.tr0 hFu1)) (WS hlt);subst hadl;have hcn:=List.countP_le_length (p:=fun r'=>decide (r.cl[k]∈r'.cl)) (l:=rs);refine Yfm ?_;refine rx ?_;refine Jg (G9 r.cl[k] u1 (hQ.tr0 hFu1) Yhn (fun r hr=>(hc r hr).2)) ?_;rintro u2 hf4;by_cases hz:rs.countP (fun r'=>decide (r.cl[k]∈r'.cl))=0
  .refine rx ?_;refine Yfw ?_;refine⟨?_,hFu1.Jb hf4⟩;rw[ZW hlt (decide_eq_true hz)];rfl
  .refine rx ?_;refine Jc (k+1) Yhl ⟨rfl,hlt,fun j hj h=>?_,hF1.Jb hf4⟩ Yhn;by_cases e:j=k
   .subst e;exact decide_eq_false hz
   .exact hpre j hj Yhn
 have hc0:r.cl.any (fun k=>decide (rs.countP (fun r'=>decide (k∈r'.cl))=0))=false:=LQ (fun j hj=>hpre j hj Yhn);rw[hc0,Bool.false_or];clear hpre;refine rx ?_;clear hlt;refine Jl (X9 u1 (hQ.tr0 hFu1) hn (fun r hr=>(hc r hr).1)) ?_;rintro v4 u2 ⟨hA,hf4⟩;have hF4:=hFu1.Jb hf4;have h3:=h3.tr0 hf4;have hAl:(JM ltP (rs.flatMap (fun r=>Jy r.bs))).length<=1000000:=by
  have h1:=KQ (lt:=ltP) (l:=rs.flatMap (fun r=>Jy r.bs));have h2:=Jjz (i:=rs.length) hn (fun r hr=>(hc r hr).1);rw[List.take_length]at h2;omega
 have hAa:=QA Qy (rs.flatMap (fun r=>Jy r.bs));obtain⟨A,hAe⟩:=exq (JM ltP (rs.flatMap (fun r=>Jy r.bs)));rw[<-hAe]at hA hAl hAa ⊢;refine rx ?_;refine Jl (Jak r.bs _ u2 (hbr.tr0 hF4) Yhn) ?_;rintro v5 u3 ⟨hB2,hf5⟩;have hF5:=hF4.Jb hf5;have hA:=(show PO u1 128 u3 _ _ from⟨hA.1.tr0 hf5,hA.2⟩);have hs15:=(hf4.Jb hf5).size;have hpl:=KQ (lt:=ltP) (l:=Jy r.bs);have hpl2:=QI (l:=r.bs);obtain⟨N,hN⟩:=exq (JM ltP (Jy r.bs));rw[<-hN]at hB2 hpl ⊢;obtain⟨aoA,cA,rfl⟩:=hA.1.slice;obtain⟨aoN,cN,rfl⟩:=hB2.1.slice;refine rx ?_;refine Jh 13 [12] (σ:=Nat) (fun i g u'=>g 12=iV (i:Nat)/\i<=N.length/\(∀j (hj:j<N.length),j<i->decide (N[j]∉A)=false)/\Fr [] u3 u') (fun i=>N.length-i) 0 ⟨rfl,Nat.zero_le _,fun j hj h=>by omega,Fr.refl _ _⟩ ?_;rintro m g u4 ⟨g12,hm,hpre,hF6⟩;rw[Ja g12];have hFu6:=hF5.Jb hF6;by_cases hlt:m<N.length
 case neg=>
  have hn0:N.any (fun p=>decide (p∉A))=false:=LQ (fun j hj=>hpre j hj Yhn);rw[hn0];refine Yeo ?_;exact⟨rfl,hFu6⟩
 obtain⟨adn,hadn,hcn⟩:=JZ VK (hB2.1.tr0 hF6).src hlt Yhy;subst hadn;refine rx ?_;refine Jl (Jal A N[m] _ u1 u4 ⟨hA.1.tr0 hF6,hA.2⟩ (by have:=hF6.size;omega) hAa hAl) ?_;rintro v6 u5 ⟨hI,hf6⟩;have hpi:=Jhc (p:=N[m]) hAa;have hil:=Ja5 (lt:=ltP) (x:=N[m]) (l:=A);obtain⟨aoI,cI,rfl⟩:=hI.1.slice;by_cases he:N[m]∈A
 .have hle:¬A.length<(insL ltP N[m] A).length:=fun h=>hpi.1 h he
  refine rx ?_;refine Jc (m+1) Yhl ⟨rfl,hlt,fun j hj h=>?_,hF6.Jb hf6⟩ Yhn;by_cases e:j=m
  .subst e;exact decide_eq_false (fun h=>h he)
  .exact hpre j hj Yhn
 .have hle:=hpi.2 he;refine Yeo ?_;refine⟨?_,hFu6.Jb hf6⟩;rw[ZW hlt (decide_eq_true he)]
theorem Out.UW{v:Value}{bs:List Int}(h:Out w w1 v bs)(hf:Fr [] w1 u):Out w u v bs:=⟨h.1.tr0 hf,h.2.1.Jb hf,h.2.2⟩
theorem Out.Jj1{w2:World}{v:Value}{bs:List Int}(hf:Fr [] w w1)(h:Out w1 w2 v bs):Out w w2 v bs:=⟨h.1,hf.Jb h.2.1,fun k hk=>Nat.le_trans hf.size (h.2.2 k hk)⟩
theorem ZE{P:Program}{ops:Array Oper}{ty:TypeId}[Rr:RowT P t 5 1 by_]{v:Value}{bs:List Int}(ho:Out w0 w v bs)(hs:ev n f s=v)(hsrc:Src w xv cs.length (cs.map (.int .u8)))(hx:ev n f x=xv)(hl:bs.length+cs.length<=10000000000)(hby:by_<=1)
 (h:∀v' w',Out w0 w' v' (bs++cs)->Fr (blks v) w w'->wpList P ops Q rest (A n (upd f d v')) w'):
 wpList P ops Q (⟨some d,.call {callee:=.builtin .append,args:=#[s,x],argTypes:=#[t,t]},ty,ps,af,none⟩::rest) (A n f) w:=by
 have hb:(bs.length+cs.length)*by_<=(bs.length+cs.length)*1:=Nat.mul_le_mul_left _ hby
 refine JC ho.1 hs hsrc hx Yhs (Zp _ _) Yhv Yhn (fun v' w' ho' hf' hk' _=>h v' w' (ho.app (Fr.refl _ _) ho' hf' hk') hf')
def BK(T:List Nat)(u0 u:World)(v:Value)(bs:List Int):Prop:=Own u 5 1 v bs.length (bs.map (.int .u8))/\Fr T u0 u/\∀k∈blks v,k∈T\/u0.heap.size<=k
theorem BK.of{v:Value}{bs:List Int}(h:Out w u v bs):BK (blks v) u u v bs:=⟨h.1,Fr.refl _ _,fun k hk=>.inl hk⟩
theorem BK.fin{va v:Value}{bs:List Int}(h0:Out w u0 va cs)(h:BK (blks va) u0 u v bs):Out w u v bs:=
 ⟨h.1,h0.2.1.trans h.2.1 (fun x hx=>.inr (h0.2.2 x hx)),fun k hk=>(h.2.2 k hk).elim (h0.2.2 k) (fun h=>Nat.le_trans h0.2.1.size h)⟩
theorem BK.old{z:World}{v:Value}{bs:List Int}(h:BK T u0 u v bs)(hf:Fr [] u z):BK T u0 z v bs:=⟨h.1.tr0 hf,h.2.1.Jb hf,h.2.2⟩
theorem ZC{P:Program}{ops:Array Oper}{ty:TypeId}[Rr:RowT P t 5 1 by_]{v:Value}{bs:List Int}(ho:BK T w0 w v bs)(hs:ev n f s=v)(hsrc:Src w xv cs.length (cs.map (.int .u8)))(hx:ev n f x=xv)(hl:bs.length+cs.length<=10000000000)(hby:by_<=1)
 (h:∀v' w',BK T w0 w' v' (bs++cs)->wpList P ops Q rest (A n (upd f d v')) w'):
 wpList P ops Q (⟨some d,.call {callee:=.builtin .append,args:=#[s,x],argTypes:=#[t,t]},ty,ps,af,none⟩::rest) (A n f) w:=by
 have hb:(bs.length+cs.length)*by_<=(bs.length+cs.length)*1:=Nat.mul_le_mul_left _ hby
 refine JC ho.1 hs hsrc hx Yhs (Zp _ _) Yhv Yhn (fun v' w' ho' hf' hk' _=>h v' w' ⟨?_,ho.2.1.trans hf' (fun x hx=>ho.2.2 x hx),fun k hk=>?_⟩)
 .rw [List.length_append,List.map_append];exact ho'
 .rcases hk' k hk with h|h
  .exact ho.2.2 k h
  .exact .inr (Nat.le_trans ho.2.1.size h)
theorem JeX(b:Br)(w:World)(hb:BrE b):
 Calls prog 107 #[.agg (brV b).toArray] w fun e w'=>∃v',e=.returned v'/\Out w w' v' (brE b):=by
 have hd:=hb.1;have hsl:=Xx b.decl;have hul:=Xw (sb b.decl).length Yhn;refine enter func107 rfl ntmps107 rfl ?_;refine rx ?_;refine Ju (l:=brV b) rfl rfl (fun w1 b1 hb1 h1 hf1 hs1=>?_);replace h1:Blk w1 b1 [.string b.decl,iV b.at_,iV b.arm] _:=h1;refine rx ?_;refine Jad rfl (fun c w2 hc hsrc hf2=>?_);have hcs:b.decl.data.toList.map (fun c=>Value.int .u8 (c.toNat:Int))=(sb b.decl).map (.int .u8):=by simp[sb]
 refine Jl (Jfu _ (sb b.decl) w2 (by rw[Xx,<-hcs];exact hsrc) Yhn) ?_;rintro v3 w3 hO;have hfr:=hO.2.1;have hb1w:b1<w2.heap.size:=by have:=hf2.size;omega
 have hnb:b1∉blks v3:=fun hm=>by have:=hO.2.2 b1 hm;omega
 have hO:=hO.Jj1 (hf1.Jb hf2);have h1:=h1.tr0 hf2;have h1:=h1.tr0 hfr;refine rx ?_;refine Jl (XO b.at_ w3 hb.2.1) ?_;rintro r4 m4 hR4;have hl4:=VA hb.2.1.1 hb.2.1.2;refine ZE (hO.UW hR4.2.1) rfl hR4.1.src rfl Yls Yhy (fun v4 w4 hO4 hg4=>?_);have hF4:=hR4.2.1;have h1:=(h1.tr0 hF4).tr hg4 hnb;refine rx ?_;refine Jl (XO b.arm w4 hb.2.2) ?_;rintro r5 m5 hR5;have hl5:=VA hb.2.2.1 hb.2.2.2;refine ZE (hO4.UW hR5.2.1) rfl hR5.1.src rfl Yls Yhy (fun v5 w5 hO5 hg5=>?_);have hF5:=hR5.2.1;refine Yeo ?_;exact⟨_,rfl,by simpa only[brE,List.append_assoc]using hO5⟩
set_option maxHeartbeats 32000000 in
theorem Jg6{rs:List Rn}(w:World)(hQ:RcV w q P rs)(hn:rs.length<=1000)(hc:∀r∈rs,r.bs.length<=100/\r.cl.length<=1000000)(hpr:P.prop.size<=1000000)(hnc:P.ncls<=1000000)(hbr:∀b∈(J6 P.ncls rs).ks,BrE b)(hL:(U0 P.prop (J6 P.ncls rs)).length<=1000000000):
 Calls prog 64 #[.pointer (some ⟨q,0,none⟩)] w fun e w'=>∃v,e=.returned v/\Out w w' v (U0 P.prop (J6 P.ncls rs)):=by
 have hclen:(J6 P.ncls rs).cls.length=P.ncls:=by simp[J6]
 have hcle:∀p:Rn->Bool,rs.countP p<=rs.length:=fun p=>List.countP_le_length
 have hbs:=JhZ (i:=rs.length) hn Ylt;have hps:=Jjz (i:=rs.length) hn (fun r hr=>(hc r hr).1);rw[List.take_length]at hbs hps;have hks:(J6 P.ncls rs).ks.length<=1000000:=Nat.le_trans (KQ (lt:=ltB)) hbs;have hpl:(J6 P.ncls rs).ps.length<=1000000:=Nat.le_trans (KQ (lt:=ltP)) Yhn;have hkk:∀p∈(J6 P.ncls rs).ps,p.1∈(J6 P.ncls rs).ks/\p.2∈(J6 P.ncls rs).ks:=fun p hp=>by
  simp only[J6,KF Qu,KF Qy,List.mem_flatMap]at hp ⊢;obtain⟨r,hr,hp⟩:=hp;exact⟨⟨r,hr,(QS hp).1⟩,⟨r,hr,(QS hp).2⟩⟩
 obtain⟨s,hs⟩:=exq (J6 P.ncls rs);have hso:∀k:Nat,s.o k=rs.countP (fun r=>decide (r.kind=(k:Int))):=fun k=>by rw[hs];rfl
 have hsr:s.runs=rs.length:=by rw[hs];rfl
 have hsc:∀i (h:i<s.cls.length),s.cls[i]=rs.countP (fun r=>decide ((i:Int)∈r.cl)):=fun i h=>by subst hs;simp[J6]
 have hsk:JM ltB (rs.flatMap (·.bs))=s.ks:=by rw[hs];rfl
 have hsp:JM ltP (rs.flatMap (fun r=>Jy r.bs))=s.ps:=by rw[hs];rfl
 have hst:∀b,s.cnt b=rs.countP (fun r=>decide (b∈r.bs)):=fun b=>by rw[hs];rfl
 rw[<-hs]at hclen hbr hL hks hpl hkk ⊢;clear hs;have hsl:=Xx P.prop;have hul:=Xw (sb P.prop).length Yhn;simp only[U0,List.length_append]at hL;have hQ0:=hQ;obtain⟨vr,vs,hb,hrr,hss⟩:=hQ;have h1r:=hrr.one;have h1s:=hss.one;obtain⟨aos,cs,rfl,_⟩:=hss.slice;have hlm:(rs.map rnC).length=rs.length:=List.length_map ..;rw[hlm]at hb hss h1s;have hFq:∀{u:World},Fr [] w u->Blk u q [.string P.prop,iV (P.checks:Nat),iV (P.ncls:Nat),vr,.slice aos rs.length cs] _:=fun hf=>hb.tr0 hf
 have hc1:∀r∈rs,r.bs.length<=1000:=fun r hr=>by have:=hc r hr;omega
 refine enter func64 rfl ntmps64 rfl ?_;refine rx ?_;refine Jad rfl (fun c w2 hcc hsrc hf2=>?_);have hcs:P.prop.data.toList.map (fun c=>Value.int .u8 (c.toNat:Int))=(sb P.prop).map (.int .u8):=by simp[sb]
 refine Jl (Jfu _ (sb P.prop) w2 (by rw[Xx,<-hcs];exact hsrc) Yhn) ?_;rintro v3 w3 hO;have hO:=hO.Jj1 hf2;have hbu:=hb.tr0 hO.2.1;refine rx ?_;refine Jl (XO rs.length w3 (KJ (show rs.length<=1000000000 by omega))) ?_;rintro r4 m4 hR4;have hl4:=VA (KJ (show rs.length<=1000000000 by omega)).1 (KJ (show rs.length<=1000000000 by omega)).2;refine ZE (hO.UW hR4.2.1) rfl hR4.1.src rfl Yls Yhy (fun v4 w4 hO4 hg4=>?_);have hF4:=hR4.2.1;rw[<-hsr]at hO4 hl4;refine rx ?_;refine Jh 10 [3,4] (σ:=Nat×Value) (fun t g u=>g 4=iV (t.1:Nat)/\g 3=t.2/\t.1<=3/\Out w u t.2 (raw (sb P.prop)++iv s.runs++([s.o 0,s.o 1,s.o 2].take t.1).flatMap (fun n=>iv (n:Nat)))) (fun t=>3-t.1) (0,v4) ⟨rfl,rfl,Nat.zero_le _,by simpa using hO4⟩ ?_;rintro⟨i,va⟩ g u ⟨g4,g3,hi,hO⟩;simp only at g4 g3 hi hO;rw[Ja g4,Ja g3];have hbt:=XR (fun(n:Nat)=>iv (n:Nat)) [s.o 0,s.o 1,s.o 2] i;rw[show([s.o 0,s.o 1,s.o 2].flatMap (fun(n:Nat)=>iv (n:Nat))).length=(iv (s.o 0)).length+((iv (s.o 1)).length+(iv (s.o 2)).length) by simp]at hbt;by_cases hlt:i<3
 case pos=>
  have hoi:[s.o 0,s.o 1,s.o 2][i]=rs.countP (fun r=>decide (r.kind=(i:Int))):=by
   match i,hlt with
   |0,_=>exact hso 0
   |1,_=>exact hso 1
   |2,_=>exact hso 2
  have hci:=hcle (fun r=>decide (r.kind=(i:Int)));refine rx ?_;refine Jg (JdE (i:Int) u (hQ0.tr0 hO.2.1) Yhn) ?_;rintro u2 hf5;rw[<-hoi];have hin:VE (([s.o 0,s.o 1,s.o 2][i]:Nat):Int):=KJ Yhn;have hO:=hO.UW hf5;refine rx ?_;refine Jl (XO _ u2 hin) ?_;rintro r6 m6 hR6;have hl6:=VA hin.1 hin.2;refine ZE (hO.UW hR6.2.1) rfl hR6.1.src rfl Yim Yhy (fun v6 w6 hO6 hg6=>?_);have hF6:=hR6.2.1;refine rx ?_;refine Jc (i+1,v6) Yhl ⟨rfl,rfl,hlt,?_⟩ Yhw;simp only;rw[Wy _ hlt,<-List.append_assoc];exact hO6
 rw[List.take_of_length_le Yht,show[s.o 0,s.o 1,s.o 2].flatMap (fun n=>iv (n:Nat))=iv (s.o 0)++(iv (s.o 1)++iv (s.o 2)) by simp,<-List.append_assoc,<-List.append_assoc]at hO;have hbu:=hb.tr0 hO.2.1;clear hbt hi hO4;refine rx ?_;refine Jl (XO P.ncls u (KJ (show P.ncls<=1000000000 by omega))) ?_;rintro r7 m7 hR7;have hl7:=VA (KJ (show P.ncls<=1000000000 by omega)).1 (KJ (show P.ncls<=1000000000 by omega)).2;refine ZE (hO.UW hR7.2.1) rfl hR7.1.src rfl (by simp only[raw,List.length_append];rw[hclen]at hL;omega) Yhy (fun v7 w7 hO7 hg7=>?_);have hF7:=hR7.2.1;rw[<-hclen]at hO7;obtain⟨B,hB⟩:=exq (raw (sb P.prop)++iv s.runs++iv (s.o 0)++iv (s.o 1)++iv (s.o 2)++iv s.cls.length);have hBL:B.length+(s.cls.flatMap (fun n=>iv (n:Nat))).length+(iv (s.ks.length:Nat)).length+(s.ks.flatMap (fun b=>brE b++iv (s.cnt b))).length+(iv (s.ps.length:Nat)).length+(s.ps.flatMap (fun p=>brE p.1++brE p.2)).length<=1000000000:=by rw[hB];simp only[List.length_append];omega
 rw[<-hB]at hO7;have hBd:=hB;clear hB hL;refine rx ?_;refine Jh 10 [3,5] (σ:=Nat×Value) (fun t g u=>g 5=iV (t.1:Nat)/\g 3=t.2/\t.1<=s.cls.length/\Out w u t.2 (B++(s.cls.take t.1).flatMap (fun n=>iv (n:Nat)))) (fun t=>s.cls.length-t.1) (0,v7) ⟨rfl,rfl,Nat.zero_le _,by simpa using hO7⟩ ?_;clear hO hO7;rintro⟨i,va⟩ g u ⟨g5,g3,hi,hO⟩;simp only at g5 g3 hi hO;rw[Ja g5,Ja g3];have hbt:=XR (fun(n:Nat)=>iv (n:Nat)) s.cls i;have hbu:=hb.tr0 hO.2.1;by_cases hlt:i<s.cls.length
 case pos=>
  have hci:=hcle (fun r=>decide ((i:Int)∈r.cl));refine rx ?_;refine Jg (G9 (i:Int) u (hQ0.tr0 hO.2.1) Yhn (fun r hr=>(hc r hr).2)) ?_;rintro u2 hf5;rw[<-hsc i hlt]at hci ⊢;have hin:VE ((s.cls[i]:Nat):Int):=KJ Yhn;have hO:=hO.UW hf5;refine rx ?_;refine Jl (XO _ u2 hin) ?_;rintro r6 m6 hR6;have hl6:=VA hin.1 hin.2;refine ZE (hO.UW hR6.2.1) rfl hR6.1.src rfl Yim Yhy (fun v6 w6 hO6 hg6=>?_);have hF6:=hR6.2.1;refine rx ?_;refine Jc (i+1,v6) Yhl ⟨rfl,rfl,hlt,?_⟩ Yhw;simp only;rw[Wy _ hlt,<-List.append_assoc];exact hO6
 rw[List.take_of_length_le Yhn]at hO;clear hbt hi;refine rx ?_;refine Jl (WQ u (hQ0.tr0 hO.2.1) hn hc1) ?_;rintro vb u2 ⟨hBr,hf5⟩;rw[hsk]at hBr;obtain⟨aob,cb,rfl⟩:=hBr.1.slice;have hval:∀x∈blks va,x<u.heap.size:=hO.1.lt;have hsu2:=hf5.size;have hO:=hO.UW hf5;have hG:=BK.of hO;have hbv:∀x∈blks (Value.slice aob s.ks.length cb),x∉blks va:=fun x hx hm=>by
  have h1:=hBr.2 x hx;have h2:=hval x hm;omega
 have hqv:∀{z:World},Fr (blks va) u2 z->Fr [] w z:=fun hf=>hO.2.1.trans hf (fun x hx=>.inr (hO.2.2 x hx))
 refine rx ?_;refine Jl (XO s.ks.length u2 (KJ (show s.ks.length<=1000000000 by omega))) ?_;rintro r8 m8 hR8;have hl8:=VA (KJ (show s.ks.length<=1000000000 by omega)).1 (KJ (show s.ks.length<=1000000000 by omega)).2;refine ZC (hG.old hR8.2.1) rfl hR8.1.src rfl Yim Yhy (fun v8 w8 hO8=>?_);obtain⟨B2,hB2⟩:=exq (B++s.cls.flatMap (fun n=>iv (n:Nat))++iv s.ks.length);have hBL2:B2.length+(s.ks.flatMap (fun b=>brE b++iv (s.cnt b))).length+(iv (s.ps.length:Nat)).length+(s.ps.flatMap (fun p=>brE p.1++brE p.2)).length<=1000000000:=by rw[hB2];simp only[List.length_append];omega
 rw[<-hB2]at hO8;refine rx ?_;refine Jh 10 [3,7] (σ:=Nat×Value) (fun t g z=>g 7=iV (t.1:Nat)/\g 3=t.2/\t.1<=s.ks.length/\BK (blks va) u2 z t.2 (B2++(s.ks.take t.1).flatMap (fun b=>brE b++iv (s.cnt b)))) (fun t=>s.ks.length-t.1) (0,v8) ⟨rfl,rfl,Nat.zero_le _,by simpa using hO8⟩ ?_;clear hO8 hG;rintro⟨i,vx⟩ g z ⟨g7,g3',hi,hZ⟩;simp only at g7 g3' hi hZ;rw[Ja g7,Ja g3'];have hbt:=XR (fun b=>brE b++iv (s.cnt b)) s.ks i;have hFz:=hZ.2.1;by_cases hlt:i<s.ks.length
 case pos=>
  obtain⟨adk,hadk,hck⟩:=JZ QN (hBr.1.tr hFz hbv).src hlt Yhy;subst hadk;have hck:Cells z (adk.add (i*3)) [.string s.ks[i].decl,iV s.ks[i].at_,iV s.ks[i].arm]:=hck;have hbB5:=hbr _ (List.getElem_mem hlt);have hbl:=GZ _ hbB5;have hci:=hcle (fun r=>decide (s.ks[i]∈r.bs));rw[<-hst]at hci;refine rx ?_;refine Jl (JeX s.ks[i] z hbB5) ?_;rintro r5 m5 hR5;refine ZC (hZ.old hR5.2.1) rfl hR5.1.src rfl Yim Yhy (fun v5 w5 hO5=>?_);obtain⟨adk2,hadk2,hck2⟩:=JZ QN (hBr.1.tr hO5.2.1 hbv).src hlt Yhy;obtain rfl:=Option.some.inj hadk2;have hck2:Cells w5 (adk.add (i*3)) [.string s.ks[i].decl,iV s.ks[i].at_,iV s.ks[i].arm]:=hck2;refine rx ?_;refine Jg (Jai s.ks[i] w5 (hQ0.tr0 (hqv hO5.2.1)) Yhn) ?_;rintro m7 hf7;rw[<-hst];have hin:VE ((s.cnt s.ks[i]:Nat):Int):=KJ Yhn;refine rx ?_;refine Jl (XO _ m7 hin) ?_;rintro r6 m6 hR6;have hl6:=VA hin.1 hin.2;refine ZC ((hO5.old hf7).old hR6.2.1) rfl hR6.1.src rfl Yim Yhy (fun v6 w6 hO6=>?_);refine rx ?_;refine Jc (i+1,v6) Yhl ⟨rfl,rfl,hlt,?_⟩ Yhw;simp only;rw[Wy _ hlt];simpa only[List.append_assoc]using hO6
 rw[List.take_of_length_le Yhn]at hZ;clear hbt hi;refine rx ?_;refine Jl (X9 z (hQ0.tr0 (hqv hFz)) hn (fun r hr=>(hc r hr).1)) ?_;rintro vp z2 ⟨hPr,hf8⟩;rw[hsp]at hPr;obtain⟨aop,cp,rfl⟩:=hPr.1.slice;have hxl:∀x∈blks vx,x<z.heap.size:=hZ.1.lt;have hsz2:=hf8.size;have hOz:Out w z2 vx _:=(BK.fin hO hZ).UW hf8;have hG:=BK.of hOz;have hpv:∀x∈blks (Value.slice aop s.ps.length cp),x∉blks vx:=fun x hx hm=>by
  have h1:=hPr.2 x hx;have h2:=hxl x hm;omega
 refine rx ?_;refine Jl (XO s.ps.length z2 (KJ (show s.ps.length<=1000000000 by omega))) ?_;rintro r9 m9 hR9;have hl9:=VA (KJ (show s.ps.length<=1000000000 by omega)).1 (KJ (show s.ps.length<=1000000000 by omega)).2;refine ZC (hG.old hR9.2.1) rfl hR9.1.src rfl Yim Yhy (fun v9 w9 hO9=>?_);obtain⟨B3,hB3⟩:=exq (B2++s.ks.flatMap (fun b=>brE b++iv (s.cnt b))++iv s.ps.length);have hBL3:B3.length+(s.ps.flatMap (fun p=>brE p.1++brE p.2)).length<=1000000000:=by rw[hB3];simp only[List.length_append];omega
 rw[<-hB3]at hO9;refine rx ?_;refine Jh 10 [3,9] (σ:=Nat×Value) (fun t g y=>g 9=iV (t.1:Nat)/\g 3=t.2/\t.1<=s.ps.length/\BK (blks vx) z2 y t.2 (B3++(s.ps.take t.1).flatMap (fun p=>brE p.1++brE p.2))) (fun t=>s.ps.length-t.1) (0,v9) ⟨rfl,rfl,Nat.zero_le _,by simpa using hO9⟩ ?_;clear hO9 hG;rintro⟨i,vy⟩ g y ⟨g9,g3'',hi,hY⟩;simp only at g9 g3'' hi hY;rw[Ja g9,Ja g3''];have hbt:=XR (fun(p:Pr)=>brE p.1++brE p.2) s.ps i;by_cases hlt:i<s.ps.length
 case neg=>
  rw[List.take_of_length_le Yhn]at hY;refine Yeo ?_;refine⟨_,rfl,?_⟩;have:=BK.fin hOz hY;rw[hB3,hB2,hBd]at this;exact this
 obtain⟨adk,hadk,hck⟩:=JZ VK (hPr.1.tr hY.2.1 hpv).src hlt Yhy;subst hadk;have hck:Cells y (adk.add (i*6)) [.string s.ps[i].1.decl,iV s.ps[i].1.at_,iV s.ps[i].1.arm,.string s.ps[i].2.decl,iV s.ps[i].2.at_,iV s.ps[i].2.arm]:=hck;have hpk:=hkk _ (List.getElem_mem hlt);have hbB5:=hbr _ hpk.1;have hbB6:=hbr _ hpk.2;have hbl:=GZ _ hbB5;have hbl2:=GZ _ hbB6;refine rx ?_;refine JR (V8 (j:=0) rfl rfl Yhy) ?_;refine rx ?_;refine Jl (JeX s.ps[i].1 y hbB5) ?_;rintro r5 m5 hR5;refine ZC (hY.old hR5.2.1) rfl hR5.1.src rfl Yim Yhy (fun v5 w5 hO5=>?_);obtain⟨adk2,hadk2,hck2⟩:=JZ VK (hPr.1.tr hO5.2.1 hpv).src hlt Yhy;obtain rfl:=Option.some.inj hadk2;have hck2:Cells w5 (adk.add (i*6)) [.string s.ps[i].1.decl,iV s.ps[i].1.at_,iV s.ps[i].1.arm,.string s.ps[i].2.decl,iV s.ps[i].2.at_,iV s.ps[i].2.arm]:=hck2;refine rx ?_;refine JR (V8 (j:=1) rfl rfl Yhy) ?_;refine rx ?_;refine Jl (JeX s.ps[i].2 w5 hbB6) ?_;rintro r6 m6 hR6;refine ZC (hO5.old hR6.2.1) rfl hR6.1.src rfl Yim Yhy (fun v6 w6 hO6=>?_);refine rx ?_;refine Jc (i+1,v6) Yhl ⟨rfl,rfl,hlt,?_⟩ Yhw;simp only;rw[Wy _ hlt];simpa only[List.append_assoc]using hO6
end Go.Proofs.YtggmccicdhnkgaaGreat
namespace Go.Rf
open Go.RowKit
variable{q:Nat}
theorem UN(v:Value):blks v=[]\/∃b,blks v=[b]:=by
 unfold blks;cases v.ownBlock with
 |none=>exact .inl rfl
 |some b=>exact .inr ⟨b,rfl⟩
theorem Ji5{v r:Value}(h1:q∉blks v)(h2:q∉blks r)(h3:∀x∈blks v,x∉blks r):(([q]++blks v)++blks r).Nodup:=by
 rcases UN v with e|⟨b,e⟩<;>rcases UN r with e'|⟨b',e'⟩<;>rw[e]at h1 h3<;>rw[e']at h2 h3<;>rw[e,e']<;>simp_all
theorem Ji6{v r:Value}(h:(([q]++blks v)++blks r).Nodup):q∉blks v/\q∉blks r/\∀x∈blks v,x∉blks r:=by
 simp only[List.cons_append,List.nil_append,List.nodup_cons,List.mem_append,not_or]at h;exact⟨h.1.1,h.1.2,fun x hx hm=>(List.nodup_append.1 h.2).2.2 x hx x hm rfl⟩
end Go.Rf
namespace Go.Proofs.YtggmccicdhnkgaaGreat
open Go.Proofs.Tryz
open Go.Rf Go.RowKit
variable{S:List Nat}{q:Nat}{P:Pp}
attribute [local irreducible] Code.wp wpList Exit.then Exit.inBlock bodyPost A Calls execOp Addr.add
set_option maxHeartbeats 8000000 in
theorem Jg8{N T:List Nat}{rs:List Rn}(r:Rn)(vb vl:Value)(w:World)(h:RcM w q N T S P rs)(hbr:DR w S (.l (r.bs.map brC)) vb)(hl:DR w S (.l (r.cl.map KI)) vl)(hn:rs.length<=1000)(hrl:P.reach.length<=1000000):
 Calls prog 22 #[.pointer (some ⟨q,0,none⟩),.agg ([iV r.kind,iV r.at_,iV r.code,vb,vl]:List Value).toArray] w fun e w'=>if Qd P r=true then e=.returned (zI)/\(∃N',RcM w' q N' T (S++N') P (rs++[r])/\∀x∈N',x∈N\/w.heap.size<=x)/\Fr N w w' else e=.returned (iV 1)/\Fr [] w w':=by
 have hQ:=h.v Yhn Yhn;obtain⟨vr,vs,xs,rfl,rfl,hnd,hMS,hb,hr,hs,hw⟩:=h;obtain⟨nd1,nd2,nd3⟩:=Ji6 hnd;have h1b:=hbr.one;have h1l:=hl.one;obtain⟨aob,cb,rfl,_⟩:=hbr.slice;obtain⟨aol,cl,rfl,_⟩:=hl.slice;have hlb:(r.bs.map brC).length=r.bs.length:=List.length_map ..;have hll:(r.cl.map KI).length=r.cl.length:=List.length_map ..;rw[hlb]at hbr h1b ⊢;rw[hll]at hl h1l ⊢;refine enter func22 rfl ntmps22 rfl ?_;refine rx ?_;refine Ju (l:=[iV r.kind,iV r.at_,iV r.code,.slice aob r.bs.length cb,.slice aol r.cl.length cl]) rfl rfl (fun w1 b3 hb3 h3 hf1 hs1=>?_);refine rx ?_;refine Jg (JbL r (.slice aob r.bs.length cb) (.slice aol r.cl.length cl) w1 (hQ.tr0 hf1) (hl.tr0 hf1) h1b) ?_;rintro w2 hf2;have h3:=h3.tr0 hf2;have hF2:=hf1.Jb hf2;cases hfit:Qd P r with
 |false=>
  refine Yeo ?_;rw[if_neg Yhs];exact⟨rfl,hF2⟩
 |true=>?_
 have hb2:=hb.tr0 hF2;have hs2:=hs.tr0 hF2;have hq:=hb.lt;have hvl:=hs.lt;obtain⟨aos,cs,rfl⟩:=hs.slice;have h1s:=hs.one;refine rx ?_;refine Kr 8 (fun z=>Fr (blks (Value.slice aos rs.length cs)) w2 z) Yhp rfl ?_;obtain⟨w3,hw3⟩:=exq w2.drew;rw[<-hw3];have hd3:Fr [] w2 w3:=hw3▸Fr.drew _ _;have hS:Fr (blks (Value.slice aos rs.length cs)) w2 w3:=hd3.mono Yhs;have n3:b3∉blks (Value.slice aos rs.length cs):=fun hm=>by have:=hvl b3 hm;omega
 ((refine Jp 0 hS ?_);(refine Jp 1 hS ?_);(refine Jp 2 hS ?_);(refine Jp 3 hS ?_))
 refine Jp 4 hS ?_ (hrun:=(by intro u hu;exact(J7 rfl (Blk.cell (hb2.tr hu nd1) rfl))));refine Jp 5 hS ?_ (hrun:=(by intro u hu;exact(Kv rfl (Cells.VO (h3.tr hu n3)) Yik)));refine Yln ?_;refine JQ (c1:=[iV r.kind,iV r.at_,iV r.code,.slice aob r.bs.length cb,.slice aol r.cl.length cl]) rfl rfl rfl (fun u4 q4 hq4 ho4 hf4 hs4=>?_);have hS4:=hS.Jb hf4;refine wpList_nil (Xz hS4 ?_);refine Ygm ?_;refine JC ((hs2.tr0 hd3).tr0 hf4) rfl ho4.src rfl rfl Yhu Yhv Yhn (fun v5 u5 ho5 hf7 hk7 _=>?_);have hS5:=hS4.trans hf7 (fun x hx=>.inl hx);have hv51:=ho5.one;have hs3:=hd3.size;have hs5:=hf7.size;have hsF2:=hF2.size;refine wpList_nil (Xz hS5 ?_);refine Ygn ?_;refine Vy rfl ?_;refine Ygp ?_;refine KH (i:=9) rfl Yhp ?_;refine Ku rfl ?_;rw[add_lit];refine Ygp ?_;refine Ygo ?_
 ((with_reducible apply Ji);exact rfl;(conv=>lhs;whnf);exact hv51;exact(hb2.tr hS5 nd1);exact rfl)
 intro u6 hb6 hf8 hs8;replace hb6:Blk u6 q [.string P.prop,iV (P.checks:Nat),iV (P.ncls:Nat),vr,v5] _:=hb6;refine Yeu ?_;refine Yeo ?_;rw[if_pos rfl];have hk5:∀x∈blks v5,x∈blks (Value.slice aos rs.length cs)\/w.heap.size<=x:=fun x hx=>by
  rcases hk7 x hx with h|h
  .exact .inl h
  .exact .inr Yhn
 have nq5:q∉blks v5:=fun hm=>(hk5 q hm).elim nd1 Yid
 have hrlt:=hr.lt;have n5r:∀x∈blks v5,x∉blks vr:=fun x hx hm=>(hk5 x hx).elim (fun h=>nd3 x h hm) (fun h=>by have:=hrlt x hm;omega)
 have hN:∀x∈[q]++blks v5,x∈[q]++blks (Value.slice aos rs.length cs)\/w.heap.size<=x:=fun x hx=>by
  rcases List.mem_append.1 hx with h|h
  .exact .inl (List.mem_append_left _ h)
  .exact (hk5 x h).imp (fun h=>List.mem_append_right _ h) id
 have hF6:Fr ([q]++blks (Value.slice aos rs.length cs)) w u6:=((hF2.mono (fun x hx=>by simp at hx)).trans hS5 (fun x hx=>.inl (List.mem_append_right _ hx))).trans hf8 (fun x hx=>.inl (List.mem_append_left _ hx));have hSm:∀x∈S++([q]++blks v5),x∈S\/w.heap.size<=x:=fun x hx=>by
  rcases List.mem_append.1 hx with h|h
  .exact .inl h
  .exact (hN x h).imp (fun h=>hMS x h) id
 have hTm:∀x∈[q]++blks (Value.slice aos rs.length cs),x∈S++([q]++blks v5)\/w.heap.size<=x:=fun x hx=>.inl (List.mem_append_left _ (hMS x hx))
 refine⟨rfl,⟨_,⟨vr,v5,xs++[iV r.kind,iV r.at_,iV r.code,.slice aob r.bs.length cb,.slice aol r.cl.length cl],rfl,rfl,Ji5 nq5 nd2 n5r,fun x hx=>List.mem_append_right _ hx,hb6,hr.tr hF6 (fun x hx hm=>?_),?_,?_⟩,fun x hx=>by subst hb3;exact hN x hx⟩,hF6⟩
 .rcases List.mem_append.1 hm with h|h
  .rw [List.mem_singleton.1 h]at hx;exact nd2 hx
  .exact nd3 x h hx
 .rw [List.length_append];exact ho5.tr hf8 (fun x hx hm=>nq5 (List.mem_singleton.1 hm▸hx))
 .refine (hw.imp (fun r' cs' _ h=>(h.mono hSm).old hF6 hTm)).app (Rws.one ?_);exact RD.c1 rfl (RD.c1 rfl (RD.c1 rfl (RD.cons ((hbr.mono hSm).old hF6 hTm) (RD.cons ((hl.mono hSm).old hF6 hTm) .nil))))
theorem JeU(l m:List Br)(va vb:Value)(w:World)(hA:DR w S (.l (l.map brC)) va)(hB:DR w S (.l (m.map brC)) vb)(hl:l.length<=1000000)(hm:m.length<=1000000):
 Calls prog 62 #[va,vb] w fun e w'=>e=.returned (.bool (decide (l=m)))/\Fr [] w w':=by
 obtain⟨aoa,ca,rfl,_⟩:=hA.slice;obtain⟨aob,cb,rfl,_⟩:=hB.slice;have hla:(l.map brC).length=l.length:=List.length_map ..;have hlb:(m.map brC).length=m.length:=List.length_map ..;rw[hla]at hA ⊢;rw[hlb]at hB ⊢;refine enter func62 rfl ntmps62 rfl ?_;by_cases hne:l.length=m.length
 case neg=>
  refine Yeo ?_;exact⟨by rw[decide_eq_false (fun e=>hne (by rw[e]))],Fr.refl _ _⟩
 refine rx ?_;refine Jh 6 [5] (σ:=Nat) (fun i g u=>g 5=iV (i:Nat)/\i<=l.length/\(∀j (h1:j<l.length) (h2:j<m.length),j<i->l[j]=m[j])/\Fr [] w u) (fun i=>l.length-i) 0 ⟨rfl,Nat.zero_le _,fun j h1 h2 h=>by omega,Fr.refl _ _⟩ ?_;rintro i g u ⟨g5,hi,hpre,hF⟩;rw[Ja g5];by_cases hlt:i<l.length
 case neg=>
  refine Yeo ?_;exact⟨by rw[decide_eq_true (List.ext_getElem hne (fun j h1 h2=>hpre j h1 h2 Yhn))],hF⟩
 have hlt2:i<m.length:=by omega
 obtain⟨ada,hada,hca⟩:=(hA.tr0 hF).br hlt;obtain⟨adb,hadb,hcb⟩:=(hB.tr0 hF).br hlt2;subst hada hadb;refine Ylk ?_;obtain⟨u1,hu1⟩:=exq u.drew;rw[<-hu1];have hS:Fr [] u u1:=hu1▸Fr.drew _ _;refine Jj 0 1 2 3 hS ?_;refine Jj 4 5 6 7 hS ?_;by_cases he:l[i]=m[i]
 . (apply XU (i:=8);exact rfl;kernel_rfl;kernel_rfl;kernel_rfl;(intro u hu;refine(JaP (a:=l[i]) (b:=m[i]) ?_ ?_ (decide_eq_false (fun h=>h he)));exact rfl;exact rfl);exact hS)
   refine Yev ?_;refine Jc (i+1) Yhl ⟨rfl,hlt,fun j h1 h2 h=>?_,hF.Jb hS⟩ Yhn;by_cases e:j=i
   .subst e;exact he
   .exact hpre j h1 h2 Yhn
 . (apply XU (i:=8);exact rfl;kernel_rfl;kernel_rfl;kernel_rfl;(intro u hu;refine(JaP (a:=l[i]) (b:=m[i]) ?_ ?_ (decide_eq_true he));exact rfl;exact rfl);exact hS)
   refine Yfx ?_;refine Yeo ?_;exact⟨by rw[decide_eq_false (fun e=>he (by subst e;rfl))],hF.Jb hS⟩
set_option maxHeartbeats 32000000 in
theorem JjP{p:Nat}{M R:List Nat}{rs:List Rn}(w:World)(hC:Wj w p M R P (J6 P.ncls rs))(hQ:RcV w q P rs)(hP:SmP P)(hr:SmR rs)(hcl:∀r∈rs,r.cl.length<=1000000)(hasc:Asc ltB P.reach):
 Calls prog 23 #[.pointer (some ⟨p,0,none⟩),.pointer (some ⟨q,0,none⟩)] w fun e w'=>e=.returned (.bool true)/\Fr [] w w':=by
 have hp1:=hP.prop;have hp2:=hP.ncls;have hp3:=hP.reach;have hr1:=hr.1;have hn:rs.length<=1000:=by omega
 have hc1:∀r∈rs,r.bs.length<=1000:=fun r h=>by have:=(hr.2 r h).1;omega
 have hc2:∀r∈rs,r.bs.length<=100:=fun r h=>by have:=(hr.2 r h).1;omega
 have hc3:∀r∈rs,r.bs.length<=100/\r.cl.length<=1000000:=fun r h=>⟨hc2 r h,hcl r h⟩
 obtain⟨hks,hps,hkb⟩:=hr.ks (n:=P.ncls);have hbE:∀b∈(J6 P.ncls rs).ks,BrE b:=fun b hb=>JcP (hkb b hb)
 have hok:StOk P (J6 P.ncls rs):=by obtain⟨_,_,_,_,_,_,_,_,_,_,_,_,_,_,_,_,h⟩:=hC;exact h
 have hcls:=hok.ncls;have hruns:(J6 P.ncls rs).runs=rs.length:=rfl;have hencL:=Jjh hP hok Yhn hks hps hkb;have hso:∀(i:Nat) (h:i<3),[(J6 P.ncls rs).o 0,(J6 P.ncls rs).o 1,(J6 P.ncls rs).o 2][i]=rs.countP (fun r=>decide (r.kind=(i:Int))):=fun i h=>by
  match i,h with
  |0,_=>rfl
  |1,_=>rfl
  |2,_=>rfl
 have hsc:∀i (h:i<(J6 P.ncls rs).cls.length),(J6 P.ncls rs).cls[i]=rs.countP (fun r=>decide ((i:Int)∈r.cl)):=fun i h=>by simp[J6]
 have hsk:JM ltB (rs.flatMap (·.bs))=(J6 P.ncls rs).ks:=rfl;have hsp:JM ltP (rs.flatMap (fun r=>Jy r.bs))=(J6 P.ncls rs).ps:=rfl;have hst:∀b,(J6 P.ncls rs).cnt b=rs.countP (fun r=>decide (b∈r.bs)):=fun b=>rfl
 have hcle:∀p:Rn->Bool,rs.countP p<=rs.length:=fun p=>List.countP_le_length
 have hbv:∀{u:World},Fr [] w u->∃vr aos cs,Blk u q [.string P.prop,iV (P.checks:Nat),iV (P.ncls:Nat),vr,.slice aos rs.length cs] 120:=fun hf=>by
  obtain⟨vr,vs,hb,_,hss⟩:=hQ.tr0 hf;obtain⟨aos,cs,rfl,_⟩:=hss.slice;rw[List.length_map]at hb;exact⟨vr,aos,cs,hb⟩
 refine enter func23 rfl ntmps23 rfl ?_;refine rx ?_;refine Jl (JkD w hC Yhn Yhn) ?_;rintro _ w1 ⟨_,⟨vk,vc,vo,rfl,hk4,hcc,hoo,hge⟩,hf1⟩;obtain⟨aok,ck,rfl⟩:=hk4.slice;obtain⟨aoc,cc,rfl⟩:=hcc.slice;obtain⟨aoo,co,rfl⟩:=hoo.slice;refine rx ?_;refine Jm (l:=[zI,zS,zI,zS,zS]) rfl (fun w2 b5 hb5 h5 hf2 hs2=>?_);refine rx ?_;refine Jd (cs:=[iV ((J6 P.ncls rs).runs:Nat),.slice aok (J6 P.ncls rs).ks.length ck,iV ((J6 P.ncls rs).ps.length:Nat),.slice aoc (J6 P.ncls rs).cls.length cc,.slice aoo 3 co]) rfl rfl h5 Yhu rfl rfl (fun w3 h5 hf3 hs3=>?_);have hf13:Fr [] w1 w3:=hf2.trans hf3 (fun x hx=>.inr Yhq);have hF3:=hf1.Jb hf13;have hk4:=hk4.tr0 hf13;have hcc:=hcc.tr0 hf13;have hoo:=hoo.tr0 hf13;clear hf1 hf2 hf3 hf13;refine rx ?_;refine Jl (WQ w3 (hQ.tr0 hF3) hn hc1) ?_;rintro v6 w4 ⟨hB,hf4⟩;have hF4:=hF3.Jb hf4;have h5:=h5.tr0 hf4;have hk4:=hk4.tr0 hf4;have hcc:=hcc.tr0 hf4;have hoo:=hoo.tr0 hf4;rw[hsk]at hB;obtain⟨ao6,c6,rfl⟩:=hB.1.slice;obtain⟨vr,aos,cs,hbq⟩:=hbv hF4;obtain⟨s,hs⟩:=exq (J6 P.ncls rs);rw[<-hs]at hC hks hps hbE hok hcls hruns hencL hso hsc hsk hsp hst h5 hk4 hcc hoo hB ⊢;refine rx ?_;refine JE (fun z=>Fr [] w4 z) Yhp rfl ?_;obtain⟨w5,hw5⟩:=exq w4.drew;rw[<-hw5];have hS:Fr [] w4 w5:=hw5▸Fr.drew _ _;refine Jj 0 1 2 3 hS ?_;refine Jj 4 5 6 7 hS ?_;refine Jj 8 9 10 11 hS ?_;refine JJ (i:=12) rfl Yhp ?_;refine rx ?_;refine Jl (X9 w5 (hQ.tr0 (hF4.Jb hS)) hn hc2) ?_;rintro v7 w6 ⟨hPp,hf6⟩;rw[hsp]at hPp;obtain⟨ao7,c7,rfl⟩:=hPp.1.slice;have hS:=hS.Jb hf6;refine Yfz ?_;refine Jj 13 14 15 16 hS ?_;refine Jj 17 18 19 20 hS ?_;refine Jj 21 22 23 24 hS ?_;refine Jj 25 26 27 28 hS ?_;refine Jj 29 30 31 32 hS ?_;refine Jj 33 34 35 36 hS ?_;refine JX 37 38 hS ?_;refine d_z 39 hS ?_;refine Yfx ?_;have hF6:=hF4.Jb hS;have h5:=h5.tr0 hS;have hk4:=hk4.tr0 hS;have hcc:=hcc.tr0 hS;have hoo:=hoo.tr0 hS;have hBw:Own w6 50 3 (.slice ao6 s.ks.length c6) s.ks.length (s.ks.flatMap brV):=hB.1.tr0 hS;clear hB hbq hw5;refine rx ?_;refine Jh 10 [7] (σ:=Nat) (fun i g u=>g 7=iV (i:Nat)/\i<=s.ks.length/\Fr [] w6 u) (fun i=>s.ks.length-i) 0 ⟨rfl,Nat.zero_le _,Fr.refl _ _⟩ ?_;rintro i g u ⟨g7,hi,hF⟩;rw[Ja g7];have hFu:=hF6.Jb hF;have h5u:=h5.tr0 hF;by_cases hlt:i<s.ks.length
 case pos=>
  obtain⟨adk,hadk,hck⟩:=JZ (Jjj s.cnt) (hk4.tr0 hF).src hlt Yhy;subst hadk;have hck:Cells u (adk.add (i*4)) [.string s.ks[i].decl,iV s.ks[i].at_,iV s.ks[i].arm,iV (s.cnt s.ks[i]:Nat)]:=hck;obtain⟨adb,hadb,hcb⟩:=JZ QN (hBw.tr0 hF).src hlt Yhy;subst hadb;have hcb:Cells u (adb.add (i*3)) [.string s.ks[i].decl,iV s.ks[i].at_,iV s.ks[i].arm]:=hcb;have hci:=hcle (fun r=>decide (s.ks[i]∈r.bs));refine Ylk ?_;obtain⟨u1,hu1⟩:=exq u.drew;rw[<-hu1];have hS:Fr [] u u1:=hu1▸Fr.drew _ _;refine Ylr ?_;refine Kw 10 hS ?_ (hrun:=by(intro u hu;refine(JaP (a:=s.ks[i]) (b:=s.ks[i]) ?_ ?_ (decide_eq_false (fun h=>h rfl)));exact rfl;exact rfl));refine Jj 11 12 13 14 hS ?_;refine Jj 15 16 17 18 hS ?_;refine Jj 19 20 21 22 hS ?_;refine JJ (i:=23) rfl Yhp ?_;refine rx ?_;refine Jg (Jai s.ks[i] u1 (hQ.tr0 (hFu.Jb hS)) Yhn) ?_;rintro u2 hf7;rw[<-hst]at hci ⊢;have hS:=hS.Jb hf7;refine Yfz ?_;refine JX 24 25 hS ?_;refine Yev ?_;refine Jc (i+1) Yhl ⟨rfl,hlt,hF.Jb hS⟩ Yhn
 refine rx ?_;clear hlt hi g7;obtain⟨u0,hu0⟩:=exq u;refine Jh 10 [8] (σ:=Nat) (fun i g z=>g 8=iV (i:Nat)/\i<=P.ncls/\Fr [] w6 z) (fun i=>P.ncls-i) 0 ⟨rfl,Nat.zero_le _,hF⟩ ?_;clear hFu h5u hF;rintro i g u ⟨g8,hi,hF⟩;rw[Ja g8];have hFu:=hF6.Jb hF;have h5u:=h5.tr0 hF;obtain⟨vr,aos,cs,hbq⟩:=hbv hFu;by_cases hlt:i<P.ncls
 case pos=>
  have hlc:i<s.cls.length:=by omega
  obtain⟨adc,hadc,hcell0⟩:=KO (hcc.tr0 hF).src (V9 hlc);subst hadc;have hcell:∀{z:World},Fr [] u z->z.cell? (adc.add i)=some (iV (s.cls[i]:Nat)):=fun hf=>Vs ((hcc.tr0 hF).tr0 hf).src (V9 hlc)
  have hci:=hcle (fun r=>decide ((i:Int)∈r.cl));refine Ylk ?_;obtain⟨u1,hu1⟩:=exq u.drew;rw[<-hu1];have hS:Fr [] u u1:=hu1▸Fr.drew _ _;refine Jj 0 1 2 3 hS ?_;refine Kw 4 hS ?_ (hrun:=by(intro u hu;exact(J7 rfl Ylu)));refine JX 5 6 hS ?_;refine Ylm ?_;refine rx ?_;refine Jg (G9 (i:Int) u1 (hQ.tr0 (hFu.Jb hS)) Yhn hcl) ?_;rintro u2 hf7;rw[<-hsc i hlc]at hci ⊢;have hS:=hS.Jb hf7;refine Yfz ?_;refine d_z 8 hS ?_;refine Yev ?_;refine Jc (i+1) Yhl ⟨rfl,hlt,hF.Jb hS⟩ Yhn
 refine rx ?_;clear hlt hi g8;refine Jh 10 [9] (σ:=Nat) (fun i g z=>g 9=iV (i:Nat)/\i<=3/\Fr [] w6 z) (fun i=>3-i) 0 ⟨rfl,Nat.zero_le _,hF⟩ ?_;clear hFu h5u hF hbq;rintro i g u ⟨g9,hi,hF⟩;rw[Ja g9];have hFu:=hF6.Jb hF;have h5u:=h5.tr0 hF;by_cases hlt:i<3
 case pos=>
  have hcell:∀{z:World},Fr [] u z->∃ado,aoo=some ado/\z.cell? (ado.add i)=some (iV ([s.o 0,s.o 1,s.o 2][i]:Nat)):=fun hf=>KO ((hoo.tr0 hF).tr0 hf).src (V9 hlt)
  obtain⟨ado,hado,_⟩:=hcell (Fr.refl _ _);subst hado;have hcell:∀{z:World},Fr [] u z->z.cell? (ado.add i)=some (iV ([s.o 0,s.o 1,s.o 2][i]:Nat)):=fun hf=>by
   obtain⟨a,h1,h2⟩:=hcell hf;obtain rfl:=Option.some.inj h1;exact h2
  have hci:=hcle (fun r=>decide (r.kind=(i:Int)));refine Ylk ?_;obtain⟨u1,hu1⟩:=exq u.drew;rw[<-hu1];have hS:Fr [] u u1:=hu1▸Fr.drew _ _;refine Jj 0 1 2 3 hS ?_;refine Kw 4 hS ?_ (hrun:=by(intro u hu;exact(J7 rfl Ylu)));refine JX 5 6 hS ?_;refine Ylm ?_;refine rx ?_;refine Jg (JdE (i:Int) u1 (hQ.tr0 (hFu.Jb hS)) Yhn) ?_;rintro u2 hf7;rw[<-hso i hlt]at hci ⊢;have hS:=hS.Jb hf7;refine Yfz ?_;refine d_z 8 hS ?_;refine Yev ?_;refine Jc (i+1) Yhl ⟨rfl,hlt,hF.Jb hS⟩ Yhn
 have hCu:=hC.tr0 hFu;refine rx ?_;clear hlt hi g9;refine Jl (Jig u hCu Yhn) ?_;rintro va u1 ⟨hA,hf1⟩;have hF1:=hFu.Jb hf1;have hml:(Ur P s).length<=1000000:=by
  have:=List.length_filter_le (fun b=>decide (s.cnt b=0)) P.reach;show(List.filter _ _).length<=_;omega
 obtain⟨aoa,ca,rfl⟩:=hA.1.slice;refine rx ?_;refine Jl (Jfv u1 (hQ.tr0 hF1) hn hc2 Yhn hasc) ?_;rintro vb u2 ⟨hB,hf2⟩;have hF2:=hF1.Jb hf2;rw[<-hs]at hB;obtain⟨aob,cb,rfl⟩:=hB.1.slice;refine rx ?_;refine Jg (JeU (Ur P s) (Ur P s) _ _ u2 (S:=[]) (ZO (hA.1.tr0 hf2) Yhn Yhs) (ZO hB.1 Yhn Yhs) hml hml) ?_;rintro u3 hf3;rw[decide_eq_true rfl];have hF3':=hF2.Jb hf3;refine rx ?_;refine Jl (JhG u3 (hC.tr0 hF3') Yhn Yhn Yhn Yhn Yhn hbE hencL) ?_;rintro ve u4 ⟨hE,hf4,_⟩;have hF4':=hF3'.Jb hf4;obtain⟨aoe,ce,rfl⟩:=hE.slice;refine rx ?_;rw[hs]at hencL hbE;refine Jl (Jg6 u4 (hQ.tr0 hF4') hn hc3 Yhn Yhn hbE hencL) ?_;rintro vf u5 hO;rw[<-hs]at hO;obtain⟨aof,cf,rfl⟩:=hO.1.slice;refine rx ?_;refine Jg (Jeo _ _ _ _ u5 (hE.tr0 hO.2.1).src hO.1.src (by rw[hs];omega)) ?_;rintro u6 hf6;rw[decide_eq_true rfl];refine Yeo ?_;exact⟨rfl,(hF4'.Jb hO.2.1).Jb hf6⟩
end Go.Proofs.YtggmccicdhnkgaaGreat
