/-
 The reference's Faults:expressions.
-/
import Derived.Test.YtggmccicdhnkgaaGreatVFd
set_option linter.all false
set_option maxHeartbeats 64000000
namespace Go.Proofs.YtggmccicdhnkgaaGreat
open Go.Proofs.Tryz
open Go.Rf Go.RowKit
attribute [local irreducible] Code.wp wpList Exit.then Exit.inBlock bodyPost A Calls execOp Addr.add
theorem MF(q:Nat)(n:Int)(w:World)(h:FB w q)(hn:n<=16):Calls prog 170 #[.pointer (some ⟨q,0,none⟩),iV n] w (FC q w):=by
 obtain⟨b1,b2,b3,hB⟩:=h;exact Ybx
theorem cell0{w:World}{a:Addr}{v:Value}{l:List Value}(h:Cells w a (v::l)):w.cell? a=some v:=by
 exact Ydb
theorem Jat{l:List Ex}(h:Gz l=false){i:Nat}(hi:i<l.length):Wh l[i]=false:=by
 induction l generalizing i with
 |nil=>simp at hi
 |cons a l ih=>
  simp only[Gz,Cc]at h;cases i with
  |zero=>exact h.1
  |succ i=>exact ih h.2 tY
theorem Jhr(e:Ex):Wh e=(Ut e.kind e.kids.length e.binds||Gz e.kids):=by cases e;rfl
theorem Jik(q:Nat):∀(m:Nat) (e:Ex),jc e<=m->Wh e=false->∀(w:World) (S:List Nat) (cs:List Value),q∈S->FB w q->RD w S (aU e) cs->Calls prog 218 #[.pointer (some ⟨q,0,none⟩),.agg cs.toArray] w (FC q w):=by
 intro m
 induction m with
 |zero=>intro e h;rw[XA]at h;omega
 |succ m ih=>
  intro e ht bO w S cs cX eY hd;obtain⟨s1,s2,s3,rfl,ee,cu,hk⟩:=fW.1 hd;obtain⟨ek,c1,rfl,_⟩:=DR.slice (rows:=_) ee;obtain⟨gS,c2,rfl,_⟩:=cu.slice;obtain⟨ao,c,rfl,_⟩:=hk.slice;have gM:=hk.bound;have Tt:=DR.bound (rows:=_) ee;have ya:=cu.bound;have e0:=XA e;have hl:(e.kids.map aU).length=e.kids.length:=Sr ..;have fJ:(e.names.map JV).length=e.names.length:=Sr ..;have gH:(e.binds.map JD).length=e.binds.length:=Sr ..;rw[Jhr,Cc]at bO;obtain⟨bY,e9⟩:=bO;refine enter func218 rfl ntmps218 rfl ?_;refine rx ?_;refine Ju rfl rfl (fun w1 b hb hB aj bh=>?_);have pq:=eY.lt;have ah:b≠q:=by omega
  have ai:ST q b (uS e (.slice ek (e.names.map JV).length c1) (.slice gS (e.binds.map JD).length c2) (.slice ao (e.kids.map aU).length c)) 95 w w1:=⟨eY.tr0 aj,QL aj,hB⟩;refine rr ?_;refine wpList_nil ?_;refine QG ?_;refine wp_seq ?_;refine KA ?_;refine oG ?_;refine wp_seq ?_;refine KZ 5 [] (fun g u=>ST q b (uS e (.slice ek (e.names.map JV).length c1) (.slice gS (e.binds.map JD).length c2) (.slice ao (e.kids.map aU).length c)) 95 w u) ?_ ?_
  .unfold Ut at bY;rcases(by omega:e.kind=0\/e.kind=1\/e.kind=2\/e.kind=3\/e.kind=4\/e.kind=5\/e.kind=6\/e.kind=7\/e.kind=9\/(e.kind<0\/9<e.kind)\/e.kind=8)with mq|mq|mq|mq|mq|mq|mq|mq|mq|mq|mq
   .clear bY e9 ih;exact Yd
   .clear bY e9 ih;exact Yd
   .clear bY e9 ih;exact Yd
   .have mK:e.kids.length<=16:=by rw[Cb ab]at bY;exact QK bY
    clear bY e9 ih;exact Yd
   .have mK:e.kids.length<=16:=by rw[Cb ab]at bY;exact QK bY
    clear bY e9 ih;exact Yd
   .have ifz:e.kids.length<=256:=by rw[SH ab,Cb mq]at bY;exact QK bY
    clear bY e9 ih;exact Yd
   .clear bY e9 ih;exact Yd
   .clear bY e9 ih;exact Yd
   .clear bY e9 ih;exact Yd
   .clear bY e9 ih;exact Yd
   rw[SH ab,SH ab,Cb mq,Cc,DC]at bY;have h17:e.kids.length<=17:=by have:=QK bY.1;omega
   have iaw:∀b∈e.binds,b.length<=16:=fun b hb=>QK (by simpa using bY.2 b hb)
   clear bY e9 ih;refine rx ?_;refine JaE 5 [] (fun g u=>ST q b (uS e (.slice ek (e.names.map JV).length c1) (.slice gS (e.binds.map JD).length c2) (.slice ao (e.kids.map aU).length c)) 95 w u) ?_ ?_
   .repeat' (first|exact JK a6 gi|exact wpList_nil (JK a6 gi)|(refine Jg (U1 q _ _ ai.1) ?_;rintro _ ⟨a7,bW⟩;have ai:=ai.step ah a7 bW;have hB:=ai.2.2;clear a7 bW;refine rx ?_)|(refine aT (Jc7 _ _ _ _ _ _ _ _ _ _ _ _ _ _ _ _ _) rfl ?_;rintro _ _ ⟨⟨rb,rfl⟩,bW⟩;refine⟨_,rfl,?_⟩;have ai:=ai.step0 bW;have hB:=ai.2.2;clear bW;cases rb<;>refine rx ?_)|(first|refine Vg rfl rfl (fun _=>?_) (fun _=>?_)|refine Vd rfl rfl (fun _=>?_) (fun _=>?_)|refine QZ rfl rfl (fun _=>?_) (fun _=>?_)|refine Vt rfl rfl (fun _=>?_) (fun _=>?_)|refine Ve rfl rfl (fun _=>?_) (fun _=>?_)|refine Vf rfl rfl (fun _=>?_) (fun _=>?_)|refine QB rfl rfl (fun _=>?_) (fun _=>?_)|refine Qv rfl rfl (fun _=>?_) (fun _=>?_))<;>refine rx ?_)
   clear ai hB;rintro g u ai;have hB:aG u b [iV e.kind,.string e.name,iV e.n,.slice ek (e.names.map JV).length c1,.slice gS (e.binds.map JD).length c2,.slice ao (e.kids.map aU).length c,iV e.at_] 95:=ai.2.2;refine rx ?_;refine Jg (MF q _ u ai.1 ab) ?_;rintro w2 ⟨a7,bW⟩;have ai:=ai.step ah a7 bW;have hB:=ai.2.2;clear a7 bW;refine rx ?_;have icL:=ai;refine Jh 6 [5] (σ:=Nat) (fun i g u=>g 5=iV i/\i<=e.names.length/\ST q b (uS e (.slice ek (e.names.map JV).length c1) (.slice gS (e.binds.map JD).length c2) (.slice ao (e.kids.map aU).length c)) 95 w u) (fun i=>e.names.length-i) 0 ⟨rfl,SL _,ai⟩ ?_;clear ai hB icL;rintro i g u ⟨h5,hi,ai⟩;rw[Ja h5];have hB:aG u b [iV e.kind,.string e.name,iV e.n,.slice ek (e.names.map JV).length c1,.slice gS (e.binds.map JD).length c2,.slice ao (e.kids.map aU).length c,iV e.at_] 95:=ai.2.2;by_cases aC:i<e.names.length
   case pos=>
    obtain⟨ad,gU,bi,hr,hc⟩:=DR.at (f:=JV) XE (DR.old (d:=.l (e.names.map JV)) ee ai.2.1 (Je cX)) aC;subst bi;obtain⟨xM,rfl,gY⟩:=RD.JI (x:=.string e.names[i]) hr;have hc:=cell0 hc;refine Yfq ?_;refine Jg (Vo q _ 1 _ ai.1) ?_;rintro w2 ⟨a7,bW⟩;have ai:=ai.step ah a7 bW;have hB:=ai.2.2;clear a7 bW;refine rx ?_;exact Pc
   refine rx ?_;refine Jh 7 [6] (σ:=Nat) (fun i g u=>g 6=iV i/\i<=e.binds.length/\ST q b (uS e (.slice ek (e.names.map JV).length c1) (.slice gS (e.binds.map JD).length c2) (.slice ao (e.kids.map aU).length c)) 95 w u) (fun i=>e.binds.length-i) 0 ⟨rfl,SL _,ai⟩ ?_;clear ai hB hi aC;rintro i2 g u2 ⟨h6,hi,ai⟩;rw[Ja h6];have hB:aG u2 b [iV e.kind,.string e.name,iV e.n,.slice ek (e.names.map JV).length c1,.slice gS (e.binds.map JD).length c2,.slice ao (e.kids.map aU).length c,iV e.at_] 95:=ai.2.2;by_cases aC:i2<e.binds.length
   case neg=>
    refine rx ?_
    first|exact JK a6 gi|exact wpList_nil (JK a6 gi)
   have bJ:=iaw _ (Cj aC);obtain⟨ad,gU,bi,hr,hc⟩:=DR.at Zz (cu.old ai.2.1 (Je cX)) aC;subst bi;obtain⟨v1,xM,rfl,eN,gY⟩:=RD.inv hr;obtain⟨ao4,c4,rfl,_⟩:=DR.slice (rows:=_) eN;have hl4:(e.binds[i2].map JV).length=e.binds[i2].length:=Sr ..;have hc:=cell0 hc;refine Yfq ?_;refine Jg (MF q _ u2 ai.1 ab) ?_;rintro w3 ⟨a7,bW⟩;have ai:=ai.step ah a7 bW;have hB:=ai.2.2;clear a7 bW;refine rx ?_;refine Jh 8 [7] (σ:=Nat) (fun i g u=>g 7=iV i/\i<=e.binds[i2].length/\ST q b (uS e (.slice ek (e.names.map JV).length c1) (.slice (some ad) (e.binds.map JD).length c2) (.slice ao (e.kids.map aU).length c)) 95 w u) (fun i=>e.binds[i2].length-i) 0 ⟨rfl,SL _,ai⟩ ?_;clear ai hB;rintro k g u3 ⟨h7,lg,ai⟩;rw[Ja h7];have hB:aG u3 b [iV e.kind,.string e.name,iV e.n,.slice ek (e.names.map JV).length c1,.slice (some ad) (e.binds.map JD).length c2,.slice ao (e.kids.map aU).length c,iV e.at_] 95:=ai.2.2;obtain⟨lC,gU,bi,hr,hc⟩:=DR.at Zz (cu.old ai.2.1 (Je cX)) aC;obtain rfl:=Dl bi;obtain⟨v1,xM,rfl,eN,gY⟩:=RD.inv hr;obtain⟨ao5,c5,rfl,_⟩:=DR.slice (rows:=_) eN;have hc:=cell0 hc;by_cases icM:k<e.binds[i2].length
   case neg=>
    refine Yfq ?_;exact Jc (i2+1) a6 ⟨rfl,by omega,ai⟩ ab
   obtain⟨ad5,s4,icN,nt,vB⟩:=DR.at (f:=JV) XE eN icM;subst icN;obtain⟨cs6,rfl,hr6⟩:=RD.JI (x:=.string e.binds[i2][k]) nt;have vB:=cell0 vB;refine Yfq ?_;refine KW rfl hc ?_;refine rx ?_;refine KW rfl vB ?_;refine rx ?_;refine Jg (Vo q _ 0 _ ai.1) ?_;rintro w4 ⟨a7,bW⟩;have ai:=ai.step ah a7 bW;have hB:=ai.2.2;clear a7 bW;refine rx ?_;exact Jc (k+1) a6 ⟨rfl,by omega,ai⟩ ab
  clear ai hB;rintro g u ai;refine rx ?_;refine Jh 10 [9] (σ:=Nat) (fun i g u=>g 9=iV i/\i<=e.kids.length/\ST q b (uS e (.slice ek (e.names.map JV).length c1) (.slice gS (e.binds.map JD).length c2) (.slice ao (e.kids.map aU).length c)) 95 w u) (fun i=>e.kids.length-i) 0 ⟨rfl,SL _,ai⟩ ?_;clear ai;rintro i g u ⟨h4,hi,ai⟩;rw[Ja h4];have hB:aG u b [iV e.kind,.string e.name,iV e.n,.slice ek (e.names.map JV).length c1,.slice gS (e.binds.map JD).length c2,.slice ao (e.kids.map aU).length c,iV e.at_] 95:=ai.2.2;by_cases aC:i<e.kids.length
  case neg=>
   refine rx ?_;exact yw
  obtain⟨ad,gU,bi,hr,hc⟩:=DR.at Jq (hk.old ai.2.1 (Je cX)) aC;subst bi;have gY:=hr;obtain⟨x1,x2,x3,rfl,eu,qO,mg⟩:=fW.1 hr;have hg:=WA aC;refine rx ?_;refine Jg (ih e.kids[i] ab (Jat e9 aC) u S _ cX ai.1 gY) ?_;rintro w2 ⟨a7,bW⟩;have ai:=ai.step ah a7 bW;have hB:=ai.2.2;clear a7 bW;refine rx ?_;exact Pc
theorem Z7(q:Nat)(t:Ex)(bO:Qi t=false)(w:World)(S:List Nat)(cs:List Value)(cX:q∈S)(eY:FB w q)(hd:RD w S (aU t) cs):Calls prog 173 #[.pointer (some ⟨q,0,none⟩),.agg cs.toArray] w (FC q w):=by
 rw[Qi,Cc]at bO;have Pd:jc t<=32:=QK bO.1;have pK:=hd;obtain⟨s1,s2,s3,rfl,ee,cu,hk⟩:=fW.1 hd;obtain⟨ek,c1,rfl,_⟩:=DR.slice (rows:=_) ee;obtain⟨gS,c2,rfl,_⟩:=cu.slice;obtain⟨ao,c,rfl,_⟩:=hk.slice;refine enter func173 rfl ntmps173 rfl ?_;refine rx ?_;refine Ju rfl rfl (fun w1 b hb hB aj bh=>?_);have pq:=eY.lt;have ah:b≠q:=by omega
 obtain⟨b1,b2,b3,hQ⟩:=eY.tr0 aj;refine rx ?_;refine Jg (Jgl 32 ab t Pd w1 S _ (pK.tr0 aj)) ?_;rintro w2 aq;have hQ:=hQ.tr0 aq;have hB:=hB.tr0 aq;refine rx ?_
 ((with_reducible apply Ji);exact rfl;(conv=>lhs;whnf);exact rfl;exact hQ;exact rfl)
 intro w3 hQ aF dO;have hB:aG w3 b _ 95:=hB.tr aF Ah;have hF:Fr [q] w w3:=(QL (aj.Jb aq)).trans aF (fun x hx=>.inl hx);refine rx ?_;refine Jg (Jik q 32 t Pd bO.2 w3 S _ cX ⟨_,_,_,hQ⟩ (pK.old hF (Je cX))) ?_;exact Ych
end Go.Proofs.YtggmccicdhnkgaaGreat
