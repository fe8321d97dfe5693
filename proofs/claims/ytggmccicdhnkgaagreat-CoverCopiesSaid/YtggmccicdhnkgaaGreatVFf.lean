/-
 The reference's Faults:generators.
-/
import Derived.Test.YtggmccicdhnkgaaGreatVFe
set_option linter.all false
set_option maxHeartbeats 64000000
namespace Go.Proofs.YtggmccicdhnkgaaGreat
open Go.Proofs.Tryz
open Go.Rf Go.RowKit
attribute [local irreducible] Code.wp wpList Exit.then Exit.inBlock bodyPost A Calls execOp Addr.add
theorem JeG{l:List Gn}(h:Jb4 l=false){i:Nat}(hi:i<l.length):Jf7 l[i]=false:=by
 induction l generalizing i with
 |nil=>simp at hi
 |cons a l ih=>
  simp only[Jb4,Cc]at h;cases i with
  |zero=>exact h.1
  |succ i=>exact ih h.2 tY
theorem Jhq(e:Gn):Jf7 e=(Jf6 e.kind e.kids.length e.args.length e.ws.length||(Gz e.args||Jb4 e.kids)):=by cases e;rfl
theorem JkT(q:Nat):∀(m:Nat) (e:Gn),yv e<=m->Jf7 e=false->∀(w:World) (S:List Nat) (cs:List Value),q∈S->FB w q->RD w S (eX e) cs->Calls prog 220 #[.pointer (some ⟨q,0,none⟩),.agg cs.toArray] w (FC q w):=by
 intro m
 induction m with
 |zero=>intro e h;rw[Ja7]at h;omega
 |succ m ih=>
  intro e ht bO w S cs cX eY hd;obtain⟨s1,s2,s3,rfl,ee,cu,hk⟩:=me.1 hd;obtain⟨ek,c1,rfl,_⟩:=ee.slice;obtain⟨gS,c2,rfl,_⟩:=cu.slice;obtain⟨ao,c,rfl,_⟩:=hk.slice;have gM:=hk.bound;have Tt:=ee.bound;have ya:=cu.bound;have e0:=Ja7 e;have hl:(e.kids.map eX).length=e.kids.length:=Sr ..;have fJ:(e.ws.map KI).length=e.ws.length:=Sr ..;have gH:(e.args.map aU).length=e.args.length:=Sr ..;rw[Jhq,Cc,Cc]at bO;obtain⟨bY,e9,j'⟩:=bO;refine enter func220 rfl ntmps220 rfl ?_;refine rx ?_;refine Ju rfl rfl (fun w1 b hb hB aj bh=>?_);have pq:=eY.lt;have ah:b≠q:=by omega
  have ai:ST q b (yx e (.slice ek (e.ws.map KI).length c1) (.slice gS (e.args.map aU).length c2) (.slice ao (e.kids.map eX).length c)) 98 w w1:=⟨eY.tr0 aj,QL aj,hB⟩;refine Ai ?_;refine oG ?_;refine wp_seq ?_;refine KZ 7 [] (fun g u=>ST q b (yx e (.slice ek (e.ws.map KI).length c1) (.slice gS (e.args.map aU).length c2) (.slice ao (e.kids.map eX).length c)) 98 w u) ?_ ?_
  .unfold Jf6 at bY;rcases(by omega:e.kind=0\/e.kind=1\/e.kind=3\/e.kind=4\/e.kind=5\/e.kind=6\/e.kind=7\/(e.kind<0\/7<e.kind)\/e.kind=2)with mq|mq|mq|mq|mq|mq|mq|mq|mq
   .clear bY e9 j' ih;exact Yf
   .clear bY e9 j' ih;exact Yf
   .clear bY e9 j' ih;exact Yf
   .have mK:e.kids.length<=16:=by rw[SH ab,Cb mq]at bY;exact QK bY
    clear bY e9 j' ih;exact Yf
   .clear bY e9 j' ih;exact Yf
   .clear bY e9 j' ih;exact Yf
   .have mK:e.args.length<=16:=by rw[SH ab,SH ab,Cb mq]at bY;exact QK bY
    clear bY e9 j' ih;exact Yf
   .clear bY e9 j' ih;exact Yf
   rw[Cb mq,Cc]at bY;have mK:e.kids.length<=16:=QK bY.1;have h17:e.ws.length<=16:=QK bY.2;clear bY e9 j' ih;refine rx ?_;refine JaE 7 [] (fun g u=>ST q b (yx e (.slice ek (e.ws.map KI).length c1) (.slice gS (e.args.map aU).length c2) (.slice ao (e.kids.map eX).length c)) 98 w u) ?_ ?_
   .repeat' (first
     |exact JK a6 gi|exact wpList_nil (JK a6 gi)
     |(refine Jg (U1 q _ _ ai.1) ?_;rintro _ ⟨a7,bW⟩;have ai:=ai.step ah a7 bW;have hB:=ai.2.2;clear a7 bW;refine rx ?_)
     |(refine Jg (Vo q _ 0 _ ai.1) ?_;rintro _ ⟨a7,bW⟩;have ai:=ai.step ah a7 bW;have hB:=ai.2.2;clear a7 bW;refine rx ?_)
     |(refine Jg (Vo q _ 1 _ ai.1) ?_;rintro _ ⟨a7,bW⟩;have ai:=ai.step ah a7 bW;have hB:=ai.2.2;clear a7 bW;refine rx ?_)
     |(refine Jg (MF q _ _ ai.1 ab) ?_;rintro _ ⟨a7,bW⟩;have ai:=ai.step ah a7 bW;have hB:=ai.2.2;clear a7 bW;refine rx ?_)
     |(first|refine Vg rfl rfl (fun _=>?_) (fun _=>?_)|refine Vd rfl rfl (fun _=>?_) (fun _=>?_)|refine QZ rfl rfl (fun _=>?_) (fun _=>?_)|refine Vt rfl rfl (fun _=>?_) (fun _=>?_)|refine Ve rfl rfl (fun _=>?_) (fun _=>?_)|refine Vf rfl rfl (fun _=>?_) (fun _=>?_)|refine QB rfl rfl (fun _=>?_) (fun _=>?_)|refine Qv rfl rfl (fun _=>?_) (fun _=>?_))<;>refine rx ?_)
   clear ai hB;rintro g u ai;have hB:aG u b [iV e.kind,.string e.name,.slice ek (e.ws.map KI).length c1,.slice gS (e.args.map aU).length c2,.slice ao (e.kids.map eX).length c,iV e.at_] 98:=ai.2.2;refine rx ?_;refine Jg (MF q _ u ai.1 ab) ?_;rintro w2 ⟨a7,bW⟩;have ai:=ai.step ah a7 bW;have hB:=ai.2.2;clear a7 bW;refine rx ?_;refine Jg (MF q _ w2 ai.1 ab) ?_;rintro w3 ⟨a7,bW⟩;have ai:=ai.step ah a7 bW;have hB:=ai.2.2;clear a7 bW;refine rx ?_;refine Jh 8 [7] (σ:=Nat) (fun i g u=>g 7=iV i/\i<=e.ws.length/\ST q b (yx e (.slice ek (e.ws.map KI).length c1) (.slice gS (e.args.map aU).length c2) (.slice ao (e.kids.map eX).length c)) 98 w u) (fun i=>e.ws.length-i) 0 ⟨rfl,SL _,ai⟩ ?_;clear ai hB;rintro i g u ⟨h5,hi,ai⟩;rw[Ja h5];have hB:aG u b [iV e.kind,.string e.name,.slice ek (e.ws.map KI).length c1,.slice gS (e.args.map aU).length c2,.slice ao (e.kids.map eX).length c,iV e.at_] 98:=ai.2.2;by_cases aC:i<e.ws.length
   case neg=>
    refine rx ?_
    first|exact JK a6 gi|exact wpList_nil (JK a6 gi)
   obtain⟨ad,gU,bi,hr,hc⟩:=DR.at (f:=KI) Zq (ee.old ai.2.1 (Je cX)) aC;subst bi;obtain⟨xM,rfl,gY⟩:=RD.JI (x:=iV e.ws[i]) hr;have hc:=cell0 hc;refine Yfq ?_;refine Jg (Gw q _ _ _ ai.1) ?_;rintro w2 ⟨a7,bW⟩;have ai:=ai.step ah a7 bW;have hB:=ai.2.2;clear a7 bW;exact Ybb
  clear ai hB;rintro g u ai;refine rx ?_;refine Jh 9 [8] (σ:=Nat) (fun i g u=>g 8=iV i/\i<=e.args.length/\ST q b (yx e (.slice ek (e.ws.map KI).length c1) (.slice gS (e.args.map aU).length c2) (.slice ao (e.kids.map eX).length c)) 98 w u) (fun i=>e.args.length-i) 0 ⟨rfl,SL _,ai⟩ ?_;clear ai;rintro i g u ⟨h4,hi,ai⟩;rw[Ja h4];have hB:aG u b [iV e.kind,.string e.name,.slice ek (e.ws.map KI).length c1,.slice gS (e.args.map aU).length c2,.slice ao (e.kids.map eX).length c,iV e.at_] 98:=ai.2.2;by_cases aC:i<e.args.length
  case pos=>
   obtain⟨ad,gU,bi,hr,hc⟩:=DR.at Jq (cu.old ai.2.1 (Je cX)) aC;subst bi;have gY:=hr;obtain⟨x1,x2,x3,rfl,eu,qO,mg⟩:=fW.1 hr;have hg:=WA aC;refine rx ?_;refine Jg (Jik q m e.args[i] ab (Jat e9 aC) u S _ cX ai.1 gY) ?_;rintro w2 ⟨a7,bW⟩;have ai:=ai.step ah a7 bW;have hB:=ai.2.2;clear a7 bW;refine rx ?_;exact Pc
  refine rx ?_;refine Jh 10 [9] (σ:=Nat) (fun i g u=>g 9=iV i/\i<=e.kids.length/\ST q b (yx e (.slice ek (e.ws.map KI).length c1) (.slice gS (e.args.map aU).length c2) (.slice ao (e.kids.map eX).length c)) 98 w u) (fun i=>e.kids.length-i) 0 ⟨rfl,SL _,ai⟩ ?_;clear ai hB hi aC;rintro i g u ⟨h4,hi,ai⟩;rw[Ja h4];have hB:aG u b [iV e.kind,.string e.name,.slice ek (e.ws.map KI).length c1,.slice gS (e.args.map aU).length c2,.slice ao (e.kids.map eX).length c,iV e.at_] 98:=ai.2.2;by_cases aC:i<e.kids.length
  case neg=>
   refine rx ?_;exact yw
  obtain⟨ad,gU,bi,hr,hc⟩:=DR.at KG (hk.old ai.2.1 (Je cX)) aC;subst bi;have gY:=hr;obtain⟨x1,x2,x3,rfl,eu,qO,mg⟩:=me.1 hr;have hg:=Jb6 aC;refine rx ?_;refine Jg (ih e.kids[i] ab (JeG j' aC) u S _ cX ai.1 gY) ?_;rintro w2 ⟨a7,bW⟩;have ai:=ai.step ah a7 bW;have hB:=ai.2.2;clear a7 bW;refine rx ?_;exact Pc
theorem JeY(q:Nat)(t:Gn)(bO:Gx t=false)(w:World)(S:List Nat)(cs:List Value)(cX:q∈S)(eY:FB w q)(hd:RD w S (eX t) cs):Calls prog 175 #[.pointer (some ⟨q,0,none⟩),.agg cs.toArray] w (FC q w):=by
 rw[Gx,Cc]at bO;have Pd:yv t<=32:=QK bO.1;have pK:=hd;obtain⟨s1,s2,s3,rfl,ee,cu,hk⟩:=me.1 hd;obtain⟨ek,c1,rfl,_⟩:=ee.slice;obtain⟨gS,c2,rfl,_⟩:=cu.slice;obtain⟨ao,c,rfl,_⟩:=hk.slice;refine enter func175 rfl ntmps175 rfl ?_;refine rx ?_;refine Ju rfl rfl (fun w1 b hb hB aj bh=>?_);have pq:=eY.lt;have ah:b≠q:=by omega
 obtain⟨b1,b2,b3,hQ⟩:=eY.tr0 aj;refine rx ?_;refine Jg (Jje 32 ab t Pd w1 S _ (pK.tr0 aj)) ?_;rintro w2 aq;have hQ:=hQ.tr0 aq;have hB:=hB.tr0 aq;refine rx ?_
 ((with_reducible apply Ji);exact rfl;(conv=>lhs;whnf);exact rfl;exact hQ;exact rfl)
 intro w3 hQ aF dO;have hB:aG w3 b _ 98:=hB.tr aF Ah;have hF:Fr [q] w w3:=(QL (aj.Jb aq)).trans aF (fun x hx=>.inl hx);refine rx ?_;refine Jg (JkT q 32 t Pd bO.2 w3 S _ cX ⟨_,_,_,hQ⟩ (pK.old hF (Je cX))) ?_;exact Ych
end Go.Proofs.YtggmccicdhnkgaaGreat
