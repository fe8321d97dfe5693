/-
 The reference's Faults:generators.
-/
import Derived.Test.YtggmccicdhnkgaaGreatWFe
set_option linter.all false
set_option maxHeartbeats 64000000
namespace Go.Proofs.YtggmccicdhnkgaaGreat
open Go.Proofs.Tryz
open Go.Rf Go.RowKit
attribute [local irreducible] Code.wp wpList Exit.then Exit.inBlock bodyPost A Calls execOp Addr.add
theorem JeG{l:List Gn}(h:Jb4 l=false){i:Nat}(hi:i<l.length):Jf7 l[i]=false:=by
 induction l generalizing i with
 |nil=>simp at hi
 |cons a l ih=>
  simp only[Jb4,Cc]at h;cases i with
  |zero=>exact h.1
  |succ i=>exact ih h.2 Yjf
theorem Jhq(e:Gn):Jf7 e=(Jf6 e.kind e.kids.length e.args.length e.ws.length||(Gz e.args||Jb4 e.kids)):=by cases e;rfl
theorem JkT(q:Nat):∀(m:Nat) (e:Gn),gnD e<=m->Jf7 e=false->∀(w:World) (S:List Nat) (cs:List Value),q∈S->FB w q->RD w S (gnC e) cs->Calls prog 220 #[.pointer (some ⟨q,0,none⟩),.agg cs.toArray] w (FC q w):=by
 intro m
 induction m with
 |zero=>intro e h;rw[Ja7]at h;omega
 |succ m ih=>
  intro e ht hlim w S cs hqS hFB hd;obtain⟨s1,s2,s3,rfl,hk1,hk2,hk⟩:=gnR.1 hd;obtain⟨ao1,c1,rfl,_⟩:=hk1.slice;obtain⟨ao2,c2,rfl,_⟩:=hk2.slice;obtain⟨ao,c,rfl,_⟩:=hk.slice;have hbn:=hk.bound;have hbn1:=hk1.bound;have hbn2:=hk2.bound;have e0:=Ja7 e;have hl:(e.kids.map gnC).length=e.kids.length:=Sr ..;have hl1:(e.ws.map KI).length=e.ws.length:=Sr ..;have hl2:(e.args.map exC).length=e.args.length:=Sr ..;rw[Jhq,Cc,Cc]at hlim;obtain⟨hlim1,hlim2,hlim3⟩:=hlim;refine enter func220 rfl ntmps220 rfl ?_;refine rx ?_;refine Ju rfl rfl (fun w1 b hb hB hf1 hs1=>?_);have hqw:=hFB.lt;have hbq:b≠q:=by omega
  have hst:ST q b (gnV e (.slice ao1 (e.ws.map KI).length c1) (.slice ao2 (e.args.map exC).length c2) (.slice ao (e.kids.map gnC).length c)) 98 w w1:=⟨hFB.tr0 hf1,QL hf1,hB⟩;refine Yep ?_;refine Yfa ?_;refine wp_seq ?_;refine KZ 7 [] (fun g u=>ST q b (gnV e (.slice ao1 (e.ws.map KI).length c1) (.slice ao2 (e.args.map exC).length c2) (.slice ao (e.kids.map gnC).length c)) 98 w u) ?_ ?_
  .unfold Jf6 at hlim1;rcases(by omega:e.kind=0\/e.kind=1\/e.kind=3\/e.kind=4\/e.kind=5\/e.kind=6\/e.kind=7\/(e.kind<0\/7<e.kind)\/e.kind=2)with h8k|h8k|h8k|h8k|h8k|h8k|h8k|h8k|h8k
   .clear hlim1 hlim2 hlim3 ih;exact Yf
   .clear hlim1 hlim2 hlim3 ih;exact Yf
   .clear hlim1 hlim2 hlim3 ih;exact Yf
   .have h16:e.kids.length<=16:=by rw[SH Yhn,Cb h8k]at hlim1;exact QK hlim1
    clear hlim1 hlim2 hlim3 ih;exact Yf
   .clear hlim1 hlim2 hlim3 ih;exact Yf
   .clear hlim1 hlim2 hlim3 ih;exact Yf
   .have h16:e.args.length<=16:=by rw[SH Yhn,SH Yhn,Cb h8k]at hlim1;exact QK hlim1
    clear hlim1 hlim2 hlim3 ih;exact Yf
   .clear hlim1 hlim2 hlim3 ih;exact Yf
   rw[Cb h8k,Cc]at hlim1;have h16:e.kids.length<=16:=QK hlim1.1;have h17:e.ws.length<=16:=QK hlim1.2;clear hlim1 hlim2 hlim3 ih;refine rx ?_;refine JaE 7 [] (fun g u=>ST q b (gnV e (.slice ao1 (e.ws.map KI).length c1) (.slice ao2 (e.args.map exC).length c2) (.slice ao (e.kids.map gnC).length c)) 98 w u) ?_ ?_
   .repeat' (first
     |exact JK Yhl Yhz|exact wpList_nil (JK Yhl Yhz)
     |(refine Jg (U1 q _ _ hst.1) ?_;rintro _ ⟨hx1,hx2⟩;have hst:=hst.step hbq hx1 hx2;have hB:=hst.2.2;clear hx1 hx2;refine rx ?_)
     |(refine Jg (Vo q _ 0 _ hst.1) ?_;rintro _ ⟨hx1,hx2⟩;have hst:=hst.step hbq hx1 hx2;have hB:=hst.2.2;clear hx1 hx2;refine rx ?_)
     |(refine Jg (Vo q _ 1 _ hst.1) ?_;rintro _ ⟨hx1,hx2⟩;have hst:=hst.step hbq hx1 hx2;have hB:=hst.2.2;clear hx1 hx2;refine rx ?_)
     |(refine Jg (MF q _ _ hst.1 Yhn) ?_;rintro _ ⟨hx1,hx2⟩;have hst:=hst.step hbq hx1 hx2;have hB:=hst.2.2;clear hx1 hx2;refine rx ?_)
     |(first|refine Vg rfl rfl (fun _=>?_) (fun _=>?_)|refine Vd rfl rfl (fun _=>?_) (fun _=>?_)|refine QZ rfl rfl (fun _=>?_) (fun _=>?_)|refine Vt rfl rfl (fun _=>?_) (fun _=>?_)|refine Ve rfl rfl (fun _=>?_) (fun _=>?_)|refine Vf rfl rfl (fun _=>?_) (fun _=>?_)|refine QB rfl rfl (fun _=>?_) (fun _=>?_)|refine Qv rfl rfl (fun _=>?_) (fun _=>?_))<;>refine rx ?_)
   clear hst hB;rintro g u hst;have hB:Blk u b [iV e.kind,.string e.name,.slice ao1 (e.ws.map KI).length c1,.slice ao2 (e.args.map exC).length c2,.slice ao (e.kids.map gnC).length c,iV e.at_] 98:=hst.2.2;refine rx ?_;refine Jg (MF q _ u hst.1 Yhn) ?_;rintro w2 ⟨hx1,hx2⟩;have hst:=hst.step hbq hx1 hx2;have hB:=hst.2.2;clear hx1 hx2;refine rx ?_;refine Jg (MF q _ w2 hst.1 Yhn) ?_;rintro w3 ⟨hx1,hx2⟩;have hst:=hst.step hbq hx1 hx2;have hB:=hst.2.2;clear hx1 hx2;refine rx ?_;refine Jh 8 [7] (σ:=Nat) (fun i g u=>g 7=iV i/\i<=e.ws.length/\ST q b (gnV e (.slice ao1 (e.ws.map KI).length c1) (.slice ao2 (e.args.map exC).length c2) (.slice ao (e.kids.map gnC).length c)) 98 w u) (fun i=>e.ws.length-i) 0 ⟨rfl,SL _,hst⟩ ?_;clear hst hB;rintro i g u ⟨h5,hi,hst⟩;rw[Ja h5];have hB:Blk u b [iV e.kind,.string e.name,.slice ao1 (e.ws.map KI).length c1,.slice ao2 (e.args.map exC).length c2,.slice ao (e.kids.map gnC).length c,iV e.at_] 98:=hst.2.2;by_cases hlt:i<e.ws.length
   case neg=>
    refine rx ?_
    first|exact JK Yhl Yhz|exact wpList_nil (JK Yhl Yhz)
   obtain⟨ad,cs2,had,hr,hc⟩:=DR.at (f:=KI) Zq (hk1.old hst.2.1 (Je hqS)) hlt;subst had;obtain⟨cs3,rfl,hr0⟩:=RD.JI (x:=iV e.ws[i]) hr;have hc:=cell0 hc;refine Yfq ?_;refine Jg (Gw q _ _ _ hst.1) ?_;rintro w2 ⟨hx1,hx2⟩;have hst:=hst.step hbq hx1 hx2;have hB:=hst.2.2;clear hx1 hx2;exact Ybb
  clear hst hB;rintro g u hst;refine rx ?_;refine Jh 9 [8] (σ:=Nat) (fun i g u=>g 8=iV i/\i<=e.args.length/\ST q b (gnV e (.slice ao1 (e.ws.map KI).length c1) (.slice ao2 (e.args.map exC).length c2) (.slice ao (e.kids.map gnC).length c)) 98 w u) (fun i=>e.args.length-i) 0 ⟨rfl,SL _,hst⟩ ?_;clear hst;rintro i g u ⟨h4,hi,hst⟩;rw[Ja h4];have hB:Blk u b [iV e.kind,.string e.name,.slice ao1 (e.ws.map KI).length c1,.slice ao2 (e.args.map exC).length c2,.slice ao (e.kids.map gnC).length c,iV e.at_] 98:=hst.2.2;by_cases hlt:i<e.args.length
  case pos=>
   obtain⟨ad,cs2,had,hr,hc⟩:=DR.at Jq (hk2.old hst.2.1 (Je hqS)) hlt;subst had;have hr0:=hr;obtain⟨x1,x2,x3,rfl,hu1,hu2,hu3⟩:=exR.1 hr;have hg:=WA hlt;refine rx ?_;refine Jg (Jik q m e.args[i] Yhn (Jat hlim2 hlt) u S _ hqS hst.1 hr0) ?_;rintro w2 ⟨hx1,hx2⟩;have hst:=hst.step hbq hx1 hx2;have hB:=hst.2.2;clear hx1 hx2;refine rx ?_;exact Ygi
  refine rx ?_;refine Jh 10 [9] (σ:=Nat) (fun i g u=>g 9=iV i/\i<=e.kids.length/\ST q b (gnV e (.slice ao1 (e.ws.map KI).length c1) (.slice ao2 (e.args.map exC).length c2) (.slice ao (e.kids.map gnC).length c)) 98 w u) (fun i=>e.kids.length-i) 0 ⟨rfl,SL _,hst⟩ ?_;clear hst hB hi hlt;rintro i g u ⟨h4,hi,hst⟩;rw[Ja h4];have hB:Blk u b [iV e.kind,.string e.name,.slice ao1 (e.ws.map KI).length c1,.slice ao2 (e.args.map exC).length c2,.slice ao (e.kids.map gnC).length c,iV e.at_] 98:=hst.2.2;by_cases hlt:i<e.kids.length
  case neg=>
   refine rx ?_;exact Ygh
  obtain⟨ad,cs2,had,hr,hc⟩:=DR.at KG (hk.old hst.2.1 (Je hqS)) hlt;subst had;have hr0:=hr;obtain⟨x1,x2,x3,rfl,hu1,hu2,hu3⟩:=gnR.1 hr;have hg:=Jb6 hlt;refine rx ?_;refine Jg (ih e.kids[i] Yhn (JeG hlim3 hlt) u S _ hqS hst.1 hr0) ?_;rintro w2 ⟨hx1,hx2⟩;have hst:=hst.step hbq hx1 hx2;have hB:=hst.2.2;clear hx1 hx2;refine rx ?_;exact Ygi
theorem JeY(q:Nat)(t:Gn)(hlim:Gx t=false)(w:World)(S:List Nat)(cs:List Value)(hqS:q∈S)(hFB:FB w q)(hd:RD w S (gnC t) cs):Calls prog 175 #[.pointer (some ⟨q,0,none⟩),.agg cs.toArray] w (FC q w):=by
 rw[Gx,Cc]at hlim;have h32:gnD t<=32:=QK hlim.1;have hd0:=hd;obtain⟨s1,s2,s3,rfl,hk1,hk2,hk⟩:=gnR.1 hd;obtain⟨ao1,c1,rfl,_⟩:=hk1.slice;obtain⟨ao2,c2,rfl,_⟩:=hk2.slice;obtain⟨ao,c,rfl,_⟩:=hk.slice;refine enter func175 rfl ntmps175 rfl ?_;refine rx ?_;refine Ju rfl rfl (fun w1 b hb hB hf1 hs1=>?_);have hqw:=hFB.lt;have hbq:b≠q:=by omega
 obtain⟨b1,b2,b3,hQ⟩:=hFB.tr0 hf1;refine rx ?_;refine Jg (Jje 32 Yhn t h32 w1 S _ (hd0.tr0 hf1)) ?_;rintro w2 hf2;have hQ:=hQ.tr0 hf2;have hB:=hB.tr0 hf2;refine rx ?_
 ((with_reducible apply Ji);exact rfl;(conv=>lhs;whnf);exact rfl;exact hQ;exact rfl)
 intro w3 hQ hf3 hs3;have hB:Blk w3 b _ 98:=hB.tr hf3 Ykr;have hF:Fr [q] w w3:=(QL (hf1.Jb hf2)).trans hf3 (fun x hx=>.inl hx);refine rx ?_;refine Jg (JkT q 32 t h32 hlim.2 w3 S _ hqS ⟨_,_,_,hQ⟩ (hd0.old hF (Je hqS))) ?_;exact Ych
end Go.Proofs.YtggmccicdhnkgaaGreat
