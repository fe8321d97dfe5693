/-
 The reference's Faults:expressions.
-/
import Derived.Test.YtggmccicdhnkgaaGreatWFd
set_option linter.all false
set_option maxHeartbeats 64000000
namespace Go.Proofs.YtggmccicdhnkgaaGreat
open Go.Proofs.Tryz
open Go.Rf Go.RowKit
attribute [local irreducible] Code.wp wpList Exit.then Exit.inBlock bodyPost A Calls execOp Addr.add
theorem MF(q:Nat)(n:Int)(w:World)(h:FB w q)(hn:n<=16):Calls prog 170 #[.pointer (some ⟨q,0,none⟩),iV n] w (FC q w):=by
 obtain⟨b1,b2,b3,hB⟩:=h;exact Ybx
theorem cell0{w:World}{a:Addr}{v:Value}{l:List Value}(h:Cells w a (v::l)):w.cell? a=some v:=by
 exact Ydb
theorem Jat{l:List Ex}(h:Gz l=false){i:Nat}(hi:i<l.length):Wh l[i]=false:=by
 induction l generalizing i with
 |nil=>simp at hi
 |cons a l ih=>
  simp only[Gz,Cc]at h;cases i with
  |zero=>exact h.1
  |succ i=>exact ih h.2 Yjf
theorem Jhr(e:Ex):Wh e=(Ut e.kind e.kids.length e.binds||Gz e.kids):=by cases e;rfl
theorem Jik(q:Nat):∀(m:Nat) (e:Ex),exD e<=m->Wh e=false->∀(w:World) (S:List Nat) (cs:List Value),q∈S->FB w q->RD w S (exC e) cs->Calls prog 218 #[.pointer (some ⟨q,0,none⟩),.agg cs.toArray] w (FC q w):=by
 intro m
 induction m with
 |zero=>intro e h;rw[XA]at h;omega
 |succ m ih=>
  intro e ht hlim w S cs hqS hFB hd;obtain⟨s1,s2,s3,rfl,hk1,hk2,hk⟩:=exR.1 hd;obtain⟨ao1,c1,rfl,_⟩:=DR.slice (rows:=_) hk1;obtain⟨ao2,c2,rfl,_⟩:=hk2.slice;obtain⟨ao,c,rfl,_⟩:=hk.slice;have hbn:=hk.bound;have hbn1:=DR.bound (rows:=_) hk1;have hbn2:=hk2.bound;have e0:=XA e;have hl:(e.kids.map exC).length=e.kids.length:=Sr ..;have hl1:(e.names.map JV).length=e.names.length:=Sr ..;have hl2:(e.binds.map JD).length=e.binds.length:=Sr ..;rw[Jhr,Cc]at hlim;obtain⟨hlim1,hlim2⟩:=hlim;refine enter func218 rfl ntmps218 rfl ?_;refine rx ?_;refine Ju rfl rfl (fun w1 b hb hB hf1 hs1=>?_);have hqw:=hFB.lt;have hbq:b≠q:=by omega
  have hst:ST q b (exV e (.slice ao1 (e.names.map JV).length c1) (.slice ao2 (e.binds.map JD).length c2) (.slice ao (e.kids.map exC).length c)) 95 w w1:=⟨hFB.tr0 hf1,QL hf1,hB⟩;refine rr ?_;refine wpList_nil ?_;refine QG ?_;refine wp_seq ?_;refine KA ?_;refine Yfa ?_;refine wp_seq ?_;refine KZ 5 [] (fun g u=>ST q b (exV e (.slice ao1 (e.names.map JV).length c1) (.slice ao2 (e.binds.map JD).length c2) (.slice ao (e.kids.map exC).length c)) 95 w u) ?_ ?_
  .unfold Ut at hlim1;rcases(by omega:e.kind=0\/e.kind=1\/e.kind=2\/e.kind=3\/e.kind=4\/e.kind=5\/e.kind=6\/e.kind=7\/e.kind=9\/(e.kind<0\/9<e.kind)\/e.kind=8)with h8k|h8k|h8k|h8k|h8k|h8k|h8k|h8k|h8k|h8k|h8k
   .clear hlim1 hlim2 ih;exact Yd
   .clear hlim1 hlim2 ih;exact Yd
   .clear hlim1 hlim2 ih;exact Yd
   .have h16:e.kids.length<=16:=by rw[Cb Yhn]at hlim1;exact QK hlim1
    clear hlim1 hlim2 ih;exact Yd
   .have h16:e.kids.length<=16:=by rw[Cb Yhn]at hlim1;exact QK hlim1
    clear hlim1 hlim2 ih;exact Yd
   .have h256:e.kids.length<=256:=by rw[SH Yhn,Cb h8k]at hlim1;exact QK hlim1
    clear hlim1 hlim2 ih;exact Yd
   .clear hlim1 hlim2 ih;exact Yd
   .clear hlim1 hlim2 ih;exact Yd
   .clear hlim1 hlim2 ih;exact Yd
   .clear hlim1 hlim2 ih;exact Yd
   rw[SH Yhn,SH Yhn,Cb h8k,Cc,DC]at hlim1;have h17:e.kids.length<=17:=by have:=QK hlim1.1;omega
   have hb16:∀b∈e.binds,b.length<=16:=fun b hb=>QK (by simpa using hlim1.2 b hb)
   clear hlim1 hlim2 ih;refine rx ?_;refine JaE 5 [] (fun g u=>ST q b (exV e (.slice ao1 (e.names.map JV).length c1) (.slice ao2 (e.binds.map JD).length c2) (.slice ao (e.kids.map exC).length c)) 95 w u) ?_ ?_
   .repeat' (first|exact JK Yhl Yhz|exact wpList_nil (JK Yhl Yhz)|(refine Jg (U1 q _ _ hst.1) ?_;rintro _ ⟨hx1,hx2⟩;have hst:=hst.step hbq hx1 hx2;have hB:=hst.2.2;clear hx1 hx2;refine rx ?_)|(refine s_call (Jc7 _ _ _ _ _ _ _ _ _ _ _ _ _ _ _ _ _) rfl ?_;rintro _ _ ⟨⟨rb,rfl⟩,hx2⟩;refine⟨_,rfl,?_⟩;have hst:=hst.step0 hx2;have hB:=hst.2.2;clear hx2;cases rb<;>refine rx ?_)|(first|refine Vg rfl rfl (fun _=>?_) (fun _=>?_)|refine Vd rfl rfl (fun _=>?_) (fun _=>?_)|refine QZ rfl rfl (fun _=>?_) (fun _=>?_)|refine Vt rfl rfl (fun _=>?_) (fun _=>?_)|refine Ve rfl rfl (fun _=>?_) (fun _=>?_)|refine Vf rfl rfl (fun _=>?_) (fun _=>?_)|refine QB rfl rfl (fun _=>?_) (fun _=>?_)|refine Qv rfl rfl (fun _=>?_) (fun _=>?_))<;>refine rx ?_)
   clear hst hB;rintro g u hst;have hB:Blk u b [iV e.kind,.string e.name,iV e.n,.slice ao1 (e.names.map JV).length c1,.slice ao2 (e.binds.map JD).length c2,.slice ao (e.kids.map exC).length c,iV e.at_] 95:=hst.2.2;refine rx ?_;refine Jg (MF q _ u hst.1 Yhn) ?_;rintro w2 ⟨hx1,hx2⟩;have hst:=hst.step hbq hx1 hx2;have hB:=hst.2.2;clear hx1 hx2;refine rx ?_;have hst0:=hst;refine Jh 6 [5] (σ:=Nat) (fun i g u=>g 5=iV i/\i<=e.names.length/\ST q b (exV e (.slice ao1 (e.names.map JV).length c1) (.slice ao2 (e.binds.map JD).length c2) (.slice ao (e.kids.map exC).length c)) 95 w u) (fun i=>e.names.length-i) 0 ⟨rfl,SL _,hst⟩ ?_;clear hst hB hst0;rintro i g u ⟨h5,hi,hst⟩;rw[Ja h5];have hB:Blk u b [iV e.kind,.string e.name,iV e.n,.slice ao1 (e.names.map JV).length c1,.slice ao2 (e.binds.map JD).length c2,.slice ao (e.kids.map exC).length c,iV e.at_] 95:=hst.2.2;by_cases hlt:i<e.names.length
   case pos=>
    obtain⟨ad,cs2,had,hr,hc⟩:=DR.at (f:=JV) XE (DR.old (d:=.l (e.names.map JV)) hk1 hst.2.1 (Je hqS)) hlt;subst had;obtain⟨cs3,rfl,hr0⟩:=RD.JI (x:=.string e.names[i]) hr;have hc:=cell0 hc;refine Yfq ?_;refine Jg (Vo q _ 1 _ hst.1) ?_;rintro w2 ⟨hx1,hx2⟩;have hst:=hst.step hbq hx1 hx2;have hB:=hst.2.2;clear hx1 hx2;refine rx ?_;exact Ygi
   refine rx ?_;refine Jh 7 [6] (σ:=Nat) (fun i g u=>g 6=iV i/\i<=e.binds.length/\ST q b (exV e (.slice ao1 (e.names.map JV).length c1) (.slice ao2 (e.binds.map JD).length c2) (.slice ao (e.kids.map exC).length c)) 95 w u) (fun i=>e.binds.length-i) 0 ⟨rfl,SL _,hst⟩ ?_;clear hst hB hi hlt;rintro i2 g u2 ⟨h6,hi,hst⟩;rw[Ja h6];have hB:Blk u2 b [iV e.kind,.string e.name,iV e.n,.slice ao1 (e.names.map JV).length c1,.slice ao2 (e.binds.map JD).length c2,.slice ao (e.kids.map exC).length c,iV e.at_] 95:=hst.2.2;by_cases hlt:i2<e.binds.length
   case neg=>
    refine rx ?_
    first|exact JK Yhl Yhz|exact wpList_nil (JK Yhl Yhz)
   have hb1:=hb16 _ (Cj hlt);obtain⟨ad,cs2,had,hr,hc⟩:=DR.at Zz (hk2.old hst.2.1 (Je hqS)) hlt;subst had;obtain⟨v1,cs3,rfl,hr1,hr0⟩:=RD.inv hr;obtain⟨ao4,c4,rfl,_⟩:=DR.slice (rows:=_) hr1;have hl4:(e.binds[i2].map JV).length=e.binds[i2].length:=Sr ..;have hc:=cell0 hc;refine Yfq ?_;refine Jg (MF q _ u2 hst.1 Yhn) ?_;rintro w3 ⟨hx1,hx2⟩;have hst:=hst.step hbq hx1 hx2;have hB:=hst.2.2;clear hx1 hx2;refine rx ?_;refine Jh 8 [7] (σ:=Nat) (fun i g u=>g 7=iV i/\i<=e.binds[i2].length/\ST q b (exV e (.slice ao1 (e.names.map JV).length c1) (.slice (some ad) (e.binds.map JD).length c2) (.slice ao (e.kids.map exC).length c)) 95 w u) (fun i=>e.binds[i2].length-i) 0 ⟨rfl,SL _,hst⟩ ?_;clear hst hB;rintro k g u3 ⟨h7,hk3,hst⟩;rw[Ja h7];have hB:Blk u3 b [iV e.kind,.string e.name,iV e.n,.slice ao1 (e.names.map JV).length c1,.slice (some ad) (e.binds.map JD).length c2,.slice ao (e.kids.map exC).length c,iV e.at_] 95:=hst.2.2;obtain⟨ad',cs2,had,hr,hc⟩:=DR.at Zz (hk2.old hst.2.1 (Je hqS)) hlt;obtain rfl:=Dl had;obtain⟨v1,cs3,rfl,hr1,hr0⟩:=RD.inv hr;obtain⟨ao5,c5,rfl,_⟩:=DR.slice (rows:=_) hr1;have hc:=cell0 hc;by_cases hlt3:k<e.binds[i2].length
   case neg=>
    refine Yfq ?_;exact Jc (i2+1) Yhl ⟨rfl,by omega,hst⟩ Yhn
   obtain⟨ad5,cs5,had5,hr5,hc5⟩:=DR.at (f:=JV) XE hr1 hlt3;subst had5;obtain⟨cs6,rfl,hr6⟩:=RD.JI (x:=.string e.binds[i2][k]) hr5;have hc5:=cell0 hc5;refine Yfq ?_;refine KW rfl hc ?_;refine rx ?_;refine KW rfl hc5 ?_;refine rx ?_;refine Jg (Vo q _ 0 _ hst.1) ?_;rintro w4 ⟨hx1,hx2⟩;have hst:=hst.step hbq hx1 hx2;have hB:=hst.2.2;clear hx1 hx2;refine rx ?_;exact Jc (k+1) Yhl ⟨rfl,by omega,hst⟩ Yhn
  clear hst hB;rintro g u hst;refine rx ?_;refine Jh 10 [9] (σ:=Nat) (fun i g u=>g 9=iV i/\i<=e.kids.length/\ST q b (exV e (.slice ao1 (e.names.map JV).length c1) (.slice ao2 (e.binds.map JD).length c2) (.slice ao (e.kids.map exC).length c)) 95 w u) (fun i=>e.kids.length-i) 0 ⟨rfl,SL _,hst⟩ ?_;clear hst;rintro i g u ⟨h4,hi,hst⟩;rw[Ja h4];have hB:Blk u b [iV e.kind,.string e.name,iV e.n,.slice ao1 (e.names.map JV).length c1,.slice ao2 (e.binds.map JD).length c2,.slice ao (e.kids.map exC).length c,iV e.at_] 95:=hst.2.2;by_cases hlt:i<e.kids.length
  case neg=>
   refine rx ?_;exact Ygh
  obtain⟨ad,cs2,had,hr,hc⟩:=DR.at Jq (hk.old hst.2.1 (Je hqS)) hlt;subst had;have hr0:=hr;obtain⟨x1,x2,x3,rfl,hu1,hu2,hu3⟩:=exR.1 hr;have hg:=WA hlt;refine rx ?_;refine Jg (ih e.kids[i] Yhn (Jat hlim2 hlt) u S _ hqS hst.1 hr0) ?_;rintro w2 ⟨hx1,hx2⟩;have hst:=hst.step hbq hx1 hx2;have hB:=hst.2.2;clear hx1 hx2;refine rx ?_;exact Ygi
theorem Z7(q:Nat)(t:Ex)(hlim:Qi t=false)(w:World)(S:List Nat)(cs:List Value)(hqS:q∈S)(hFB:FB w q)(hd:RD w S (exC t) cs):Calls prog 173 #[.pointer (some ⟨q,0,none⟩),.agg cs.toArray] w (FC q w):=by
 rw[Qi,Cc]at hlim;have h32:exD t<=32:=QK hlim.1;have hd0:=hd;obtain⟨s1,s2,s3,rfl,hk1,hk2,hk⟩:=exR.1 hd;obtain⟨ao1,c1,rfl,_⟩:=DR.slice (rows:=_) hk1;obtain⟨ao2,c2,rfl,_⟩:=hk2.slice;obtain⟨ao,c,rfl,_⟩:=hk.slice;refine enter func173 rfl ntmps173 rfl ?_;refine rx ?_;refine Ju rfl rfl (fun w1 b hb hB hf1 hs1=>?_);have hqw:=hFB.lt;have hbq:b≠q:=by omega
 obtain⟨b1,b2,b3,hQ⟩:=hFB.tr0 hf1;refine rx ?_;refine Jg (Jgl 32 Yhn t h32 w1 S _ (hd0.tr0 hf1)) ?_;rintro w2 hf2;have hQ:=hQ.tr0 hf2;have hB:=hB.tr0 hf2;refine rx ?_
 ((with_reducible apply Ji);exact rfl;(conv=>lhs;whnf);exact rfl;exact hQ;exact rfl)
 intro w3 hQ hf3 hs3;have hB:Blk w3 b _ 95:=hB.tr hf3 Ykr;have hF:Fr [q] w w3:=(QL (hf1.Jb hf2)).trans hf3 (fun x hx=>.inl hx);refine rx ?_;refine Jg (Jik q 32 t h32 hlim.2 w3 S _ hqS ⟨_,_,_,hQ⟩ (hd0.old hF (Je hqS))) ?_;exact Ych
end Go.Proofs.YtggmccicdhnkgaaGreat
