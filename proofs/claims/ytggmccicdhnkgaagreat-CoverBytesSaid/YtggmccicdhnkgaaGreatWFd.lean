/-
 The reference's Faults:types,parameters.
-/
import Derived.Test.YtggmccicdhnkgaaGreatWMp
set_option linter.all false
set_option maxHeartbeats 64000000
namespace Go.Proofs.YtggmccicdhnkgaaGreat
open Go.Proofs.Tryz
open Go.Rf Go.RowKit
variable{w:World}
attribute [local irreducible] Code.wp wpList Exit.then Exit.inBlock bodyPost A Calls execOp Addr.add
theorem Jba{P:Program}(dd:Nat){e:Nat}(he:P.underlying e=some .bool)(x y:Bool):(Op.equalIn (dd+1) e (.bool x) (.bool y)).run P w=.ok (x==y) w:=by
 simp[Op.equalIn,run_underlying he]
theorem JbG{ops:Array Oper}{Q:Exit->Act->World->Prop}{rest:List Oper}{n:Nat}{f:Env}{d:Nat}{ty t2:TypeId}{ps:String}{af:Array Edge}{x y:Operand}{a b:Bool}(hx:ev n f x=.bool a)(hy:ev n f y=.bool b)(h:wpList prog ops Q rest (A n (upd f d (.bool (a==b)))) w):
 wpList prog ops Q (⟨some d,.binOp .eql 4 x y t2,ty,ps,af,none⟩::rest) (A n f) w:=by
 have hu:prog.underlying 4=some .bool:=underlying4;have hg:prog.eqGuardType prog.depth 4=false:=by kernel_rfl
 have e:(Op.equal 4 (.bool a) (.bool b)).run prog w=.ok (a==b) w:=by
  exact Jba 9999 hu a b
 exact JR (by simp[execOp,eqGuard,binOp,hx,hy,e,hg]) h
theorem Jj2(q:Nat):∀(m:Nat) (t:Ty),tyD t<=m->∀(w:World) (S:List Nat) (cs:List Value),q∈S->FB w q->RD w S (tyC t) cs->Calls prog 216 #[.pointer (some ⟨q,0,none⟩),.agg cs.toArray] w (FC q w):=by
 intro m
 induction m with
 |zero=>intro t h;rw[JaG]at h;omega
 |succ m ih=>
  intro t ht w S cs hqS hFB hd;have hqw:=hFB.lt;obtain⟨s,rfl,hk⟩:=tyR.1 hd;obtain⟨ao,c,rfl,_⟩:=hk.slice;have hbn:=hk.bound;have e:=JaG t;have hl:(t.kids.map tyC).length=t.kids.length:=Sr ..;refine enter func216 rfl ntmps216 rfl ?_;refine rx ?_;refine Ju rfl rfl (fun w1 b hb hB hf1 hs1=>?_);have hbq:b≠q:=by omega
  have hst:ST q b _ 90 w w1:=⟨hFB.tr0 hf1,QL hf1,hB⟩;refine rr ?_;refine wpList_nil ?_;refine QG ?_;refine wp_seq ?_;refine KA ?_;refine JaE 4 [] (fun g u=>(ST q b (tyV t (.slice ao (t.kids.map tyC).length c)) 90 w) u) ?_ ?_
  .refine rx ?_
   repeat' (first|exact JK Yhl Yhz|exact wpList_nil (JK Yhl Yhz)|(refine Jg (U1 q _ _ hst.1) ?_;rintro _ ⟨hx1,hx2⟩;have hst:=hst.step hbq hx1 hx2;have hB:=hst.2.2;clear hx1 hx2;refine rx ?_)|(refine JbG rfl rfl ?_;refine rx ?_)|(first|refine Vg rfl rfl (fun _=>?_) (fun _=>?_)|refine Vd rfl rfl (fun _=>?_) (fun _=>?_)|refine QZ rfl rfl (fun _=>?_) (fun _=>?_)|refine Vt rfl rfl (fun _=>?_) (fun _=>?_)|refine Ve rfl rfl (fun _=>?_) (fun _=>?_)|refine Vf rfl rfl (fun _=>?_) (fun _=>?_)|refine QB rfl rfl (fun _=>?_) (fun _=>?_)|refine Qv rfl rfl (fun _=>?_) (fun _=>?_))<;>refine rx ?_)
  clear hst hB;rintro g u hst;have hB:Blk u b [iV t.kind,.string t.name,.slice ao (t.kids.map tyC).length c] 90:=hst.2.2;refine wp_seq ?_;refine KZ 4 [] (fun g u=>ST q b (tyV t (.slice ao (t.kids.map tyC).length c)) 90 w u) ?_ ?_
  .refine rx ?_
   repeat' (first|exact JK Yhl Yhz|exact wpList_nil (JK Yhl Yhz)|(refine Jg (Vo q _ _ _ hst.1) ?_;rintro _ ⟨hx1,hx2⟩;have hst:=hst.step hbq hx1 hx2;have hB:=hst.2.2;clear hx1 hx2;refine rx ?_)|(refine Jg (Vo q _ 1 _ hst.1) ?_;rintro _ ⟨hx1,hx2⟩;have hst:=hst.step hbq hx1 hx2;have hB:=hst.2.2;clear hx1 hx2;refine rx ?_)|(first|refine Vg rfl rfl (fun _=>?_) (fun _=>?_)|refine Vd rfl rfl (fun _=>?_) (fun _=>?_)|refine QZ rfl rfl (fun _=>?_) (fun _=>?_)|refine Vt rfl rfl (fun _=>?_) (fun _=>?_)|refine Ve rfl rfl (fun _=>?_) (fun _=>?_)|refine Vf rfl rfl (fun _=>?_) (fun _=>?_)|refine QB rfl rfl (fun _=>?_) (fun _=>?_)|refine Qv rfl rfl (fun _=>?_) (fun _=>?_))<;>refine rx ?_)
  clear hst hB;rintro g u hst;refine rx ?_;refine Jh 5 [4] (σ:=Nat) (fun i g u=>g 4=iV i/\i<=t.kids.length/\ST q b (tyV t (.slice ao (t.kids.map tyC).length c)) 90 w u) (fun i=>t.kids.length-i) 0 ⟨rfl,SL _,hst⟩ ?_;clear hst;rintro i g u ⟨h4,hi,hst⟩;rw[Ja h4];have hB:Blk u b [iV t.kind,.string t.name,.slice ao (t.kids.map tyC).length c] 90:=hst.2.2;by_cases hlt:i<t.kids.length
  case neg=>
   refine rx ?_;exact Ygh
  obtain⟨ad,cs2,had,hr,hc⟩:=DR.at QT (hk.old hst.2.1 (Je hqS)) hlt;subst had;have hr0:=hr;obtain⟨s2,rfl,hk2⟩:=tyR.1 hr;have hg:=Jbw hlt;refine rx ?_;refine Jg (ih t.kids[i] Yhn u S _ hqS hst.1 hr0) ?_;rintro w2 ⟨hx1,hx2⟩;have hst:=hst.step hbq hx1 hx2;have hB:=hst.2.2;clear hx1 hx2;refine rx ?_;exact Ygi
theorem QK{a b:Nat}(h:ltN a b=false):b<=a:=by
 rcases DF a b with h1|h1
 .simp only[ltN]at h;rw[ZV h1]at h;cases h
 .exact h1
theorem JcT(q:Nat)(t:Ty)(hlim:UY t=false)(w:World)(S:List Nat)(cs:List Value)(hqS:q∈S)(hFB:FB w q)(hd:RD w S (tyC t) cs):Calls prog 171 #[.pointer (some ⟨q,0,none⟩),.agg cs.toArray] w (FC q w):=by
 have h32:tyD t<=32:=QK hlim;have hd0:=hd;obtain⟨s,rfl,hk⟩:=tyR.1 hd;obtain⟨ao,c,rfl,_⟩:=hk.slice;refine enter func171 rfl ntmps171 rfl ?_;refine rx ?_;refine Ju rfl rfl (fun w1 b hb hB hf1 hs1=>?_);have hqw:=hFB.lt;have hbq:b≠q:=by omega
 obtain⟨b1,b2,b3,hQ⟩:=hFB.tr0 hf1;refine rx ?_;refine Jg (Jis 32 Yhn t h32 w1 S _ (hd0.tr0 hf1)) ?_;rintro w2 hf2;have hQ:=hQ.tr0 hf2;have hB:=hB.tr0 hf2;refine rx ?_
 ((with_reducible apply Ji);exact rfl;(conv=>lhs;whnf);exact rfl;exact hQ;exact rfl)
 intro w3 hQ hf3 hs3;have hB:Blk w3 b _ 90:=hB.tr hf3 Ykr;have hF:Fr [q] w w3:=(QL (hf1.Jb hf2)).trans hf3 (fun x hx=>.inl hx);refine rx ?_;refine Jg (Jj2 q 32 t h32 w3 S _ hqS ⟨_,_,_,hQ⟩ (hd0.old hF (Je hqS))) ?_;exact Ych
theorem JaT(q:Nat)(l:List Pm)(hlim:Us l=false)(w:World)(S:List Nat)(v:Value)(hqS:q∈S)(hFB:FB w q)(hd:DR w S (.l (l.map pmC)) v):Calls prog 172 #[.pointer (some ⟨q,0,none⟩),v] w (FC q w):=by
 simp only[Us,Cc,DC]at hlim;obtain⟨h16,hlim⟩:=hlim;obtain⟨ao,c,rfl,_⟩:=hd.slice;have hbn:=hd.bound;have hl:(l.map pmC).length=l.length:=Sr ..;refine enter func172 rfl ntmps172 rfl ?_;refine rx ?_;refine Jg (Jf0 q _ w hFB (by rw[hl];exact h16)) ?_;rintro w1 ⟨h1,hf1⟩;refine Yfu ?_;rintro i g u ⟨h4,hi,hq,hf⟩;rw[Ja h4];by_cases hlt:i<l.length
 case neg=>
  refine rx ?_;exact WI rfl ⟨rfl,hq,hf⟩
 obtain⟨ad,cs2,had,hr,hc⟩:=DR.at Xn (hd.old hf (Je hqS)) hlt;subst had;obtain⟨cs3,rfl,hr0⟩:=hr.JI;obtain⟨s2,rfl,hk2⟩:=tyR.1 hr0;have hc:Cells u (ad.add (i*4)) [.string l[i].name,iV l[i].type.kind,.string l[i].type.name,s2]:=hc;refine rx ?_;refine Jg (Vo q _ 0 _ hq) ?_;rintro w2 ⟨hq2,hf2⟩;have hF2:=hf.trans hf2 (fun x hx=>.inl hx);obtain⟨ad',cs2,had,hr2,hc2⟩:=DR.at Xn (hd.old hF2 (Je hqS)) hlt;obtain rfl:=Dl had;obtain⟨cs3,rfl,hr20⟩:=hr2.JI;obtain⟨s3,rfl,hk3⟩:=tyR.1 hr20;have hc2:Cells w2 (ad.add (i*4)) [.string l[i].name,iV l[i].type.kind,.string l[i].type.name,s3]:=hc2;refine rx ?_;refine Jg (JcT q l[i].type (by simpa using hlim l[i] (Cj hlt)) w2 S _ hqS hq2 hr20) ?_;rintro w3 ⟨hq3,hf3⟩;refine rx ?_;exact Jc (i+1) Yhl ⟨rfl,by omega,hq3,hF2.trans hf3 (fun x hx=>.inl hx)⟩ Yhn
end Go.Proofs.YtggmccicdhnkgaaGreat
