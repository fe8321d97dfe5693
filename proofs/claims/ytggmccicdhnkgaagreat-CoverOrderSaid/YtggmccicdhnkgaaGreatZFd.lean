/-
 The reference's Faults:types,parameters.
-/
import Derived.Test.YtggmccicdhnkgaaGreatZMp
set_option linter.all false
namespace Go.Proofs.YtggmccicdhnkgaaGreat
open Go.Proofs.Tryz
open Go.Rf Go.RowKit
variable{w:World}
attribute [local irreducible] Code.wp wpList Exit.then Exit.inBlock bodyPost A Calls execOp Addr.add
theorem equalIn_bool{P:Program}(dd:Nat){e:Nat}(he:P.underlying e=some .bool)(x y:Bool):(Op.equalIn (dd+1) e (.bool x) (.bool y)).run P w=.ok (x==y) w:=by
 simp[Op.equalIn,run_underlying he]
theorem s_eqBool{ops:Array Oper}{Q:Exit->Act->World->Prop}{rest:List Oper}{n:Nat}{f:Env}{d:Nat}{ty t2:TypeId}{ps:String}{af:Array Edge}{x y:Operand}{a b:Bool}(hx:ev n f x=.bool a)(hy:ev n f y=.bool b)(h:wpList prog ops Q rest (A n (upd f d (.bool (a==b)))) w):
 wpList prog ops Q (⟨some d,.binOp .eql 4 x y t2,ty,ps,af,none⟩::rest) (A n f) w:=by
 have hu:prog.underlying 4=some .bool:=underlying4;have hg:prog.eqGuardType prog.depth 4=false:=by kernel_rfl
 have e:(Op.equal 4 (.bool a) (.bool b)).run prog w=.ok (a==b) w:=by
  exact equalIn_bool 9999 hu a b
 exact s_run (by simp[execOp,eqGuard,binOp,hx,hy,e,hg]) h
set_option maxHeartbeats 8000000 in
theorem partC(q:Nat):∀(m:Nat) (t:Ty),tyD t<=m->∀(w:World) (S:List Nat) (cs:List Value),q∈S->FB w q->RD w S (tyC t) cs->Calls prog 216 #[.pointer (some ⟨q,0,none⟩),.agg cs.toArray] w (FC q w):=by
 intro m
 induction m with
 |zero=>intro t h;rw[tyD_eq]at h;omega
 |succ m ih=>
  intro t ht w S cs hqS hFB hd;have hqw:=hFB.lt;obtain⟨s,rfl,hk⟩:=tyR.1 hd;obtain⟨ao,c,rfl,_⟩:=hk.slice;have hbn:=hk.bound;have e:=tyD_eq t;have hl:(t.kids.map tyC).length=t.kids.length:=List.length_map ..;refine enter func216 rfl ntmps216 rfl ?_;refine rx ?_;refine s_boxN rfl rfl (fun w1 b hb hB hf1 hs1=>?_);have hbq:b≠q:=by omega
  have hst:ST q b _ 90 w w1:=⟨hFB.tr0 hf1,fr_new hf1,hB⟩;refine rr ?_;refine wpList_nil ?_;refine q_then ?_;refine wp_seq ?_;refine c_region ?_;refine w_cutK 4 [] (fun g u=>(ST q b (tyV t (.slice ao (t.kids.map tyC).length c)) 90 w) u) ?_ ?_
  .refine rx ?_
   repeat' (first|exact q_cutK Yhl Yhz|exact wpList_nil (q_cutK Yhl Yhz)|(refine s_cE (argC q _ _ hst.1) ?_;rintro _ ⟨hx1,hx2⟩;have hst:=hst.step hbq hx1 hx2;have hB:=hst.2.2;clear hx1 hx2;refine rx ?_)|(refine s_eqBool rfl rfl ?_;refine rx ?_)|(first|refine s_eql rfl rfl (fun _=>?_) (fun _=>?_)|refine s_neq rfl rfl (fun _=>?_) (fun _=>?_)|refine s_lss rfl rfl (fun _=>?_) (fun _=>?_)|refine s_leq rfl rfl (fun _=>?_) (fun _=>?_)|refine s_gtr rfl rfl (fun _=>?_) (fun _=>?_)|refine s_geq rfl rfl (fun _=>?_) (fun _=>?_)|refine s_eqlE rfl rfl (fun _=>?_) (fun _=>?_)|refine s_neqE rfl rfl (fun _=>?_) (fun _=>?_))<;>refine rx ?_)
  clear hst hB;rintro g u hst;have hB:Blk u b [iV t.kind,.string t.name,.slice ao (t.kids.map tyC).length c] 90:=hst.2.2;refine wp_seq ?_;refine c_cutK 4 [] (fun g u=>ST q b (tyV t (.slice ao (t.kids.map tyC).length c)) 90 w u) ?_ ?_
  .refine rx ?_
   repeat' (first|exact q_cutK Yhl Yhz|exact wpList_nil (q_cutK Yhl Yhz)|(refine s_cE (namedC q _ _ _ hst.1) ?_;rintro _ ⟨hx1,hx2⟩;have hst:=hst.step hbq hx1 hx2;have hB:=hst.2.2;clear hx1 hx2;refine rx ?_)|(refine s_cE (namedC q _ 1 _ hst.1) ?_;rintro _ ⟨hx1,hx2⟩;have hst:=hst.step hbq hx1 hx2;have hB:=hst.2.2;clear hx1 hx2;refine rx ?_)|(first|refine s_eql rfl rfl (fun _=>?_) (fun _=>?_)|refine s_neq rfl rfl (fun _=>?_) (fun _=>?_)|refine s_lss rfl rfl (fun _=>?_) (fun _=>?_)|refine s_leq rfl rfl (fun _=>?_) (fun _=>?_)|refine s_gtr rfl rfl (fun _=>?_) (fun _=>?_)|refine s_geq rfl rfl (fun _=>?_) (fun _=>?_)|refine s_eqlE rfl rfl (fun _=>?_) (fun _=>?_)|refine s_neqE rfl rfl (fun _=>?_) (fun _=>?_))<;>refine rx ?_)
  clear hst hB;rintro g u hst;refine rx ?_;refine c_loopK 5 [4] (σ:=Nat) (fun i g u=>g 4=iV i/\i<=t.kids.length/\ST q b (tyV t (.slice ao (t.kids.map tyC).length c)) 90 w u) (fun i=>t.kids.length-i) 0 ⟨rfl,Nat.zero_le _,hst⟩ ?_;clear hst;rintro i g u ⟨h4,hi,hst⟩;rw[eq_upd h4];have hB:Blk u b [iV t.kind,.string t.name,.slice ao (t.kids.map tyC).length c] 90:=hst.2.2;by_cases hlt:i<t.kids.length
  case neg=>
   refine rx ?_;exact Ygh
  obtain⟨ad,cs2,had,hr,hc⟩:=DR.at tyC_len (hk.old hst.2.1 (one_in hqS)) hlt;subst had;have hr0:=hr;obtain⟨s2,rfl,hk2⟩:=tyR.1 hr;have hg:=tyDs_get hlt;refine rx ?_;refine s_cE (ih t.kids[i] Yhn u S _ hqS hst.1 hr0) ?_;rintro w2 ⟨hx1,hx2⟩;have hst:=hst.step hbq hx1 hx2;have hB:=hst.2.2;clear hx1 hx2;refine rx ?_;exact Ygi
theorem ltN_le{a b:Nat}(h:ltN a b=false):b<=a:=by
 rcases Nat.lt_or_ge a b with h1|h1
 .simp only[ltN]at h;rw[blt_yes h1]at h;cases h
 .exact h1
set_option maxHeartbeats 8000000 in
theorem typC(q:Nat)(t:Ty)(hlim:limT t=false)(w:World)(S:List Nat)(cs:List Value)(hqS:q∈S)(hFB:FB w q)(hd:RD w S (tyC t) cs):Calls prog 171 #[.pointer (some ⟨q,0,none⟩),.agg cs.toArray] w (FC q w):=by
 have h32:tyD t<=32:=ltN_le hlim;have hd0:=hd;obtain⟨s,rfl,hk⟩:=tyR.1 hd;obtain⟨ao,c,rfl,_⟩:=hk.slice;refine enter func171 rfl ntmps171 rfl ?_;refine rx ?_;refine s_boxN rfl rfl (fun w1 b hb hB hf1 hs1=>?_);have hqw:=hFB.lt;have hbq:b≠q:=by omega
 obtain⟨b1,b2,b3,hQ⟩:=hFB.tr0 hf1;refine rx ?_;refine s_cE (tyDepC 32 Yhn t h32 w1 S _ (hd0.tr0 hf1)) ?_;rintro w2 hf2;have hQ:=hQ.tr0 hf2;have hB:=hB.tr0 hf2;refine rx ?_
 ((with_reducible apply s_storeB);exact rfl;(conv=>lhs;whnf);exact rfl;exact hQ;exact rfl)
 intro w3 hQ hf3 hs3;have hB:Blk w3 b _ 90:=hB.tr hf3 Ykr;have hF:Fr [q] w w3:=(fr_new (hf1.trans0 hf2)).trans hf3 (fun x hx=>.inl hx);refine rx ?_;refine s_cE (partC q 32 t h32 w3 S _ hqS ⟨_,_,_,hQ⟩ (hd0.old hF (one_in hqS))) ?_;exact Ych
set_option maxHeartbeats 8000000 in
theorem paramsC(q:Nat)(l:List Pm)(hlim:limPs l=false)(w:World)(S:List Nat)(v:Value)(hqS:q∈S)(hFB:FB w q)(hd:DR w S (.l (l.map pmC)) v):Calls prog 172 #[.pointer (some ⟨q,0,none⟩),v] w (FC q w):=by
 simp only[limPs,Bool.or_eq_false_iff,List.any_eq_false]at hlim;obtain⟨h16,hlim⟩:=hlim;obtain⟨ao,c,rfl,_⟩:=hd.slice;have hbn:=hd.bound;have hl:(l.map pmC).length=l.length:=List.length_map ..;refine enter func172 rfl ntmps172 rfl ?_;refine rx ?_;refine s_cE (mostC q _ w hFB (by rw[hl];exact h16)) ?_;rintro w1 ⟨h1,hf1⟩;refine Yfu ?_;rintro i g u ⟨h4,hi,hq,hf⟩;rw[eq_upd h4];by_cases hlt:i<l.length
 case neg=>
  refine rx ?_;exact end0 rfl ⟨rfl,hq,hf⟩
 obtain⟨ad,cs2,had,hr,hc⟩:=DR.at pmC_len (hd.old hf (one_in hqS)) hlt;subst had;obtain⟨cs3,rfl,hr0⟩:=hr.invC;obtain⟨s2,rfl,hk2⟩:=tyR.1 hr0;have hc:Cells u (ad.add (i*4)) [.string l[i].name,iV l[i].type.kind,.string l[i].type.name,s2]:=hc;refine rx ?_;refine s_cE (namedC q _ 0 _ hq) ?_;rintro w2 ⟨hq2,hf2⟩;have hF2:=hf.trans hf2 (fun x hx=>.inl hx);obtain⟨ad',cs2,had,hr2,hc2⟩:=DR.at pmC_len (hd.old hF2 (one_in hqS)) hlt;obtain rfl:=Option.some.inj had;obtain⟨cs3,rfl,hr20⟩:=hr2.invC;obtain⟨s3,rfl,hk3⟩:=tyR.1 hr20;have hc2:Cells w2 (ad.add (i*4)) [.string l[i].name,iV l[i].type.kind,.string l[i].type.name,s3]:=hc2;refine rx ?_;refine s_cE (typC q l[i].type (by simpa using hlim l[i] (List.getElem_mem hlt)) w2 S _ hqS hq2 hr20) ?_;rintro w3 ⟨hq3,hf3⟩;refine rx ?_;exact q_roundK (i+1) Yhl ⟨rfl,by omega,hq3,hF2.trans hf3 (fun x hx=>.inl hx)⟩ Yhn
end Go.Proofs.YtggmccicdhnkgaaGreat
