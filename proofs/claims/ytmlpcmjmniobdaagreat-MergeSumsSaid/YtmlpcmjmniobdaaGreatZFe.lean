/-
 The reference's Faults:expressions.
-/
import Derived.Test.YtmlpcmjmniobdaaGreatZFd
set_option linter.all false
set_option maxHeartbeats 64000000
namespace Go.Proofs.YtmlpcmjmniobdaaGreat
open Go.Proofs.Tryz
open Go.Rf Go.RowKit
attribute [local irreducible] Code.wp wpList Exit.then Exit.inBlock bodyPost A Calls execOp Addr.add
theorem mostI(q:Nat)(n:Int)(w:World)(h:FB w q)(hn:n<=16):Calls prog 121 #[.pointer (some ⟨q,0,none⟩),iV n] w (FC q w):=by
 obtain⟨b1,b2,b3,hB⟩:=h;exact Ymf
theorem cell0{w:World}{a:Addr}{v:Value}{l:List Value}(h:Cells w a (v::l)):w.cell? a=some v:=by
 have:=h 0 v rfl
 rwa [show a.add 0=a by simp[Addr.add]]at this
theorem limEs_get{l:List Ex}(h:limEs l=false){i:Nat}(hi:i<l.length):limE l[i]=false:=by
 induction l generalizing i with
 |nil=>simp at hi
 |cons a l ih=>
  simp only[limEs,Bool.or_eq_false_iff]at h;cases i with
  |zero=>exact h.1
  |succ i=>exact ih h.2 Yjf
theorem limE_eq(e:Ex):limE e=(limE1 e.kind e.kids.length e.binds||limEs e.kids):=by cases e;rfl
theorem exprC(q:Nat):∀(m:Nat) (e:Ex),exD e<=m->limE e=false->∀(w:World) (S:List Nat) (cs:List Value),q∈S->FB w q->RD w S (exC e) cs->Calls prog 216 #[.pointer (some ⟨q,0,none⟩),.agg cs.toArray] w (FC q w):=by
 intro m
 induction m with
 |zero=>intro e h;rw[exD_eq]at h;omega
 |succ m ih=>
  intro e ht hlim w S cs hqS hFB hd;obtain⟨s1,s2,s3,rfl,hk1,hk2,hk⟩:=exR.1 hd;obtain⟨ao1,c1,rfl,_⟩:=DR.slice (rows:=_) hk1;obtain⟨ao2,c2,rfl,_⟩:=hk2.slice;obtain⟨ao,c,rfl,_⟩:=hk.slice;have hbn:=hk.bound;have hbn1:=DR.bound (rows:=_) hk1;have hbn2:=hk2.bound;have e0:=exD_eq e;have hl:(e.kids.map exC).length=e.kids.length:=List.length_map ..;have hl1:(e.names.map strR).length=e.names.length:=List.length_map ..;have hl2:(e.binds.map strsR).length=e.binds.length:=List.length_map ..;rw[limE_eq,Bool.or_eq_false_iff]at hlim;obtain⟨hlim1,hlim2⟩:=hlim;refine enter func216 rfl ntmps216 rfl ?_;refine rx ?_;refine s_boxN rfl rfl (fun w1 b hb hB hf1 hs1=>?_);have hqw:=hFB.lt;have hbq:b≠q:=by omega
  have hst:ST q b (exV e (.slice ao1 (e.names.map strR).length c1) (.slice ao2 (e.binds.map strsR).length c2) (.slice ao (e.kids.map exC).length c)) 43 w w1:=⟨hFB.tr0 hf1,fr_new hf1,hB⟩;refine rr ?_;refine wpList_nil ?_;refine q_then ?_;refine wp_seq ?_;refine c_region ?_;refine Ymu ?_;refine c_cutK 5 [] (fun g u=>ST q b (exV e (.slice ao1 (e.names.map strR).length c1) (.slice ao2 (e.binds.map strsR).length c2) (.slice ao (e.kids.map exC).length c)) 43 w u) ?_ ?_
  .unfold limE1 at hlim1;rcases(by omega:e.kind=0\/e.kind=1\/e.kind=2\/e.kind=3\/e.kind=4\/e.kind=5\/e.kind=6\/e.kind=7\/e.kind=9\/(e.kind<0\/9<e.kind)\/e.kind=8)with h8k|h8k|h8k|h8k|h8k|h8k|h8k|h8k|h8k|h8k|h8k
   .clear hlim1 hlim2 ih;exact Yd
   .clear hlim1 hlim2 ih;exact Yd
   .clear hlim1 hlim2 ih;exact Yd
   .have h16:e.kids.length<=16:=by rw[if_pos Yhn]at hlim1;exact ltN_le hlim1
    clear hlim1 hlim2 ih;exact Yd
   .have h16:e.kids.length<=16:=by rw[if_pos Yhn]at hlim1;exact ltN_le hlim1
    clear hlim1 hlim2 ih;exact Yd
   .have h256:e.kids.length<=256:=by rw[if_neg Yhn,if_pos h8k]at hlim1;exact ltN_le hlim1
    clear hlim1 hlim2 ih;exact Yd
   .clear hlim1 hlim2 ih;exact Yd
   .clear hlim1 hlim2 ih;exact Yd
   .clear hlim1 hlim2 ih;exact Yd
   .clear hlim1 hlim2 ih;exact Yd
   rw[if_neg Yhn,if_neg Yhn,if_pos h8k,Bool.or_eq_false_iff,List.any_eq_false]at hlim1;have h17:e.kids.length<=17:=by have:=ltN_le hlim1.1;omega
   have hb16:∀b∈e.binds,b.length<=16:=fun b hb=>ltN_le (by simpa using hlim1.2 b hb)
   clear hlim1 hlim2 ih;refine rx ?_;refine w_cutK 5 [] (fun g u=>ST q b (exV e (.slice ao1 (e.names.map strR).length c1) (.slice ao2 (e.binds.map strsR).length c2) (.slice ao (e.kids.map exC).length c)) 43 w u) ?_ ?_
   .repeat' (first|exact q_cutK Yhl Yhz|exact wpList_nil (q_cutK Yhl Yhz)|(refine s_cE (argC q _ _ hst.1) ?_;rintro _ ⟨hx1,hx2⟩;have hst:=hst.step hbq hx1 hx2;have hB:=hst.2.2;clear hx1 hx2;refine rx ?_)|(refine s_call (plainC _ _ _ _ _ _ _ _ _ _ _ _ _ _ _ _ _) rfl ?_;rintro _ _ ⟨⟨rb,rfl⟩,hx2⟩;refine⟨_,rfl,?_⟩;have hst:=hst.step0 hx2;have hB:=hst.2.2;clear hx2;cases rb<;>refine rx ?_)|(first|refine s_eql rfl rfl (fun _=>?_) (fun _=>?_)|refine s_neq rfl rfl (fun _=>?_) (fun _=>?_)|refine s_lss rfl rfl (fun _=>?_) (fun _=>?_)|refine s_leq rfl rfl (fun _=>?_) (fun _=>?_)|refine s_gtr rfl rfl (fun _=>?_) (fun _=>?_)|refine s_geq rfl rfl (fun _=>?_) (fun _=>?_)|refine s_eqlE rfl rfl (fun _=>?_) (fun _=>?_)|refine s_neqE rfl rfl (fun _=>?_) (fun _=>?_))<;>refine rx ?_)
   clear hst hB;rintro g u hst;have hB:Blk u b [iV e.kind,.string e.name,iV e.n,.slice ao1 (e.names.map strR).length c1,.slice ao2 (e.binds.map strsR).length c2,.slice ao (e.kids.map exC).length c,iV e.at_] 43:=hst.2.2;refine rx ?_;refine s_cE (mostI q _ u hst.1 Yhn) ?_;rintro w2 ⟨hx1,hx2⟩;have hst:=hst.step hbq hx1 hx2;have hB:=hst.2.2;clear hx1 hx2;refine rx ?_;have hst0:=hst;refine c_loopK 6 [5] (σ:=Nat) (fun i g u=>g 5=iV i/\i<=e.names.length/\ST q b (exV e (.slice ao1 (e.names.map strR).length c1) (.slice ao2 (e.binds.map strsR).length c2) (.slice ao (e.kids.map exC).length c)) 43 w u) (fun i=>e.names.length-i) 0 ⟨rfl,Nat.zero_le _,hst⟩ ?_;clear hst hB hst0;rintro i g u ⟨h5,hi,hst⟩;rw[eq_upd h5];have hB:Blk u b [iV e.kind,.string e.name,iV e.n,.slice ao1 (e.names.map strR).length c1,.slice ao2 (e.binds.map strsR).length c2,.slice ao (e.kids.map exC).length c,iV e.at_] 43:=hst.2.2;by_cases hlt:i<e.names.length
   case pos=>
    obtain⟨ad,cs2,had,hr,hc⟩:=DR.at (f:=strR) strR_len (DR.old (d:=.l (e.names.map strR)) hk1 hst.2.1 (one_in hqS)) hlt;subst had;obtain⟨cs3,rfl,hr0⟩:=RD.invC (x:=.string e.names[i]) hr;have hc:=cell0 hc;refine Yfq ?_;refine s_cE (namedC q _ 1 _ hst.1) ?_;rintro w2 ⟨hx1,hx2⟩;have hst:=hst.step hbq hx1 hx2;have hB:=hst.2.2;clear hx1 hx2;refine rx ?_;exact Ygi
   refine rx ?_;refine c_loopK 7 [6] (σ:=Nat) (fun i g u=>g 6=iV i/\i<=e.binds.length/\ST q b (exV e (.slice ao1 (e.names.map strR).length c1) (.slice ao2 (e.binds.map strsR).length c2) (.slice ao (e.kids.map exC).length c)) 43 w u) (fun i=>e.binds.length-i) 0 ⟨rfl,Nat.zero_le _,hst⟩ ?_;clear hst hB hi hlt;rintro i2 g u2 ⟨h6,hi,hst⟩;rw[eq_upd h6];have hB:Blk u2 b [iV e.kind,.string e.name,iV e.n,.slice ao1 (e.names.map strR).length c1,.slice ao2 (e.binds.map strsR).length c2,.slice ao (e.kids.map exC).length c,iV e.at_] 43:=hst.2.2;by_cases hlt:i2<e.binds.length
   case neg=>
    refine rx ?_
    first|exact q_cutK Yhl Yhz|exact wpList_nil (q_cutK Yhl Yhz)
   have hb1:=hb16 _ (List.getElem_mem hlt);obtain⟨ad,cs2,had,hr,hc⟩:=DR.at strsR_len (hk2.old hst.2.1 (one_in hqS)) hlt;subst had;obtain⟨v1,cs3,rfl,hr1,hr0⟩:=RD.inv hr;obtain⟨ao4,c4,rfl,_⟩:=DR.slice (rows:=_) hr1;have hl4:(e.binds[i2].map strR).length=e.binds[i2].length:=List.length_map ..;have hc:=cell0 hc;refine Yfq ?_;refine s_cE (mostI q _ u2 hst.1 Yhn) ?_;rintro w3 ⟨hx1,hx2⟩;have hst:=hst.step hbq hx1 hx2;have hB:=hst.2.2;clear hx1 hx2;refine rx ?_;refine c_loopK 8 [7] (σ:=Nat) (fun i g u=>g 7=iV i/\i<=e.binds[i2].length/\ST q b (exV e (.slice ao1 (e.names.map strR).length c1) (.slice (some ad) (e.binds.map strsR).length c2) (.slice ao (e.kids.map exC).length c)) 43 w u) (fun i=>e.binds[i2].length-i) 0 ⟨rfl,Nat.zero_le _,hst⟩ ?_;clear hst hB;rintro k g u3 ⟨h7,hk3,hst⟩;rw[eq_upd h7];have hB:Blk u3 b [iV e.kind,.string e.name,iV e.n,.slice ao1 (e.names.map strR).length c1,.slice (some ad) (e.binds.map strsR).length c2,.slice ao (e.kids.map exC).length c,iV e.at_] 43:=hst.2.2;obtain⟨ad',cs2,had,hr,hc⟩:=DR.at strsR_len (hk2.old hst.2.1 (one_in hqS)) hlt;obtain rfl:=Option.some.inj had;obtain⟨v1,cs3,rfl,hr1,hr0⟩:=RD.inv hr;obtain⟨ao5,c5,rfl,_⟩:=DR.slice (rows:=_) hr1;have hc:=cell0 hc;by_cases hlt3:k<e.binds[i2].length
   case neg=>
    refine Yfq ?_;exact q_roundK (i2+1) Yhl ⟨rfl,by omega,hst⟩ Yhn
   obtain⟨ad5,cs5,had5,hr5,hc5⟩:=DR.at (f:=strR) strR_len hr1 hlt3;subst had5;obtain⟨cs6,rfl,hr6⟩:=RD.invC (x:=.string e.binds[i2][k]) hr5;have hc5:=cell0 hc5;refine Yfq ?_;refine s_load rfl hc ?_;refine rx ?_;refine s_load rfl hc5 ?_;refine rx ?_;refine s_cE (namedC q _ 0 _ hst.1) ?_;rintro w4 ⟨hx1,hx2⟩;have hst:=hst.step hbq hx1 hx2;have hB:=hst.2.2;clear hx1 hx2;refine rx ?_;exact q_roundK (k+1) Yhl ⟨rfl,by omega,hst⟩ Yhn
  clear hst hB;rintro g u hst;refine rx ?_;refine c_loopK 10 [9] (σ:=Nat) (fun i g u=>g 9=iV i/\i<=e.kids.length/\ST q b (exV e (.slice ao1 (e.names.map strR).length c1) (.slice ao2 (e.binds.map strsR).length c2) (.slice ao (e.kids.map exC).length c)) 43 w u) (fun i=>e.kids.length-i) 0 ⟨rfl,Nat.zero_le _,hst⟩ ?_;clear hst;rintro i g u ⟨h4,hi,hst⟩;rw[eq_upd h4];have hB:Blk u b [iV e.kind,.string e.name,iV e.n,.slice ao1 (e.names.map strR).length c1,.slice ao2 (e.binds.map strsR).length c2,.slice ao (e.kids.map exC).length c,iV e.at_] 43:=hst.2.2;by_cases hlt:i<e.kids.length
  case neg=>
   refine rx ?_;exact Ygh
  obtain⟨ad,cs2,had,hr,hc⟩:=DR.at exC_len (hk.old hst.2.1 (one_in hqS)) hlt;subst had;have hr0:=hr;obtain⟨x1,x2,x3,rfl,hu1,hu2,hu3⟩:=exR.1 hr;have hg:=exDs_get hlt;refine rx ?_;refine s_cE (ih e.kids[i] Yhn (limEs_get hlim2 hlt) u S _ hqS hst.1 hr0) ?_;rintro w2 ⟨hx1,hx2⟩;have hst:=hst.step hbq hx1 hx2;have hB:=hst.2.2;clear hx1 hx2;refine rx ?_;exact Ygi
theorem rootC(q:Nat)(t:Ex)(hlim:limRoot t=false)(w:World)(S:List Nat)(cs:List Value)(hqS:q∈S)(hFB:FB w q)(hd:RD w S (exC t) cs):Calls prog 124 #[.pointer (some ⟨q,0,none⟩),.agg cs.toArray] w (FC q w):=by
 rw[limRoot,Bool.or_eq_false_iff]at hlim;have h32:exD t<=32:=ltN_le hlim.1;have hd0:=hd;obtain⟨s1,s2,s3,rfl,hk1,hk2,hk⟩:=exR.1 hd;obtain⟨ao1,c1,rfl,_⟩:=DR.slice (rows:=_) hk1;obtain⟨ao2,c2,rfl,_⟩:=hk2.slice;obtain⟨ao,c,rfl,_⟩:=hk.slice;refine enter func124 rfl ntmps124 rfl ?_;refine rx ?_;refine s_boxN rfl rfl (fun w1 b hb hB hf1 hs1=>?_);have hqw:=hFB.lt;have hbq:b≠q:=by omega
 obtain⟨b1,b2,b3,hQ⟩:=hFB.tr0 hf1;refine rx ?_;refine s_cE (exDepC 32 Yhn t h32 w1 S _ (hd0.tr0 hf1)) ?_;rintro w2 hf2;have hQ:=hQ.tr0 hf2;have hB:=hB.tr0 hf2;refine rx ?_
 ((with_reducible apply s_storeB);exact rfl;(conv=>lhs;whnf);exact rfl;exact hQ;exact rfl)
 intro w3 hQ hf3 hs3;have hB:Blk w3 b _ 43:=hB.tr hf3 (by simpa using hbq);have hF:Fr [q] w w3:=(fr_new (hf1.trans0 hf2)).trans hf3 (fun x hx=>.inl hx);refine rx ?_;refine s_cE (exprC q 32 t h32 hlim.2 w3 S _ hqS ⟨_,_,_,hQ⟩ (hd0.old hF (one_in hqS))) ?_;exact Ych
end Go.Proofs.YtmlpcmjmniobdaaGreat
