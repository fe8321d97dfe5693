/-
 The reference's Faults:generators.
-/
import Derived.Test.YtmlpcmjmniobdaaGreatZFe
set_option linter.all false
set_option maxHeartbeats 64000000
namespace Go.Proofs.YtmlpcmjmniobdaaGreat
open Go.Proofs.Tryz
open Go.Rf Go.RowKit
attribute [local irreducible] Code.wp wpList Exit.then Exit.inBlock bodyPost A Calls execOp Addr.add
theorem limGs_get{l:List Gn}(h:limGs l=false){i:Nat}(hi:i<l.length):limG l[i]=false:=by
 induction l generalizing i with
 |nil=>simp at hi
 |cons a l ih=>
  simp only[limGs,Bool.or_eq_false_iff]at h;cases i with
  |zero=>exact h.1
  |succ i=>exact ih h.2 Yjf
theorem limG_eq(e:Gn):limG e=(limG1 e.kind e.kids.length e.args.length e.ws.length||(limEs e.args||limGs e.kids)):=by cases e;rfl
theorem genC(q:Nat):∀(m:Nat) (e:Gn),gnD e<=m->limG e=false->∀(w:World) (S:List Nat) (cs:List Value),q∈S->FB w q->RD w S (gnC e) cs->Calls prog 218 #[.pointer (some ⟨q,0,none⟩),.agg cs.toArray] w (FC q w):=by
 intro m
 induction m with
 |zero=>intro e h;rw[gnD_eq]at h;omega
 |succ m ih=>
  intro e ht hlim w S cs hqS hFB hd;obtain⟨s1,s2,s3,rfl,hk1,hk2,hk⟩:=gnR.1 hd;obtain⟨ao1,c1,rfl,_⟩:=hk1.slice;obtain⟨ao2,c2,rfl,_⟩:=hk2.slice;obtain⟨ao,c,rfl,_⟩:=hk.slice;have hbn:=hk.bound;have hbn1:=hk1.bound;have hbn2:=hk2.bound;have e0:=gnD_eq e;have hl:(e.kids.map gnC).length=e.kids.length:=List.length_map ..;have hl1:(e.ws.map intR).length=e.ws.length:=List.length_map ..;have hl2:(e.args.map exC).length=e.args.length:=List.length_map ..;rw[limG_eq,Bool.or_eq_false_iff,Bool.or_eq_false_iff]at hlim;obtain⟨hlim1,hlim2,hlim3⟩:=hlim;refine enter func218 rfl ntmps218 rfl ?_;refine rx ?_;refine s_boxN rfl rfl (fun w1 b hb hB hf1 hs1=>?_);have hqw:=hFB.lt;have hbq:b≠q:=by omega
  have hst:ST q b (gnV e (.slice ao1 (e.ws.map intR).length c1) (.slice ao2 (e.args.map exC).length c2) (.slice ao (e.kids.map gnC).length c)) 46 w w1:=⟨hFB.tr0 hf1,fr_new hf1,hB⟩;refine Yep ?_;refine Ymu ?_;refine c_cutK 7 [] (fun g u=>ST q b (gnV e (.slice ao1 (e.ws.map intR).length c1) (.slice ao2 (e.args.map exC).length c2) (.slice ao (e.kids.map gnC).length c)) 46 w u) ?_ ?_
  .unfold limG1 at hlim1;rcases(by omega:e.kind=0\/e.kind=1\/e.kind=3\/e.kind=4\/e.kind=5\/e.kind=6\/e.kind=7\/(e.kind<0\/7<e.kind)\/e.kind=2)with h8k|h8k|h8k|h8k|h8k|h8k|h8k|h8k|h8k
   .clear hlim1 hlim2 hlim3 ih;exact Yf
   .clear hlim1 hlim2 hlim3 ih;exact Yf
   .clear hlim1 hlim2 hlim3 ih;exact Yf
   .have h16:e.kids.length<=16:=by rw[if_neg Yhn,if_pos h8k]at hlim1;exact ltN_le hlim1
    clear hlim1 hlim2 hlim3 ih;exact Yf
   .clear hlim1 hlim2 hlim3 ih;exact Yf
   .clear hlim1 hlim2 hlim3 ih;exact Yf
   .have h16:e.args.length<=16:=by rw[if_neg Yhn,if_neg Yhn,if_pos h8k]at hlim1;exact ltN_le hlim1
    clear hlim1 hlim2 hlim3 ih;exact Yf
   .clear hlim1 hlim2 hlim3 ih;exact Yf
   rw[if_pos h8k,Bool.or_eq_false_iff]at hlim1;have h16:e.kids.length<=16:=ltN_le hlim1.1;have h17:e.ws.length<=16:=ltN_le hlim1.2;clear hlim1 hlim2 hlim3 ih;refine rx ?_;refine w_cutK 7 [] (fun g u=>ST q b (gnV e (.slice ao1 (e.ws.map intR).length c1) (.slice ao2 (e.args.map exC).length c2) (.slice ao (e.kids.map gnC).length c)) 46 w u) ?_ ?_
   .repeat' (first
     |exact q_cutK Yhl Yhz|exact wpList_nil (q_cutK Yhl Yhz)
     |(refine s_cE (argC q _ _ hst.1) ?_;rintro _ ⟨hx1,hx2⟩;have hst:=hst.step hbq hx1 hx2;have hB:=hst.2.2;clear hx1 hx2;refine rx ?_)
     |(refine s_cE (namedC q _ 0 _ hst.1) ?_;rintro _ ⟨hx1,hx2⟩;have hst:=hst.step hbq hx1 hx2;have hB:=hst.2.2;clear hx1 hx2;refine rx ?_)
     |(refine s_cE (namedC q _ 1 _ hst.1) ?_;rintro _ ⟨hx1,hx2⟩;have hst:=hst.step hbq hx1 hx2;have hB:=hst.2.2;clear hx1 hx2;refine rx ?_)
     |(refine s_cE (mostI q _ _ hst.1 Yhn) ?_;rintro _ ⟨hx1,hx2⟩;have hst:=hst.step hbq hx1 hx2;have hB:=hst.2.2;clear hx1 hx2;refine rx ?_)
     |(first|refine s_eql rfl rfl (fun _=>?_) (fun _=>?_)|refine s_neq rfl rfl (fun _=>?_) (fun _=>?_)|refine s_lss rfl rfl (fun _=>?_) (fun _=>?_)|refine s_leq rfl rfl (fun _=>?_) (fun _=>?_)|refine s_gtr rfl rfl (fun _=>?_) (fun _=>?_)|refine s_geq rfl rfl (fun _=>?_) (fun _=>?_)|refine s_eqlE rfl rfl (fun _=>?_) (fun _=>?_)|refine s_neqE rfl rfl (fun _=>?_) (fun _=>?_))<;>refine rx ?_)
   clear hst hB;rintro g u hst;have hB:Blk u b [iV e.kind,.string e.name,.slice ao1 (e.ws.map intR).length c1,.slice ao2 (e.args.map exC).length c2,.slice ao (e.kids.map gnC).length c,iV e.at_] 46:=hst.2.2;refine rx ?_;refine s_cE (mostI q _ u hst.1 Yhn) ?_;rintro w2 ⟨hx1,hx2⟩;have hst:=hst.step hbq hx1 hx2;have hB:=hst.2.2;clear hx1 hx2;refine rx ?_;refine s_cE (mostI q _ w2 hst.1 Yhn) ?_;rintro w3 ⟨hx1,hx2⟩;have hst:=hst.step hbq hx1 hx2;have hB:=hst.2.2;clear hx1 hx2;refine rx ?_;refine c_loopK 8 [7] (σ:=Nat) (fun i g u=>g 7=iV i/\i<=e.ws.length/\ST q b (gnV e (.slice ao1 (e.ws.map intR).length c1) (.slice ao2 (e.args.map exC).length c2) (.slice ao (e.kids.map gnC).length c)) 46 w u) (fun i=>e.ws.length-i) 0 ⟨rfl,Nat.zero_le _,hst⟩ ?_;clear hst hB;rintro i g u ⟨h5,hi,hst⟩;rw[eq_upd h5];have hB:Blk u b [iV e.kind,.string e.name,.slice ao1 (e.ws.map intR).length c1,.slice ao2 (e.args.map exC).length c2,.slice ao (e.kids.map gnC).length c,iV e.at_] 46:=hst.2.2;by_cases hlt:i<e.ws.length
   case neg=>
    refine rx ?_
    first|exact q_cutK Yhl Yhz|exact wpList_nil (q_cutK Yhl Yhz)
   obtain⟨ad,cs2,had,hr,hc⟩:=DR.at (f:=intR) intR_len (hk1.old hst.2.1 (one_in hqS)) hlt;subst had;obtain⟨cs3,rfl,hr0⟩:=RD.invC (x:=iV e.ws[i]) hr;have hc:=cell0 hc;refine Yfq ?_;refine s_cE (numberC q _ _ _ hst.1) ?_;rintro w2 ⟨hx1,hx2⟩;have hst:=hst.step hbq hx1 hx2;have hB:=hst.2.2;clear hx1 hx2;exact Ybb
  clear hst hB;rintro g u hst;refine rx ?_;refine c_loopK 9 [8] (σ:=Nat) (fun i g u=>g 8=iV i/\i<=e.args.length/\ST q b (gnV e (.slice ao1 (e.ws.map intR).length c1) (.slice ao2 (e.args.map exC).length c2) (.slice ao (e.kids.map gnC).length c)) 46 w u) (fun i=>e.args.length-i) 0 ⟨rfl,Nat.zero_le _,hst⟩ ?_;clear hst;rintro i g u ⟨h4,hi,hst⟩;rw[eq_upd h4];have hB:Blk u b [iV e.kind,.string e.name,.slice ao1 (e.ws.map intR).length c1,.slice ao2 (e.args.map exC).length c2,.slice ao (e.kids.map gnC).length c,iV e.at_] 46:=hst.2.2;by_cases hlt:i<e.args.length
  case pos=>
   obtain⟨ad,cs2,had,hr,hc⟩:=DR.at exC_len (hk2.old hst.2.1 (one_in hqS)) hlt;subst had;have hr0:=hr;obtain⟨x1,x2,x3,rfl,hu1,hu2,hu3⟩:=exR.1 hr;have hg:=exDs_get hlt;refine rx ?_;refine s_cE (exprC q m e.args[i] Yhn (limEs_get hlim2 hlt) u S _ hqS hst.1 hr0) ?_;rintro w2 ⟨hx1,hx2⟩;have hst:=hst.step hbq hx1 hx2;have hB:=hst.2.2;clear hx1 hx2;refine rx ?_;exact Ygi
  refine rx ?_;refine c_loopK 10 [9] (σ:=Nat) (fun i g u=>g 9=iV i/\i<=e.kids.length/\ST q b (gnV e (.slice ao1 (e.ws.map intR).length c1) (.slice ao2 (e.args.map exC).length c2) (.slice ao (e.kids.map gnC).length c)) 46 w u) (fun i=>e.kids.length-i) 0 ⟨rfl,Nat.zero_le _,hst⟩ ?_;clear hst hB hi hlt;rintro i g u ⟨h4,hi,hst⟩;rw[eq_upd h4];have hB:Blk u b [iV e.kind,.string e.name,.slice ao1 (e.ws.map intR).length c1,.slice ao2 (e.args.map exC).length c2,.slice ao (e.kids.map gnC).length c,iV e.at_] 46:=hst.2.2;by_cases hlt:i<e.kids.length
  case neg=>
   refine rx ?_;exact Ygh
  obtain⟨ad,cs2,had,hr,hc⟩:=DR.at gnC_len (hk.old hst.2.1 (one_in hqS)) hlt;subst had;have hr0:=hr;obtain⟨x1,x2,x3,rfl,hu1,hu2,hu3⟩:=gnR.1 hr;have hg:=gnDs_get hlt;refine rx ?_;refine s_cE (ih e.kids[i] Yhn (limGs_get hlim3 hlt) u S _ hqS hst.1 hr0) ?_;rintro w2 ⟨hx1,hx2⟩;have hst:=hst.step hbq hx1 hx2;have hB:=hst.2.2;clear hx1 hx2;refine rx ?_;exact Ygi
theorem wholeC(q:Nat)(t:Gn)(hlim:limWhole t=false)(w:World)(S:List Nat)(cs:List Value)(hqS:q∈S)(hFB:FB w q)(hd:RD w S (gnC t) cs):Calls prog 126 #[.pointer (some ⟨q,0,none⟩),.agg cs.toArray] w (FC q w):=by
 rw[limWhole,Bool.or_eq_false_iff]at hlim;have h32:gnD t<=32:=ltN_le hlim.1;have hd0:=hd;obtain⟨s1,s2,s3,rfl,hk1,hk2,hk⟩:=gnR.1 hd;obtain⟨ao1,c1,rfl,_⟩:=hk1.slice;obtain⟨ao2,c2,rfl,_⟩:=hk2.slice;obtain⟨ao,c,rfl,_⟩:=hk.slice;refine enter func126 rfl ntmps126 rfl ?_;refine rx ?_;refine s_boxN rfl rfl (fun w1 b hb hB hf1 hs1=>?_);have hqw:=hFB.lt;have hbq:b≠q:=by omega
 obtain⟨b1,b2,b3,hQ⟩:=hFB.tr0 hf1;refine rx ?_;refine s_cE (gnDepC 32 Yhn t h32 w1 S _ (hd0.tr0 hf1)) ?_;rintro w2 hf2;have hQ:=hQ.tr0 hf2;have hB:=hB.tr0 hf2;refine rx ?_
 ((with_reducible apply s_storeB);exact rfl;(conv=>lhs;whnf);exact rfl;exact hQ;exact rfl)
 intro w3 hQ hf3 hs3;have hB:Blk w3 b _ 46:=hB.tr hf3 (by simpa using hbq);have hF:Fr [q] w w3:=(fr_new (hf1.trans0 hf2)).trans hf3 (fun x hx=>.inl hx);refine rx ?_;refine s_cE (genC q 32 t h32 hlim.2 w3 S _ hqS ⟨_,_,_,hQ⟩ (hd0.old hF (one_in hqS))) ?_;exact Ych
end Go.Proofs.YtmlpcmjmniobdaaGreat
