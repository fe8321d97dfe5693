/-
 The numbers of the reference's tokens are not negative,and not great.
-/
import Derived.Test.YtggmccicdhnkgaaGreatZQm
import Derived.Test.YtggmccicdhnkgaaGreatZFgu1
import Derived.Test.YtggmccicdhnkgaaGreatZPd
set_option linter.all false
namespace Go.Proofs.YtggmccicdhnkgaaGreat
open Go.Proofs.Tryz
open Go.Rf Go.RowKit
attribute [local irreducible] Code.wp wpList Exit.then Exit.inBlock bodyPost A Calls execOp Addr.add
set_option maxHeartbeats 16000000 in
theorem unusedC3(q:Nat)(d:De)(h:d.kind=3)(ct pm ty dw ck cs cl st cm op bo1 bo2 bo3 ge1 ge2 ge3 it1 it2 it3 rc1 rc2 rc3:Option Addr)(ctn ctc pmn pmc tyn tyc dwn dwc ckn ckc csn csc cln clc stn stc cmn cmc opn opc bon1 boc1 bon2 boc2 bon3 boc3 gen1 gec1 gen2 gec2 gen3 gec3 itn1 itc1 itn2 itc2 itn3 itc3 rcn1 rcc1 rcn2 rcc2 rcn3 rcc3:Nat)(w:World)(hFB:FB w q):Calls prog 167 #[.pointer (some ⟨q,0,none⟩),.agg ([iV d.kind,.string d.name,iV d.at_,.slice ct ctn ctc,.slice pm pmn pmc,iV d.type.kind,.string d.type.name,.slice ty tyn tyc,iV d.body.kind,.string d.body.name,iV d.body.n,.slice bo1 bon1 boc1,.slice bo2 bon2 boc2,.slice bo3 bon3 boc3,iV d.body.at_,iV d.depth,iV d.gen.kind,.string d.gen.name,.slice ge1 gen1 gec1,.slice ge2 gen2 gec2,.slice ge3 gen3 gec3,iV d.gen.at_,.slice dw dwn dwc,.slice ck ckn ckc,.slice cs csn csc,.slice cl cln clc,iV d.state.kind,.string d.state.name,.slice st stn stc,iV d.init.kind,.string d.init.name,iV d.init.n,.slice it1 itn1 itc1,.slice it2 itn2 itc2,.slice it3 itn3 itc3,iV d.init.at_,.slice cm cmn cmc,.slice op opn opc,iV d.recov.kind,.string d.recov.name,iV d.recov.n,.slice rc1 rcn1 rcc1,.slice rc2 rcn2 rcc2,.slice rc3 rcn3 rcc3,iV d.recov.at_]:List Value).toArray] w (FC q w):=by
 refine enter func167 rfl ntmps167 rfl ?_
 refine rx ?_
 refine s_boxN rfl rfl (fun w1 b hb hB hf1 hs1=>?_);have hqw:=hFB.lt;have hbq:b≠q:=by omega
 have hst:ST q b [iV d.kind,.string d.name,iV d.at_,.slice ct ctn ctc,.slice pm pmn pmc,iV d.type.kind,.string d.type.name,.slice ty tyn tyc,iV d.body.kind,.string d.body.name,iV d.body.n,.slice bo1 bon1 boc1,.slice bo2 bon2 boc2,.slice bo3 bon3 boc3,iV d.body.at_,iV d.depth,iV d.gen.kind,.string d.gen.name,.slice ge1 gen1 gec1,.slice ge2 gen2 gec2,.slice ge3 gen3 gec3,iV d.gen.at_,.slice dw dwn dwc,.slice ck ckn ckc,.slice cs csn csc,.slice cl cln clc,iV d.state.kind,.string d.state.name,.slice st stn stc,iV d.init.kind,.string d.init.name,iV d.init.n,.slice it1 itn1 itc1,.slice it2 itn2 itc2,.slice it3 itn3 itc3,iV d.init.at_,.slice cm cmn cmc,.slice op opn opc,iV d.recov.kind,.string d.recov.name,iV d.recov.n,.slice rc1 rcn1 rcc1,.slice rc2 rcn2 rcc2,.slice rc3 rcn3 rcc3,iV d.recov.at_] 105 w w1:=⟨hFB.tr0 hf1,fr_new hf1,hB⟩
 clear hf1 hs1 hFB
 refine Yej ?_
 refine Yek ?_
 refine Yeu ?_
 refine wp_seq ?_
 refine Ygr ?_ ?_
 .refine rx ?_
  exact Ya
 clear hst hB
 rintro g u ⟨g0,g3,g4,g5,g6,g7,g8,hst⟩
 rw[eq_upd g0,eq_upd g3,eq_upd g4,eq_upd g5,eq_upd g6,eq_upd g7,eq_upd g8]
 clear g0 g3 g4 g5 g6 g7 g8
 have hB:=hst.2.2
 refine wp_seq ?_
 refine Ygr ?_ ?_
 .refine rx ?_
  exact Ya
 clear hst hB
 rintro g u ⟨g0,g3,g4,g5,g6,g7,g8,hst⟩
 rw[eq_upd g0,eq_upd g3,eq_upd g4,eq_upd g5,eq_upd g6,eq_upd g7,eq_upd g8]
 clear g0 g3 g4 g5 g6 g7 g8
 have hB:=hst.2.2
 refine wp_seq ?_
 refine Ygr ?_ ?_
 .refine rx ?_
  exact Ya
 clear hst hB
 rintro g u ⟨g0,g3,g4,g5,g6,g7,g8,hst⟩
 rw[eq_upd g0,eq_upd g3,eq_upd g4,eq_upd g5,eq_upd g6,eq_upd g7,eq_upd g8]
 clear g0 g3 g4 g5 g6 g7 g8
 have hB:=hst.2.2
 refine wp_seq ?_
 refine Ygr ?_ ?_
 .refine rx ?_
  exact Ya
 clear hst hB
 rintro g u ⟨g0,g3,g4,g5,g6,g7,g8,hst⟩
 rw[eq_upd g0,eq_upd g3,eq_upd g4,eq_upd g5,eq_upd g6,eq_upd g7,eq_upd g8]
 clear g0 g3 g4 g5 g6 g7 g8
 have hB:=hst.2.2
 refine wp_seq ?_
 refine Ygr ?_ ?_
 .refine rx ?_
  exact Ya
 clear hst hB
 rintro g u ⟨g0,g3,g4,g5,g6,g7,g8,hst⟩
 rw[eq_upd g0,eq_upd g3,eq_upd g4,eq_upd g5,eq_upd g6,eq_upd g7,eq_upd g8]
 clear g0 g3 g4 g5 g6 g7 g8
 have hB:=hst.2.2
 refine wp_seq ?_
 refine Ygr ?_ ?_
 .refine rx ?_
  exact Ya
 clear hst hB
 rintro g u ⟨g0,g3,g4,g5,g6,g7,g8,hst⟩
 rw[eq_upd g0,eq_upd g3,eq_upd g4,eq_upd g5,eq_upd g6,eq_upd g7,eq_upd g8]
 clear g0 g3 g4 g5 g6 g7 g8
 have hB:=hst.2.2
 refine wp_seq ?_
 refine Ygr ?_ ?_
 .refine rx ?_
  exact Ya
 clear hst hB
 rintro g u ⟨g0,g3,g4,g5,g6,g7,g8,hst⟩
 rw[eq_upd g0,eq_upd g3,eq_upd g4,eq_upd g5,eq_upd g6,eq_upd g7,eq_upd g8]
 clear g0 g3 g4 g5 g6 g7 g8
 have hB:=hst.2.2
 refine wp_seq ?_
 refine Ygr ?_ ?_
 .refine rx ?_
  exact Ya
 exact Yh
set_option maxHeartbeats 16000000 in
theorem unusedC4(q:Nat)(d:De)(h:d.kind=4)(ct pm ty dw ck cs cl st cm op bo1 bo2 bo3 ge1 ge2 ge3 it1 it2 it3 rc1 rc2 rc3:Option Addr)(ctn ctc pmn pmc tyn tyc dwn dwc ckn ckc csn csc cln clc stn stc cmn cmc opn opc bon1 boc1 bon2 boc2 bon3 boc3 gen1 gec1 gen2 gec2 gen3 gec3 itn1 itc1 itn2 itc2 itn3 itc3 rcn1 rcc1 rcn2 rcc2 rcn3 rcc3:Nat)(w:World)(hFB:FB w q):Calls prog 167 #[.pointer (some ⟨q,0,none⟩),.agg ([iV d.kind,.string d.name,iV d.at_,.slice ct ctn ctc,.slice pm pmn pmc,iV d.type.kind,.string d.type.name,.slice ty tyn tyc,iV d.body.kind,.string d.body.name,iV d.body.n,.slice bo1 bon1 boc1,.slice bo2 bon2 boc2,.slice bo3 bon3 boc3,iV d.body.at_,iV d.depth,iV d.gen.kind,.string d.gen.name,.slice ge1 gen1 gec1,.slice ge2 gen2 gec2,.slice ge3 gen3 gec3,iV d.gen.at_,.slice dw dwn dwc,.slice ck ckn ckc,.slice cs csn csc,.slice cl cln clc,iV d.state.kind,.string d.state.name,.slice st stn stc,iV d.init.kind,.string d.init.name,iV d.init.n,.slice it1 itn1 itc1,.slice it2 itn2 itc2,.slice it3 itn3 itc3,iV d.init.at_,.slice cm cmn cmc,.slice op opn opc,iV d.recov.kind,.string d.recov.name,iV d.recov.n,.slice rc1 rcn1 rcc1,.slice rc2 rcn2 rcc2,.slice rc3 rcn3 rcc3,iV d.recov.at_]:List Value).toArray] w (FC q w):=by
 exact Yde
set_option maxHeartbeats 16000000 in
theorem unusedC5(q:Nat)(d:De)(h:d.kind=5)(ct pm ty dw ck cs cl st cm op bo1 bo2 bo3 ge1 ge2 ge3 it1 it2 it3 rc1 rc2 rc3:Option Addr)(ctn ctc pmn pmc tyn tyc dwn dwc ckn ckc csn csc cln clc stn stc cmn cmc opn opc bon1 boc1 bon2 boc2 bon3 boc3 gen1 gec1 gen2 gec2 gen3 gec3 itn1 itc1 itn2 itc2 itn3 itc3 rcn1 rcc1 rcn2 rcc2 rcn3 rcc3:Nat)(w:World)(hFB:FB w q):Calls prog 167 #[.pointer (some ⟨q,0,none⟩),.agg ([iV d.kind,.string d.name,iV d.at_,.slice ct ctn ctc,.slice pm pmn pmc,iV d.type.kind,.string d.type.name,.slice ty tyn tyc,iV d.body.kind,.string d.body.name,iV d.body.n,.slice bo1 bon1 boc1,.slice bo2 bon2 boc2,.slice bo3 bon3 boc3,iV d.body.at_,iV d.depth,iV d.gen.kind,.string d.gen.name,.slice ge1 gen1 gec1,.slice ge2 gen2 gec2,.slice ge3 gen3 gec3,iV d.gen.at_,.slice dw dwn dwc,.slice ck ckn ckc,.slice cs csn csc,.slice cl cln clc,iV d.state.kind,.string d.state.name,.slice st stn stc,iV d.init.kind,.string d.init.name,iV d.init.n,.slice it1 itn1 itc1,.slice it2 itn2 itc2,.slice it3 itn3 itc3,iV d.init.at_,.slice cm cmn cmc,.slice op opn opc,iV d.recov.kind,.string d.recov.name,iV d.recov.n,.slice rc1 rcn1 rcc1,.slice rc2 rcn2 rcc2,.slice rc3 rcn3 rcc3,iV d.recov.at_]:List Value).toArray] w (FC q w):=by
 exact Yde
end Go.Proofs.YtggmccicdhnkgaaGreat
namespace Go.Proofs.YtggmccicdhnkgaaGreat
open Go.Proofs.Tryz
open Go.Rf Go.RowKit
attribute [local irreducible] Code.wp wpList Exit.then Exit.inBlock bodyPost A Calls execOp Addr.add
theorem unusedC(q:Nat)(d:De)(hk:0<=d.kind/\d.kind<=5)(ct pm ty dw ck cs cl st cm op bo1 bo2 bo3 ge1 ge2 ge3 it1 it2 it3 rc1 rc2 rc3:Option Addr)(ctn ctc pmn pmc tyn tyc dwn dwc ckn ckc csn csc cln clc stn stc cmn cmc opn opc bon1 boc1 bon2 boc2 bon3 boc3 gen1 gec1 gen2 gec2 gen3 gec3 itn1 itc1 itn2 itc2 itn3 itc3 rcn1 rcc1 rcn2 rcc2 rcn3 rcc3:Nat)(w:World)(hFB:FB w q):Calls prog 167 #[.pointer (some ⟨q,0,none⟩),.agg ([iV d.kind,.string d.name,iV d.at_,.slice ct ctn ctc,.slice pm pmn pmc,iV d.type.kind,.string d.type.name,.slice ty tyn tyc,iV d.body.kind,.string d.body.name,iV d.body.n,.slice bo1 bon1 boc1,.slice bo2 bon2 boc2,.slice bo3 bon3 boc3,iV d.body.at_,iV d.depth,iV d.gen.kind,.string d.gen.name,.slice ge1 gen1 gec1,.slice ge2 gen2 gec2,.slice ge3 gen3 gec3,iV d.gen.at_,.slice dw dwn dwc,.slice ck ckn ckc,.slice cs csn csc,.slice cl cln clc,iV d.state.kind,.string d.state.name,.slice st stn stc,iV d.init.kind,.string d.init.name,iV d.init.n,.slice it1 itn1 itc1,.slice it2 itn2 itc2,.slice it3 itn3 itc3,iV d.init.at_,.slice cm cmn cmc,.slice op opn opc,iV d.recov.kind,.string d.recov.name,iV d.recov.n,.slice rc1 rcn1 rcc1,.slice rc2 rcn2 rcc2,.slice rc3 rcn3 rcc3,iV d.recov.at_]:List Value).toArray] w (FC q w):=by
 rcases(by omega:d.kind=0\/d.kind=1\/d.kind=2\/d.kind=3\/d.kind=4\/d.kind=5)with h|h|h|h|h|h
 .exact unusedC0 q d h _ _ _ _ _ _ _ _ _ _ _ _ _ _ _ _ _ _ _ _ _ _ _ _ _ _ _ _ _ _ _ _ _ _ _ _ _ _ _ _ _ _ _ _ _ _ _ _ _ _ _ _ _ _ _ _ _ _ _ _ _ _ _ _ _ _ w hFB
 .exact unusedC1 q d h _ _ _ _ _ _ _ _ _ _ _ _ _ _ _ _ _ _ _ _ _ _ _ _ _ _ _ _ _ _ _ _ _ _ _ _ _ _ _ _ _ _ _ _ _ _ _ _ _ _ _ _ _ _ _ _ _ _ _ _ _ _ _ _ _ _ w hFB
 .exact unusedC2 q d h _ _ _ _ _ _ _ _ _ _ _ _ _ _ _ _ _ _ _ _ _ _ _ _ _ _ _ _ _ _ _ _ _ _ _ _ _ _ _ _ _ _ _ _ _ _ _ _ _ _ _ _ _ _ _ _ _ _ _ _ _ _ _ _ _ _ w hFB
 .exact unusedC3 q d h _ _ _ _ _ _ _ _ _ _ _ _ _ _ _ _ _ _ _ _ _ _ _ _ _ _ _ _ _ _ _ _ _ _ _ _ _ _ _ _ _ _ _ _ _ _ _ _ _ _ _ _ _ _ _ _ _ _ _ _ _ _ _ _ _ _ w hFB
 .exact unusedC4 q d h _ _ _ _ _ _ _ _ _ _ _ _ _ _ _ _ _ _ _ _ _ _ _ _ _ _ _ _ _ _ _ _ _ _ _ _ _ _ _ _ _ _ _ _ _ _ _ _ _ _ _ _ _ _ _ _ _ _ _ _ _ _ _ _ _ _ w hFB
 .exact unusedC5 q d h _ _ _ _ _ _ _ _ _ _ _ _ _ _ _ _ _ _ _ _ _ _ _ _ _ _ _ _ _ _ _ _ _ _ _ _ _ _ _ _ _ _ _ _ _ _ _ _ _ _ _ _ _ _ _ _ _ _ _ _ _ _ _ _ _ _ w hFB
end Go.Proofs.YtggmccicdhnkgaaGreat
namespace Go.Proofs.YtggmccicdhnkgaaGreat
open Go.Proofs.Tryz
open Go.Rf Go.RowKit
attribute [local irreducible] Code.wp wpList Exit.then Exit.inBlock bodyPost A Calls execOp Addr.add
set_option maxHeartbeats 32000000 in
theorem declC(q:Nat)(d:De)(hlim:limD d=false)(hk:0<=d.kind/\d.kind<=5)(w:World)(S:List Nat)(cs:List Value)(hqS:q∈S)(hFB:FB w q)(hd:RD w S (deC d) cs):Calls prog 131 #[.pointer (some ⟨q,0,none⟩),.agg cs.toArray] w (FC q w):=by
 obtain⟨_,rfl,r1⟩:=RD.invC (x:=iV d.kind) hd
 obtain⟨_,rfl,r2⟩:=RD.invC (x:=.string d.name) r1
 obtain⟨_,rfl,r3⟩:=RD.invC (x:=iV d.at_) r2
 obtain⟨ct,ctc,_,rfl,hct,r4⟩:=RD.lst (rows:=d.ctors.map ctC) r3
 obtain⟨pm,pmc,_,rfl,hpm,r5⟩:=RD.lst (rows:=d.params.map pmC) r4
 obtain⟨sty,_,rfl,hty,hk1,r6⟩:=RD.ty (t:=d.type) r5
 obtain⟨ty,tyc,rfl,_⟩:=hk1.slice
 obtain⟨bo1,bon1,boc1,bo2,bon2,boc2,bo3,bon3,boc3,_,rfl,hbo,r7⟩:=RD.ex (e:=d.body) r6
 obtain⟨_,rfl,r8⟩:=RD.invC (x:=iV d.depth) r7
 obtain⟨ge1,gen1,gec1,ge2,gen2,gec2,ge3,gen3,gec3,_,rfl,hge,r9⟩:=RD.gn (g:=d.gen) r8
 obtain⟨dw,dwc,_,rfl,hdw,r10⟩:=RD.lst (rows:=d.draws.map dwC) r9
 obtain⟨ck,ckc,_,rfl,hck,r11⟩:=RD.lst (rows:=d.checks.map ckC) r10
 obtain⟨cs,csc,_,rfl,hcs,r12⟩:=RD.lst (rows:=d.classes.map ckC) r11
 obtain⟨cl,clc,_,rfl,hcl,r13⟩:=RD.lst (rows:=d.claims.map clC) r12
 obtain⟨sst,_,rfl,hstt,hk2,r14⟩:=RD.ty (t:=d.state) r13
 obtain⟨st,stc,rfl,_⟩:=hk2.slice
 obtain⟨it1,itn1,itc1,it2,itn2,itc2,it3,itn3,itc3,_,rfl,hit,r15⟩:=RD.ex (e:=d.init) r14
 obtain⟨cm,cmc,_,rfl,hcm,r16⟩:=RD.lst (rows:=d.cmds.map cmC) r15
 obtain⟨op,opc,_,rfl,hop,r17⟩:=RD.lst (rows:=d.ops.map opC) r16
 obtain⟨rc1,rcn1,rcc1,rc2,rcn2,rcc2,rc3,rcn3,rcc3,_,rfl,hrc,r18⟩:=RD.ex (e:=d.recov) (ds:=[]) Yhz
 obtain rfl:=r18.inv0
 clear r1 r2 r3 r4 r5 r6 r7 r8 r9 r10 r11 r12 r13 r14 r15 r16 r17 r18 hk1 hk2
 unfold limD at hlim
 rcases(by omega:d.kind=0\/d.kind=1\/d.kind=2\/d.kind=3\/d.kind=4\/d.kind=5)with h|h|h|h|h|h
 .rw [if_pos h,Bool.or_eq_false_iff,List.any_eq_false]at hlim
  refine Yff ?_
  refine s_boxN rfl rfl (fun w1 b hb hB hf1 hs1=>?_);have hqw:=hFB.lt;have hbq:b≠q:=by omega
  have hst:ST q b _ 105 w w1:=⟨hFB.tr0 hf1,fr_new hf1,hB⟩
  refine Yes ?_
  rintro w2 ⟨hx1,hx102⟩
  have hst:=hst.step hbq hx1 hx102
  have hB:=hst.2.2
  refine rx ?_
  refine s_cE (namedC q _ 1 _ hst.1) ?_
  rintro w3 ⟨hx1,hx103⟩
  have hst:=hst.step hbq hx1 hx103
  have hB:=hst.2.2
  refine rx ?_
  obtain⟨h16,hlim⟩:=hlim
  have h16:=ltN_le h16
  have hl:(d.ctors.map ctC).length=d.ctors.length:=List.length_map ..
  have hbn:=hct.bound
  refine w_cutK 4 [] (fun g u=>ST q b [iV d.kind,.string d.name,iV d.at_,.slice ct (d.ctors.map ctC).length ctc,.slice pm (d.params.map pmC).length pmc,iV d.type.kind,.string d.type.name,.slice ty (d.type.kids.map tyC).length tyc,iV d.body.kind,.string d.body.name,iV d.body.n,.slice bo1 bon1 boc1,.slice bo2 bon2 boc2,.slice bo3 bon3 boc3,iV d.body.at_,iV d.depth,iV d.gen.kind,.string d.gen.name,.slice ge1 gen1 gec1,.slice ge2 gen2 gec2,.slice ge3 gen3 gec3,iV d.gen.at_,.slice dw (d.draws.map dwC).length dwc,.slice ck (d.checks.map ckC).length ckc,.slice cs (d.classes.map ckC).length csc,.slice cl (d.claims.map clC).length clc,iV d.state.kind,.string d.state.name,.slice st (d.state.kids.map tyC).length stc,iV d.init.kind,.string d.init.name,iV d.init.n,.slice it1 itn1 itc1,.slice it2 itn2 itc2,.slice it3 itn3 itc3,iV d.init.at_,.slice cm (d.cmds.map cmC).length cmc,.slice op (d.ops.map opC).length opc,iV d.recov.kind,.string d.recov.name,iV d.recov.n,.slice rc1 rcn1 rcc1,.slice rc2 rcn2 rcc2,.slice rc3 rcn3 rcc3,iV d.recov.at_] 105 w u) ?_ ?_
  .repeat' (first|exact q_cutK Yhb Yhp|exact wpList_nil (q_cutK Yhb Yhp)|(refine s_cE (argC q _ _ hst.1) ?_;rintro _ ⟨hx1,hx2⟩;have hst:=hst.step hbq hx1 hx2;have hB:=hst.2.2;clear hx1 hx2;refine rx ?_)|(first|refine s_eql rfl rfl (fun _=>?_) (fun _=>?_)|refine s_neq rfl rfl (fun _=>?_) (fun _=>?_)|refine s_lss rfl rfl (fun _=>?_) (fun _=>?_)|refine s_leq rfl rfl (fun _=>?_) (fun _=>?_)|refine s_gtr rfl rfl (fun _=>?_) (fun _=>?_)|refine s_geq rfl rfl (fun _=>?_) (fun _=>?_)|refine s_eqlE rfl rfl (fun _=>?_) (fun _=>?_)|refine s_neqE rfl rfl (fun _=>?_) (fun _=>?_))<;>refine rx ?_)
  clear hst hB
  rintro g u hst
  have hB:=hst.2.2
  refine Yfe ?_
  rintro w5 ⟨hx1,hx105⟩
  have hst:=hst.step hbq hx1 hx105
  have hB:=hst.2.2
  refine rx ?_
  refine c_loopK 5 [4] (σ:=Nat) (fun k0 g u=>g 4=iV k0/\k0<=d.ctors.length/\ST q b _ 105 w u) (fun k0=>d.ctors.length-k0) 0 ⟨rfl,Nat.zero_le _,hst⟩ ?_
  clear hst hB
  rintro i g w6 ⟨h4,hii,hst⟩
  rw[eq_upd h4]
  have hB:=hst.2.2
  by_cases hlti:i<d.ctors.length
  case neg=>
   refine rx ?_
   exact Yfx
  have hli:=hlim d.ctors[i] (List.getElem_mem hlti)
  simp only[Bool.or_eq_true,not_or,Bool.not_eq_true,List.any_eq_false]at hli
  obtain⟨h17,hli⟩:=hli
  have h17:=ltN_le h17
  have hl2:(d.ctors[i].args.map tyC).length=d.ctors[i].args.length:=List.length_map ..
  obtain⟨ad,cs0,had,hr,hc⟩:=DR.at ctC_len (hct.old hst.2.1 (one_in hqS)) hlti
  subst had
  obtain⟨_,rfl,hr1⟩:=RD.invC (x:=.string d.ctors[i].name) hr
  obtain⟨aa,ac,_,rfl,har,hr2⟩:=RD.lst (rows:=d.ctors[i].args.map tyC) hr1
  obtain rfl:=hr2.inv0
  have hc:Cells w6 (ad.add (i*2)) [.string d.ctors[i].name,.slice aa (d.ctors[i].args.map tyC).length ac]:=hc
  refine rx ?_
  refine s_cE (namedC q _ 1 _ hst.1) ?_
  rintro w7 ⟨hx1,hx107⟩
  have hst:=hst.step hbq hx1 hx107
  have hB:=hst.2.2
  refine rx ?_
  obtain⟨adx,cs0,had,hr,hc⟩:=DR.at ctC_len (hct.old hst.2.1 (one_in hqS)) hlti
  obtain rfl:=Option.some.inj had
  obtain⟨_,rfl,hr1⟩:=RD.invC (x:=.string d.ctors[i].name) hr
  obtain⟨aa,ac,_,rfl,har,hr2⟩:=RD.lst (rows:=d.ctors[i].args.map tyC) hr1
  obtain rfl:=hr2.inv0
  have hc:Cells w7 (ad.add (i*2)) [.string d.ctors[i].name,.slice aa (d.ctors[i].args.map tyC).length ac]:=hc
  refine Yfe ?_
  rintro w8 ⟨hx1,hx108⟩
  have hst:=hst.step hbq hx1 hx108
  have hB:=hst.2.2
  refine rx ?_
  refine c_loopK 6 [5] (σ:=Nat) (fun k0 g u=>g 5=iV k0/\k0<=d.ctors[i].args.length/\ST q b _ 105 w u) (fun k0=>d.ctors[i].args.length-k0) 0 ⟨rfl,Nat.zero_le _,hst⟩ ?_
  clear hst hB
  rintro j g w9 ⟨h4,hij,hst⟩
  rw[eq_upd h4]
  have hB:=hst.2.2
  by_cases hltj:j<d.ctors[i].args.length
  case neg=>
   obtain⟨adx,cs0,had,hr,hc⟩:=DR.at ctC_len (hct.old hst.2.1 (one_in hqS)) hlti
   obtain rfl:=Option.some.inj had
   obtain⟨_,rfl,hr1⟩:=RD.invC (x:=.string d.ctors[i].name) hr
   obtain⟨aa,ac,_,rfl,har,hr2⟩:=RD.lst (rows:=d.ctors[i].args.map tyC) hr1
   obtain rfl:=hr2.inv0
   have hc:Cells w9 (ad.add (i*2)) [.string d.ctors[i].name,.slice aa (d.ctors[i].args.map tyC).length ac]:=hc
   refine rx ?_
   exact Yfy
  obtain⟨adx,cs0,had,hr,hc⟩:=DR.at ctC_len (hct.old hst.2.1 (one_in hqS)) hlti
  obtain rfl:=Option.some.inj had
  obtain⟨_,rfl,hr1⟩:=RD.invC (x:=.string d.ctors[i].name) hr
  obtain⟨aa,ac,_,rfl,har,hr2⟩:=RD.lst (rows:=d.ctors[i].args.map tyC) hr1
  obtain rfl:=hr2.inv0
  have hc:Cells w9 (ad.add (i*2)) [.string d.ctors[i].name,.slice aa (d.ctors[i].args.map tyC).length ac]:=hc
  obtain⟨ad2,cs0,had,hrj,hc2⟩:=DR.at tyC_len har hltj
  subst had
  obtain⟨s2,_,rfl,hty2,_,hr3⟩:=RD.ty (t:=d.ctors[i].args[j]) (ds:=[]) (by rw[List.append_nil];exact hrj)
  obtain rfl:=hr3.inv0
  have hc2:Cells w9 (ad2.add (j*3)) [iV d.ctors[i].args[j].kind,.string d.ctors[i].args[j].name,s2]:=hc2
  refine rx ?_
  refine s_cE (typC q d.ctors[i].args[j] (hli _ (List.getElem_mem hltj)) w9 S _ hqS hst.1 hty2) ?_
  rintro w10 ⟨hx1,hx110⟩
  have hst:=hst.step hbq hx1 hx110
  exact Ybm
 .rw [if_neg Yhd,if_pos h,Bool.or_eq_false_iff,Bool.or_eq_false_iff]at hlim
  refine Yff ?_
  refine s_boxN rfl rfl (fun w1 b hb hB hf1 hs1=>?_);have hqw:=hFB.lt;have hbq:b≠q:=by omega
  have hst:ST q b _ 105 w w1:=⟨hFB.tr0 hf1,fr_new hf1,hB⟩
  refine Yes ?_
  rintro w2 ⟨hx1,hx102⟩
  have hst:=hst.step hbq hx1 hx102
  have hB:=hst.2.2
  refine Yfd ?_
  rintro w3 ⟨hx1,hx103⟩
  have hst:=hst.step hbq hx1 hx103
  have hB:=hst.2.2
  refine rx ?_
  refine s_cE (paramsC q d.params hlim.1 w3 S _ hqS hst.1 (hpm.old hst.2.1 (one_in hqS))) ?_
  rintro w4 ⟨hx1,hx104⟩
  have hst:=hst.step hbq hx1 hx104
  have hB:=hst.2.2
  refine rx ?_
  refine s_cE (typC q d.type hlim.2.1 w4 S _ hqS hst.1 (hty.old hst.2.1 (one_in hqS))) ?_
  rintro w5 ⟨hx1,hx105⟩
  have hst:=hst.step hbq hx1 hx105
  have hB:=hst.2.2
  refine rx ?_
  refine s_cE (rootC q d.body hlim.2.2 w5 S _ hqS hst.1 (hbo.old hst.2.1 (one_in hqS))) ?_
  rintro w6 ⟨hx1,hx106⟩
  have hst:=hst.step hbq hx1 hx106
  have hB:=hst.2.2
  refine rx ?_
  exact Yfx
 .rw [if_neg Yhd,if_neg Yhd,if_pos h,Bool.or_eq_false_iff,Bool.or_eq_false_iff]at hlim
  refine Yff ?_
  refine s_boxN rfl rfl (fun w1 b hb hB hf1 hs1=>?_);have hqw:=hFB.lt;have hbq:b≠q:=by omega
  have hst:ST q b _ 105 w w1:=⟨hFB.tr0 hf1,fr_new hf1,hB⟩
  refine Yes ?_
  rintro w2 ⟨hx1,hx102⟩
  have hst:=hst.step hbq hx1 hx102
  have hB:=hst.2.2
  refine Yfd ?_
  rintro w3 ⟨hx1,hx103⟩
  have hst:=hst.step hbq hx1 hx103
  have hB:=hst.2.2
  refine rx ?_
  refine s_cE (paramsC q d.params hlim.1 w3 S _ hqS hst.1 (hpm.old hst.2.1 (one_in hqS))) ?_
  rintro w4 ⟨hx1,hx104⟩
  have hst:=hst.step hbq hx1 hx104
  have hB:=hst.2.2
  refine rx ?_
  refine s_cE (typC q d.type hlim.2.1 w4 S _ hqS hst.1 (hty.old hst.2.1 (one_in hqS))) ?_
  rintro w5 ⟨hx1,hx105⟩
  have hst:=hst.step hbq hx1 hx105
  have hB:=hst.2.2
  refine rx ?_
  refine s_cE (numberC q _ _ _ hst.1) ?_
  rintro w6 ⟨hx1,hx106⟩
  have hst:=hst.step hbq hx1 hx106
  have hB:=hst.2.2
  refine rx ?_
  refine s_cE (wholeC q d.gen hlim.2.2 w6 S _ hqS hst.1 (hge.old hst.2.1 (one_in hqS))) ?_
  rintro w7 ⟨hx1,hx107⟩
  have hst:=hst.step hbq hx1 hx107
  have hB:=hst.2.2
  refine rx ?_
  exact Yfx
 .rw [if_neg Yhd,if_neg Yhd,if_neg Yhd,if_pos h,Bool.or_eq_false_iff,Bool.or_eq_false_iff,Bool.or_eq_false_iff]at hlim
  refine Yff ?_
  refine s_boxN rfl rfl (fun w1 b hb hB hf1 hs1=>?_);have hqw:=hFB.lt;have hbq:b≠q:=by omega
  have hst:ST q b _ 105 w w1:=⟨hFB.tr0 hf1,fr_new hf1,hB⟩
  refine Yes ?_
  rintro w2 ⟨hx1,hx102⟩
  have hst:=hst.step hbq hx1 hx102
  have hB:=hst.2.2
  refine Yfd ?_
  rintro w3 ⟨hx1,hx103⟩
  have hst:=hst.step hbq hx1 hx103
  have hB:=hst.2.2
  refine rx ?_
  have h16:=ltN_le hlim.2.2.2
  have hl:(d.claims.map clC).length=d.claims.length:=List.length_map ..
  have hbn:=hcl.bound
  refine s_cE (drawsC q d.draws false hlim.1 w3 S _ hqS hst.1 (hdw.old hst.2.1 (one_in hqS))) ?_
  rintro w4 ⟨hx1,hx104⟩
  have hst:=hst.step hbq hx1 hx104
  have hB:=hst.2.2
  refine rx ?_
  refine s_cE (checksC q d.checks hlim.2.1 w4 S _ hqS hst.1 (hck.old hst.2.1 (one_in hqS))) ?_
  rintro w5 ⟨hx1,hx105⟩
  have hst:=hst.step hbq hx1 hx105
  have hB:=hst.2.2
  refine rx ?_
  refine s_cE (checksC q d.classes hlim.2.2.1 w5 S _ hqS hst.1 (hcs.old hst.2.1 (one_in hqS))) ?_
  rintro w6 ⟨hx1,hx106⟩
  have hst:=hst.step hbq hx1 hx106
  have hB:=hst.2.2
  refine Yfe ?_
  rintro w7 ⟨hx1,hx107⟩
  have hst:=hst.step hbq hx1 hx107
  have hB:=hst.2.2
  refine rx ?_
  refine c_loopK 7 [6] (σ:=Nat) (fun k0 g u=>g 6=iV k0/\k0<=d.claims.length/\ST q b _ 105 w u) (fun k0=>d.claims.length-k0) 0 ⟨rfl,Nat.zero_le _,hst⟩ ?_
  clear hst hB
  rintro i g w8 ⟨h4,hii,hst⟩
  rw[eq_upd h4]
  have hB:=hst.2.2
  by_cases hlti:i<d.claims.length
  case neg=>
   refine rx ?_
   exact Yfx
  obtain⟨ad,cs0,had,hr,hc⟩:=DR.at clC_len (hcl.old hst.2.1 (one_in hqS)) hlti
  subst had
  obtain⟨_,rfl,hr1⟩:=RD.invC (x:=.string d.claims[i].cls) hr
  obtain⟨_,rfl,hr2⟩:=RD.invC (x:=iV d.claims[i].num) hr1
  obtain⟨_,rfl,hr3⟩:=RD.invC (x:=iV d.claims[i].den) hr2
  obtain rfl:=hr3.inv0
  have hc:Cells w8 (ad.add (i*3)) [.string d.claims[i].cls,iV d.claims[i].num,iV d.claims[i].den]:=hc
  refine Yfd ?_
  rintro w9 ⟨hx1,hx109⟩
  have hst:=hst.step hbq hx1 hx109
  have hB:=hst.2.2
  refine rx ?_
  obtain⟨adx,cs0,had,hr,hc⟩:=DR.at clC_len (hcl.old hst.2.1 (one_in hqS)) hlti
  obtain rfl:=Option.some.inj had
  obtain⟨_,rfl,hr1⟩:=RD.invC (x:=.string d.claims[i].cls) hr
  obtain⟨_,rfl,hr2⟩:=RD.invC (x:=iV d.claims[i].num) hr1
  obtain⟨_,rfl,hr3⟩:=RD.invC (x:=iV d.claims[i].den) hr2
  obtain rfl:=hr3.inv0
  have hc:Cells w9 (ad.add (i*3)) [.string d.claims[i].cls,iV d.claims[i].num,iV d.claims[i].den]:=hc
  refine rx ?_
  refine s_cE (numberC q _ _ _ hst.1) ?_
  rintro w10 ⟨hx1,hx110⟩
  have hst:=hst.step hbq hx1 hx110
  have hB:=hst.2.2
  refine rx ?_
  obtain⟨adx,cs0,had,hr,hc⟩:=DR.at clC_len (hcl.old hst.2.1 (one_in hqS)) hlti
  obtain rfl:=Option.some.inj had
  obtain⟨_,rfl,hr1⟩:=RD.invC (x:=.string d.claims[i].cls) hr
  obtain⟨_,rfl,hr2⟩:=RD.invC (x:=iV d.claims[i].num) hr1
  obtain⟨_,rfl,hr3⟩:=RD.invC (x:=iV d.claims[i].den) hr2
  obtain rfl:=hr3.inv0
  have hc:Cells w10 (ad.add (i*3)) [.string d.claims[i].cls,iV d.claims[i].num,iV d.claims[i].den]:=hc
  refine rx ?_
  refine s_cE (numberC q _ _ _ hst.1) ?_
  rintro w11 ⟨hx1,hx111⟩
  have hst:=hst.step hbq hx1 hx111
  have hB:=hst.2.2
  exact Yz
 .rw [if_neg Yhd,if_neg Yhd,if_neg Yhd,if_neg Yhd,if_pos h,Bool.or_eq_false_iff,Bool.or_eq_false_iff,Bool.or_eq_false_iff,List.any_eq_false]at hlim
  refine Yff ?_
  refine s_boxN rfl rfl (fun w1 b hb hB hf1 hs1=>?_);have hqw:=hFB.lt;have hbq:b≠q:=by omega
  have hst:ST q b _ 105 w w1:=⟨hFB.tr0 hf1,fr_new hf1,hB⟩
  refine Yes ?_
  rintro w2 ⟨hx1,hx102⟩
  have hst:=hst.step hbq hx1 hx102
  have hB:=hst.2.2
  refine Yfd ?_
  rintro w3 ⟨hx1,hx103⟩
  have hst:=hst.step hbq hx1 hx103
  have hB:=hst.2.2
  refine rx ?_
  have h16:=ltN_le hlim.2.2.1
  have hlim4:=hlim.2.2.2
  have hl:(d.cmds.map cmC).length=d.cmds.length:=List.length_map ..
  have hbn:=hcm.bound
  refine s_cE (typC q d.state hlim.1 w3 S _ hqS hst.1 (hstt.old hst.2.1 (one_in hqS))) ?_
  rintro w4 ⟨hx1,hx104⟩
  have hst:=hst.step hbq hx1 hx104
  have hB:=hst.2.2
  refine rx ?_
  refine s_cE (rootC q d.init hlim.2.1 w4 S _ hqS hst.1 (hit.old hst.2.1 (one_in hqS))) ?_
  rintro w5 ⟨hx1,hx105⟩
  have hst:=hst.step hbq hx1 hx105
  have hB:=hst.2.2
  refine Yfe ?_
  rintro w6 ⟨hx1,hx106⟩
  have hst:=hst.step hbq hx1 hx106
  have hB:=hst.2.2
  refine rx ?_
  refine c_loopK 8 [7] (σ:=Nat) (fun k0 g u=>g 7=iV k0/\k0<=d.cmds.length/\ST q b _ 105 w u) (fun k0=>d.cmds.length-k0) 0 ⟨rfl,Nat.zero_le _,hst⟩ ?_
  clear hst hB
  rintro i g w7 ⟨h4,hii,hst⟩
  rw[eq_upd h4]
  have hB:=hst.2.2
  by_cases hlti:i<d.cmds.length
  case neg=>
   refine rx ?_
   exact Yfx
  have hli:=hlim4 d.cmds[i] (List.getElem_mem hlti)
  simp only[limCm,Bool.or_eq_true,not_or,Bool.not_eq_true]at hli
  obtain⟨ad,cs0,had,hr,hc⟩:=DR.at cmC_len (hcm.old hst.2.1 (one_in hqS)) hlti
  subst had
  obtain⟨_,rfl,hr1⟩:=RD.invC (x:=.string d.cmds[i].name) hr
  obtain⟨dd,dc,_,rfl,hdd,hr2⟩:=RD.lst (rows:=d.cmds[i].draws.map dwC) hr1
  obtain⟨x1,xn1,xc1,x2,xn2,xc2,x3,xn3,xc3,_,rfl,hx,hr3⟩:=RD.ex (e:=d.cmds[i].pre) hr2
  obtain⟨y1,yn1,yc1,y2,yn2,yc2,y3,yn3,yc3,_,rfl,hy,hr4⟩:=RD.ex (e:=d.cmds[i].next) hr3
  obtain⟨z1,zn1,zc1,z2,zn2,zc2,z3,zn3,zc3,_,rfl,hz,hr5⟩:=RD.ex (e:=d.cmds[i].post) (ds:=[]) Yin
  obtain rfl:=hr5.inv0
  have hc:Cells w7 (ad.add (i*23)) [.string d.cmds[i].name,.slice dd (d.cmds[i].draws.map dwC).length dc,iV d.cmds[i].pre.kind,.string d.cmds[i].pre.name,iV d.cmds[i].pre.n,.slice x1 xn1 xc1,.slice x2 xn2 xc2,.slice x3 xn3 xc3,iV d.cmds[i].pre.at_,iV d.cmds[i].next.kind,.string d.cmds[i].next.name,iV d.cmds[i].next.n,.slice y1 yn1 yc1,.slice y2 yn2 yc2,.slice y3 yn3 yc3,iV d.cmds[i].next.at_,iV d.cmds[i].post.kind,.string d.cmds[i].post.name,iV d.cmds[i].post.n,.slice z1 zn1 zc1,.slice z2 zn2 zc2,.slice z3 zn3 zc3,iV d.cmds[i].post.at_]:=hc
  refine rx ?_
  refine s_var (l:=[zT,zS,zI,zT,zI,zS,zS,zS,zI,zI,zT,zI,zS,zS,zS,zI,zI,zT,zI,zS,zS,zS,zI]) (cs:=[.string d.cmds[i].name,.slice dd (d.cmds[i].draws.map dwC).length dc,iV d.cmds[i].pre.kind,.string d.cmds[i].pre.name,iV d.cmds[i].pre.n,.slice x1 xn1 xc1,.slice x2 xn2 xc2,.slice x3 xn3 xc3,iV d.cmds[i].pre.at_,iV d.cmds[i].next.kind,.string d.cmds[i].next.name,iV d.cmds[i].next.n,.slice y1 yn1 yc1,.slice y2 yn2 yc2,.slice y3 yn3 yc3,iV d.cmds[i].next.at_,iV d.cmds[i].post.kind,.string d.cmds[i].post.name,iV d.cmds[i].post.n,.slice z1 zn1 zc1,.slice z2 zn2 zc2,.slice z3 zn3 zc3,iV d.cmds[i].post.at_]) rfl rfl rfl Yhk rfl (fun v=>rfl) (fun w8 c hqc hbc hf8 hs8=>?_)
  have hqw7:=hst.1.lt
  have hcq:c≠q:=by omega
  have hst:=hst.step0 hf8
  have hB:=hst.2.2
  have hdd:=hdd.tr0 hf8
  have hx:=hx.tr0 hf8
  have hy:=hy.tr0 hf8
  have hz:=hz.tr0 hf8
  refine Yfd ?_
  rintro w9 ⟨hx1,hx109⟩
  have hst:=hst.step hbq hx1 hx109
  have hB:=hst.2.2
  have hbc:=hbc.tr hx109 (by simpa using hcq)
  have hdd:=hdd.old hx109 (one_in hqS)
  have hx:=hx.old hx109 (one_in hqS)
  have hy:=hy.old hx109 (one_in hqS)
  have hz:=hz.old hx109 (one_in hqS)
  refine rx ?_
  refine s_cE (drawsC q d.cmds[i].draws true hli.1 w9 S _ hqS hst.1 hdd) ?_
  rintro w10 ⟨hx1,hx110⟩
  have hst:=hst.step hbq hx1 hx110
  have hB:=hst.2.2
  have hbc:=hbc.tr hx110 (by simpa using hcq)
  have hx:=hx.old hx110 (one_in hqS)
  have hy:=hy.old hx110 (one_in hqS)
  have hz:=hz.old hx110 (one_in hqS)
  refine rx ?_
  refine s_cE (rootC q d.cmds[i].pre hli.2.1 w10 S _ hqS hst.1 hx) ?_
  rintro w11 ⟨hx1,hx111⟩
  have hst:=hst.step hbq hx1 hx111
  have hB:=hst.2.2
  have hbc:=hbc.tr hx111 (by simpa using hcq)
  have hy:=hy.old hx111 (one_in hqS)
  have hz:=hz.old hx111 (one_in hqS)
  refine rx ?_
  refine s_cE (rootC q d.cmds[i].next hli.2.2.1 w11 S _ hqS hst.1 hy) ?_
  rintro w12 ⟨hx1,hx112⟩
  have hst:=hst.step hbq hx1 hx112
  have hB:=hst.2.2
  have hbc:=hbc.tr hx112 (by simpa using hcq)
  have hz:=hz.old hx112 (one_in hqS)
  refine rx ?_
  refine s_cE (rootC q d.cmds[i].post hli.2.2.2 w12 S _ hqS hst.1 hz) ?_
  rintro w13 ⟨hx1,hx113⟩
  have hst:=hst.step hbq hx1 hx113
  have hB:=hst.2.2
  have hbc:=hbc.tr hx113 (by simpa using hcq)
  exact Yz
 .rw [if_neg Yhd,if_neg Yhd,if_neg Yhd,if_neg Yhd,if_neg Yhd,if_pos h,Bool.or_eq_false_iff,Bool.or_eq_false_iff,Bool.or_eq_false_iff,Bool.or_eq_false_iff,List.any_eq_false]at hlim
  refine Yff ?_
  refine s_boxN rfl rfl (fun w1 b hb hB hf1 hs1=>?_);have hqw:=hFB.lt;have hbq:b≠q:=by omega
  have hst:ST q b _ 105 w w1:=⟨hFB.tr0 hf1,fr_new hf1,hB⟩
  refine Yes ?_
  rintro w2 ⟨hx1,hx102⟩
  have hst:=hst.step hbq hx1 hx102
  have hB:=hst.2.2
  refine Yfd ?_
  rintro w3 ⟨hx1,hx103⟩
  have hst:=hst.step hbq hx1 hx103
  have hB:=hst.2.2
  refine rx ?_
  have h16:=ltN_le hlim.2.2.2.1
  have hlim4:=hlim.2.2.2.2
  have hl:(d.ops.map opC).length=d.ops.length:=List.length_map ..
  have hbn:=hop.bound
  refine s_cE (typC q d.state hlim.1 w3 S _ hqS hst.1 (hstt.old hst.2.1 (one_in hqS))) ?_
  rintro w4 ⟨hx1,hx104⟩
  have hst:=hst.step hbq hx1 hx104
  have hB:=hst.2.2
  refine rx ?_
  refine s_cE (rootC q d.init hlim.2.1 w4 S _ hqS hst.1 (hit.old hst.2.1 (one_in hqS))) ?_
  rintro w5 ⟨hx1,hx105⟩
  have hst:=hst.step hbq hx1 hx105
  have hB:=hst.2.2
  refine rx ?_
  refine s_cE (rootC q d.recov hlim.2.2.1 w5 S _ hqS hst.1 (hrc.old hst.2.1 (one_in hqS))) ?_
  rintro w6 ⟨hx1,hx106⟩
  have hst:=hst.step hbq hx1 hx106
  have hB:=hst.2.2
  refine Yfe ?_
  rintro w7 ⟨hx1,hx107⟩
  have hst:=hst.step hbq hx1 hx107
  have hB:=hst.2.2
  refine rx ?_
  refine c_loopK 10 [9] (σ:=Nat) (fun k0 g u=>g 9=iV k0/\k0<=d.ops.length/\ST q b _ 105 w u) (fun k0=>d.ops.length-k0) 0 ⟨rfl,Nat.zero_le _,hst⟩ ?_
  clear hst hB
  rintro i g w8 ⟨h4,hii,hst⟩
  rw[eq_upd h4]
  have hB:=hst.2.2
  by_cases hlti:i<d.ops.length
  case neg=>
   refine rx ?_
   exact Yfx
  have hli:=hlim4 d.ops[i] (List.getElem_mem hlti)
  simp only[limOp,Bool.or_eq_true,not_or,Bool.not_eq_true,List.any_eq_false]at hli
  have h17:=ltN_le hli.2.1
  have hl2:(d.ops[i].acts.map acC).length=d.ops[i].acts.length:=List.length_map ..
  obtain⟨ad,cs0,had,hr,hc⟩:=DR.at opC_len (hop.old hst.2.1 (one_in hqS)) hlti
  subst had
  obtain⟨_,rfl,hr1⟩:=RD.invC (x:=.string d.ops[i].name) hr
  obtain⟨pp,pc,_,rfl,hpp,hr2⟩:=RD.lst (rows:=d.ops[i].params.map pmC) hr1
  obtain⟨aa,ac,_,rfl,haa,hr3⟩:=RD.lst (rows:=d.ops[i].acts.map acC) hr2
  obtain rfl:=hr3.inv0
  have hc:Cells w8 (ad.add (i*3)) [.string d.ops[i].name,.slice pp (d.ops[i].params.map pmC).length pc,.slice aa (d.ops[i].acts.map acC).length ac]:=hc
  refine Yfd ?_
  rintro w9 ⟨hx1,hx109⟩
  have hst:=hst.step hbq hx1 hx109
  have hB:=hst.2.2
  refine rx ?_
  obtain⟨adx,cs0,had,hr,hc⟩:=DR.at opC_len (hop.old hst.2.1 (one_in hqS)) hlti
  obtain rfl:=Option.some.inj had
  obtain⟨_,rfl,hr1⟩:=RD.invC (x:=.string d.ops[i].name) hr
  obtain⟨pp,pc,_,rfl,hpp,hr2⟩:=RD.lst (rows:=d.ops[i].params.map pmC) hr1
  obtain⟨aa,ac,_,rfl,haa,hr3⟩:=RD.lst (rows:=d.ops[i].acts.map acC) hr2
  obtain rfl:=hr3.inv0
  have hc:Cells w9 (ad.add (i*3)) [.string d.ops[i].name,.slice pp (d.ops[i].params.map pmC).length pc,.slice aa (d.ops[i].acts.map acC).length ac]:=hc
  refine rx ?_
  refine s_cE (paramsC q d.ops[i].params hli.1 w9 S _ hqS hst.1 hpp) ?_
  rintro w10 ⟨hx1,hx110⟩
  have hst:=hst.step hbq hx1 hx110
  have hB:=hst.2.2
  refine rx ?_
  obtain⟨adx,cs0,had,hr,hc⟩:=DR.at opC_len (hop.old hst.2.1 (one_in hqS)) hlti
  obtain rfl:=Option.some.inj had
  obtain⟨_,rfl,hr1⟩:=RD.invC (x:=.string d.ops[i].name) hr
  obtain⟨pp,pc,_,rfl,hpp,hr2⟩:=RD.lst (rows:=d.ops[i].params.map pmC) hr1
  obtain⟨aa,ac,_,rfl,haa,hr3⟩:=RD.lst (rows:=d.ops[i].acts.map acC) hr2
  obtain rfl:=hr3.inv0
  have hc:Cells w10 (ad.add (i*3)) [.string d.ops[i].name,.slice pp (d.ops[i].params.map pmC).length pc,.slice aa (d.ops[i].acts.map acC).length ac]:=hc
  refine Yfe ?_
  rintro w11 ⟨hx1,hx111⟩
  have hst:=hst.step hbq hx1 hx111
  have hB:=hst.2.2
  refine rx ?_
  refine c_loopK 11 [10] (σ:=Nat) (fun k0 g u=>g 10=iV k0/\k0<=d.ops[i].acts.length/\ST q b _ 105 w u) (fun k0=>d.ops[i].acts.length-k0) 0 ⟨rfl,Nat.zero_le _,hst⟩ ?_
  clear hst hB
  rintro j g w12 ⟨h4,hij,hst⟩
  rw[eq_upd h4]
  have hB:=hst.2.2
  by_cases hltj:j<d.ops[i].acts.length
  case neg=>
   obtain⟨adx,cs0,had,hr,hc⟩:=DR.at opC_len (hop.old hst.2.1 (one_in hqS)) hlti
   obtain rfl:=Option.some.inj had
   obtain⟨_,rfl,hr1⟩:=RD.invC (x:=.string d.ops[i].name) hr
   obtain⟨pp,pc,_,rfl,hpp,hr2⟩:=RD.lst (rows:=d.ops[i].params.map pmC) hr1
   obtain⟨aa,ac,_,rfl,haa,hr3⟩:=RD.lst (rows:=d.ops[i].acts.map acC) hr2
   obtain rfl:=hr3.inv0
   have hc:Cells w12 (ad.add (i*3)) [.string d.ops[i].name,.slice pp (d.ops[i].params.map pmC).length pc,.slice aa (d.ops[i].acts.map acC).length ac]:=hc
   refine rx ?_
   exact Yfy
  have hlj:=hli.2.2 d.ops[i].acts[j] (List.getElem_mem hltj)
  obtain⟨adx,cs0,had,hr,hc⟩:=DR.at opC_len (hop.old hst.2.1 (one_in hqS)) hlti
  obtain rfl:=Option.some.inj had
  obtain⟨_,rfl,hr1⟩:=RD.invC (x:=.string d.ops[i].name) hr
  obtain⟨pp,pc,_,rfl,hpp,hr2⟩:=RD.lst (rows:=d.ops[i].params.map pmC) hr1
  obtain⟨aa,ac,_,rfl,haa,hr3⟩:=RD.lst (rows:=d.ops[i].acts.map acC) hr2
  obtain rfl:=hr3.inv0
  have hc:Cells w12 (ad.add (i*3)) [.string d.ops[i].name,.slice pp (d.ops[i].params.map pmC).length pc,.slice aa (d.ops[i].acts.map acC).length ac]:=hc
  obtain⟨ad2,cs0,had,hrj,hc2⟩:=DR.at acC_len haa hltj
  subst had
  obtain⟨x1,xn1,xc1,x2,xn2,xc2,x3,xn3,xc3,_,rfl,hx,hr4⟩:=RD.ex (e:=d.ops[i].acts[j].shared) hrj
  obtain⟨y1,yn1,yc1,y2,yn2,yc2,y3,yn3,yc3,_,rfl,hy,hr5⟩:=RD.ex (e:=d.ops[i].acts[j].loc) (ds:=[]) Yin
  obtain rfl:=hr5.inv0
  have hc2:Cells w12 (ad2.add (j*14)) [iV d.ops[i].acts[j].shared.kind,.string d.ops[i].acts[j].shared.name,iV d.ops[i].acts[j].shared.n,.slice x1 xn1 xc1,.slice x2 xn2 xc2,.slice x3 xn3 xc3,iV d.ops[i].acts[j].shared.at_,iV d.ops[i].acts[j].loc.kind,.string d.ops[i].acts[j].loc.name,iV d.ops[i].acts[j].loc.n,.slice y1 yn1 yc1,.slice y2 yn2 yc2,.slice y3 yn3 yc3,iV d.ops[i].acts[j].loc.at_]:=hc2
  refine rx ?_
  refine s_cE (rootC q d.ops[i].acts[j].shared hlj.1 w12 S _ hqS hst.1 hx) ?_
  rintro w13 ⟨hx1,hx113⟩
  have hst:=hst.step hbq hx1 hx113
  have hB:=hst.2.2
  refine rx ?_
  obtain⟨adx,cs0,had,hr,hc⟩:=DR.at opC_len (hop.old hst.2.1 (one_in hqS)) hlti
  obtain rfl:=Option.some.inj had
  obtain⟨_,rfl,hr1⟩:=RD.invC (x:=.string d.ops[i].name) hr
  obtain⟨pp,pc,_,rfl,hpp,hr2⟩:=RD.lst (rows:=d.ops[i].params.map pmC) hr1
  obtain⟨aa,ac,_,rfl,haa,hr3⟩:=RD.lst (rows:=d.ops[i].acts.map acC) hr2
  obtain rfl:=hr3.inv0
  have hc:Cells w13 (ad.add (i*3)) [.string d.ops[i].name,.slice pp (d.ops[i].params.map pmC).length pc,.slice aa (d.ops[i].acts.map acC).length ac]:=hc
  obtain⟨ad2,cs0,had,hrj,hc2⟩:=DR.at acC_len haa hltj
  subst had
  obtain⟨x1,xn1,xc1,x2,xn2,xc2,x3,xn3,xc3,_,rfl,hx,hr4⟩:=RD.ex (e:=d.ops[i].acts[j].shared) hrj
  obtain⟨y1,yn1,yc1,y2,yn2,yc2,y3,yn3,yc3,_,rfl,hy,hr5⟩:=RD.ex (e:=d.ops[i].acts[j].loc) (ds:=[]) Yin
  obtain rfl:=hr5.inv0
  have hc2:Cells w13 (ad2.add (j*14)) [iV d.ops[i].acts[j].shared.kind,.string d.ops[i].acts[j].shared.name,iV d.ops[i].acts[j].shared.n,.slice x1 xn1 xc1,.slice x2 xn2 xc2,.slice x3 xn3 xc3,iV d.ops[i].acts[j].shared.at_,iV d.ops[i].acts[j].loc.kind,.string d.ops[i].acts[j].loc.name,iV d.ops[i].acts[j].loc.n,.slice y1 yn1 yc1,.slice y2 yn2 yc2,.slice y3 yn3 yc3,iV d.ops[i].acts[j].loc.at_]:=hc2
  refine rx ?_
  refine s_cE (rootC q d.ops[i].acts[j].loc hlj.2 w13 S _ hqS hst.1 hy) ?_
  rintro w14 ⟨hx1,hx114⟩
  have hst:=hst.step hbq hx1 hx114
  exact Ybm
end Go.Proofs.YtggmccicdhnkgaaGreat
namespace Go.Proofs.YtggmccicdhnkgaaGreat
open Go.Proofs.Tryz
open Go.Rf Go.RowKit
attribute [local irreducible] Code.wp wpList Exit.then Exit.inBlock bodyPost A Calls execOp Addr.add
set_option maxHeartbeats 8000000 in
theorem faultsC(l:List De)(hlim:limM l=false)(hk:∀d∈l,0<=d.kind/\d.kind<=5)(w:World)(S:List Nat)(v:Value)(hd:DR w S (.l (l.map deC)) v):Calls prog 79 #[.agg ([v]:List Value).toArray] w fun e w'=>(∃b1 b2 b3:Bool,e=.returned (.agg ([.bool false,.bool b1,.bool b2,.bool b3]:List Value).toArray))/\Fr [] w w':=by
 simp only[limM,Bool.or_eq_false_iff,List.any_eq_false]at hlim
 obtain⟨h64,hlim⟩:=hlim
 have h64:=ltN_le h64
 obtain⟨ao,c,rfl,_⟩:=hd.slice
 have hbn:=hd.bound
 have hl:(l.map deC).length=l.length:=List.length_map ..
 refine enter func79 rfl ntmps79 rfl ?_
 refine rx ?_
 refine s_boxN (l:=[.slice ao (l.map deC).length c]) rfl rfl (fun w1 b hb hB hf1 hs1=>?_)
 refine rx ?_
 refine s_allocN (l:=[.bool false,.bool false,.bool false,.bool false]) rfl (fun w2 r hr hR hf2 hs2=>?_)
 have hB:=hB.tr0 hf2
 refine rx ?_
 refine s_build [.bool false,.bool false,.bool false,.bool false] rfl ?_
 refine rx ?_
 refine s_boxN rfl rfl (fun w3 q hq hQ hf3 hs3=>?_)
 have hB:=hB.tr0 hf3
 have hR:=hR.tr0 hf3
 have hF3:=(hf1.trans0 hf2).trans0 hf3
 have hd:=(((hd.tr0 hf1).tr0 hf2).mono (in_cons (a:=q) Yhd)).tr0 hf3
 have hqS:q∈q::S:=List.mem_cons_self ..
 have hFB:FB w3 q:=⟨_,_,_,hQ⟩
 clear hQ
 refine rx ?_
 refine c_loopK 5 [4] (σ:=Nat) (fun i g u=>g 4=iV i/\i<=l.length/\FB u q/\Fr [q] w3 u/\Blk u b [.slice ao (l.map deC).length c] 25/\Blk u r [.bool false,.bool false,.bool false,.bool false] 164) (fun i=>l.length-i) 0 ⟨rfl,Nat.zero_le _,hFB,Fr.refl _ _,hB,hR⟩ ?_
 clear hFB hB hR
 rintro i g u ⟨h4,hi,hFB,hF,hB,hR⟩
 rw[eq_upd h4]
 by_cases hlt:i<l.length
 case neg=>
  obtain⟨b1,b2,b3,hQ⟩:=hFB
  refine rx ?_
  refine s_storeAggB (cs:=[.bool false,.bool b1,.bool b2,.bool b3]) rfl rfl hR Yhk rfl rfl (fun u2 hR2 hf4 hs4=>?_)
  refine rx ?_
  refine retB rfl rfl hR2 rfl ⟨⟨b1,b2,b3,rfl⟩,?_⟩
  exact(hF3.trans hF (fun x hx=>.inr Yhg)).trans hf4 (fun x hx=>.inr Yhg)
 obtain⟨ad,cs2,had,hr2,hc⟩:=DR.at deC_len (hd.old hF (one_in hqS)) hlt
 subst had
 have hlen:cs2.length=45:=by rw[hr2.len,deC_len]
 have hld:=hlim l[i] (List.getElem_mem hlt)
 have hkd:=hk l[i] (List.getElem_mem hlt)
 refine Yfi ?_
 refine s_cE (declC q l[i] (by simpa using hld) hkd u (q::S) _ hqS hFB hr2) ?_
 rintro u3 ⟨hFB,hf5⟩
 have hB:=hB.tr hf5 Yhj
 have hR:=hR.tr hf5 Yhj
 refine rx ?_
 exact q_roundK (i+1) Yhb ⟨rfl,by omega,hFB,hF.trans hf5 (fun x hx=>.inl hx),hB,hR⟩ Yhd
end Go.Proofs.YtggmccicdhnkgaaGreat
namespace Go.Rf
open Go.RowKit
theorem spanF_mem(p:Nat->Bool):∀(r:Bs),∀c∈r.take (spanF p r),p (clsB c)=true
 |[],c,h=>by simp[spanF]at h
 |b::r,c,h=>by
  simp only[spanF]at h
  split at h
  .rw [Nat.add_comm,List.take_succ_cons]at h
   rcases List.mem_cons.1 h with rfl|h
   .assumption
   .exact spanF_mem p r c h
  .simp at h
theorem cls3n{c:UInt8}(h:clsB c=3):48<=c.toNat:=by
 unfold clsB clsN at h
 repeat' split at h
 all_goals first|omega|cases h
theorem valF_pos(t:Bs)(h:∀c∈t,clsB c=3):0<=valF t/\valF t<=1099511627777:=by
 have go:∀(l:Bs) (n:Int),(∀c∈l,clsB c=3)->0<=n/\n<=1099511627777->0<=l.foldl (fun n (b:UInt8)=>min (10*n+((b.toNat:Int)-48)) 1099511627777) n/\l.foldl (fun n (b:UInt8)=>min (10*n+((b.toNat:Int)-48)) 1099511627777) n<=1099511627777:=by
  intro l
  induction l with
  |nil=>intro n _ h;exact h
  |cons b l ih=>
   intro n hl h
   rw[List.foldl_cons]
   have:=cls3n (hl b Yhi)
   exact ih _ (fun c hc=>hl c (by simp[hc])) Yhd
 exact go t 0 h Yhd
theorem endF_digits{b:UInt8}{r:Bs}(hb:clsB b=3):∀c∈(b::r).take (endF (b::r)),clsB c=3:=by
 intro c hc
 simp only[endF,hb,if_true]at hc
 rw[if_neg Yhd,if_neg Yhd,Nat.add_comm,List.take_succ_cons]at hc
 rcases List.mem_cons.1 hc with rfl|h
 .exact hb
 .have:=spanF_mem p3 r c h
  simpa[p3]using this
theorem mkTk_num(a:Int)(r:Bs):0<=(mkTk a (r.take (endF r))).n/\(mkTk a (r.take (endF r))).n<=1099511627777:=by
 unfold mkTk
 split
 .simp
 .rename_i b t e
  simp only
  split
  .rename_i hb
   cases r with
   |nil=>simp at e
   |cons b' r=>
    have hb':b'=b:=by
     cases hk:endF (b'::r)with
     |zero=>rw[hk]at e;simp at e
     |succ k=>rw[hk,List.take_succ_cons]at e;simp only[List.cons.injEq]at e;exact e.1
    subst hb'
    exact valF_pos _ (endF_digits hb)
  .simp
theorem lexGo_num:∀(f:Nat) (a:Int) (r:Bs) (T:List Tk),lexGo f a r=.ok T->∀t∈T,0<=t.n/\t.n<=1099511627777
 |0,a,r,T,h=>by simp[lexGo]at h
 |f+1,a,r,T,h=>by
  simp only[lexGo]at h
  split at h
  .simp only[Except.ok.injEq]at h
   subst h
   simp
  .split at h
   .cases h
   .split at h
    .cases h
    .split at h
     .rename_i l hl
      simp only[Except.ok.injEq]at h
      subst h
      intro t ht
      rcases List.mem_cons.1 ht with rfl|ht
      .exact mkTk_num _ _
      .exact lexGo_num f _ _ _ hl t ht
     .cases h
theorem lexF_num{s:Bs}{T:List Tk}(h:lexF s=.ok T):∀t∈T,0<=t.n/\t.n<=1099511627777:=by
 unfold lexF at h
 split at h
 .cases h
 .exact lexGo_num _ _ _ _ h
end Go.Rf
