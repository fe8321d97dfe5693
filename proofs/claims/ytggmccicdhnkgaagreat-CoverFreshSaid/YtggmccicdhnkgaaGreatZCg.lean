/-
 Branches of declarations:the plain functions;lists whose rows point to what is there already.
-/
import Derived.Test.YtggmccicdhnkgaaGreatZQm
import Derived.Test.YtggmccicdhnkgaaGreatZQy
import Derived.Test.YtggmccicdhnkgaaGreatZFd
set_option linter.all false
namespace Go.Proofs.YtggmccicdhnkgaaGreat
open Go.Proofs.Tryz
open Go.Rf Go.RowKit
attribute [local irreducible] Code.wp wpList Exit.then Exit.inBlock bodyPost A Calls execOp Addr.add
set_option maxHeartbeats 32000000 in
theorem clDeclC(d:De)(hl6:d.cmds.length<=1000000)(cs:List Value)(w:World)(S:List Nat)(hd:RD w S (deC d) cs):Calls prog 92 #[.agg cs.toArray] w fun e w'=>∃cs',e=.returned (.agg cs'.toArray)/\RD w' (rg w) (deC d) cs'/\Fr [] w w':=by
 obtain⟨_,rfl,r1⟩:=RD.invC (x:=iV d.kind) hd
 obtain⟨_,rfl,r2⟩:=RD.invC (x:=.string d.name) r1
 obtain⟨_,rfl,r3⟩:=RD.invC (x:=iV d.at_) r2
 obtain⟨ct,ctc,_,rfl,hct,r4⟩:=RD.lst (rows:=d.ctors.map ctC) r3
 obtain⟨pm,pmc,_,rfl,hpm,r5⟩:=RD.lst (rows:=d.params.map pmC) r4
 obtain⟨sty,_,rfl,hty,hk1,r6⟩:=RD.ty (t:=d.type) r5
 obtain⟨ty,tyc,rfl,_⟩:=hk1.slice
 obtain⟨bo1,bon1,boc1,bo2,bon2,boc2,bo3,bon3,boc3,_,rfl,hbo,r7⟩:=RD.ex (e:=d.body) r6
 obtain⟨_,rfl,r8⟩:=RD.invC (x:=iV d.depth) r7
 obtain⟨ge1,gen1,gec1,ge2,gen2,gec2,ge3,gen3,gec3,_,rfl,hge,r9⟩:=RD.gn (g:=d.gen) r8
 obtain⟨dw,dwc,_,rfl,hdw,r10⟩:=RD.lst (rows:=d.draws.map dwC) r9
 obtain⟨ck,ckc,_,rfl,hck,r11⟩:=RD.lst (rows:=d.checks.map ckC) r10
 obtain⟨cs,csc,_,rfl,hcs,r12⟩:=RD.lst (rows:=d.classes.map ckC) r11
 obtain⟨cl,clc,_,rfl,hcl,r13⟩:=RD.lst (rows:=d.claims.map clC) r12
 obtain⟨sst,_,rfl,hstt,hk2,r14⟩:=RD.ty (t:=d.state) r13
 obtain⟨st,stc,rfl,_⟩:=hk2.slice
 obtain⟨it1,itn1,itc1,it2,itn2,itc2,it3,itn3,itc3,_,rfl,hit,r15⟩:=RD.ex (e:=d.init) r14
 obtain⟨cm,cmc,_,rfl,hcm,r16⟩:=RD.lst (rows:=d.cmds.map cmC) r15
 obtain⟨op,opc,_,rfl,hop,r17⟩:=RD.lst (rows:=d.ops.map opC) r16
 obtain⟨rc1,rcn1,rcc1,rc2,rcn2,rcc2,rc3,rcn3,rcc3,_,rfl,hrc,r18⟩:=RD.ex (e:=d.recov) (ds:=[]) Yhz
 obtain rfl:=r18.inv0
 clear r1 r2 r3 r4 r5 r6 r7 r8 r9 r10 r11 r12 r13 r14 r15 r16 r17 r18 hk1 hk2
 refine enter func92 rfl ntmps92 rfl ?_
 refine rx ?_
 refine s_boxN (l:=[iV d.kind,.string d.name,iV d.at_,.slice ct (d.ctors.map ctC).length ctc,.slice pm (d.params.map pmC).length pmc,iV d.type.kind,.string d.type.name,.slice ty (d.type.kids.map tyC).length tyc,iV d.body.kind,.string d.body.name,iV d.body.n,.slice bo1 bon1 boc1,.slice bo2 bon2 boc2,.slice bo3 bon3 boc3,iV d.body.at_,iV d.depth,iV d.gen.kind,.string d.gen.name,.slice ge1 gen1 gec1,.slice ge2 gen2 gec2,.slice ge3 gen3 gec3,iV d.gen.at_,.slice dw (d.draws.map dwC).length dwc,.slice ck (d.checks.map ckC).length ckc,.slice cs (d.classes.map ckC).length csc,.slice cl (d.claims.map clC).length clc,iV d.state.kind,.string d.state.name,.slice st (d.state.kids.map tyC).length stc,iV d.init.kind,.string d.init.name,iV d.init.n,.slice it1 itn1 itc1,.slice it2 itn2 itc2,.slice it3 itn3 itc3,iV d.init.at_,.slice cm (d.cmds.map cmC).length cmc,.slice op (d.ops.map opC).length opc,iV d.recov.kind,.string d.recov.name,iV d.recov.n,.slice rc1 rcn1 rcc1,.slice rc2 rcn2 rcc2,.slice rc3 rcn3 rcc3,iV d.recov.at_]) rfl rfl (fun w1 b hbe hb hf1 hs1=>?_)
 refine rx ?_
 refine s_allocN (l:=[zI,zT,zI,zS,zS,zI,zT,zS,zI,zT,zI,zS,zS,zS,zI,zI,zI,zT,zS,zS,zS,zI,zS,zS,zS,zS,zI,zT,zS,zI,zT,zI,zS,zS,zS,zI,zS,zS,zI,zT,zI,zS,zS,zS,zI]) rfl (fun w2 r hre hr hf2 hs2=>?_)
 have hb:=hb.tr0 hf2
 have hF2:Fr [] w w2:=hf1.trans0 hf2
 refine rx ?_
 refine s_c1 (clCtors d.ctors _ w2 S (hct.tr0 hF2) (fun x hx cs u S h=>clCtorC x cs u S h)) ?_
 rintro vct w3 ⟨kct,hf3⟩
 have hs3:=hf3.size
 have hb:=hb.tr0 hf3
 have hr:=hr.tr0 hf3
 have hF3:Fr [] w w3:=hF2.trans0 hf3
 have kct:=kct.down (w0:=w2) Yhd
 refine rx ?_
 ((with_reducible apply s_storeB);exact rfl;(conv=>lhs;whnf);exact kct.one;exact hb;exact rfl)
 intro w4 hb hf4 hs4
 replace hb:Blk w4 b [iV d.kind,.string d.name,iV d.at_,vct,.slice pm (d.params.map pmC).length pmc,iV d.type.kind,.string d.type.name,.slice ty (d.type.kids.map tyC).length tyc,iV d.body.kind,.string d.body.name,iV d.body.n,.slice bo1 bon1 boc1,.slice bo2 bon2 boc2,.slice bo3 bon3 boc3,iV d.body.at_,iV d.depth,iV d.gen.kind,.string d.gen.name,.slice ge1 gen1 gec1,.slice ge2 gen2 gec2,.slice ge3 gen3 gec3,iV d.gen.at_,.slice dw (d.draws.map dwC).length dwc,.slice ck (d.checks.map ckC).length ckc,.slice cs (d.classes.map ckC).length csc,.slice cl (d.claims.map clC).length clc,iV d.state.kind,.string d.state.name,.slice st (d.state.kids.map tyC).length stc,iV d.init.kind,.string d.init.name,iV d.init.n,.slice it1 itn1 itc1,.slice it2 itn2 itc2,.slice it3 itn3 itc3,iV d.init.at_,.slice cm (d.cmds.map cmC).length cmc,.slice op (d.ops.map opC).length opc,iV d.recov.kind,.string d.recov.name,iV d.recov.n,.slice rc1 rcn1 rcc1,.slice rc2 rcn2 rcc2,.slice rc3 rcn3 rcc3,iV d.recov.at_] 105:=hb
 have hr:=hr.tr hf4 Yhj
 have hF4:Fr [] w w4:=hF3.trans hf4 (fun x hx=>.inr Yhg)
 have kct:=kct.old hf4 (in_rg Yhd)
 refine rx ?_
 refine s_c1 (clParams d.params _ w4 S (hpm.tr0 hF4) (fun x hx cs u S h=>clParamC x cs u S h)) ?_
 rintro vpm w5 ⟨kpm,hf5⟩
 have hs5:=hf5.size
 have hb:=hb.tr0 hf5
 have hr:=hr.tr0 hf5
 have hF5:Fr [] w w5:=hF4.trans0 hf5
 have kct:=kct.old hf5 Yhi
 have kpm:=kpm.down (w0:=w2) Yhd
 refine rx ?_
 ((with_reducible apply s_storeB);exact rfl;(conv=>lhs;whnf);exact kpm.one;exact hb;exact rfl)
 intro w6 hb hf6 hs6
 replace hb:Blk w6 b [iV d.kind,.string d.name,iV d.at_,vct,vpm,iV d.type.kind,.string d.type.name,.slice ty (d.type.kids.map tyC).length tyc,iV d.body.kind,.string d.body.name,iV d.body.n,.slice bo1 bon1 boc1,.slice bo2 bon2 boc2,.slice bo3 bon3 boc3,iV d.body.at_,iV d.depth,iV d.gen.kind,.string d.gen.name,.slice ge1 gen1 gec1,.slice ge2 gen2 gec2,.slice ge3 gen3 gec3,iV d.gen.at_,.slice dw (d.draws.map dwC).length dwc,.slice ck (d.checks.map ckC).length ckc,.slice cs (d.classes.map ckC).length csc,.slice cl (d.claims.map clC).length clc,iV d.state.kind,.string d.state.name,.slice st (d.state.kids.map tyC).length stc,iV d.init.kind,.string d.init.name,iV d.init.n,.slice it1 itn1 itc1,.slice it2 itn2 itc2,.slice it3 itn3 itc3,iV d.init.at_,.slice cm (d.cmds.map cmC).length cmc,.slice op (d.ops.map opC).length opc,iV d.recov.kind,.string d.recov.name,iV d.recov.n,.slice rc1 rcn1 rcc1,.slice rc2 rcn2 rcc2,.slice rc3 rcn3 rcc3,iV d.recov.at_] 105:=hb
 have hr:=hr.tr hf6 Yhj
 have hF6:Fr [] w w6:=hF5.trans hf6 (fun x hx=>.inr Yhg)
 have kct:=kct.old hf6 (in_rg Yhd)
 have kpm:=kpm.old hf6 (in_rg Yhd)
 refine rx ?_
 refine u_begin 7 (fun z=>True/\Blk z b [iV d.kind,.string d.name,iV d.at_,vct,vpm,iV d.type.kind,.string d.type.name,.slice ty (d.type.kids.map tyC).length tyc,iV d.body.kind,.string d.body.name,iV d.body.n,.slice bo1 bon1 boc1,.slice bo2 bon2 boc2,.slice bo3 bon3 boc3,iV d.body.at_,iV d.depth,iV d.gen.kind,.string d.gen.name,.slice ge1 gen1 gec1,.slice ge2 gen2 gec2,.slice ge3 gen3 gec3,iV d.gen.at_,.slice dw (d.draws.map dwC).length dwc,.slice ck (d.checks.map ckC).length ckc,.slice cs (d.classes.map ckC).length csc,.slice cl (d.claims.map clC).length clc,iV d.state.kind,.string d.state.name,.slice st (d.state.kids.map tyC).length stc,iV d.init.kind,.string d.init.name,iV d.init.n,.slice it1 itn1 itc1,.slice it2 itn2 itc2,.slice it3 itn3 itc3,iV d.init.at_,.slice cm (d.cmds.map cmC).length cmc,.slice op (d.ops.map opC).length opc,iV d.recov.kind,.string d.recov.name,iV d.recov.n,.slice rc1 rcn1 rcc1,.slice rc2 rcn2 rcc2,.slice rc3 rcn3 rcc3,iV d.recov.at_] 105) Yhf rfl ?_
 obtain⟨w7,hw7⟩:=exq w6.drew
 rw[<-hw7]
 have hf7:Fr [] w6 w7:=hw7▸Fr.drew _ _
 have hs7:=hf7.size
 have hb:=hb.tr0 hf7
 have hr:=hr.tr0 hf7
 have hF7:Fr [] w w7:=hF6.trans0 hf7
 have kct:=kct.old hf7 Yhi
 have kpm:=kpm.old hf7 Yhi
 ((refine u_tx 0 (And.intro trivial hb) ?_);(refine u_tx 1 (And.intro trivial hb) ?_))
 ((refine u_tx 3 (And.intro trivial hb) ?_);(refine u_tx 4 (And.intro trivial hb) ?_))
 refine u_one (i:=2) rfl Yhf ?_
 refine s_c1 (clTypeC d.type _ w7 S (hty.tr0 hF7)) ?_
 rintro cs1 w8 ⟨kty,hf8⟩
 have hs8:=hf8.size
 have hb:=hb.tr0 hf8
 have hr:=hr.tr0 hf8
 have hF8:Fr [] w w8:=hF7.trans0 hf8
 have kct:=kct.old hf8 Yhi
 have kpm:=kpm.old hf8 Yhi
 have kty:=kty.down (w0:=w2) Yhd
 obtain⟨yt,rfl,_⟩:=tyR.1 kty
 refine Yga ?_
 ((refine u_tx 6 (And.intro trivial hb) ?_))
 refine Ygb ?_
 refine s_c1 (clTypeC d.state _ w8 S (hstt.tr0 hF8)) ?_
 rintro cs2 w9 ⟨kst,hf9⟩
 have hs9:=hf9.size
 have hb:=hb.tr0 hf9
 have hr:=hr.tr0 hf9
 have hF9:Fr [] w w9:=hF8.trans0 hf9
 have kct:=kct.old hf9 Yhi
 have kpm:=kpm.old hf9 Yhi
 have kty:=kty.old hf9 Yhi
 have kst:=kst.down (w0:=w2) Yhd
 obtain⟨ys,rfl,_⟩:=tyR.1 kst
 refine Yga ?_
 refine Ygc ?_
 refine s_storeSubB (cs:=[iV d.type.kind,.string d.type.name,yt]) rfl rfl hb (RD.one kty) Yhi rfl (fun w10 hb hf10 hs10=>?_)
 replace hb:Blk w10 b [iV d.kind,.string d.name,iV d.at_,vct,vpm,iV d.type.kind,.string d.type.name,yt,iV d.body.kind,.string d.body.name,iV d.body.n,.slice bo1 bon1 boc1,.slice bo2 bon2 boc2,.slice bo3 bon3 boc3,iV d.body.at_,iV d.depth,iV d.gen.kind,.string d.gen.name,.slice ge1 gen1 gec1,.slice ge2 gen2 gec2,.slice ge3 gen3 gec3,iV d.gen.at_,.slice dw (d.draws.map dwC).length dwc,.slice ck (d.checks.map ckC).length ckc,.slice cs (d.classes.map ckC).length csc,.slice cl (d.claims.map clC).length clc,iV d.state.kind,.string d.state.name,.slice st (d.state.kids.map tyC).length stc,iV d.init.kind,.string d.init.name,iV d.init.n,.slice it1 itn1 itc1,.slice it2 itn2 itc2,.slice it3 itn3 itc3,iV d.init.at_,.slice cm (d.cmds.map cmC).length cmc,.slice op (d.ops.map opC).length opc,iV d.recov.kind,.string d.recov.name,iV d.recov.n,.slice rc1 rcn1 rcc1,.slice rc2 rcn2 rcc2,.slice rc3 rcn3 rcc3,iV d.recov.at_] 105:=hb
 have hr:=hr.tr hf10 Yhj
 have hF10:Fr [] w w10:=hF9.trans hf10 (fun x hx=>.inr Yhg)
 have kct:=kct.old hf10 (in_rg Yhd)
 have kpm:=kpm.old hf10 (in_rg Yhd)
 have kst:=kst.old hf10 (in_rg Yhd)
 have kty:=kty.old hf10 (in_rg Yhd)
 refine Ygf ?_
 refine Ygd ?_
 refine s_fieldAddr rfl ?_
 rw[add_lit]
 refine Ygf ?_
 refine u_one (i:=9) rfl Yhf ?_
 refine s_storeSubB (cs:=[iV d.state.kind,.string d.state.name,ys]) rfl rfl hb (RD.one kst) Yhi rfl (fun w11 hb hf11 hs11=>?_)
 replace hb:Blk w11 b [iV d.kind,.string d.name,iV d.at_,vct,vpm,iV d.type.kind,.string d.type.name,yt,iV d.body.kind,.string d.body.name,iV d.body.n,.slice bo1 bon1 boc1,.slice bo2 bon2 boc2,.slice bo3 bon3 boc3,iV d.body.at_,iV d.depth,iV d.gen.kind,.string d.gen.name,.slice ge1 gen1 gec1,.slice ge2 gen2 gec2,.slice ge3 gen3 gec3,iV d.gen.at_,.slice dw (d.draws.map dwC).length dwc,.slice ck (d.checks.map ckC).length ckc,.slice cs (d.classes.map ckC).length csc,.slice cl (d.claims.map clC).length clc,iV d.state.kind,.string d.state.name,ys,iV d.init.kind,.string d.init.name,iV d.init.n,.slice it1 itn1 itc1,.slice it2 itn2 itc2,.slice it3 itn3 itc3,iV d.init.at_,.slice cm (d.cmds.map cmC).length cmc,.slice op (d.ops.map opC).length opc,iV d.recov.kind,.string d.recov.name,iV d.recov.n,.slice rc1 rcn1 rcc1,.slice rc2 rcn2 rcc2,.slice rc3 rcn3 rcc3,iV d.recov.at_] 105:=hb
 have hr:=hr.tr hf11 Yhj
 have hF11:Fr [] w w11:=hF10.trans hf11 (fun x hx=>.inr Yhg)
 have kct:=kct.old hf11 (in_rg Yhd)
 have kpm:=kpm.old hf11 (in_rg Yhd)
 have kty:=kty.old hf11 (in_rg Yhd)
 have kst:=kst.old hf11 (in_rg Yhd)
 refine Yeo ?_
 refine u_begin 10 (fun z=>True/\Blk z b [iV d.kind,.string d.name,iV d.at_,vct,vpm,iV d.type.kind,.string d.type.name,yt,iV d.body.kind,.string d.body.name,iV d.body.n,.slice bo1 bon1 boc1,.slice bo2 bon2 boc2,.slice bo3 bon3 boc3,iV d.body.at_,iV d.depth,iV d.gen.kind,.string d.gen.name,.slice ge1 gen1 gec1,.slice ge2 gen2 gec2,.slice ge3 gen3 gec3,iV d.gen.at_,.slice dw (d.draws.map dwC).length dwc,.slice ck (d.checks.map ckC).length ckc,.slice cs (d.classes.map ckC).length csc,.slice cl (d.claims.map clC).length clc,iV d.state.kind,.string d.state.name,ys,iV d.init.kind,.string d.init.name,iV d.init.n,.slice it1 itn1 itc1,.slice it2 itn2 itc2,.slice it3 itn3 itc3,iV d.init.at_,.slice cm (d.cmds.map cmC).length cmc,.slice op (d.ops.map opC).length opc,iV d.recov.kind,.string d.recov.name,iV d.recov.n,.slice rc1 rcn1 rcc1,.slice rc2 rcn2 rcc2,.slice rc3 rcn3 rcc3,iV d.recov.at_] 105) Yhf rfl ?_
 obtain⟨w12,hw12⟩:=exq w11.drew
 rw[<-hw12]
 have hf12:Fr [] w11 w12:=hw12▸Fr.drew _ _
 have hs12:=hf12.size
 have hb:=hb.tr0 hf12
 have hr:=hr.tr0 hf12
 have hF12:Fr [] w w12:=hF11.trans0 hf12
 have kct:=kct.old hf12 Yhi
 have kpm:=kpm.old hf12 Yhi
 have kty:=kty.old hf12 Yhi
 have kst:=kst.old hf12 Yhi
 ((refine u_tx 0 (And.intro trivial hb) ?_);(refine u_tx 1 (And.intro trivial hb) ?_))
 ((refine u_tx 3 (And.intro trivial hb) ?_);(refine u_tx 4 (And.intro trivial hb) ?_))
 ((refine u_tx 6 (And.intro trivial hb) ?_);(refine u_tx 7 (And.intro trivial hb) ?_))
 refine u_one (i:=2) rfl Yhf ?_
 refine s_c1 (clExprC d.body _ w12 S (hbo.tr0 hF12)) ?_
 rintro cs1 w13 ⟨kbo,hf13⟩
 have hs13:=hf13.size
 have hb:=hb.tr0 hf13
 have hr:=hr.tr0 hf13
 have hF13:Fr [] w w13:=hF12.trans0 hf13
 have kct:=kct.old hf13 Yhi
 have kpm:=kpm.old hf13 Yhi
 have kty:=kty.old hf13 Yhi
 have kst:=kst.old hf13 Yhi
 have kbo:=kbo.down (w0:=w2) Yhd
 obtain⟨yb1,yb2,yb3,rfl,_,_,_⟩:=exR.1 kbo
 refine Yga ?_
 ((refine u_tx 9 (And.intro trivial hb) ?_))
 refine Ygb ?_
 refine s_c1 (clExprC d.init _ w13 S (hit.tr0 hF13)) ?_
 rintro cs2 w14 ⟨kit,hf14⟩
 have hs14:=hf14.size
 have hb:=hb.tr0 hf14
 have hr:=hr.tr0 hf14
 have hF14:Fr [] w w14:=hF13.trans0 hf14
 have kct:=kct.old hf14 Yhi
 have kpm:=kpm.old hf14 Yhi
 have kty:=kty.old hf14 Yhi
 have kst:=kst.old hf14 Yhi
 have kbo:=kbo.old hf14 Yhi
 have kit:=kit.down (w0:=w2) Yhd
 obtain⟨yi1,yi2,yi3,rfl,_,_,_⟩:=exR.1 kit
 refine Yga ?_
 refine Ygd ?_
 refine s_c1 (clExprC d.recov _ w14 S (hrc.tr0 hF14)) ?_
 rintro cs3 w15 ⟨krc,hf15⟩
 have hs15:=hf15.size
 have hb:=hb.tr0 hf15
 have hr:=hr.tr0 hf15
 have hF15:Fr [] w w15:=hF14.trans0 hf15
 have kct:=kct.old hf15 Yhi
 have kpm:=kpm.old hf15 Yhi
 have kty:=kty.old hf15 Yhi
 have kst:=kst.old hf15 Yhi
 have kbo:=kbo.old hf15 Yhi
 have kit:=kit.old hf15 Yhi
 have krc:=krc.down (w0:=w2) Yhd
 obtain⟨yr1,yr2,yr3,rfl,_,_,_⟩:=exR.1 krc
 refine Yga ?_
 refine Yge ?_
 refine s_storeSubB (cs:=[iV d.body.kind,.string d.body.name,iV d.body.n,yb1,yb2,yb3,iV d.body.at_]) rfl rfl hb (RD.one kbo) Yhi rfl (fun w16 hb hf16 hs16=>?_)
 replace hb:Blk w16 b [iV d.kind,.string d.name,iV d.at_,vct,vpm,iV d.type.kind,.string d.type.name,yt,iV d.body.kind,.string d.body.name,iV d.body.n,yb1,yb2,yb3,iV d.body.at_,iV d.depth,iV d.gen.kind,.string d.gen.name,.slice ge1 gen1 gec1,.slice ge2 gen2 gec2,.slice ge3 gen3 gec3,iV d.gen.at_,.slice dw (d.draws.map dwC).length dwc,.slice ck (d.checks.map ckC).length ckc,.slice cs (d.classes.map ckC).length csc,.slice cl (d.claims.map clC).length clc,iV d.state.kind,.string d.state.name,ys,iV d.init.kind,.string d.init.name,iV d.init.n,.slice it1 itn1 itc1,.slice it2 itn2 itc2,.slice it3 itn3 itc3,iV d.init.at_,.slice cm (d.cmds.map cmC).length cmc,.slice op (d.ops.map opC).length opc,iV d.recov.kind,.string d.recov.name,iV d.recov.n,.slice rc1 rcn1 rcc1,.slice rc2 rcn2 rcc2,.slice rc3 rcn3 rcc3,iV d.recov.at_] 105:=hb
 have hr:=hr.tr hf16 Yhj
 have hF16:Fr [] w w16:=hF15.trans hf16 (fun x hx=>.inr Yhg)
 have kct:=kct.old hf16 (in_rg Yhd)
 have kpm:=kpm.old hf16 (in_rg Yhd)
 have kty:=kty.old hf16 (in_rg Yhd)
 have kst:=kst.old hf16 (in_rg Yhd)
 have kit:=kit.old hf16 (in_rg Yhd)
 have krc:=krc.old hf16 (in_rg Yhd)
 have kbo:=kbo.old hf16 (in_rg Yhd)
 refine Ygf ?_
 refine u_one (i:=11) rfl Yhf ?_
 refine s_fieldAddr rfl ?_
 rw[add_lit]
 refine Ygf ?_
 refine u_one (i:=12) rfl Yhf ?_
 refine s_storeSubB (cs:=[iV d.init.kind,.string d.init.name,iV d.init.n,yi1,yi2,yi3,iV d.init.at_]) rfl rfl hb (RD.one kit) Yhi rfl (fun w17 hb hf17 hs17=>?_)
 replace hb:Blk w17 b [iV d.kind,.string d.name,iV d.at_,vct,vpm,iV d.type.kind,.string d.type.name,yt,iV d.body.kind,.string d.body.name,iV d.body.n,yb1,yb2,yb3,iV d.body.at_,iV d.depth,iV d.gen.kind,.string d.gen.name,.slice ge1 gen1 gec1,.slice ge2 gen2 gec2,.slice ge3 gen3 gec3,iV d.gen.at_,.slice dw (d.draws.map dwC).length dwc,.slice ck (d.checks.map ckC).length ckc,.slice cs (d.classes.map ckC).length csc,.slice cl (d.claims.map clC).length clc,iV d.state.kind,.string d.state.name,ys,iV d.init.kind,.string d.init.name,iV d.init.n,yi1,yi2,yi3,iV d.init.at_,.slice cm (d.cmds.map cmC).length cmc,.slice op (d.ops.map opC).length opc,iV d.recov.kind,.string d.recov.name,iV d.recov.n,.slice rc1 rcn1 rcc1,.slice rc2 rcn2 rcc2,.slice rc3 rcn3 rcc3,iV d.recov.at_] 105:=hb
 have hr:=hr.tr hf17 Yhj
 have hF17:Fr [] w w17:=hF16.trans hf17 (fun x hx=>.inr Yhg)
 have kct:=kct.old hf17 (in_rg Yhd)
 have kpm:=kpm.old hf17 (in_rg Yhd)
 have kty:=kty.old hf17 (in_rg Yhd)
 have kst:=kst.old hf17 (in_rg Yhd)
 have krc:=krc.old hf17 (in_rg Yhd)
 have kbo:=kbo.old hf17 (in_rg Yhd)
 have kit:=kit.old hf17 (in_rg Yhd)
 refine Ygf ?_
 refine u_one (i:=13) rfl Yhf ?_
 refine s_fieldAddr rfl ?_
 rw[add_lit]
 refine Ygf ?_
 refine u_one (i:=14) rfl Yhf ?_
 refine s_storeSubB (cs:=[iV d.recov.kind,.string d.recov.name,iV d.recov.n,yr1,yr2,yr3,iV d.recov.at_]) rfl rfl hb (RD.one krc) Yhi rfl (fun w18 hb hf18 hs18=>?_)
 replace hb:Blk w18 b [iV d.kind,.string d.name,iV d.at_,vct,vpm,iV d.type.kind,.string d.type.name,yt,iV d.body.kind,.string d.body.name,iV d.body.n,yb1,yb2,yb3,iV d.body.at_,iV d.depth,iV d.gen.kind,.string d.gen.name,.slice ge1 gen1 gec1,.slice ge2 gen2 gec2,.slice ge3 gen3 gec3,iV d.gen.at_,.slice dw (d.draws.map dwC).length dwc,.slice ck (d.checks.map ckC).length ckc,.slice cs (d.classes.map ckC).length csc,.slice cl (d.claims.map clC).length clc,iV d.state.kind,.string d.state.name,ys,iV d.init.kind,.string d.init.name,iV d.init.n,yi1,yi2,yi3,iV d.init.at_,.slice cm (d.cmds.map cmC).length cmc,.slice op (d.ops.map opC).length opc,iV d.recov.kind,.string d.recov.name,iV d.recov.n,yr1,yr2,yr3,iV d.recov.at_] 105:=hb
 have hr:=hr.tr hf18 Yhj
 have hF18:Fr [] w w18:=hF17.trans hf18 (fun x hx=>.inr Yhg)
 have kct:=kct.old hf18 (in_rg Yhd)
 have kpm:=kpm.old hf18 (in_rg Yhd)
 have kty:=kty.old hf18 (in_rg Yhd)
 have kst:=kst.old hf18 (in_rg Yhd)
 have kbo:=kbo.old hf18 (in_rg Yhd)
 have kit:=kit.old hf18 (in_rg Yhd)
 have krc:=krc.old hf18 (in_rg Yhd)
 refine Yeo ?_
 refine s_c1 (clGenC d.gen _ w18 S (hge.tr0 hF18)) ?_
 rintro cs4 w19 ⟨kge,hf19⟩
 have hs19:=hf19.size
 have hb:=hb.tr0 hf19
 have hr:=hr.tr0 hf19
 have hF19:Fr [] w w19:=hF18.trans0 hf19
 have kct:=kct.old hf19 Yhi
 have kpm:=kpm.old hf19 Yhi
 have kty:=kty.old hf19 Yhi
 have kst:=kst.old hf19 Yhi
 have kbo:=kbo.old hf19 Yhi
 have kit:=kit.old hf19 Yhi
 have krc:=krc.old hf19 Yhi
 have kge:=kge.down (w0:=w2) Yhd
 obtain⟨yg1,yg2,yg3,rfl,_,_,_⟩:=gnR.1 kge
 refine rx ?_
 refine s_storeSubB (cs:=[iV d.gen.kind,.string d.gen.name,yg1,yg2,yg3,iV d.gen.at_]) rfl rfl hb (RD.one kge) Yhi rfl (fun w20 hb hf20 hs20=>?_)
 replace hb:Blk w20 b [iV d.kind,.string d.name,iV d.at_,vct,vpm,iV d.type.kind,.string d.type.name,yt,iV d.body.kind,.string d.body.name,iV d.body.n,yb1,yb2,yb3,iV d.body.at_,iV d.depth,iV d.gen.kind,.string d.gen.name,yg1,yg2,yg3,iV d.gen.at_,.slice dw (d.draws.map dwC).length dwc,.slice ck (d.checks.map ckC).length ckc,.slice cs (d.classes.map ckC).length csc,.slice cl (d.claims.map clC).length clc,iV d.state.kind,.string d.state.name,ys,iV d.init.kind,.string d.init.name,iV d.init.n,yi1,yi2,yi3,iV d.init.at_,.slice cm (d.cmds.map cmC).length cmc,.slice op (d.ops.map opC).length opc,iV d.recov.kind,.string d.recov.name,iV d.recov.n,yr1,yr2,yr3,iV d.recov.at_] 105:=hb
 have hr:=hr.tr hf20 Yhj
 have hF20:Fr [] w w20:=hF19.trans hf20 (fun x hx=>.inr Yhg)
 have kct:=kct.old hf20 (in_rg Yhd)
 have kpm:=kpm.old hf20 (in_rg Yhd)
 have kty:=kty.old hf20 (in_rg Yhd)
 have kst:=kst.old hf20 (in_rg Yhd)
 have kbo:=kbo.old hf20 (in_rg Yhd)
 have kit:=kit.old hf20 (in_rg Yhd)
 have krc:=krc.old hf20 (in_rg Yhd)
 have kge:=kge.old hf20 (in_rg Yhd)
 refine rx ?_
 refine s_c1 (clDraws d.draws _ w20 S (hdw.tr0 hF20) (fun x hx cs u S h=>clDrawC x cs u S h)) ?_
 rintro vdw w21 ⟨kdw,hf21⟩
 have hs21:=hf21.size
 have hb:=hb.tr0 hf21
 have hr:=hr.tr0 hf21
 have hF21:Fr [] w w21:=hF20.trans0 hf21
 have kct:=kct.old hf21 Yhi
 have kpm:=kpm.old hf21 Yhi
 have kty:=kty.old hf21 Yhi
 have kst:=kst.old hf21 Yhi
 have kbo:=kbo.old hf21 Yhi
 have kit:=kit.old hf21 Yhi
 have krc:=krc.old hf21 Yhi
 have kge:=kge.old hf21 Yhi
 have kdw:=kdw.down (w0:=w2) Yhd
 refine rx ?_
 ((with_reducible apply s_storeB);exact rfl;(conv=>lhs;whnf);exact kdw.one;exact hb;exact rfl)
 intro w22 hb hf22 hs22
 replace hb:Blk w22 b [iV d.kind,.string d.name,iV d.at_,vct,vpm,iV d.type.kind,.string d.type.name,yt,iV d.body.kind,.string d.body.name,iV d.body.n,yb1,yb2,yb3,iV d.body.at_,iV d.depth,iV d.gen.kind,.string d.gen.name,yg1,yg2,yg3,iV d.gen.at_,vdw,.slice ck (d.checks.map ckC).length ckc,.slice cs (d.classes.map ckC).length csc,.slice cl (d.claims.map clC).length clc,iV d.state.kind,.string d.state.name,ys,iV d.init.kind,.string d.init.name,iV d.init.n,yi1,yi2,yi3,iV d.init.at_,.slice cm (d.cmds.map cmC).length cmc,.slice op (d.ops.map opC).length opc,iV d.recov.kind,.string d.recov.name,iV d.recov.n,yr1,yr2,yr3,iV d.recov.at_] 105:=hb
 have hr:=hr.tr hf22 Yhj
 have hF22:Fr [] w w22:=hF21.trans hf22 (fun x hx=>.inr Yhg)
 have kct:=kct.old hf22 (in_rg Yhd)
 have kpm:=kpm.old hf22 (in_rg Yhd)
 have kty:=kty.old hf22 (in_rg Yhd)
 have kst:=kst.old hf22 (in_rg Yhd)
 have kbo:=kbo.old hf22 (in_rg Yhd)
 have kit:=kit.old hf22 (in_rg Yhd)
 have krc:=krc.old hf22 (in_rg Yhd)
 have kge:=kge.old hf22 (in_rg Yhd)
 have kdw:=kdw.old hf22 (in_rg Yhd)
 refine rx ?_
 refine s_c1 (clChecks d.checks _ w22 S (hck.tr0 hF22) (fun x hx cs u S h=>clCheckC x cs u S h)) ?_
 rintro vck w23 ⟨kck,hf23⟩
 have hs23:=hf23.size
 have hb:=hb.tr0 hf23
 have hr:=hr.tr0 hf23
 have hF23:Fr [] w w23:=hF22.trans0 hf23
 have kct:=kct.old hf23 Yhi
 have kpm:=kpm.old hf23 Yhi
 have kty:=kty.old hf23 Yhi
 have kst:=kst.old hf23 Yhi
 have kbo:=kbo.old hf23 Yhi
 have kit:=kit.old hf23 Yhi
 have krc:=krc.old hf23 Yhi
 have kge:=kge.old hf23 Yhi
 have kdw:=kdw.old hf23 Yhi
 have kck:=kck.down (w0:=w2) Yhd
 refine rx ?_
 ((with_reducible apply s_storeB);exact rfl;(conv=>lhs;whnf);exact kck.one;exact hb;exact rfl)
 intro w24 hb hf24 hs24
 replace hb:Blk w24 b [iV d.kind,.string d.name,iV d.at_,vct,vpm,iV d.type.kind,.string d.type.name,yt,iV d.body.kind,.string d.body.name,iV d.body.n,yb1,yb2,yb3,iV d.body.at_,iV d.depth,iV d.gen.kind,.string d.gen.name,yg1,yg2,yg3,iV d.gen.at_,vdw,vck,.slice cs (d.classes.map ckC).length csc,.slice cl (d.claims.map clC).length clc,iV d.state.kind,.string d.state.name,ys,iV d.init.kind,.string d.init.name,iV d.init.n,yi1,yi2,yi3,iV d.init.at_,.slice cm (d.cmds.map cmC).length cmc,.slice op (d.ops.map opC).length opc,iV d.recov.kind,.string d.recov.name,iV d.recov.n,yr1,yr2,yr3,iV d.recov.at_] 105:=hb
 have hr:=hr.tr hf24 Yhj
 have hF24:Fr [] w w24:=hF23.trans hf24 (fun x hx=>.inr Yhg)
 have kct:=kct.old hf24 (in_rg Yhd)
 have kpm:=kpm.old hf24 (in_rg Yhd)
 have kty:=kty.old hf24 (in_rg Yhd)
 have kst:=kst.old hf24 (in_rg Yhd)
 have kbo:=kbo.old hf24 (in_rg Yhd)
 have kit:=kit.old hf24 (in_rg Yhd)
 have krc:=krc.old hf24 (in_rg Yhd)
 have kge:=kge.old hf24 (in_rg Yhd)
 have kdw:=kdw.old hf24 (in_rg Yhd)
 have kck:=kck.old hf24 (in_rg Yhd)
 refine rx ?_
 refine s_c1 (clChecks d.classes _ w24 S (hcs.tr0 hF24) (fun x hx cs u S h=>clCheckC x cs u S h)) ?_
 rintro vcs w25 ⟨kcs,hf25⟩
 have hs25:=hf25.size
 have hb:=hb.tr0 hf25
 have hr:=hr.tr0 hf25
 have hF25:Fr [] w w25:=hF24.trans0 hf25
 have kct:=kct.old hf25 Yhi
 have kpm:=kpm.old hf25 Yhi
 have kty:=kty.old hf25 Yhi
 have kst:=kst.old hf25 Yhi
 have kbo:=kbo.old hf25 Yhi
 have kit:=kit.old hf25 Yhi
 have krc:=krc.old hf25 Yhi
 have kge:=kge.old hf25 Yhi
 have kdw:=kdw.old hf25 Yhi
 have kck:=kck.old hf25 Yhi
 have kcs:=kcs.down (w0:=w2) Yhd
 refine rx ?_
 ((with_reducible apply s_storeB);exact rfl;(conv=>lhs;whnf);exact kcs.one;exact hb;exact rfl)
 intro w26 hb hf26 hs26
 replace hb:Blk w26 b [iV d.kind,.string d.name,iV d.at_,vct,vpm,iV d.type.kind,.string d.type.name,yt,iV d.body.kind,.string d.body.name,iV d.body.n,yb1,yb2,yb3,iV d.body.at_,iV d.depth,iV d.gen.kind,.string d.gen.name,yg1,yg2,yg3,iV d.gen.at_,vdw,vck,vcs,.slice cl (d.claims.map clC).length clc,iV d.state.kind,.string d.state.name,ys,iV d.init.kind,.string d.init.name,iV d.init.n,yi1,yi2,yi3,iV d.init.at_,.slice cm (d.cmds.map cmC).length cmc,.slice op (d.ops.map opC).length opc,iV d.recov.kind,.string d.recov.name,iV d.recov.n,yr1,yr2,yr3,iV d.recov.at_] 105:=hb
 have hr:=hr.tr hf26 Yhj
 have hF26:Fr [] w w26:=hF25.trans hf26 (fun x hx=>.inr Yhg)
 have kct:=kct.old hf26 (in_rg Yhd)
 have kpm:=kpm.old hf26 (in_rg Yhd)
 have kty:=kty.old hf26 (in_rg Yhd)
 have kst:=kst.old hf26 (in_rg Yhd)
 have kbo:=kbo.old hf26 (in_rg Yhd)
 have kit:=kit.old hf26 (in_rg Yhd)
 have krc:=krc.old hf26 (in_rg Yhd)
 have kge:=kge.old hf26 (in_rg Yhd)
 have kdw:=kdw.old hf26 (in_rg Yhd)
 have kck:=kck.old hf26 (in_rg Yhd)
 have kcs:=kcs.old hf26 (in_rg Yhd)
 refine rx ?_
 refine s_c1 (flClaim d.claims _ w26 S (hcl.tr0 hF26)) ?_
 rintro vcl w27 ⟨kcl,hf27⟩
 have hs27:=hf27.size
 have hb:=hb.tr0 hf27
 have hr:=hr.tr0 hf27
 have hF27:Fr [] w w27:=hF26.trans0 hf27
 have kct:=kct.old hf27 Yhi
 have kpm:=kpm.old hf27 Yhi
 have kty:=kty.old hf27 Yhi
 have kst:=kst.old hf27 Yhi
 have kbo:=kbo.old hf27 Yhi
 have kit:=kit.old hf27 Yhi
 have krc:=krc.old hf27 Yhi
 have kge:=kge.old hf27 Yhi
 have kdw:=kdw.old hf27 Yhi
 have kck:=kck.old hf27 Yhi
 have kcs:=kcs.old hf27 Yhi
 have kcl:=kcl.down (w0:=w2) Yhd
 refine rx ?_
 ((with_reducible apply s_storeB);exact rfl;(conv=>lhs;whnf);exact kcl.one;exact hb;exact rfl)
 intro w28 hb hf28 hs28
 replace hb:Blk w28 b [iV d.kind,.string d.name,iV d.at_,vct,vpm,iV d.type.kind,.string d.type.name,yt,iV d.body.kind,.string d.body.name,iV d.body.n,yb1,yb2,yb3,iV d.body.at_,iV d.depth,iV d.gen.kind,.string d.gen.name,yg1,yg2,yg3,iV d.gen.at_,vdw,vck,vcs,vcl,iV d.state.kind,.string d.state.name,ys,iV d.init.kind,.string d.init.name,iV d.init.n,yi1,yi2,yi3,iV d.init.at_,.slice cm (d.cmds.map cmC).length cmc,.slice op (d.ops.map opC).length opc,iV d.recov.kind,.string d.recov.name,iV d.recov.n,yr1,yr2,yr3,iV d.recov.at_] 105:=hb
 have hr:=hr.tr hf28 Yhj
 have hF28:Fr [] w w28:=hF27.trans hf28 (fun x hx=>.inr Yhg)
 have kct:=kct.old hf28 (in_rg Yhd)
 have kpm:=kpm.old hf28 (in_rg Yhd)
 have kty:=kty.old hf28 (in_rg Yhd)
 have kst:=kst.old hf28 (in_rg Yhd)
 have kbo:=kbo.old hf28 (in_rg Yhd)
 have kit:=kit.old hf28 (in_rg Yhd)
 have krc:=krc.old hf28 (in_rg Yhd)
 have kge:=kge.old hf28 (in_rg Yhd)
 have kdw:=kdw.old hf28 (in_rg Yhd)
 have kck:=kck.old hf28 (in_rg Yhd)
 have kcs:=kcs.old hf28 (in_rg Yhd)
 have kcl:=kcl.old hf28 (in_rg Yhd)
 refine rx ?_
 refine s_c1 (clCmds d.cmds _ w28 S hl6 (hcm.tr0 hF28) (fun x hx cs u S h=>clCmdC x cs u S h)) ?_
 rintro vcm w29 ⟨kcm,hf29⟩
 have hs29:=hf29.size
 have hb:=hb.tr0 hf29
 have hr:=hr.tr0 hf29
 have hF29:Fr [] w w29:=hF28.trans0 hf29
 have kct:=kct.old hf29 Yhi
 have kpm:=kpm.old hf29 Yhi
 have kty:=kty.old hf29 Yhi
 have kst:=kst.old hf29 Yhi
 have kbo:=kbo.old hf29 Yhi
 have kit:=kit.old hf29 Yhi
 have krc:=krc.old hf29 Yhi
 have kge:=kge.old hf29 Yhi
 have kdw:=kdw.old hf29 Yhi
 have kck:=kck.old hf29 Yhi
 have kcs:=kcs.old hf29 Yhi
 have kcl:=kcl.old hf29 Yhi
 have kcm:=kcm.down (w0:=w2) Yhd
 refine rx ?_
 ((with_reducible apply s_storeB);exact rfl;(conv=>lhs;whnf);exact kcm.one;exact hb;exact rfl)
 intro w30 hb hf30 hs30
 replace hb:Blk w30 b [iV d.kind,.string d.name,iV d.at_,vct,vpm,iV d.type.kind,.string d.type.name,yt,iV d.body.kind,.string d.body.name,iV d.body.n,yb1,yb2,yb3,iV d.body.at_,iV d.depth,iV d.gen.kind,.string d.gen.name,yg1,yg2,yg3,iV d.gen.at_,vdw,vck,vcs,vcl,iV d.state.kind,.string d.state.name,ys,iV d.init.kind,.string d.init.name,iV d.init.n,yi1,yi2,yi3,iV d.init.at_,vcm,.slice op (d.ops.map opC).length opc,iV d.recov.kind,.string d.recov.name,iV d.recov.n,yr1,yr2,yr3,iV d.recov.at_] 105:=hb
 have hr:=hr.tr hf30 Yhj
 have hF30:Fr [] w w30:=hF29.trans hf30 (fun x hx=>.inr Yhg)
 have kct:=kct.old hf30 (in_rg Yhd)
 have kpm:=kpm.old hf30 (in_rg Yhd)
 have kty:=kty.old hf30 (in_rg Yhd)
 have kst:=kst.old hf30 (in_rg Yhd)
 have kbo:=kbo.old hf30 (in_rg Yhd)
 have kit:=kit.old hf30 (in_rg Yhd)
 have krc:=krc.old hf30 (in_rg Yhd)
 have kge:=kge.old hf30 (in_rg Yhd)
 have kdw:=kdw.old hf30 (in_rg Yhd)
 have kck:=kck.old hf30 (in_rg Yhd)
 have kcs:=kcs.old hf30 (in_rg Yhd)
 have kcl:=kcl.old hf30 (in_rg Yhd)
 have kcm:=kcm.old hf30 (in_rg Yhd)
 refine rx ?_
 refine s_c1 (clOps d.ops _ w30 S (hop.tr0 hF30) (fun x hx cs u S h=>clOpC x cs u S h)) ?_
 rintro vop w31 ⟨kop,hf31⟩
 have hs31:=hf31.size
 have hb:=hb.tr0 hf31
 have hr:=hr.tr0 hf31
 have hF31:Fr [] w w31:=hF30.trans0 hf31
 have kct:=kct.old hf31 Yhi
 have kpm:=kpm.old hf31 Yhi
 have kty:=kty.old hf31 Yhi
 have kst:=kst.old hf31 Yhi
 have kbo:=kbo.old hf31 Yhi
 have kit:=kit.old hf31 Yhi
 have krc:=krc.old hf31 Yhi
 have kge:=kge.old hf31 Yhi
 have kdw:=kdw.old hf31 Yhi
 have kck:=kck.old hf31 Yhi
 have kcs:=kcs.old hf31 Yhi
 have kcl:=kcl.old hf31 Yhi
 have kcm:=kcm.old hf31 Yhi
 have kop:=kop.down (w0:=w2) Yhd
 refine rx ?_
 ((with_reducible apply s_storeB);exact rfl;(conv=>lhs;whnf);exact kop.one;exact hb;exact rfl)
 intro w32 hb hf32 hs32
 replace hb:Blk w32 b [iV d.kind,.string d.name,iV d.at_,vct,vpm,iV d.type.kind,.string d.type.name,yt,iV d.body.kind,.string d.body.name,iV d.body.n,yb1,yb2,yb3,iV d.body.at_,iV d.depth,iV d.gen.kind,.string d.gen.name,yg1,yg2,yg3,iV d.gen.at_,vdw,vck,vcs,vcl,iV d.state.kind,.string d.state.name,ys,iV d.init.kind,.string d.init.name,iV d.init.n,yi1,yi2,yi3,iV d.init.at_,vcm,vop,iV d.recov.kind,.string d.recov.name,iV d.recov.n,yr1,yr2,yr3,iV d.recov.at_] 105:=hb
 have hr:=hr.tr hf32 Yhj
 have hF32:Fr [] w w32:=hF31.trans hf32 (fun x hx=>.inr Yhg)
 have kct:=kct.old hf32 (in_rg Yhd)
 have kpm:=kpm.old hf32 (in_rg Yhd)
 have kty:=kty.old hf32 (in_rg Yhd)
 have kst:=kst.old hf32 (in_rg Yhd)
 have kbo:=kbo.old hf32 (in_rg Yhd)
 have kit:=kit.old hf32 (in_rg Yhd)
 have krc:=krc.old hf32 (in_rg Yhd)
 have kge:=kge.old hf32 (in_rg Yhd)
 have kdw:=kdw.old hf32 (in_rg Yhd)
 have kck:=kck.old hf32 (in_rg Yhd)
 have kcs:=kcs.old hf32 (in_rg Yhd)
 have kcl:=kcl.old hf32 (in_rg Yhd)
 have kcm:=kcm.old hf32 (in_rg Yhd)
 have kop:=kop.old hf32 (in_rg Yhd)
 refine rx ?_
 have hdr:RD w32 (rg w2) (deC d) [iV d.kind,.string d.name,iV d.at_,vct,vpm,iV d.type.kind,.string d.type.name,yt,iV d.body.kind,.string d.body.name,iV d.body.n,yb1,yb2,yb3,iV d.body.at_,iV d.depth,iV d.gen.kind,.string d.gen.name,yg1,yg2,yg3,iV d.gen.at_,vdw,vck,vcs,vcl,iV d.state.kind,.string d.state.name,ys,iV d.init.kind,.string d.init.name,iV d.init.n,yi1,yi2,yi3,iV d.init.at_,vcm,vop,iV d.recov.kind,.string d.recov.name,iV d.recov.n,yr1,yr2,yr3,iV d.recov.at_]:=rdDe kct kpm kty kbo kge kdw kck kcs kcl kst kit kcm kop krc
 refine s_storeAggB (cs:=[iV d.kind,.string d.name,iV d.at_,vct,vpm,iV d.type.kind,.string d.type.name,yt,iV d.body.kind,.string d.body.name,iV d.body.n,yb1,yb2,yb3,iV d.body.at_,iV d.depth,iV d.gen.kind,.string d.gen.name,yg1,yg2,yg3,iV d.gen.at_,vdw,vck,vcs,vcl,iV d.state.kind,.string d.state.name,ys,iV d.init.kind,.string d.init.name,iV d.init.n,yi1,yi2,yi3,iV d.init.at_,vcm,vop,iV d.recov.kind,.string d.recov.name,iV d.recov.n,yr1,yr2,yr3,iV d.recov.at_]) rfl rfl hr (RD.one hdr) rfl rfl (fun u hr2 hfu hsu=>?_)
 refine rx ?_
 refine retB rfl rfl hr2 rfl ⟨_,rfl,(hdr.old hfu (in_rg Yhd)).down Yhd,hF32.trans hfu (fun x hx=>.inr Yhg)⟩
end Go.Proofs.YtggmccicdhnkgaaGreat
namespace Go.Rf
open Go.RowKit
theorem retc2{P:Program}{fn:Func}{R:Ending->World->Prop}{n:Nat}{f:Env}{w:World}{t ty m q tb u:Nat}{cs:List Value}{x:Value}[G:AggT P ty m](hr:fn.results=#[.cell t ty,.tmp u])(hv:ev n f (.tmp t)=.pointer (some ⟨q,0,none⟩))(hb:Blk w q cs tb)(hl:cs.length=m)(hx:ev n f (.tmp u)=x)
 (h:R (.returned (.tuple #[.agg cs.toArray,x])) w):bodyPost P fn R .ret (A n f) w:=
 ⟨rfl,.tuple #[.agg cs.toArray,x],by
  have hld:(loadVar ty ⟨q,0,none⟩).run P w=.ok (.agg cs.toArray) w:=AggT.load _ cs hl Yix
  have e:(A n f).tmps.getD t undef=.pointer (some ⟨q,0,none⟩):=by rw[A_getD];exact hv
  have e2:(A n f).tmps.getD u undef=x:=by rw[A_getD];exact hx
  rw[Array.getD_eq_getD_getElem?]at e e2
  simp[results,hr,e,e2,asAddr,hld],h⟩
def fdD(l:List De)(k:Int)(nm:ByteArray):Option De:=l.find? (fun d=>decide (d.kind=k/\d.name=nm))
theorem fdD_drop{l:List De}{k:Int}{nm:ByteArray}{i:Nat}(hi:i<l.length):fdD (l.drop i) k nm=if l[i].kind=k/\l[i].name=nm then some l[i] else fdD (l.drop (i+1)) k nm:=by
 unfold fdD
 rw[List.drop_eq_getElem_cons hi,List.find?_cons]
 by_cases h:l[i].kind=k/\l[i].name=nm<;>simp[h]
end Go.Rf
namespace Go.Proofs.YtggmccicdhnkgaaGreat
open Go.Proofs.Tryz
open Go.Rf Go.RowKit
attribute [local irreducible] Code.wp wpList Exit.then Exit.inBlock bodyPost A Calls execOp Addr.add
def de0C:List Value:=[zI,zT,zI,zS,zS,zI,zT,zS,zI,zT,zI,zS,zS,zS,zI,zI,zI,zT,zS,zS,zS,zI,zS,zS,zS,zS,zI,zT,zS,zI,zT,zI,zS,zS,zS,zI,zS,zS,zI,zT,zI,zS,zS,zS,zI]
def FdR(w:World)(r:Option De)(e:Ending)(w':World):Prop:=Fr [] w w'/\match r with
 |some d=>∃cs,e=.returned (.tuple #[.agg cs.toArray,.bool true])/\RD w' (rg w) (deC d) cs
 |none=>e=.returned (.tuple #[.agg de0C.toArray,.bool false])
set_option maxHeartbeats 8000000 in
theorem parDeclC(l:List De)(k:Int)(nm:ByteArray)(v:Value)(w:World)(S:List Nat)(h6:∀d∈l,d.cmds.length<=1000000)(hd:DR w S (.l (l.map deC)) v):
 Calls prog 46 #[.agg ([v]:List Value).toArray,iV k,.string nm] w (FdR w (fdD l k nm)):=by
 have hbd:=hd.bound
 have hl:(l.map deC).length=l.length:=List.length_map ..
 obtain⟨ao,c,rfl,_⟩:=hd.slice
 rw[hl]at hd ⊢
 refine enter func46 rfl ntmps46 rfl ?_
 refine rx ?_
 refine s_boxN (l:=[.slice ao l.length c]) rfl rfl (fun w1 b hbe hb hf1 hs1=>?_)
 refine rx ?_
 refine s_allocN (l:=[zI,zT,zI,zS,zS,zI,zT,zS,zI,zT,zI,zS,zS,zS,zI,zI,zI,zT,zS,zS,zS,zI,zS,zS,zS,zS,zI,zT,zS,zI,zT,zI,zS,zS,zS,zI,zS,zS,zI,zT,zI,zS,zS,zS,zI]) rfl (fun w2 r hre hr hf2 hs2=>?_)
 have hb:=hb.tr0 hf2
 have hF2:Fr [] w w2:=hf1.trans0 hf2
 refine rx ?_
 refine c_loopK 9 [] (σ:=Nat) (fun i g u=>g 11=.slice ao l.length c/\g 12=iV l.length/\g 13=iV i/\i<=l.length/\fdD l k nm=fdD (l.drop i) k nm/\Blk u r [zI,zT,zI,zS,zS,zI,zT,zS,zI,zT,zI,zS,zS,zS,zI,zI,zI,zT,zS,zS,zS,zI,zS,zS,zS,zS,zI,zT,zS,zI,zT,zI,zS,zS,zS,zI,zS,zS,zI,zT,zI,zS,zS,zS,zI] 105/\Fr [] w2 u) (fun i=>l.length-i) 0 ⟨rfl,rfl,rfl,Nat.zero_le _,rfl,hr,Fr.refl _ _⟩ ?_
 clear hr
 rintro i g u ⟨g11,g12,g13,hi,he,hr,hfu⟩
 rw[eq_upd g11,eq_upd g12,eq_upd g13]
 have hF:Fr [] w u:=hF2.trans0 hfu
 by_cases hlt:i<l.length
 case neg=>
  refine Yfg ?_
  refine s_storeAggB (cs:=[zI,zT,zI,zS,zS,zI,zT,zS,zI,zT,zI,zS,zS,zS,zI,zI,zI,zT,zS,zS,zS,zI,zS,zS,zS,zS,zI,zT,zS,zI,zT,zI,zS,zS,zS,zI,zS,zS,zI,zT,zI,zS,zS,zS,zI]) rfl rfl hr Yhk rfl rfl (fun u2 hr2 hf3 hs3=>?_)
  refine rx ?_
  refine retc2 rfl rfl hr2 rfl rfl ⟨hF.trans hf3 (fun x hx=>.inr Yhg),?_⟩
  rw[he,List.drop_eq_nil_of_le Yhd]
  rfl
 obtain⟨ad,cs0,had,hr0,hc⟩:=DR.at deC_len (hd.tr0 hF) hlt
 subst had
 have hr0':=hr0
 obtain⟨_,rfl,r1⟩:=RD.invC (x:=iV l[i].kind) hr0
 obtain⟨_,rfl,r2⟩:=RD.invC (x:=.string l[i].name) r1
 obtain⟨_,rfl,r3⟩:=RD.invC (x:=iV l[i].at_) r2
 obtain⟨ct,ctc,_,rfl,hct,r4⟩:=RD.lst (rows:=l[i].ctors.map ctC) r3
 obtain⟨pm,pmc,_,rfl,hpm,r5⟩:=RD.lst (rows:=l[i].params.map pmC) r4
 obtain⟨sty,_,rfl,hty,hk1,r6⟩:=RD.ty (t:=l[i].type) r5
 obtain⟨ty,tyc,rfl,_⟩:=hk1.slice
 obtain⟨bo1,bon1,boc1,bo2,bon2,boc2,bo3,bon3,boc3,_,rfl,hbo,r7⟩:=RD.ex (e:=l[i].body) r6
 obtain⟨_,rfl,r8⟩:=RD.invC (x:=iV l[i].depth) r7
 obtain⟨ge1,gen1,gec1,ge2,gen2,gec2,ge3,gen3,gec3,_,rfl,hge,r9⟩:=RD.gn (g:=l[i].gen) r8
 obtain⟨dw,dwc,_,rfl,hdw,r10⟩:=RD.lst (rows:=l[i].draws.map dwC) r9
 obtain⟨ck,ckc,_,rfl,hck,r11⟩:=RD.lst (rows:=l[i].checks.map ckC) r10
 obtain⟨cs,csc,_,rfl,hcs,r12⟩:=RD.lst (rows:=l[i].classes.map ckC) r11
 obtain⟨cl,clc,_,rfl,hcl,r13⟩:=RD.lst (rows:=l[i].claims.map clC) r12
 obtain⟨sst,_,rfl,hstt,hk2,r14⟩:=RD.ty (t:=l[i].state) r13
 obtain⟨st,stc,rfl,_⟩:=hk2.slice
 obtain⟨it1,itn1,itc1,it2,itn2,itc2,it3,itn3,itc3,_,rfl,hit,r15⟩:=RD.ex (e:=l[i].init) r14
 obtain⟨cm,cmc,_,rfl,hcm,r16⟩:=RD.lst (rows:=l[i].cmds.map cmC) r15
 obtain⟨op,opc,_,rfl,hop,r17⟩:=RD.lst (rows:=l[i].ops.map opC) r16
 obtain⟨rc1,rcn1,rcc1,rc2,rcn2,rcc2,rc3,rcn3,rcc3,_,rfl,hrc,r18⟩:=RD.ex (e:=l[i].recov) (ds:=[]) Yhz
 obtain rfl:=r18.inv0
 clear r1 r2 r3 r4 r5 r6 r7 r8 r9 r10 r11 r12 r13 r14 r15 r16 r17 r18 hk1 hk2
 refine rx ?_
 refine s_var (l:=[zI,zT,zI,zS,zS,zI,zT,zS,zI,zT,zI,zS,zS,zS,zI,zI,zI,zT,zS,zS,zS,zI,zS,zS,zS,zS,zI,zT,zS,zI,zT,zI,zS,zS,zS,zI,zS,zS,zI,zT,zI,zS,zS,zS,zI]) (cs:=[iV l[i].kind,.string l[i].name,iV l[i].at_,.slice ct (l[i].ctors.map ctC).length ctc,.slice pm (l[i].params.map pmC).length pmc,iV l[i].type.kind,.string l[i].type.name,.slice ty (l[i].type.kids.map tyC).length tyc,iV l[i].body.kind,.string l[i].body.name,iV l[i].body.n,.slice bo1 bon1 boc1,.slice bo2 bon2 boc2,.slice bo3 bon3 boc3,iV l[i].body.at_,iV l[i].depth,iV l[i].gen.kind,.string l[i].gen.name,.slice ge1 gen1 gec1,.slice ge2 gen2 gec2,.slice ge3 gen3 gec3,iV l[i].gen.at_,.slice dw (l[i].draws.map dwC).length dwc,.slice ck (l[i].checks.map ckC).length ckc,.slice cs (l[i].classes.map ckC).length csc,.slice cl (l[i].claims.map clC).length clc,iV l[i].state.kind,.string l[i].state.name,.slice st (l[i].state.kids.map tyC).length stc,iV l[i].init.kind,.string l[i].init.name,iV l[i].init.n,.slice it1 itn1 itc1,.slice it2 itn2 itc2,.slice it3 itn3 itc3,iV l[i].init.at_,.slice cm (l[i].cmds.map cmC).length cmc,.slice op (l[i].ops.map opC).length opc,iV l[i].recov.kind,.string l[i].recov.name,iV l[i].recov.n,.slice rc1 rcn1 rcc1,.slice rc2 rcn2 rcc2,.slice rc3 rcn3 rcc3,iV l[i].recov.at_]) rfl rfl rfl (RD.one hr0') rfl (fun v=>rfl) (fun u1 d hde hbd2 hf4 hs4=>?_)
 have hr1:=hr.tr0 hf4
 rw[fdD_drop hlt]at he
 by_cases hk:l[i].kind=k
 case neg=>
  rw[if_neg (fun h=>hk h.1)]at he
  refine rx ?_
  exact Ygk
 by_cases hn:l[i].name=nm
 case neg=>
  rw[if_neg (fun h=>hn h.2)]at he
  refine rx ?_
  exact Ygk
 rw[if_pos ⟨hk,hn⟩]at he
 refine rx ?_
 refine s_c1 (clDeclC l[i] (h6 _ (List.getElem_mem hlt)) _ u1 S (hr0'.tr0 hf4)) ?_
 rintro cs' u2 ⟨hcd,hf5⟩
 have hlen:cs'.length=45:=by rw[hcd.len,deC_len]
 have hr2:=hr1.tr0 hf5
 have hsu:=hfu.size
 refine rx ?_
 refine s_storeAggB (cs:=cs') rfl rfl hr2 (RD.one hcd) rfl hlen (fun u3 hr3 hf6 hs6=>?_)
 refine rx ?_
 refine retc2 rfl rfl hr3 hlen rfl ⟨(((hF.trans0 hf4).trans0 hf5).trans hf6 (fun x hx=>.inr Yhg)),?_⟩
 rw[he]
 exact⟨cs',rfl,(hcd.old hf6 (in_rg Yhd)).down Yhd⟩
def FdR2(w:World)(S:List Nat)(r:Option De)(e:Ending)(w':World):Prop:=Fr [] w w'/\match r with
 |some d=>∃cs,e=.returned (.tuple #[.agg cs.toArray,.bool true])/\RD w' S (deC d) cs
 |none=>e=.returned (.tuple #[.agg de0C.toArray,.bool false])
set_option maxHeartbeats 8000000 in
theorem refDeclC(l:List De)(k:Int)(nm:ByteArray)(v:Value)(w:World)(S:List Nat)(hd:DR w S (.l (l.map deC)) v):
 Calls prog 88 #[.agg ([v]:List Value).toArray,iV k,.string nm] w (FdR2 w S (fdD l k nm)):=by
 have hbd:=hd.bound
 have hl:(l.map deC).length=l.length:=List.length_map ..
 obtain⟨ao,c,rfl,_⟩:=hd.slice
 rw[hl]at hd ⊢
 refine enter func88 rfl ntmps88 rfl ?_
 refine rx ?_
 refine s_boxN (l:=[.slice ao l.length c]) rfl rfl (fun w1 b hbe hb hf1 hs1=>?_)
 refine rx ?_
 refine s_allocN (l:=[zI,zT,zI,zS,zS,zI,zT,zS,zI,zT,zI,zS,zS,zS,zI,zI,zI,zT,zS,zS,zS,zI,zS,zS,zS,zS,zI,zT,zS,zI,zT,zI,zS,zS,zS,zI,zS,zS,zI,zT,zI,zS,zS,zS,zI]) rfl (fun w2 r hre hr hf2 hs2=>?_)
 have hb:=hb.tr0 hf2
 have hF2:Fr [] w w2:=hf1.trans0 hf2
 have hd:=((hd.tr0 hf1).mono (in_cons (a:=r) Yhd)).tr0 hf2
 refine rx ?_
 refine c_loopK 9 [8] (σ:=Nat) (fun i g u=>g 8=iV i/\i<=l.length/\fdD l k nm=fdD (l.drop i) k nm/\u=w2) (fun i=>l.length-i) 0 ⟨rfl,Nat.zero_le _,rfl,rfl⟩ ?_
 rintro i g u ⟨g8,hi,he,rfl⟩
 rw[eq_upd g8]
 by_cases hlt:i<l.length
 case neg=>
  refine Yfg ?_
  refine s_storeAggB (cs:=[zI,zT,zI,zS,zS,zI,zT,zS,zI,zT,zI,zS,zS,zS,zI,zI,zI,zT,zS,zS,zS,zI,zS,zS,zS,zS,zI,zT,zS,zI,zT,zI,zS,zS,zS,zI,zS,zS,zI,zT,zI,zS,zS,zS,zI]) rfl rfl hr Yhk rfl rfl (fun u2 hr2 hf3 hs3=>?_)
  refine rx ?_
  refine retc2 rfl rfl hr2 rfl rfl ⟨hF2.trans hf3 (fun x hx=>.inr Yhg),?_⟩
  rw[he,List.drop_eq_nil_of_le Yhd]
  rfl
 obtain⟨ad,cs0,had,hr0,hc⟩:=DR.at deC_len hd hlt
 subst had
 have hr0':=hr0
 obtain⟨_,rfl,r1⟩:=RD.invC (x:=iV l[i].kind) hr0
 obtain⟨_,rfl,r2⟩:=RD.invC (x:=.string l[i].name) r1
 obtain⟨_,rfl,r3⟩:=RD.invC (x:=iV l[i].at_) r2
 obtain⟨ct,ctc,_,rfl,hct,r4⟩:=RD.lst (rows:=l[i].ctors.map ctC) r3
 obtain⟨pm,pmc,_,rfl,hpm,r5⟩:=RD.lst (rows:=l[i].params.map pmC) r4
 obtain⟨sty,_,rfl,hty,hk1,r6⟩:=RD.ty (t:=l[i].type) r5
 obtain⟨ty,tyc,rfl,_⟩:=hk1.slice
 obtain⟨bo1,bon1,boc1,bo2,bon2,boc2,bo3,bon3,boc3,_,rfl,hbo,r7⟩:=RD.ex (e:=l[i].body) r6
 obtain⟨_,rfl,r8⟩:=RD.invC (x:=iV l[i].depth) r7
 obtain⟨ge1,gen1,gec1,ge2,gen2,gec2,ge3,gen3,gec3,_,rfl,hge,r9⟩:=RD.gn (g:=l[i].gen) r8
 obtain⟨dw,dwc,_,rfl,hdw,r10⟩:=RD.lst (rows:=l[i].draws.map dwC) r9
 obtain⟨ck,ckc,_,rfl,hck,r11⟩:=RD.lst (rows:=l[i].checks.map ckC) r10
 obtain⟨cs,csc,_,rfl,hcs,r12⟩:=RD.lst (rows:=l[i].classes.map ckC) r11
 obtain⟨cl,clc,_,rfl,hcl,r13⟩:=RD.lst (rows:=l[i].claims.map clC) r12
 obtain⟨sst,_,rfl,hstt,hk2,r14⟩:=RD.ty (t:=l[i].state) r13
 obtain⟨st,stc,rfl,_⟩:=hk2.slice
 obtain⟨it1,itn1,itc1,it2,itn2,itc2,it3,itn3,itc3,_,rfl,hit,r15⟩:=RD.ex (e:=l[i].init) r14
 obtain⟨cm,cmc,_,rfl,hcm,r16⟩:=RD.lst (rows:=l[i].cmds.map cmC) r15
 obtain⟨op,opc,_,rfl,hop,r17⟩:=RD.lst (rows:=l[i].ops.map opC) r16
 obtain⟨rc1,rcn1,rcc1,rc2,rcn2,rcc2,rc3,rcn3,rcc3,_,rfl,hrc,r18⟩:=RD.ex (e:=l[i].recov) (ds:=[]) Yhz
 obtain rfl:=r18.inv0
 clear r1 r2 r3 r4 r5 r6 r7 r8 r9 r10 r11 r12 r13 r14 r15 r16 r17 r18 hk1 hk2
 rw[fdD_drop hlt]at he
 by_cases hk:l[i].kind=k
 case neg=>
  rw[if_neg (fun h=>hk h.1)]at he
  refine rx ?_
  exact Ygl
 by_cases hn:l[i].name=nm
 case neg=>
  rw[if_neg (fun h=>hn h.2)]at he
  refine rx ?_
  exact Ygl
 rw[if_pos ⟨hk,hn⟩]at he
 refine rx ?_
 refine s_storeAggB (cs:=[iV l[i].kind,.string l[i].name,iV l[i].at_,.slice ct (l[i].ctors.map ctC).length ctc,.slice pm (l[i].params.map pmC).length pmc,iV l[i].type.kind,.string l[i].type.name,.slice ty (l[i].type.kids.map tyC).length tyc,iV l[i].body.kind,.string l[i].body.name,iV l[i].body.n,.slice bo1 bon1 boc1,.slice bo2 bon2 boc2,.slice bo3 bon3 boc3,iV l[i].body.at_,iV l[i].depth,iV l[i].gen.kind,.string l[i].gen.name,.slice ge1 gen1 gec1,.slice ge2 gen2 gec2,.slice ge3 gen3 gec3,iV l[i].gen.at_,.slice dw (l[i].draws.map dwC).length dwc,.slice ck (l[i].checks.map ckC).length ckc,.slice cs (l[i].classes.map ckC).length csc,.slice cl (l[i].claims.map clC).length clc,iV l[i].state.kind,.string l[i].state.name,.slice st (l[i].state.kids.map tyC).length stc,iV l[i].init.kind,.string l[i].init.name,iV l[i].init.n,.slice it1 itn1 itc1,.slice it2 itn2 itc2,.slice it3 itn3 itc3,iV l[i].init.at_,.slice cm (l[i].cmds.map cmC).length cmc,.slice op (l[i].ops.map opC).length opc,iV l[i].recov.kind,.string l[i].recov.name,iV l[i].recov.n,.slice rc1 rcn1 rcc1,.slice rc2 rcn2 rcc2,.slice rc3 rcn3 rcc3,iV l[i].recov.at_]) rfl rfl hr (RD.one hr0') rfl rfl (fun u3 hr3 hf6 hs6=>?_)
 refine rx ?_
 refine retc2 rfl rfl hr3 rfl rfl ⟨hF2.trans hf6 (fun x hx=>.inr Yhg),?_⟩
 rw[he]
 exact⟨_,rfl,(hr0'.old hf6 (one_in (List.mem_cons_self ..))).mono (fun b hb=>.inl (List.mem_cons_of_mem _ hb))⟩
end Go.Proofs.YtggmccicdhnkgaaGreat
namespace Go.Rf
open Go.RowKit
variable{S T:List Nat}{cs:List Value}{by_ e size:Nat}{α:Type}{xv:Value}{w0:World}
def partsD(d:De):List Ex:=
 if d.kind=1 then[d.body]
 else if d.kind=3 then d.checks.map Ck.expr++d.classes.map Ck.expr
 else if d.kind=4 then d.init::d.cmds.flatMap (fun c=>[c.pre,c.next,c.post])
 else if d.kind=5 then d.init::d.recov::d.ops.flatMap (fun o=>o.acts.flatMap (fun a=>[a.shared,a.loc]))
 else[]
mutual
def nodesE:Ex->List Ex
 |⟨k,nm,n,ns,bs,ks,a⟩=>⟨k,nm,n,ns,bs,ks,a⟩::nodesEs ks
def nodesEs:List Ex->List Ex
 |[]=>[]
 |e::l=>nodesE e++nodesEs l
end
theorem nodesE_eq(e:Ex):nodesE e=e::nodesEs e.kids:=by cases e;rw[nodesE]
theorem nodesEs_eq(l:List Ex):nodesEs l=l.flatMap nodesE:=by
 induction l with
 |nil=>rfl
 |cons e l ih=>rw[nodesEs,ih];rfl
theorem nodesEs_app(a b:List Ex):nodesEs (a++b)=nodesEs a++nodesEs b:=by simp[nodesEs_eq]
structure Br where
 decl:ByteArray
 at_:Int
 arm:Int
 deriving DecidableEq
def brC(b:Br):List Dt:=[ds b.decl,di b.at_,di b.arm]
def brV(b:Br):List Value:=[.string b.decl,iV b.at_,iV b.arm]
theorem brR{w:World}{b:Br}:RD w S (brC b) cs↔cs=brV b:=by
 constructor
 .intro h
  obtain⟨_,rfl,h1⟩:=RD.invC (x:=.string b.decl) h
  obtain⟨_,rfl,h2⟩:=RD.invC (x:=iV b.at_) h1
  obtain⟨_,rfl,h3⟩:=RD.invC (x:=iV b.arm) h2
  obtain rfl:=h3.inv0
  rfl
 .rintro rfl
  exact .cons (.c rfl) (.cons (.c rfl) (.cons (.c rfl) .nil))
def armsE(e:Ex):Nat:=if e.kind=6 then 2 else if e.kind=8 then e.names.length else 0
def brsE(nm:ByteArray)(e:Ex):List Br:=(List.range (armsE e)).map (fun(i:Nat)=>(⟨nm,e.at_,(i:Int)⟩:Br))
def ofD(d:De):List Br:=(nodesEs (partsD d)).flatMap (brsE d.name)
def callsE(l:List Ex):List ByteArray:=(l.filter (fun e=>decide (e.kind=3))).map Ex.name
def cR{α:Type}(w0:World)(S:List Nat)(C:α->List Dt):World->List Nat->α->List Value->Prop:=fun _ _ x cs=>RD w0 S (C x) cs
theorem cStab{C:α->List Dt}{k:Nat}(hk:∀x,(C x).length=k):Stab (cR w0 S C) k where
 tr:=fun h _=>h
 mono:=fun h _=>h
 len:=fun h=>by rw[RD.len h,hk]
 one:=fun h=>RD.one h
def LO{α:Type}(w0:World)(S:List Nat)(u:World)(e k:Nat)(C:α->List Dt)(l:List α)(v:Value):Prop:=OwnR u e k (cR w0 S C) l v/\∀b∈blks v,w0.heap.size<=b
section
variable{α:Type}{w0 u u':World}{S:List Nat}{e k:Nat}{C:α->List Dt}{l:List α}{v:Value}
theorem LO.nil:LO w0 S u e k C [] (zS):=⟨OwnR.nil _ _ _ _,fun b hb=>by simp[blks,Value.ownBlock]at hb⟩
theorem LO.keep(h:LO w0 S u e k C l v)(hf:Fr T u u')(hT:∀b∈T,b<w0.heap.size\/u.heap.size<=b):LO w0 S u' e k C l v:=by
 obtain⟨⟨ys,h1,h2⟩,h3⟩:=h
 refine⟨⟨ys,h1.tr hf (fun b hb hm=>?_),h2⟩,h3⟩
 have:=h1.lt b hb
 have:=h3 b hb
 rcases hT b hm with h|h<;>omega
theorem LO.tr0(h:LO w0 S u e k C l v)(hf:Fr [] u u'):LO w0 S u' e k C l v:=h.keep hf Yhi
theorem LO.slice(h:LO w0 S u e k C l v):∃ao c,v=.slice ao l.length c:=h.1.slice
theorem LO.dr(h:LO w0 S u e k C l v)(hk:∀x,(C x).length=k)(hl:l.length<=1000000000000)(hf:Fr T w0 u)(hT:∀b∈T,b∈S)(hS:∀b∈S,b<w0.heap.size):DR u S (.l (l.map C)) v:=by
 obtain⟨⟨ys,h1,h2⟩,h3⟩:=h
 refine DR.ofTyped hk hl ⟨ys,h1.src,fun ad n c e _ hm=>?_,h2.imp (fun x cs _ hr=>RD.old hr hf (fun b hb=>.inl (hT b hb)))⟩
 have:=h3 ad.block Yid
 have:=hS _ hm
 omega
end
section
variable{P:Program}{ops:Array Oper}{Q:Exit->Act->World->Prop}{rest:List Oper}{n:Nat}{f:Env}{w:World}
variable{d d2:Nat}{ty ty2:TypeId}{ps ps2:String}{af af2:Array Edge}{x s:Operand}{t t2:Nat}
theorem s_pushO{C:α->List Dt}{z:List Value}{l:List α}{v:Value}{a:α}[RZ:RowZ P t e size by_ z]
 (hR:LO w0 S w e size C l v) (hs:∀x,(C x).length=size) (hsv:ev n f s=v) (hx:ev n f x=xv) (hxc:xv.cells=cs.toArray) (ha:RD w0 S (C a) cs) (hd:ev n (upd f d (.slice (some ⟨w.heap.size,0,none⟩) 1 1)) s=v) (hdn:Nat.blt d n=true) (hsz:Nat.ble size 16777216=true)
 (h63:l.length+1<=maxLen) (hb:(l.length+1)*by_<=140737488355328) (hw:w0.heap.size<=w.heap.size)
 (h:∀v' w',LO w0 S w' e size C (l++[a]) v'->(∀T,Fr T w0 w->Fr T w0 w')->wpList P ops Q rest (A n (upd (upd f d (.slice (some ⟨w.heap.size,0,none⟩) 1 1)) d2 v')) w'):
 wpList P ops Q (⟨some d,.buildSlice t 1 #[(0,x)],ty,ps,af,none⟩::⟨some d2,.call {callee:=.builtin .append,args:=#[s,.tmp d],argTypes:=#[t,t]},ty2,ps2,af2,none⟩::rest) (A n f) w:=by
 refine s_pushA hR.1 (cStab hs) hsv hx hxc ha hd hdn hsz h63 hb (fun v' w' ho hf hk=>?_)
 exact Ygm
theorem s_appO{C:α->List Dt}{l al:List α}{v:Value}{m:Nat}[Rr:RowT P t e size by_]
 (hR:LO w0 S w e size C l v) (hs:∀x,(C x).length=size) (hsv:ev n f s=v) (hx:ev n f x=xv) (hm:al.length=m) (hsrc:Src w xv m cs) (ha:Rws (fun x cs=>RD w0 S (C x) cs) al cs) (h63:l.length+m<=maxLen) (hb:(l.length+m)*by_<=140737488355328) (hw:w0.heap.size<=w.heap.size)
 (h:∀v' w',LO w0 S w' e size C (l++al) v'->(∀T,Fr T w0 w->Fr T w0 w')->wpList P ops Q rest (A n (upd f d v')) w'):
 wpList P ops Q (⟨some d,.call {callee:=.builtin .append,args:=#[s,x],argTypes:=#[t,t]},ty,ps,af,none⟩::rest) (A n f) w:=by
 refine s_appR (al:=al) hR.1 (cStab hs) hsv hx hsrc ha hm h63 hb (fun v' w' ho hf hk _=>?_)
 exact Ygm
end
end Go.Rf
