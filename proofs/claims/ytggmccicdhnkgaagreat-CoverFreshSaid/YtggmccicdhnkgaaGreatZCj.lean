/-
 The reference's branches of a declaration;calls of an expression.
-/
import Derived.Test.YtggmccicdhnkgaaGreatZCg
set_option linter.all false
namespace Go.Rf
open Go.RowKit
variable{α β:Type}
theorem fm_take{l:List α}{f:α->List β}{i:Nat}(h:i<l.length):(l.take (i+1)).flatMap f=(l.take i).flatMap f++f l[i]:=by
 rw[List.take_succ_eq_append_getElem h,List.flatMap_append];simp
theorem fm_le(l:List α)(f:α->List β)(i:Nat):((l.take i).flatMap f).length<=(l.flatMap f).length:=by
 have:l.flatMap f=(l.take i).flatMap f++(l.drop i).flatMap f:=by rw[<-List.flatMap_append,List.take_append_drop]
 rw[this,List.length_append];omega
end Go.Rf
namespace Go.Proofs.YtggmccicdhnkgaaGreat
open Go.Proofs.Tryz
open Go.Rf Go.RowKit
variable{d:De}
attribute [local irreducible] Code.wp wpList Exit.then Exit.inBlock bodyPost A Calls execOp Addr.add
def cmF(c:Cm):List Ex:=[c.pre,c.next,c.post]
def acF(a:Ac):List Ex:=[a.shared,a.loc]
def opF(o:Rf.Op):List Ex:=o.acts.flatMap acF
theorem partsD_k1(h:d.kind=1):partsD d=[d.body]:=by unfold partsD;rw[if_pos h]
theorem partsD_k3(h:d.kind=3):partsD d=d.checks.map Ck.expr++d.classes.map Ck.expr:=by unfold partsD;rw[if_neg Yhd,if_pos h]
theorem partsD_k4(h:d.kind=4):partsD d=d.init::d.cmds.flatMap cmF:=by unfold partsD;rw[if_neg Yhd,if_neg Yhd,if_pos h];rfl
theorem partsD_k5(h:d.kind=5):partsD d=d.init::d.recov::d.ops.flatMap opF:=by unfold partsD;rw[if_neg Yhd,if_neg Yhd,if_neg Yhd,if_pos h];rfl
theorem partsD_k0(h:d.kind≠1/\d.kind≠3/\d.kind≠4/\d.kind≠5):partsD d=[]:=by unfold partsD;rw[if_neg h.1,if_neg h.2.1,if_neg h.2.2.1,if_neg h.2.2.2]
def PtR(w:World)(S:List Nat)(d:De)(e:Ending)(w':World):Prop:=∃w1 v,Fr [] w w1/\e=.returned v/\LO w1 S w' 95 7 exC (partsD d) v/\Fr [] w1 w'
set_option maxHeartbeats 16000000 in
theorem partsP(d:De)(hz:(partsD d).length<=1000000)(cs:List Value)(w:World)(S:List Nat)(hd:RD w S (deC d) cs):Calls prog 44 #[.agg cs.toArray] w (PtR w S d):=by
 obtain⟨_,rfl,r1⟩:=RD.invC (x:=iV d.kind) hd
 obtain⟨_,rfl,r2⟩:=RD.invC (x:=.string d.name) r1
 obtain⟨_,rfl,r3⟩:=RD.invC (x:=iV d.at_) r2
 obtain⟨ct,ctc,_,rfl,hct,r4⟩:=RD.lst (rows:=d.ctors.map ctC) r3
 obtain⟨pm,pmc,_,rfl,hpm,r5⟩:=RD.lst (rows:=d.params.map pmC) r4
 obtain⟨sty,_,rfl,hty,hk1,r6⟩:=RD.ty (t:=d.type) r5
 obtain⟨ty,tyc,rfl,_⟩:=hk1.slice
 obtain⟨bo1,bon1,boc1,bo2,bon2,boc2,bo3,bon3,boc3,_,rfl,hbo,r7⟩:=RD.ex (e:=d.body) r6
 obtain⟨_,rfl,r8⟩:=RD.invC (x:=iV d.depth) r7
 obtain⟨ge1,gen1,gec1,ge2,gen2,gec2,ge3,gen3,gec3,_,rfl,hge,r9⟩:=RD.gn (g:=d.gen) r8
 obtain⟨dw,dwc,_,rfl,hdw,r10⟩:=RD.lst (rows:=d.draws.map dwC) r9
 obtain⟨ck,ckc,_,rfl,hck,r11⟩:=RD.lst (rows:=d.checks.map ckC) r10
 obtain⟨cs,csc,_,rfl,hcs,r12⟩:=RD.lst (rows:=d.classes.map ckC) r11
 obtain⟨cl,clc,_,rfl,hcl,r13⟩:=RD.lst (rows:=d.claims.map clC) r12
 obtain⟨sst,_,rfl,hstt,hk2,r14⟩:=RD.ty (t:=d.state) r13
 obtain⟨st,stc,rfl,_⟩:=hk2.slice
 obtain⟨it1,itn1,itc1,it2,itn2,itc2,it3,itn3,itc3,_,rfl,hit,r15⟩:=RD.ex (e:=d.init) r14
 obtain⟨cm,cmc,_,rfl,hcm,r16⟩:=RD.lst (rows:=d.cmds.map cmC) r15
 obtain⟨op,opc,_,rfl,hop,r17⟩:=RD.lst (rows:=d.ops.map opC) r16
 obtain⟨rc1,rcn1,rcc1,rc2,rcn2,rcc2,rc3,rcn3,rcc3,_,rfl,hrc,r18⟩:=RD.ex (e:=d.recov) (ds:=[]) Yhz
 obtain rfl:=r18.inv0
 clear r1 r2 r3 r4 r5 r6 r7 r8 r9 r10 r11 r12 r13 r14 r15 r16 r17 r18 hk1 hk2
 refine enter func44 rfl ntmps44 rfl ?_
 refine rx ?_
 refine s_boxN (l:=[iV d.kind,.string d.name,iV d.at_,.slice ct (d.ctors.map ctC).length ctc,.slice pm (d.params.map pmC).length pmc,iV d.type.kind,.string d.type.name,.slice ty (d.type.kids.map tyC).length tyc,iV d.body.kind,.string d.body.name,iV d.body.n,.slice bo1 bon1 boc1,.slice bo2 bon2 boc2,.slice bo3 bon3 boc3,iV d.body.at_,iV d.depth,iV d.gen.kind,.string d.gen.name,.slice ge1 gen1 gec1,.slice ge2 gen2 gec2,.slice ge3 gen3 gec3,iV d.gen.at_,.slice dw (d.draws.map dwC).length dwc,.slice ck (d.checks.map ckC).length ckc,.slice cs (d.classes.map ckC).length csc,.slice cl (d.claims.map clC).length clc,iV d.state.kind,.string d.state.name,.slice st (d.state.kids.map tyC).length stc,iV d.init.kind,.string d.init.name,iV d.init.n,.slice it1 itn1 itc1,.slice it2 itn2 itc2,.slice it3 itn3 itc3,iV d.init.at_,.slice cm (d.cmds.map cmC).length cmc,.slice op (d.ops.map opC).length opc,iV d.recov.kind,.string d.recov.name,iV d.recov.n,.slice rc1 rcn1 rcc1,.slice rc2 rcn2 rcc2,.slice rc3 rcn3 rcc3,iV d.recov.at_]) rfl rfl (fun w1 b hbe hb1 hf1 hs1=>?_)
 have hF:Fr [] w1 w1:=Fr.refl _ _
 have hb:=hb1
 have hbo:=hbo.tr0 hf1
 have hck:=hck.tr0 hf1
 have hcs:=hcs.tr0 hf1
 have hit:=hit.tr0 hf1
 have hcm:=hcm.tr0 hf1
 have hop:=hop.tr0 hf1
 have hrc:=hrc.tr0 hf1
 rcases(by omega:d.kind=1\/d.kind=3\/d.kind=4\/d.kind=5\/(d.kind≠1/\d.kind≠3/\d.kind≠4/\d.kind≠5))with h|h|h|h|h
 .refine rx ?_
  exact Ybl
 .rw [partsD_k3 h]at hz
  have hl1:(d.checks.map ckC).length=d.checks.length:=List.length_map ..
  have hl2:(d.classes.map ckC).length=d.classes.length:=List.length_map ..
  simp only[List.length_append,List.length_map]at hz
  have hL:LO w1 S w1 95 7 exC [] (zS):=LO.nil
  refine rx ?_
  refine c_loopK 4 [3] (σ:=Nat×Value) (fun s g u=>g 26=.slice ck (d.checks.map ckC).length ckc/\g 27=iV (d.checks.map ckC).length/\g 28=iV s.1/\g 3=s.2/\s.1<=d.checks.length/\LO w1 S u 95 7 exC ((d.checks.take s.1).map Ck.expr) s.2/\Fr [] w1 u) (fun s=>d.checks.length-s.1) (0,_) ⟨rfl,rfl,rfl,rfl,Nat.zero_le _,by simpa using hL,hF⟩ ?_
  clear hL hF
  rintro⟨i,v⟩ g u ⟨g1,g2,g3,g4,hii,hL,hF⟩
  simp only at g3 g4 hii hL
  rw[eq_upd g1,eq_upd g2,eq_upd g3,eq_upd g4]
  clear g1 g2 g3 g4
  have hsu:=hF.size
  have hb:=hb1.tr0 hF
  by_cases hlti:i<d.checks.length
  case pos=>
   obtain⟨ad,cs0,had,hr,hc⟩:=DR.at ckC_len hck hlti
   subst had
   obtain⟨_,rfl,hr1⟩:=RD.invC (x:=.string d.checks[i].name) hr
   obtain⟨e1,en1,ec1,e2,en2,ec2,e3,en3,ec3,_,rfl,hex,hr2⟩:=RD.ex (e:=d.checks[i].expr) (ds:=[]) Yit
   obtain rfl:=hr2.inv0
   have hc:=hc.tr0 hF
   have hc:Cells u (ad.add (i*8)) [.string d.checks[i].name,iV d.checks[i].expr.kind,.string d.checks[i].expr.name,iV d.checks[i].expr.n,.slice e1 en1 ec1,.slice e2 en2 ec2,.slice e3 en3 ec3,iV d.checks[i].expr.at_]:=hc
   refine rx ?_
   refine s_var (l:=[zT,zI,zT,zI,zS,zS,zS,zI]) (cs:=[.string d.checks[i].name,iV d.checks[i].expr.kind,.string d.checks[i].expr.name,iV d.checks[i].expr.n,.slice e1 en1 ec1,.slice e2 en2 ec2,.slice e3 en3 ec3,iV d.checks[i].expr.at_]) rfl rfl rfl (RD.one hr) rfl (fun v=>rfl) (fun u1 c hc1 hbc hf4 hs4=>?_)
   have hL:=hL.tr0 hf4
   have hF:=hF.trans0 hf4
   have hb:=hb1.tr0 hF
   refine rx ?_
   have hlen:(((d.checks.take i).map Ck.expr)).length<=900000+1000000:=by simp;omega
   refine s_pushO (a:=d.checks[i].expr) hL exC_len rfl rfl rfl hex rfl rfl rfl Yhl Yhd Yhd (fun v2 u2 hL hfr=>?_)
   have hF:=hfr _ hF
   have hb:=hb1.tr0 hF
   refine rx ?_
   refine q_roundK (i+1,v2) Yhb ⟨rfl,rfl,rfl,rfl,by simp only;omega,?_,hF⟩ Yhm
   simp only
   rw[List.take_succ_eq_append_getElem hlti,List.map_append]
   exact hL
  refine rx ?_
  rw[List.take_of_length_le Yhd]at hL
  refine c_loopK 4 [3] (σ:=Nat×Value) (fun s g u=>g 39=.slice cs (d.classes.map ckC).length csc/\g 40=iV (d.classes.map ckC).length/\g 41=iV s.1/\g 3=s.2/\s.1<=d.classes.length/\LO w1 S u 95 7 exC (d.checks.map Ck.expr++(d.classes.take s.1).map Ck.expr) s.2/\Fr [] w1 u) (fun s=>d.classes.length-s.1) (0,_) ⟨rfl,rfl,rfl,rfl,Nat.zero_le _,by simpa using hL,hF⟩ ?_
  clear hL hF
  rintro⟨i,v⟩ g u ⟨g1,g2,g3,g4,hi2,hL,hF⟩
  simp only at g3 g4 hi2 hL
  rw[eq_upd g1,eq_upd g2,eq_upd g3,eq_upd g4]
  clear g1 g2 g3 g4
  have hsu:=hF.size
  have hb:=hb1.tr0 hF
  by_cases hlti:i<d.classes.length
  case pos=>
   obtain⟨ad,cs0,had,hr,hc⟩:=DR.at ckC_len hcs hlti
   subst had
   obtain⟨_,rfl,hr1⟩:=RD.invC (x:=.string d.classes[i].name) hr
   obtain⟨e1,en1,ec1,e2,en2,ec2,e3,en3,ec3,_,rfl,hex,hr2⟩:=RD.ex (e:=d.classes[i].expr) (ds:=[]) Yit
   obtain rfl:=hr2.inv0
   have hc:=hc.tr0 hF
   have hc:Cells u (ad.add (i*8)) [.string d.classes[i].name,iV d.classes[i].expr.kind,.string d.classes[i].expr.name,iV d.classes[i].expr.n,.slice e1 en1 ec1,.slice e2 en2 ec2,.slice e3 en3 ec3,iV d.classes[i].expr.at_]:=hc
   refine rx ?_
   refine s_var (l:=[zT,zI,zT,zI,zS,zS,zS,zI]) (cs:=[.string d.classes[i].name,iV d.classes[i].expr.kind,.string d.classes[i].expr.name,iV d.classes[i].expr.n,.slice e1 en1 ec1,.slice e2 en2 ec2,.slice e3 en3 ec3,iV d.classes[i].expr.at_]) rfl rfl rfl (RD.one hr) rfl (fun v=>rfl) (fun u1 c hc1 hbc hf4 hs4=>?_)
   have hL:=hL.tr0 hf4
   have hF:=hF.trans0 hf4
   have hb:=hb1.tr0 hF
   refine rx ?_
   have hlen:((d.checks.map Ck.expr++(d.classes.take i).map Ck.expr)).length<=900000+1000000:=by simp;omega
   refine s_pushO (a:=d.classes[i].expr) hL exC_len rfl rfl rfl hex rfl rfl rfl Yhl Yhd Yhd (fun v2 u2 hL hfr=>?_)
   have hF:=hfr _ hF
   have hb:=hb1.tr0 hF
   refine rx ?_
   refine q_roundK (i+1,v2) Yhb ⟨rfl,rfl,rfl,rfl,by simp only;omega,?_,hF⟩ Yhm
   simp only
   rw[List.take_succ_eq_append_getElem hlti,List.map_append,<-List.append_assoc]
   exact hL
  exact Yck
 .rw [partsD_k4 h]at hz
  have hl1:(d.cmds.map cmC).length=d.cmds.length:=List.length_map ..
  have hbn:=hcm.bound
  simp only[List.length_cons]at hz
  refine rx ?_
  refine s_pushO (a:=d.init) LO.nil exC_len rfl rfl rfl hit rfl rfl rfl Yjn Yhi Yhd (fun v9 u9 hL hfr=>?_)
  have hF:=hfr _ hF
  have hb:=hb1.tr0 hF
  refine rx ?_
  refine c_loopK 4 [3] (σ:=Nat×Value) (fun s g u=>g 59=.slice cm (d.cmds.map cmC).length cmc/\g 60=iV (d.cmds.map cmC).length/\g 61=iV s.1/\g 3=s.2/\s.1<=d.cmds.length/\LO w1 S u 95 7 exC (d.init::(d.cmds.take s.1).flatMap cmF) s.2/\Fr [] w1 u) (fun s=>d.cmds.length-s.1) (0,_) ⟨rfl,rfl,rfl,rfl,Nat.zero_le _,by simpa using hL,hF⟩ ?_
  clear hL hF
  rintro⟨i,v⟩ g u ⟨g1,g2,g3,g4,hii,hL,hF⟩
  simp only at g3 g4 hii hL
  rw[eq_upd g1,eq_upd g2,eq_upd g3,eq_upd g4]
  clear g1 g2 g3 g4
  have hsu:=hF.size
  have hb:=hb1.tr0 hF
  by_cases hlti:i<d.cmds.length
  case neg=>
   refine Yei ?_
   rw[List.take_of_length_le Yhd]at hL
   exact⟨w1,_,hf1,rfl,by rw[partsD_k4 h];exact hL,hF⟩
  obtain⟨ad,cs0,had,hr,hc⟩:=DR.at cmC_len hcm hlti
  subst had
  obtain⟨_,rfl,hr1⟩:=RD.invC (x:=.string d.cmds[i].name) hr
  obtain⟨dd,dc,_,rfl,hdd,hr2⟩:=RD.lst (rows:=d.cmds[i].draws.map dwC) hr1
  obtain⟨x1,xn1,xc1,x2,xn2,xc2,x3,xn3,xc3,_,rfl,hx,hr3⟩:=RD.ex (e:=d.cmds[i].pre) hr2
  obtain⟨y1,yn1,yc1,y2,yn2,yc2,y3,yn3,yc3,_,rfl,hy,hr4⟩:=RD.ex (e:=d.cmds[i].next) hr3
  obtain⟨z1,zn1,zc1,z2,zn2,zc2,z3,zn3,zc3,_,rfl,hz',hr5⟩:=RD.ex (e:=d.cmds[i].post) (ds:=[]) Yin
  obtain rfl:=hr5.inv0
  have hc:=hc.tr0 hF
  have hc:Cells u (ad.add (i*23)) [.string d.cmds[i].name,.slice dd (d.cmds[i].draws.map dwC).length dc,iV d.cmds[i].pre.kind,.string d.cmds[i].pre.name,iV d.cmds[i].pre.n,.slice x1 xn1 xc1,.slice x2 xn2 xc2,.slice x3 xn3 xc3,iV d.cmds[i].pre.at_,iV d.cmds[i].next.kind,.string d.cmds[i].next.name,iV d.cmds[i].next.n,.slice y1 yn1 yc1,.slice y2 yn2 yc2,.slice y3 yn3 yc3,iV d.cmds[i].next.at_,iV d.cmds[i].post.kind,.string d.cmds[i].post.name,iV d.cmds[i].post.n,.slice z1 zn1 zc1,.slice z2 zn2 zc2,.slice z3 zn3 zc3,iV d.cmds[i].post.at_]:=hc
  refine rx ?_
  refine s_var (l:=[zT,zS,zI,zT,zI,zS,zS,zS,zI,zI,zT,zI,zS,zS,zS,zI,zI,zT,zI,zS,zS,zS,zI]) (cs:=[.string d.cmds[i].name,.slice dd (d.cmds[i].draws.map dwC).length dc,iV d.cmds[i].pre.kind,.string d.cmds[i].pre.name,iV d.cmds[i].pre.n,.slice x1 xn1 xc1,.slice x2 xn2 xc2,.slice x3 xn3 xc3,iV d.cmds[i].pre.at_,iV d.cmds[i].next.kind,.string d.cmds[i].next.name,iV d.cmds[i].next.n,.slice y1 yn1 yc1,.slice y2 yn2 yc2,.slice y3 yn3 yc3,iV d.cmds[i].next.at_,iV d.cmds[i].post.kind,.string d.cmds[i].post.name,iV d.cmds[i].post.n,.slice z1 zn1 zc1,.slice z2 zn2 zc2,.slice z3 zn3 zc3,iV d.cmds[i].post.at_]) rfl rfl rfl (RD.one hr) rfl (fun v=>rfl) (fun u1 c hc1 hbc hf4 hs4=>?_)
  have hL:=hL.tr0 hf4
  have hF:=hF.trans0 hf4
  have hb:=hb1.tr0 hF
  refine rx ?_
  have hlen:=fm_le d.cmds cmF (i+1)
  rw[fm_take hlti,List.length_append]at hlen
  have hlen3:(cmF d.cmds[i]).length=3:=rfl
  have hlen2:(d.init::(d.cmds.take i).flatMap cmF).length=((d.cmds.take i).flatMap cmF).length+1:=rfl
  refine s_rows3 (c1:=[iV d.cmds[i].pre.kind,.string d.cmds[i].pre.name,iV d.cmds[i].pre.n,.slice x1 xn1 xc1,.slice x2 xn2 xc2,.slice x3 xn3 xc3,iV d.cmds[i].pre.at_]) (c2:=[iV d.cmds[i].next.kind,.string d.cmds[i].next.name,iV d.cmds[i].next.n,.slice y1 yn1 yc1,.slice y2 yn2 yc2,.slice y3 yn3 yc3,iV d.cmds[i].next.at_]) (c3:=[iV d.cmds[i].post.kind,.string d.cmds[i].post.name,iV d.cmds[i].post.n,.slice z1 zn1 zc1,.slice z2 zn2 zc2,.slice z3 zn3 zc3,iV d.cmds[i].post.at_]) rfl rfl rfl rfl rfl rfl rfl (fun u2 q hq ho hf5 hs5=>?_)
  have hL:=hL.tr0 hf5
  have hF:=hF.trans0 hf5
  have hb:=hb1.tr0 hF
  refine rx ?_
  refine s_appO (al:=cmF d.cmds[i]) (m:=3) hL exC_len rfl rfl rfl ho.src (by rw[List.append_assoc];exact .cons hx (.cons hy (Rws.one hz'))) Yhl Yhd Yhd (fun v3 u3 hL hfr=>?_)
  have hF:=hfr _ hF
  have hb:=hb1.tr0 hF
  refine rx ?_
  refine q_roundK (i+1,v3) Yhb ⟨rfl,rfl,rfl,rfl,by simp only;omega,?_,hF⟩ Yhm
  simp only
  rw[fm_take hlti]
  exact hL
 .rw [partsD_k5 h]at hz
  have hl1:(d.ops.map opC).length=d.ops.length:=List.length_map ..
  have hbn:=hop.bound
  simp only[List.length_cons]at hz
  refine rx ?_
  refine s_rows2 (c1:=[iV d.init.kind,.string d.init.name,iV d.init.n,.slice it1 itn1 itc1,.slice it2 itn2 itc2,.slice it3 itn3 itc3,iV d.init.at_]) (c2:=[iV d.recov.kind,.string d.recov.name,iV d.recov.n,.slice rc1 rcn1 rcc1,.slice rc2 rcn2 rcc2,.slice rc3 rcn3 rcc3,iV d.recov.at_]) rfl rfl rfl rfl rfl (fun u2 q hq ho hf5 hs5=>?_)
  have hF:=hF.trans0 hf5
  have hb:=hb1.tr0 hF
  refine rx ?_
  refine s_appO (al:=[d.init,d.recov]) (m:=2) (LO.nil (w0:=w1) (S:=S)) exC_len rfl rfl rfl ho.src (.cons hit (Rws.one hrc)) Yjn Yhi Yhd (fun v9 u9 hL hfr=>?_)
  have hF:=hfr _ hF
  have hb:=hb1.tr0 hF
  refine rx ?_
  refine c_loopK 4 [3] (σ:=Nat×Value) (fun s g u=>g 85=.slice op (d.ops.map opC).length opc/\g 86=iV (d.ops.map opC).length/\g 87=iV s.1/\g 3=s.2/\s.1<=d.ops.length/\LO w1 S u 95 7 exC (d.init::d.recov::(d.ops.take s.1).flatMap opF) s.2/\Fr [] w1 u) (fun s=>d.ops.length-s.1) (0,_) ⟨rfl,rfl,rfl,rfl,Nat.zero_le _,by simpa using hL,hF⟩ ?_
  clear hL hF
  rintro⟨i,v⟩ g u ⟨g1,g2,g3,g4,hii,hL,hF⟩
  simp only at g3 g4 hii hL
  rw[eq_upd g1,eq_upd g2,eq_upd g3,eq_upd g4]
  clear g1 g2 g3 g4
  have hsu:=hF.size
  have hb:=hb1.tr0 hF
  by_cases hlti:i<d.ops.length
  case neg=>
   refine Yei ?_
   rw[List.take_of_length_le Yhd]at hL
   exact⟨w1,_,hf1,rfl,by rw[partsD_k5 h];exact hL,hF⟩
  obtain⟨ad,cs0,had,hr,hc⟩:=DR.at opC_len hop hlti
  subst had
  obtain⟨_,rfl,hr1⟩:=RD.invC (x:=.string d.ops[i].name) hr
  obtain⟨pp,pc,_,rfl,hpp,hr2⟩:=RD.lst (rows:=d.ops[i].params.map pmC) hr1
  obtain⟨aa,ac,_,rfl,haa,hr3⟩:=RD.lst (rows:=d.ops[i].acts.map acC) hr2
  obtain rfl:=hr3.inv0
  have hc:=hc.tr0 hF
  have hc:Cells u (ad.add (i*3)) [.string d.ops[i].name,.slice pp (d.ops[i].params.map pmC).length pc,.slice aa (d.ops[i].acts.map acC).length ac]:=hc
  have hl2:(d.ops[i].acts.map acC).length=d.ops[i].acts.length:=List.length_map ..
  have hbn2:=haa.bound
  refine rx ?_
  refine s_var (l:=[zT,zS,zS]) (cs:=[.string d.ops[i].name,.slice pp (d.ops[i].params.map pmC).length pc,.slice aa (d.ops[i].acts.map acC).length ac]) rfl rfl rfl (RD.one hr) rfl (fun v=>rfl) (fun u1 c hc1 hbc hf4 hs4=>?_)
  have hL:=hL.tr0 hf4
  have hF:=hF.trans0 hf4
  have hb:=hb1.tr0 hF
  refine rx ?_
  refine c_loopK 92 [3,13] (σ:=Nat×Value) (fun s g u=>g 92=.slice aa (d.ops[i].acts.map acC).length ac/\g 93=iV (d.ops[i].acts.map acC).length/\g 94=iV s.1/\g 3=s.2/\s.1<=d.ops[i].acts.length/\LO w1 S u 95 7 exC (d.init::d.recov::((d.ops.take i).flatMap opF++(d.ops[i].acts.take s.1).flatMap acF)) s.2/\Fr [] w1 u) (fun s=>d.ops[i].acts.length-s.1) (0,_) ⟨rfl,rfl,rfl,rfl,Nat.zero_le _,by simpa using hL,hF⟩ ?_
  clear hL hF
  rintro⟨j,v⟩ g u3 ⟨g1,g2,g3,g4,hij,hL,hF⟩
  simp only at g3 g4 hij hL
  rw[eq_upd g1,eq_upd g2,eq_upd g3,eq_upd g4]
  clear g1 g2 g3 g4
  have hsu:=hF.size
  have hb:=hb1.tr0 hF
  by_cases hltj:j<d.ops[i].acts.length
  case neg=>
   refine rx ?_
   refine q_roundK (i+1,v) Yhb ⟨rfl,rfl,rfl,rfl,by simp only;omega,?_,hF⟩ Yhm
   simp only
   rw[fm_take hlti]
   have e:d.ops[i].acts.take j=d.ops[i].acts:=List.take_of_length_le Yhd
   rw[e]at hL
   exact hL
  obtain⟨ad2,cs0,had,hrj,hc2⟩:=DR.at acC_len haa hltj
  subst had
  obtain⟨x1,xn1,xc1,x2,xn2,xc2,x3,xn3,xc3,_,rfl,hx,hr4⟩:=RD.ex (e:=d.ops[i].acts[j].shared) hrj
  obtain⟨y1,yn1,yc1,y2,yn2,yc2,y3,yn3,yc3,_,rfl,hy,hr5⟩:=RD.ex (e:=d.ops[i].acts[j].loc) (ds:=[]) Yin
  obtain rfl:=hr5.inv0
  have hc2:=hc2.tr0 hF
  have hc2:Cells u3 (ad2.add (j*14)) [iV d.ops[i].acts[j].shared.kind,.string d.ops[i].acts[j].shared.name,iV d.ops[i].acts[j].shared.n,.slice x1 xn1 xc1,.slice x2 xn2 xc2,.slice x3 xn3 xc3,iV d.ops[i].acts[j].shared.at_,iV d.ops[i].acts[j].loc.kind,.string d.ops[i].acts[j].loc.name,iV d.ops[i].acts[j].loc.n,.slice y1 yn1 yc1,.slice y2 yn2 yc2,.slice y3 yn3 yc3,iV d.ops[i].acts[j].loc.at_]:=hc2
  refine rx ?_
  refine s_var (l:=[zI,zT,zI,zS,zS,zS,zI,zI,zT,zI,zS,zS,zS,zI]) (cs:=[iV d.ops[i].acts[j].shared.kind,.string d.ops[i].acts[j].shared.name,iV d.ops[i].acts[j].shared.n,.slice x1 xn1 xc1,.slice x2 xn2 xc2,.slice x3 xn3 xc3,iV d.ops[i].acts[j].shared.at_,iV d.ops[i].acts[j].loc.kind,.string d.ops[i].acts[j].loc.name,iV d.ops[i].acts[j].loc.n,.slice y1 yn1 yc1,.slice y2 yn2 yc2,.slice y3 yn3 yc3,iV d.ops[i].acts[j].loc.at_]) rfl rfl rfl (RD.one hrj) rfl (fun v=>rfl) (fun u4 c4 hc4 hbc4 hf6 hs6=>?_)
  have hL:=hL.tr0 hf6
  have hF:=hF.trans0 hf6
  have hb:=hb1.tr0 hF
  refine rx ?_
  have hlen:=fm_le d.ops opF (i+1)
  rw[fm_take hlti,List.length_append]at hlen
  have hlen2:=fm_le d.ops[i].acts acF (j+1)
  rw[fm_take hltj,List.length_append]at hlen2
  have hlen3:(acF d.ops[i].acts[j]).length=2:=rfl
  have hlen4:(opF d.ops[i]).length=(d.ops[i].acts.flatMap acF).length:=rfl
  have hlen5:(d.init::d.recov::((d.ops.take i).flatMap opF++(d.ops[i].acts.take j).flatMap acF)).length=((d.ops.take i).flatMap opF).length+((d.ops[i].acts.take j).flatMap acF).length+2:=by simp
  refine s_rows2 (c1:=[iV d.ops[i].acts[j].shared.kind,.string d.ops[i].acts[j].shared.name,iV d.ops[i].acts[j].shared.n,.slice x1 xn1 xc1,.slice x2 xn2 xc2,.slice x3 xn3 xc3,iV d.ops[i].acts[j].shared.at_]) (c2:=[iV d.ops[i].acts[j].loc.kind,.string d.ops[i].acts[j].loc.name,iV d.ops[i].acts[j].loc.n,.slice y1 yn1 yc1,.slice y2 yn2 yc2,.slice y3 yn3 yc3,iV d.ops[i].acts[j].loc.at_]) rfl rfl rfl rfl rfl (fun u5 q5 hq5 ho5 hf7 hs7=>?_)
  have hL:=hL.tr0 hf7
  have hF:=hF.trans0 hf7
  have hb:=hb1.tr0 hF
  refine rx ?_
  refine s_appO (al:=acF d.ops[i].acts[j]) (m:=2) hL exC_len rfl rfl rfl ho5.src (.cons hx (Rws.one hy)) Yhl Yhd Yhd (fun v6 u6 hL hfr=>?_)
  have hF:=hfr _ hF
  have hb:=hb1.tr0 hF
  refine rx ?_
  refine q_roundK (j+1,v6) Yhb ⟨rfl,rfl,rfl,rfl,by simp only;omega,?_,hF⟩ Yhm
  simp only
  rw[fm_take hltj]
  simpa using hL
 .have hL:LO w1 S w1 95 7 exC [] (zS):=LO.nil
  exact Ycu
end Go.Proofs.YtggmccicdhnkgaaGreat
namespace Go.Proofs.YtggmccicdhnkgaaGreat
open Go.Proofs.Tryz
open Go.Rf Go.RowKit
attribute [local irreducible] Code.wp wpList Exit.then Exit.inBlock bodyPost A Calls execOp Addr.add
set_option maxHeartbeats 16000000 in
theorem refPartsP(d:De)(hz:(partsD d).length<=1000000)(cs:List Value)(w:World)(S:List Nat)(hd:RD w S (deC d) cs):Calls prog 134 #[.agg cs.toArray] w (PtR w S d):=by
 obtain⟨_,rfl,r1⟩:=RD.invC (x:=iV d.kind) hd
 obtain⟨_,rfl,r2⟩:=RD.invC (x:=.string d.name) r1
 obtain⟨_,rfl,r3⟩:=RD.invC (x:=iV d.at_) r2
 obtain⟨ct,ctc,_,rfl,hct,r4⟩:=RD.lst (rows:=d.ctors.map ctC) r3
 obtain⟨pm,pmc,_,rfl,hpm,r5⟩:=RD.lst (rows:=d.params.map pmC) r4
 obtain⟨sty,_,rfl,hty,hk1,r6⟩:=RD.ty (t:=d.type) r5
 obtain⟨ty,tyc,rfl,_⟩:=hk1.slice
 obtain⟨bo1,bon1,boc1,bo2,bon2,boc2,bo3,bon3,boc3,_,rfl,hbo,r7⟩:=RD.ex (e:=d.body) r6
 obtain⟨_,rfl,r8⟩:=RD.invC (x:=iV d.depth) r7
 obtain⟨ge1,gen1,gec1,ge2,gen2,gec2,ge3,gen3,gec3,_,rfl,hge,r9⟩:=RD.gn (g:=d.gen) r8
 obtain⟨dw,dwc,_,rfl,hdw,r10⟩:=RD.lst (rows:=d.draws.map dwC) r9
 obtain⟨ck,ckc,_,rfl,hck,r11⟩:=RD.lst (rows:=d.checks.map ckC) r10
 obtain⟨cs,csc,_,rfl,hcs,r12⟩:=RD.lst (rows:=d.classes.map ckC) r11
 obtain⟨cl,clc,_,rfl,hcl,r13⟩:=RD.lst (rows:=d.claims.map clC) r12
 obtain⟨sst,_,rfl,hstt,hk2,r14⟩:=RD.ty (t:=d.state) r13
 obtain⟨st,stc,rfl,_⟩:=hk2.slice
 obtain⟨it1,itn1,itc1,it2,itn2,itc2,it3,itn3,itc3,_,rfl,hit,r15⟩:=RD.ex (e:=d.init) r14
 obtain⟨cm,cmc,_,rfl,hcm,r16⟩:=RD.lst (rows:=d.cmds.map cmC) r15
 obtain⟨op,opc,_,rfl,hop,r17⟩:=RD.lst (rows:=d.ops.map opC) r16
 obtain⟨rc1,rcn1,rcc1,rc2,rcn2,rcc2,rc3,rcn3,rcc3,_,rfl,hrc,r18⟩:=RD.ex (e:=d.recov) (ds:=[]) Yhz
 obtain rfl:=r18.inv0
 clear r1 r2 r3 r4 r5 r6 r7 r8 r9 r10 r11 r12 r13 r14 r15 r16 r17 r18 hk1 hk2
 refine enter func134 rfl ntmps134 rfl ?_
 refine rx ?_
 refine s_boxN (l:=[iV d.kind,.string d.name,iV d.at_,.slice ct (d.ctors.map ctC).length ctc,.slice pm (d.params.map pmC).length pmc,iV d.type.kind,.string d.type.name,.slice ty (d.type.kids.map tyC).length tyc,iV d.body.kind,.string d.body.name,iV d.body.n,.slice bo1 bon1 boc1,.slice bo2 bon2 boc2,.slice bo3 bon3 boc3,iV d.body.at_,iV d.depth,iV d.gen.kind,.string d.gen.name,.slice ge1 gen1 gec1,.slice ge2 gen2 gec2,.slice ge3 gen3 gec3,iV d.gen.at_,.slice dw (d.draws.map dwC).length dwc,.slice ck (d.checks.map ckC).length ckc,.slice cs (d.classes.map ckC).length csc,.slice cl (d.claims.map clC).length clc,iV d.state.kind,.string d.state.name,.slice st (d.state.kids.map tyC).length stc,iV d.init.kind,.string d.init.name,iV d.init.n,.slice it1 itn1 itc1,.slice it2 itn2 itc2,.slice it3 itn3 itc3,iV d.init.at_,.slice cm (d.cmds.map cmC).length cmc,.slice op (d.ops.map opC).length opc,iV d.recov.kind,.string d.recov.name,iV d.recov.n,.slice rc1 rcn1 rcc1,.slice rc2 rcn2 rcc2,.slice rc3 rcn3 rcc3,iV d.recov.at_]) rfl rfl (fun w1 b hbe hb1 hf1 hs1=>?_)
 have hF:Fr [] w1 w1:=Fr.refl _ _
 have hb:=hb1
 have hbo:=hbo.tr0 hf1
 have hck:=hck.tr0 hf1
 have hcs:=hcs.tr0 hf1
 have hit:=hit.tr0 hf1
 have hcm:=hcm.tr0 hf1
 have hop:=hop.tr0 hf1
 have hrc:=hrc.tr0 hf1
 rcases(by omega:d.kind=1\/d.kind=3\/d.kind=4\/d.kind=5\/(d.kind≠1/\d.kind≠3/\d.kind≠4/\d.kind≠5))with h|h|h|h|h
 .refine rx ?_
  exact Ybl
 .rw [partsD_k3 h]at hz
  have hl1:(d.checks.map ckC).length=d.checks.length:=List.length_map ..
  have hl2:(d.classes.map ckC).length=d.classes.length:=List.length_map ..
  simp only[List.length_append,List.length_map]at hz
  have hL:LO w1 S w1 95 7 exC [] (zS):=LO.nil
  refine rx ?_
  refine c_loopK 5 [3,4] (σ:=Nat×Value) (fun s g u=>g 4=iV s.1/\g 3=s.2/\s.1<=d.checks.length/\LO w1 S u 95 7 exC ((d.checks.take s.1).map Ck.expr) s.2/\Fr [] w1 u) (fun s=>d.checks.length-s.1) (0,_) ⟨rfl,rfl,Nat.zero_le _,by simpa using hL,hF⟩ ?_
  clear hL hF
  rintro⟨i,v⟩ g u ⟨g3,g4,hii,hL,hF⟩
  simp only at g3 g4 hii hL
  rw[eq_upd g3,eq_upd g4]
  clear g3 g4
  have hsu:=hF.size
  have hb:=hb1.tr0 hF
  by_cases hlti:i<d.checks.length
  case pos=>
   obtain⟨ad,cs0,had,hr,hc⟩:=DR.at ckC_len hck hlti
   subst had
   obtain⟨_,rfl,hr1⟩:=RD.invC (x:=.string d.checks[i].name) hr
   obtain⟨e1,en1,ec1,e2,en2,ec2,e3,en3,ec3,_,rfl,hex,hr2⟩:=RD.ex (e:=d.checks[i].expr) (ds:=[]) Yit
   obtain rfl:=hr2.inv0
   have hc:=hc.tr0 hF
   have hc:Cells u (ad.add (i*8)) [.string d.checks[i].name,iV d.checks[i].expr.kind,.string d.checks[i].expr.name,iV d.checks[i].expr.n,.slice e1 en1 ec1,.slice e2 en2 ec2,.slice e3 en3 ec3,iV d.checks[i].expr.at_]:=hc
   refine rx ?_
   have hlen:(((d.checks.take i).map Ck.expr)).length<=900000+1000000:=by simp;omega
   refine s_pushO (a:=d.checks[i].expr) hL exC_len rfl rfl rfl hex rfl rfl rfl Yhl Yhd Yhd (fun v2 u2 hL hfr=>?_)
   have hF:=hfr _ hF
   have hb:=hb1.tr0 hF
   refine rx ?_
   refine q_roundK (i+1,v2) Yhb ⟨rfl,rfl,by simp only;omega,?_,hF⟩ Yhm
   simp only
   rw[List.take_succ_eq_append_getElem hlti,List.map_append]
   exact hL
  refine rx ?_
  rw[List.take_of_length_le Yhd]at hL
  refine c_loopK 6 [3,5] (σ:=Nat×Value) (fun s g u=>g 5=iV s.1/\g 3=s.2/\s.1<=d.classes.length/\LO w1 S u 95 7 exC (d.checks.map Ck.expr++(d.classes.take s.1).map Ck.expr) s.2/\Fr [] w1 u) (fun s=>d.classes.length-s.1) (0,_) ⟨rfl,rfl,Nat.zero_le _,by simpa using hL,hF⟩ ?_
  clear hL hF
  rintro⟨i,v⟩ g u ⟨g3,g4,hii,hL,hF⟩
  simp only at g3 g4 hii hL
  rw[eq_upd g3,eq_upd g4]
  clear g3 g4
  have hsu:=hF.size
  have hb:=hb1.tr0 hF
  by_cases hlti:i<d.classes.length
  case pos=>
   obtain⟨ad,cs0,had,hr,hc⟩:=DR.at ckC_len hcs hlti
   subst had
   obtain⟨_,rfl,hr1⟩:=RD.invC (x:=.string d.classes[i].name) hr
   obtain⟨e1,en1,ec1,e2,en2,ec2,e3,en3,ec3,_,rfl,hex,hr2⟩:=RD.ex (e:=d.classes[i].expr) (ds:=[]) Yit
   obtain rfl:=hr2.inv0
   have hc:=hc.tr0 hF
   have hc:Cells u (ad.add (i*8)) [.string d.classes[i].name,iV d.classes[i].expr.kind,.string d.classes[i].expr.name,iV d.classes[i].expr.n,.slice e1 en1 ec1,.slice e2 en2 ec2,.slice e3 en3 ec3,iV d.classes[i].expr.at_]:=hc
   refine rx ?_
   have hlen:((d.checks.map Ck.expr++(d.classes.take i).map Ck.expr)).length<=900000+1000000:=by simp;omega
   refine s_pushO (a:=d.classes[i].expr) hL exC_len rfl rfl rfl hex rfl rfl rfl Yhl Yhd Yhd (fun v2 u2 hL hfr=>?_)
   have hF:=hfr _ hF
   have hb:=hb1.tr0 hF
   refine rx ?_
   refine q_roundK (i+1,v2) Yhb ⟨rfl,rfl,by simp only;omega,?_,hF⟩ Yhm
   simp only
   rw[List.take_succ_eq_append_getElem hlti,List.map_append,<-List.append_assoc]
   exact hL
  exact Yck
 .rw [partsD_k4 h]at hz
  have hl1:(d.cmds.map cmC).length=d.cmds.length:=List.length_map ..
  have hbn:=hcm.bound
  simp only[List.length_cons]at hz
  refine rx ?_
  refine s_pushO (a:=d.init) LO.nil exC_len rfl rfl rfl hit rfl rfl rfl Yjn Yhi Yhd (fun v9 u9 hL hfr=>?_)
  have hF:=hfr _ hF
  have hb:=hb1.tr0 hF
  refine rx ?_
  refine c_loopK 7 [3,6] (σ:=Nat×Value) (fun s g u=>g 6=iV s.1/\g 3=s.2/\s.1<=d.cmds.length/\LO w1 S u 95 7 exC (d.init::(d.cmds.take s.1).flatMap cmF) s.2/\Fr [] w1 u) (fun s=>d.cmds.length-s.1) (0,_) ⟨rfl,rfl,Nat.zero_le _,by simpa using hL,hF⟩ ?_
  clear hL hF
  rintro⟨i,v⟩ g u ⟨g3,g4,hii,hL,hF⟩
  simp only at g3 g4 hii hL
  rw[eq_upd g3,eq_upd g4]
  clear g3 g4
  have hsu:=hF.size
  have hb:=hb1.tr0 hF
  by_cases hlti:i<d.cmds.length
  case neg=>
   refine Yei ?_
   rw[List.take_of_length_le Yhd]at hL
   exact⟨w1,_,hf1,rfl,by rw[partsD_k4 h];exact hL,hF⟩
  obtain⟨ad,cs0,had,hr,hc⟩:=DR.at cmC_len hcm hlti
  subst had
  obtain⟨_,rfl,hr1⟩:=RD.invC (x:=.string d.cmds[i].name) hr
  obtain⟨dd,dc,_,rfl,hdd,hr2⟩:=RD.lst (rows:=d.cmds[i].draws.map dwC) hr1
  obtain⟨x1,xn1,xc1,x2,xn2,xc2,x3,xn3,xc3,_,rfl,hx,hr3⟩:=RD.ex (e:=d.cmds[i].pre) hr2
  obtain⟨y1,yn1,yc1,y2,yn2,yc2,y3,yn3,yc3,_,rfl,hy,hr4⟩:=RD.ex (e:=d.cmds[i].next) hr3
  obtain⟨z1,zn1,zc1,z2,zn2,zc2,z3,zn3,zc3,_,rfl,hz',hr5⟩:=RD.ex (e:=d.cmds[i].post) (ds:=[]) Yin
  obtain rfl:=hr5.inv0
  have hc1:Cells w1 (ad.add (i*23)) [.string d.cmds[i].name,.slice dd (d.cmds[i].draws.map dwC).length dc,iV d.cmds[i].pre.kind,.string d.cmds[i].pre.name,iV d.cmds[i].pre.n,.slice x1 xn1 xc1,.slice x2 xn2 xc2,.slice x3 xn3 xc3,iV d.cmds[i].pre.at_,iV d.cmds[i].next.kind,.string d.cmds[i].next.name,iV d.cmds[i].next.n,.slice y1 yn1 yc1,.slice y2 yn2 yc2,.slice y3 yn3 yc3,iV d.cmds[i].next.at_,iV d.cmds[i].post.kind,.string d.cmds[i].post.name,iV d.cmds[i].post.n,.slice z1 zn1 zc1,.slice z2 zn2 zc2,.slice z3 zn3 zc3,iV d.cmds[i].post.at_]:=hc
  have hlen:=fm_le d.cmds cmF (i+1)
  rw[fm_take hlti,List.length_append]at hlen
  have hlen3:(cmF d.cmds[i]).length=3:=rfl
  have hlen2:(d.init::(d.cmds.take i).flatMap cmF).length=((d.cmds.take i).flatMap cmF).length+1:=rfl
  refine rx ?_
  refine d_begin (fun y=>Fr [] w1 y) Yhf rfl ?_
  obtain⟨u1,hu1⟩:=exq u.drew
  rw[<-hu1]
  have hf2:Fr [] u u1:=hu1▸Fr.drew _ _
  have hL:=hL.tr0 hf2
  have hF:=hF.trans0 hf2
  have hsu:=hF.size
  refine d_z4 0 1 2 3 hF ?_;refine d_z4 4 5 6 7 hF ?_;refine d_z4 8 9 10 11 hF ?_;refine d_z4 12 13 14 15 hF ?_;refine d_z2 16 17 hF ?_;refine d_z 18 hF ?_
  refine d_one (i:=19) rfl Yhf ?_
  refine s_rows3 (c1:=[iV d.cmds[i].pre.kind,.string d.cmds[i].pre.name,iV d.cmds[i].pre.n,.slice x1 xn1 xc1,.slice x2 xn2 xc2,.slice x3 xn3 xc3,iV d.cmds[i].pre.at_]) (c2:=[iV d.cmds[i].next.kind,.string d.cmds[i].next.name,iV d.cmds[i].next.n,.slice y1 yn1 yc1,.slice y2 yn2 yc2,.slice y3 yn3 yc3,iV d.cmds[i].next.at_]) (c3:=[iV d.cmds[i].post.kind,.string d.cmds[i].post.name,iV d.cmds[i].post.n,.slice z1 zn1 zc1,.slice z2 zn2 zc2,.slice z3 zn3 zc3,iV d.cmds[i].post.at_]) rfl rfl rfl rfl rfl rfl rfl (fun u2 q hq ho hf5 hs5=>?_)
  have hL:=hL.tr0 hf5
  have hF:=hF.trans0 hf5
  refine wpList_nil (q_held hF ?_)
  refine d_one (i:=20) rfl Yhf ?_
  refine s_appO (al:=cmF d.cmds[i]) (m:=3) hL exC_len rfl rfl rfl ho.src (by rw[List.append_assoc];exact .cons hx (.cons hy (Rws.one hz'))) Yhl Yhd Yhd (fun v3 u3 hL hfr=>?_)
  have hF:=hfr _ hF
  refine wpList_nil (q_held hF ?_)
  refine d_one (i:=21) rfl Yhf ?_;refine rx ?_;refine q_held hF ?_
  refine Yen ?_
  refine q_roundK (i+1,v3) Yhb ⟨rfl,rfl,by simp only;omega,?_,hF⟩ Yhm
  simp only
  rw[fm_take hlti]
  exact hL
 .rw [partsD_k5 h]at hz
  have hl1:(d.ops.map opC).length=d.ops.length:=List.length_map ..
  have hbn:=hop.bound
  simp only[List.length_cons]at hz
  refine rx ?_
  refine s_rows2 (c1:=[iV d.init.kind,.string d.init.name,iV d.init.n,.slice it1 itn1 itc1,.slice it2 itn2 itc2,.slice it3 itn3 itc3,iV d.init.at_]) (c2:=[iV d.recov.kind,.string d.recov.name,iV d.recov.n,.slice rc1 rcn1 rcc1,.slice rc2 rcn2 rcc2,.slice rc3 rcn3 rcc3,iV d.recov.at_]) rfl rfl rfl rfl rfl (fun u2 q hq ho hf5 hs5=>?_)
  have hF:=hF.trans0 hf5
  have hb:=hb1.tr0 hF
  refine rx ?_
  refine s_appO (al:=[d.init,d.recov]) (m:=2) (LO.nil (w0:=w1) (S:=S)) exC_len rfl rfl rfl ho.src (.cons hit (Rws.one hrc)) Yjn Yhi Yhd (fun v9 u9 hL hfr=>?_)
  have hF:=hfr _ hF
  have hb:=hb1.tr0 hF
  refine rx ?_
  refine c_loopK 8 [3,7] (σ:=Nat×Value) (fun s g u=>g 7=iV s.1/\g 3=s.2/\s.1<=d.ops.length/\LO w1 S u 95 7 exC (d.init::d.recov::(d.ops.take s.1).flatMap opF) s.2/\Fr [] w1 u) (fun s=>d.ops.length-s.1) (0,_) ⟨rfl,rfl,Nat.zero_le _,by simpa using hL,hF⟩ ?_
  clear hL hF
  rintro⟨i,v⟩ g u ⟨g3,g4,hii,hL,hF⟩
  simp only at g3 g4 hii hL
  rw[eq_upd g3,eq_upd g4]
  clear g3 g4
  have hsu:=hF.size
  have hb:=hb1.tr0 hF
  by_cases hlti:i<d.ops.length
  case neg=>
   refine Yei ?_
   rw[List.take_of_length_le Yhd]at hL
   exact⟨w1,_,hf1,rfl,by rw[partsD_k5 h];exact hL,hF⟩
  obtain⟨ad,cs0,had,hr,hc⟩:=DR.at opC_len hop hlti
  subst had
  obtain⟨_,rfl,hr1⟩:=RD.invC (x:=.string d.ops[i].name) hr
  obtain⟨pp,pc,_,rfl,hpp,hr2⟩:=RD.lst (rows:=d.ops[i].params.map pmC) hr1
  obtain⟨aa,ac,_,rfl,haa,hr3⟩:=RD.lst (rows:=d.ops[i].acts.map acC) hr2
  obtain rfl:=hr3.inv0
  have hc1:Cells w1 (ad.add (i*3)) [.string d.ops[i].name,.slice pp (d.ops[i].params.map pmC).length pc,.slice aa (d.ops[i].acts.map acC).length ac]:=hc
  have hl2:(d.ops[i].acts.map acC).length=d.ops[i].acts.length:=List.length_map ..
  have hbn2:=haa.bound
  refine rx ?_
  refine c_loopK 9 [3,8] (σ:=Nat×Value) (fun s g u=>g 8=iV s.1/\g 3=s.2/\s.1<=d.ops[i].acts.length/\LO w1 S u 95 7 exC (d.init::d.recov::((d.ops.take i).flatMap opF++(d.ops[i].acts.take s.1).flatMap acF)) s.2/\Fr [] w1 u) (fun s=>d.ops[i].acts.length-s.1) (0,_) ⟨rfl,rfl,Nat.zero_le _,by simpa using hL,hF⟩ ?_
  clear hL hF
  rintro⟨j,v⟩ g u3 ⟨g3,g4,hij,hL,hF⟩
  simp only at g3 g4 hij hL
  rw[eq_upd g3,eq_upd g4]
  clear g3 g4
  have hsu:=hF.size
  have hb:=hb1.tr0 hF
  have hc2':=hc1.tr0 hF
  by_cases hltj:j<d.ops[i].acts.length
  case neg=>
   refine rx ?_
   refine q_roundK (i+1,v) Yhb ⟨rfl,rfl,by simp only;omega,?_,hF⟩ Yhm
   simp only
   rw[fm_take hlti]
   have e:d.ops[i].acts.take j=d.ops[i].acts:=List.take_of_length_le Yhd
   rw[e]at hL
   exact hL
  obtain⟨ad2,cs0,had,hrj,hc2⟩:=DR.at acC_len haa hltj
  subst had
  obtain⟨x1,xn1,xc1,x2,xn2,xc2,x3,xn3,xc3,_,rfl,hx,hr4⟩:=RD.ex (e:=d.ops[i].acts[j].shared) hrj
  obtain⟨y1,yn1,yc1,y2,yn2,yc2,y3,yn3,yc3,_,rfl,hy,hr5⟩:=RD.ex (e:=d.ops[i].acts[j].loc) (ds:=[]) Yin
  obtain rfl:=hr5.inv0
  have hc21:Cells w1 (ad2.add (j*14)) [iV d.ops[i].acts[j].shared.kind,.string d.ops[i].acts[j].shared.name,iV d.ops[i].acts[j].shared.n,.slice x1 xn1 xc1,.slice x2 xn2 xc2,.slice x3 xn3 xc3,iV d.ops[i].acts[j].shared.at_,iV d.ops[i].acts[j].loc.kind,.string d.ops[i].acts[j].loc.name,iV d.ops[i].acts[j].loc.n,.slice y1 yn1 yc1,.slice y2 yn2 yc2,.slice y3 yn3 yc3,iV d.ops[i].acts[j].loc.at_]:=hc2
  have hlen:=fm_le d.ops opF (i+1)
  rw[fm_take hlti,List.length_append]at hlen
  have hlen2:=fm_le d.ops[i].acts acF (j+1)
  rw[fm_take hltj,List.length_append]at hlen2
  have hlen3:(acF d.ops[i].acts[j]).length=2:=rfl
  have hlen4:(opF d.ops[i]).length=(d.ops[i].acts.flatMap acF).length:=rfl
  have hlen5:(d.init::d.recov::((d.ops.take i).flatMap opF++(d.ops[i].acts.take j).flatMap acF)).length=((d.ops.take i).flatMap opF).length+((d.ops[i].acts.take j).flatMap acF).length+2:=by simp
  refine rx ?_
  refine d_begin (fun y=>Fr [] w1 y) Yhf rfl ?_
  obtain⟨u4,hu4⟩:=exq u3.drew
  rw[<-hu4]
  have hf6:Fr [] u3 u4:=hu4▸Fr.drew _ _
  have hL:=hL.tr0 hf6
  have hF:=hF.trans0 hf6
  have hsu:=hF.size
  refine d_z4 0 1 2 3 hF ?_;refine d_z4 4 5 6 7 hF ?_;refine d_z4 8 9 10 11 hF ?_;refine d_z4 12 13 14 15 hF ?_;refine d_z4 16 17 18 19 hF ?_;refine d_z 20 hF ?_
  refine d_one (i:=21) rfl Yhf ?_
  refine s_rows2 (c1:=[iV d.ops[i].acts[j].shared.kind,.string d.ops[i].acts[j].shared.name,iV d.ops[i].acts[j].shared.n,.slice x1 xn1 xc1,.slice x2 xn2 xc2,.slice x3 xn3 xc3,iV d.ops[i].acts[j].shared.at_]) (c2:=[iV d.ops[i].acts[j].loc.kind,.string d.ops[i].acts[j].loc.name,iV d.ops[i].acts[j].loc.n,.slice y1 yn1 yc1,.slice y2 yn2 yc2,.slice y3 yn3 yc3,iV d.ops[i].acts[j].loc.at_]) rfl rfl rfl rfl rfl (fun u5 q5 hq5 ho5 hf7 hs7=>?_)
  have hL:=hL.tr0 hf7
  have hF:=hF.trans0 hf7
  refine wpList_nil (q_held hF ?_)
  refine d_one (i:=22) rfl Yhf ?_
  refine s_appO (al:=acF d.ops[i].acts[j]) (m:=2) hL exC_len rfl rfl rfl ho5.src (.cons hx (Rws.one hy)) Yhl Yhd Yhd (fun v6 u6 hL hfr=>?_)
  have hF:=hfr _ hF
  refine wpList_nil (q_held hF ?_)
  refine d_one (i:=23) rfl Yhf ?_;refine rx ?_;refine q_held hF ?_
  refine Yen ?_
  refine q_roundK (j+1,v6) Yhb ⟨rfl,rfl,by simp only;omega,?_,hF⟩ Yhm
  simp only
  rw[fm_take hltj]
  simpa using hL
 .have hL:LO w1 S w1 95 7 exC [] (zS):=LO.nil
  exact Ycu
end Go.Proofs.YtggmccicdhnkgaaGreat
namespace Go.Rf
open Go.RowKit
def brN(nm:ByteArray)(e:Ex):List Br:=(nodesE e).flatMap (brsE nm)
theorem brN_eq(nm:ByteArray)(e:Ex):brN nm e=brsE nm e++e.kids.flatMap (brN nm):=by
 unfold brN
 rw[nodesE_eq,nodesEs_eq,List.flatMap_cons,List.flatMap_assoc]
theorem ofD_eq(d:De):ofD d=(partsD d).flatMap (brN d.name):=by
 unfold ofD
 rw[nodesEs_eq,List.flatMap_assoc]
 rfl
def caN(e:Ex):List ByteArray:=callsE (nodesE e)
theorem callsE_app(a b:List Ex):callsE (a++b)=callsE a++callsE b:=by simp[callsE]
theorem callsE_flat(l:List Ex):callsE (l.flatMap nodesE)=l.flatMap caN:=by
 induction l with
 |nil=>rfl
 |cons e l ih=>rw[List.flatMap_cons,callsE_app,ih];rfl
theorem caN_eq(e:Ex):caN e=(if e.kind=3 then[e.name] else[])++e.kids.flatMap caN:=by
 have h2:∀X:List Ex,callsE (e::X)=(if e.kind=3 then[e.name] else[])++callsE X:=fun X=>by by_cases h:e.kind=3<;>simp[callsE,h]
 show callsE (nodesE e)=_
 rw[nodesE_eq,nodesEs_eq,h2,callsE_flat]
theorem brsE_len(nm:ByteArray)(e:Ex):(brsE nm e).length=armsE e:=by simp[brsE]
def BO(w0:World)(tb:Nat)(u:World)(l:List Br)(v:Value):Prop:=Own u tb 3 v l.length (l.flatMap brV)/\∀b∈blks v,w0.heap.size<=b
theorem BO.nil{w0 u:World}{tb:Nat}:BO w0 tb u [] (zS):=⟨Own.nil _ _ _,fun b hb=>by simp[blks,Value.ownBlock]at hb⟩
theorem brV_flen(l:List Br):(l.flatMap brV).length=l.length*3:=by
 induction l with
 |nil=>rfl
 |cons b l ih=>rw[List.flatMap_cons,List.length_append,ih,List.length_cons];show 3+_=_;omega
theorem brV_one(l:List Br):∀u∈l.flatMap brV,u.oneCell'=true:=fun u hu=>by
 obtain⟨b,_,hb⟩:=List.mem_flatMap.1 hu
 simp only[brV,List.mem_cons,List.not_mem_nil,or_false]at hb
 rcases hb with rfl|rfl|rfl<;>rfl
section
variable{w0 u u':World}{tb:Nat}{l:List Br}{v:Value}
theorem BO.tr0(h:BO w0 tb u l v)(hf:Fr [] u u'):BO w0 tb u' l v:=⟨h.1.tr0 hf,h.2⟩
theorem BO.keep{T:List Nat}(h:BO w0 tb u l v)(hf:Fr T u u')(hT:∀b∈T,b<w0.heap.size\/u.heap.size<=b):BO w0 tb u' l v:=by
 refine⟨h.1.tr hf (fun b hb hm=>?_),h.2⟩
 have:=h.1.lt b hb
 have:=h.2 b hb
 rcases hT b hm with h|h<;>omega
end
section
variable{P:Program}{ops:Array Oper}{Q:Exit->Act->World->Prop}{rest:List Oper}{n:Nat}{f:Env}{w:World}
variable{d:Nat}{ty:TypeId}{ps:String}{af:Array Edge}{x s:Operand}{t:Nat}
theorem s_appB{w0:World}{tb by_:Nat}{l al:List Br}{v xv:Value}{m:Nat}[Rr:RowT P t tb 3 by_]
 (hR:BO w0 tb w l v) (hsv:ev n f s=v) (hx:ev n f x=xv) (hm:al.length=m) (hsrc:Src w xv m (al.flatMap brV)) (h63:l.length+m<=maxLen) (hb:(l.length+m)*by_<=140737488355328) (hw:w0.heap.size<=w.heap.size)
 (h:∀v' w',BO w0 tb w' (l++al) v'->(∀T,Fr T w0 w->Fr T w0 w')->wpList P ops Q rest (A n (upd f d v')) w'):
 wpList P ops Q (⟨some d,.call {callee:=.builtin .append,args:=#[s,x],argTypes:=#[t,t]},ty,ps,af,none⟩::rest) (A n f) w:=by
 subst hm
 refine s_append hR.1 hsv hsrc hx (brV_flen al) (brV_one al) h63 hb (fun v' w' ho hf hk _=>?_)
 refine h v' w' ⟨?_,fun b hb=>(hk b hb).elim (fun h=>hR.2 b h) Yhv⟩ (fun T hT=>hT.trans hf (fun b hb=>.inr (hR.2 b hb)))
 rw[List.length_append,List.flatMap_append]
 exact ho
end
end Go.Rf
namespace Go.Proofs.YtggmccicdhnkgaaGreat
open Go.Proofs.Tryz
open Go.Rf Go.RowKit
attribute [local irreducible] Code.wp wpList Exit.then Exit.inBlock bodyPost A Calls execOp Addr.add
set_option maxHeartbeats 16000000 in
theorem innerC:∀(m:Nat) (e:Ex),exD e<=m->∀(nm:ByteArray),(brN nm e).length<=1000000->∀(cs:List Value) (w:World) (S:List Nat),RD w S (exC e) cs->
 Calls prog 178 #[.agg cs.toArray,.string nm] w fun en w'=>∃v,en=.returned v/\BO w 50 w' (brN nm e) v/\Fr [] w w':=by
 intro m
 induction m with
 |zero=>intro e h;rw[exD_eq]at h;omega
 |succ m ih=>
  intro e ht nm hz cs w S hd
  obtain⟨s1,s2,s3,rfl,hk1,hk2,hk⟩:=exR.1 hd
  obtain⟨a1,c1,rfl,_⟩:=DR.slice (rows:=_) hk1
  obtain⟨a2,c2,rfl,_⟩:=hk2.slice
  obtain⟨a3,c3,rfl,_⟩:=hk.slice
  have hbn:=hk.bound
  have hbn1:=DR.bound (rows:=_) hk1
  have e0:=exD_eq e
  have hl:(e.kids.map exC).length=e.kids.length:=List.length_map ..
  have hl1:(e.names.map strR).length=e.names.length:=List.length_map ..
  have hzb:=brN_eq nm e
  have hzl:=congrArg List.length hzb
  rw[List.length_append,brsE_len]at hzl
  refine enter func178 rfl ntmps178 rfl ?_
  refine rx ?_
  refine s_boxN (l:=exV e (.slice a1 (e.names.map strR).length c1) (.slice a2 (e.binds.map strsR).length c2) (.slice a3 (e.kids.map exC).length c3)) rfl rfl (fun w1 b hbe hb1 hf1 hs1=>?_)
  have hb1:Blk w1 b [iV e.kind,.string e.name,iV e.n,.slice a1 (e.names.map strR).length c1,.slice a2 (e.binds.map strsR).length c2,.slice a3 (e.kids.map exC).length c3,iV e.at_] 95:=hb1
  have hk:=hk.tr0 hf1
  rcases(by omega:e.kind=6\/e.kind=8\/(e.kind≠6/\e.kind≠8))with h|h|h
  .have ha:armsE e=2:=by unfold armsE;rw[if_pos h]
   exact Yi
  .have ha:armsE e=e.names.length:=by unfold armsE;rw[if_neg Yhd,if_pos h]
   exact Yi
  .have ha:armsE e=0:=by unfold armsE;rw[if_neg h.1,if_neg h.2]
   exact Yi
set_option maxHeartbeats 16000000 in
theorem refOfC(d:De)(hp:(partsD d).length<=1000000)(hz:(ofD d).length<=1000000)(hdp:∀e∈partsD d,exD e<=1000)(cs:List Value)(w:World)(S:List Nat)(hS:∀b∈S,b<w.heap.size)(hd:RD w S (deC d) cs):
 Calls prog 133 #[.agg cs.toArray] w fun en w'=>∃v,en=.returned v/\BO w 50 w' (ofD d) v/\Fr [] w w':=by
 have hd0:=hd
 obtain⟨_,rfl,r1⟩:=RD.invC (x:=iV d.kind) hd
 obtain⟨_,rfl,r2⟩:=RD.invC (x:=.string d.name) r1
 obtain⟨_,rfl,r3⟩:=RD.invC (x:=iV d.at_) r2
 obtain⟨ct,ctc,_,rfl,hct,r4⟩:=RD.lst (rows:=d.ctors.map ctC) r3
 obtain⟨pm,pmc,_,rfl,hpm,r5⟩:=RD.lst (rows:=d.params.map pmC) r4
 obtain⟨sty,_,rfl,hty,hk1,r6⟩:=RD.ty (t:=d.type) r5
 obtain⟨ty,tyc,rfl,_⟩:=hk1.slice
 obtain⟨bo1,bon1,boc1,bo2,bon2,boc2,bo3,bon3,boc3,_,rfl,hbo,r7⟩:=RD.ex (e:=d.body) r6
 obtain⟨_,rfl,r8⟩:=RD.invC (x:=iV d.depth) r7
 obtain⟨ge1,gen1,gec1,ge2,gen2,gec2,ge3,gen3,gec3,_,rfl,hge,r9⟩:=RD.gn (g:=d.gen) r8
 obtain⟨dw,dwc,_,rfl,hdw,r10⟩:=RD.lst (rows:=d.draws.map dwC) r9
 obtain⟨ck,ckc,_,rfl,hck,r11⟩:=RD.lst (rows:=d.checks.map ckC) r10
 obtain⟨cs,csc,_,rfl,hcs,r12⟩:=RD.lst (rows:=d.classes.map ckC) r11
 obtain⟨cl,clc,_,rfl,hcl,r13⟩:=RD.lst (rows:=d.claims.map clC) r12
 obtain⟨sst,_,rfl,hstt,hk2,r14⟩:=RD.ty (t:=d.state) r13
 obtain⟨st,stc,rfl,_⟩:=hk2.slice
 obtain⟨it1,itn1,itc1,it2,itn2,itc2,it3,itn3,itc3,_,rfl,hit,r15⟩:=RD.ex (e:=d.init) r14
 obtain⟨cm,cmc,_,rfl,hcm,r16⟩:=RD.lst (rows:=d.cmds.map cmC) r15
 obtain⟨op,opc,_,rfl,hop,r17⟩:=RD.lst (rows:=d.ops.map opC) r16
 obtain⟨rc1,rcn1,rcc1,rc2,rcn2,rcc2,rc3,rcn3,rcc3,_,rfl,hrc,r18⟩:=RD.ex (e:=d.recov) (ds:=[]) Yhz
 obtain rfl:=r18.inv0
 clear r1 r2 r3 r4 r5 r6 r7 r8 r9 r10 r11 r12 r13 r14 r15 r16 r17 r18 hk1 hk2
 rw[ofD_eq]at hz
 refine enter func133 rfl ntmps133 rfl ?_
 refine rx ?_
 refine s_boxN (l:=[iV d.kind,.string d.name,iV d.at_,.slice ct (d.ctors.map ctC).length ctc,.slice pm (d.params.map pmC).length pmc,iV d.type.kind,.string d.type.name,.slice ty (d.type.kids.map tyC).length tyc,iV d.body.kind,.string d.body.name,iV d.body.n,.slice bo1 bon1 boc1,.slice bo2 bon2 boc2,.slice bo3 bon3 boc3,iV d.body.at_,iV d.depth,iV d.gen.kind,.string d.gen.name,.slice ge1 gen1 gec1,.slice ge2 gen2 gec2,.slice ge3 gen3 gec3,iV d.gen.at_,.slice dw (d.draws.map dwC).length dwc,.slice ck (d.checks.map ckC).length ckc,.slice cs (d.classes.map ckC).length csc,.slice cl (d.claims.map clC).length clc,iV d.state.kind,.string d.state.name,.slice st (d.state.kids.map tyC).length stc,iV d.init.kind,.string d.init.name,iV d.init.n,.slice it1 itn1 itc1,.slice it2 itn2 itc2,.slice it3 itn3 itc3,iV d.init.at_,.slice cm (d.cmds.map cmC).length cmc,.slice op (d.ops.map opC).length opc,iV d.recov.kind,.string d.recov.name,iV d.recov.n,.slice rc1 rcn1 rcc1,.slice rc2 rcn2 rcc2,.slice rc3 rcn3 rcc3,iV d.recov.at_]) rfl rfl (fun w1 b hbe hb1 hf1 hs1=>?_)
 refine rx ?_
 refine s_call (refPartsP d hp _ w1 S (hd0.tr0 hf1)) rfl ?_
 rintro _ w3 ⟨w2,v,hf2,rfl,hLO,hf3⟩
 refine⟨_,rfl,?_⟩
 have hb3:=(hb1.tr0 hf2).tr0 hf3
 have hF3:Fr [] w w3:=(hf1.trans0 hf2).trans0 hf3
 have hs2:=hf2.size
 have hk:=hLO.dr exC_len Yhd hf3 Yhi (fun b hb=>by have:=hS b hb;omega)
 obtain⟨ao,c,rfl⟩:=hLO.slice
 refine rx ?_
 refine c_loopK 6 [3,5] (σ:=Nat×Value) (fun s g u=>g 5=iV s.1/\g 3=s.2/\s.1<=(partsD d).length/\BO w3 50 u (((partsD d).take s.1).flatMap (brN d.name)) s.2/\Fr [] w3 u) (fun s=>(partsD d).length-s.1) (0,_) ⟨rfl,rfl,Nat.zero_le _,BO.nil,Fr.refl _ _⟩ ?_
 rintro⟨i,v⟩ g u ⟨g1,g2,hi,hL,hF⟩
 simp only at g1 g2 hi hL
 rw[eq_upd g1,eq_upd g2]
 clear g1 g2
 have hsu:=hF.size
 have hb:=hb3.tr0 hF
 by_cases hlt:i<(partsD d).length
 case neg=>
  refine Yei ?_
  rw[List.take_of_length_le Yhd,<-ofD_eq]at hL
  have hsz:=hF3.size
  exact⟨_,rfl,⟨hL.1,fun b hb=>by have:=hL.2 b hb;omega⟩,hF3.trans0 hF⟩
 obtain⟨ad,cs2,had,hr,hc⟩:=DR.at exC_len hk hlt
 subst had
 have hr0:=hr
 obtain⟨x1,x2,x3,rfl,hu1,hu2,hu3⟩:=exR.1 hr
 have hlen:=fm_le (partsD d) (brN d.name) (i+1)
 rw[fm_take hlt,List.length_append]at hlen
 refine rx ?_
 refine d_begin (fun y=>Fr [] w3 y) Yhf rfl ?_
 obtain⟨u1,hu⟩:=exq u.drew
 rw[<-hu]
 have hf4:Fr [] u u1:=hu▸Fr.drew _ _
 have hL:=hL.tr0 hf4
 have hF:=hF.trans0 hf4
 have hsu:=hF.size
 refine d_z4 0 1 2 3 hF ?_;refine d_z2 4 5 hF ?_;refine d_z 6 hF ?_
 refine d_one (i:=7) rfl Yhf ?_
 refine s_c1 (innerC 1000 (partsD d)[i] (hdp _ (List.getElem_mem hlt)) d.name Yhd _ u1 S (hr0.tr0 hF)) ?_
 rintro v2 u2 ⟨hv2,hf5⟩
 have hL:=hL.tr0 hf5
 have hF:=hF.trans0 hf5
 have hs5:=hf5.size
 refine wpList_nil (q_held hF ?_)
 refine d_one (i:=8) rfl Yhf ?_
 refine s_appB (al:=brN d.name (partsD d)[i]) hL rfl rfl rfl hv2.1.src Yhl Yhd Yhd (fun v3 u3 hL hfr=>?_)
 have hF:=hfr _ hF
 refine wpList_nil (q_held hF ?_)
 refine d_one (i:=9) rfl Yhf ?_;refine rx ?_;refine q_held hF ?_
 refine Yen ?_
 refine q_roundK (i+1,v3) Yhb ⟨rfl,rfl,hlt,?_,hF⟩ Yhm
 simp only
 rw[fm_take hlt]
 exact hL
end Go.Proofs.YtggmccicdhnkgaaGreat
