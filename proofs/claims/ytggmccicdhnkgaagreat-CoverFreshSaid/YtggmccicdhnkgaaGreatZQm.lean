/-
 The reference's parser:levels of operators.
-/
import Derived.Test.YtggmccicdhnkgaaGreatZFf
import Derived.Test.YtggmccicdhnkgaaGreatZQk
import Derived.Test.YtggmccicdhnkgaaGreatZFc
set_option linter.all false
namespace Go.Rf
open Go.RowKit
section
variable{w:World}{S:List Nat}{ds:List Dt}{cs:List Value}
theorem RD.ty{t:Ty}(h:RD w S (tyC t++ds) cs):∃s cs',cs=iV t.kind::.string t.name::s::cs'/\RD w S (tyC t) (tyV t s)/\DR w S (.l (t.kids.map tyC)) s/\RD w S ds cs':=by
 obtain⟨a,b,rfl,ha,hb⟩:=RD.split h
 obtain⟨s,rfl,hk⟩:=tyR.1 ha
 exact⟨s,b,rfl,ha,hk,hb⟩
theorem RD.ex{e:Ex}(h:RD w S (exC e++ds) cs):∃a1 n1 c1 a2 n2 c2 a3 n3 c3 cs',cs=iV e.kind::.string e.name::iV e.n::.slice a1 n1 c1::.slice a2 n2 c2::.slice a3 n3 c3::iV e.at_::cs'/\RD w S (exC e) [iV e.kind,.string e.name,iV e.n,.slice a1 n1 c1,.slice a2 n2 c2,.slice a3 n3 c3,iV e.at_]/\RD w S ds cs':=by
 obtain⟨a,b,rfl,ha,hb⟩:=RD.split h
 obtain⟨s1,s2,s3,rfl,hk1,hk2,hk3⟩:=exR.1 ha
 obtain⟨a1,c1,rfl,_⟩:=DR.slice (rows:=_) hk1
 exact Ycr
theorem RD.gn{g:Gn}(h:RD w S (gnC g++ds) cs):∃a1 n1 c1 a2 n2 c2 a3 n3 c3 cs',cs=iV g.kind::.string g.name::.slice a1 n1 c1::.slice a2 n2 c2::.slice a3 n3 c3::iV g.at_::cs'/\RD w S (gnC g) [iV g.kind,.string g.name,.slice a1 n1 c1,.slice a2 n2 c2,.slice a3 n3 c3,iV g.at_]/\RD w S ds cs':=by
 obtain⟨a,b,rfl,ha,hb⟩:=RD.split h
 obtain⟨s1,s2,s3,rfl,hk1,hk2,hk3⟩:=gnR.1 ha
 obtain⟨a1,c1,rfl,_⟩:=hk1.slice
 exact Ycr
theorem RD.lst{rows:List (List Dt)}(h:RD w S (.l rows::ds) cs):∃a c cs',cs=.slice a rows.length c::cs'/\DR w S (.l rows) (.slice a rows.length c)/\RD w S ds cs':=by
 obtain⟨v,cs',rfl,h1,h2⟩:=RD.inv h
 obtain⟨a,c,rfl,_⟩:=h1.slice
 exact⟨a,c,cs',rfl,h1,h2⟩
end
end Go.Rf
namespace Go.Proofs.YtggmccicdhnkgaaGreat
open Go.Proofs.Tryz
open Go.Rf Go.RowKit
attribute [local irreducible] Code.wp wpList Exit.then Exit.inBlock bodyPost A Calls execOp Addr.add
set_option maxHeartbeats 8000000 in
theorem checksC(q:Nat)(l:List Ck)(hlim:limCk l=false)(w:World)(S:List Nat)(v:Value)(hqS:q∈S)(hFB:FB w q)(hd:DR w S (.l (l.map ckC)) v):Calls prog 177 #[.pointer (some ⟨q,0,none⟩),v] w (FC q w):=by
 simp only[limCk,Bool.or_eq_false_iff,List.any_eq_false]at hlim
 obtain⟨h16,hlim⟩:=hlim
 obtain⟨ao,c,rfl,_⟩:=hd.slice
 have hbn:=hd.bound
 have hl:(l.map ckC).length=l.length:=List.length_map ..
 refine enter func177 rfl ntmps177 rfl ?_
 refine rx ?_
 refine s_cE (mostC q _ w hFB (by rw[hl];exact h16)) ?_
 rintro w1 ⟨h1,hf1⟩
 refine Yfl ?_
 rintro i g w2 ⟨h4,hi,hq2,hF2⟩
 rw[eq_upd h4]
 by_cases hlt:i<l.length
 case neg=>
  refine rx ?_
  exact end0 rfl ⟨rfl,hq2,hF2⟩
 have hli:=hlim l[i] (List.getElem_mem hlt)
 obtain⟨ad,cs0,had,hr,hc⟩:=DR.at ckC_len (hd.old hF2 (one_in hqS)) hlt
 subst had
 obtain⟨_,rfl,hr1⟩:=RD.invC (x:=.string l[i].name) hr
 obtain⟨e1,en1,ec1,e2,en2,ec2,e3,en3,ec3,_,rfl,hex,hr2⟩:=RD.ex (e:=l[i].expr) (ds:=[]) Yit
 obtain rfl:=hr2.inv0
 have hc:Cells w2 (ad.add (i*8)) [.string l[i].name,iV l[i].expr.kind,.string l[i].expr.name,iV l[i].expr.n,.slice e1 en1 ec1,.slice e2 en2 ec2,.slice e3 en3 ec3,iV l[i].expr.at_]:=hc
 refine rx ?_
 refine s_cE (namedC q _ 0 _ hq2) ?_
 rintro w3 ⟨hq3,hf3⟩
 have hF3:=hF2.trans hf3 (fun x hx=>.inl hx)
 obtain⟨adx,cs0,had,hr,hc⟩:=DR.at ckC_len (hd.old hF3 (one_in hqS)) hlt
 obtain rfl:=Option.some.inj had
 obtain⟨_,rfl,hr1⟩:=RD.invC (x:=.string l[i].name) hr
 obtain⟨e1,en1,ec1,e2,en2,ec2,e3,en3,ec3,_,rfl,hex,hr2⟩:=RD.ex (e:=l[i].expr) (ds:=[]) Yit
 obtain rfl:=hr2.inv0
 have hc:Cells w3 (ad.add (i*8)) [.string l[i].name,iV l[i].expr.kind,.string l[i].expr.name,iV l[i].expr.n,.slice e1 en1 ec1,.slice e2 en2 ec2,.slice e3 en3 ec3,iV l[i].expr.at_]:=hc
 refine rx ?_
 refine s_cE (rootC q l[i].expr (by simpa using hli) w3 S _ hqS hq3 hex) ?_
 rintro w4 ⟨hq4,hf4⟩
 have hF4:=hF3.trans hf4 (fun x hx=>.inl hx)
 refine rx ?_
 exact q_roundK (i+1) Yhb ⟨rfl,by omega,hq4,hF4⟩ Yhd
set_option maxHeartbeats 8000000 in
theorem drawsC(q:Nat)(l:List Dw)(cmd:Bool)(hlim:limDs l=false)(w:World)(S:List Nat)(v:Value)(hqS:q∈S)(hFB:FB w q)(hd:DR w S (.l (l.map dwC)) v):Calls prog 176 #[.pointer (some ⟨q,0,none⟩),v,.bool cmd] w (FC q w):=by
 simp only[limDs,Bool.or_eq_false_iff,List.any_eq_false]at hlim
 obtain⟨h16,hlim⟩:=hlim
 obtain⟨ao,c,rfl,_⟩:=hd.slice
 have hbn:=hd.bound
 have hl:(l.map dwC).length=l.length:=List.length_map ..
 refine enter func176 rfl ntmps176 rfl ?_
 refine rx ?_
 refine s_cE (mostC q _ w hFB (by rw[hl];exact h16)) ?_
 rintro w1 ⟨h1,hf1⟩
 refine rx ?_
 refine c_loopK 7 [6] (σ:=Nat) (fun i g u=>g 6=iV i/\i<=l.length/\FB u q/\Fr [q] w u) (fun i=>l.length-i) 0 ⟨rfl,Nat.zero_le _,h1,hf1⟩ ?_
 rintro i g w2 ⟨h4,hi,hq2,hF2⟩
 rw[eq_upd h4]
 by_cases hlt:i<l.length
 case neg=>
  refine rx ?_
  exact end0 rfl ⟨rfl,hq2,hF2⟩
 have hli:=hlim l[i] (List.getElem_mem hlt)
 simp only[Bool.or_eq_true,Bool.and_eq_true,Bool.not_eq_true',not_or,not_and,Bool.not_eq_true]at hli
 obtain⟨hl1,hl2⟩:=hli
 obtain⟨ad,cs0,had,hr,hc⟩:=DR.at dwC_len (hd.old hF2 (one_in hqS)) hlt
 subst had
 obtain⟨_,rfl,hr1⟩:=RD.invC (x:=.string l[i].name) hr
 obtain⟨s,_,rfl,hty,_,hr2⟩:=RD.ty (t:=l[i].type) hr1
 obtain⟨g1,gn1,gc1,g2,gn2,gc2,g3,gn3,gc3,_,rfl,hgn,hr3⟩:=RD.gn (g:=l[i].gen) hr2
 obtain⟨_,rfl,hr4⟩:=RD.invC (x:=.bool l[i].ref) hr3
 obtain rfl:=hr4.inv0
 have hc:Cells w2 (ad.add (i*11)) [.string l[i].name,iV l[i].type.kind,.string l[i].type.name,s,iV l[i].gen.kind,.string l[i].gen.name,.slice g1 gn1 gc1,.slice g2 gn2 gc2,.slice g3 gn3 gc3,iV l[i].gen.at_,.bool l[i].ref]:=hc
 refine rx ?_
 refine s_cE (namedC q _ 0 _ hq2) ?_
 rintro w3 ⟨hq3,hf3⟩
 have hF3:=hF2.trans hf3 (fun x hx=>.inl hx)
 obtain⟨adx,cs0,had,hr,hc⟩:=DR.at dwC_len (hd.old hF3 (one_in hqS)) hlt
 obtain rfl:=Option.some.inj had
 obtain⟨_,rfl,hr1⟩:=RD.invC (x:=.string l[i].name) hr
 obtain⟨s,_,rfl,hty,_,hr2⟩:=RD.ty (t:=l[i].type) hr1
 obtain⟨g1,gn1,gc1,g2,gn2,gc2,g3,gn3,gc3,_,rfl,hgn,hr3⟩:=RD.gn (g:=l[i].gen) hr2
 obtain⟨_,rfl,hr4⟩:=RD.invC (x:=.bool l[i].ref) hr3
 obtain rfl:=hr4.inv0
 have hc:Cells w3 (ad.add (i*11)) [.string l[i].name,iV l[i].type.kind,.string l[i].type.name,s,iV l[i].gen.kind,.string l[i].gen.name,.slice g1 gn1 gc1,.slice g2 gn2 gc2,.slice g3 gn3 gc3,iV l[i].gen.at_,.bool l[i].ref]:=hc
 refine rx ?_
 refine s_cE (typC q l[i].type hl1 w3 S _ hqS hq3 hty) ?_
 rintro w4 ⟨hq4,hf4⟩
 have hF4:=hF3.trans hf4 (fun x hx=>.inl hx)
 obtain⟨adx,cs0,had,hr,hc⟩:=DR.at dwC_len (hd.old hF4 (one_in hqS)) hlt
 obtain rfl:=Option.some.inj had
 obtain⟨_,rfl,hr1⟩:=RD.invC (x:=.string l[i].name) hr
 obtain⟨s,_,rfl,hty,_,hr2⟩:=RD.ty (t:=l[i].type) hr1
 obtain⟨g1,gn1,gc1,g2,gn2,gc2,g3,gn3,gc3,_,rfl,hgn,hr3⟩:=RD.gn (g:=l[i].gen) hr2
 obtain⟨_,rfl,hr4⟩:=RD.invC (x:=.bool l[i].ref) hr3
 obtain rfl:=hr4.inv0
 have hc:Cells w4 (ad.add (i*11)) [.string l[i].name,iV l[i].type.kind,.string l[i].type.name,s,iV l[i].gen.kind,.string l[i].gen.name,.slice g1 gn1 gc1,.slice g2 gn2 gc2,.slice g3 gn3 gc3,iV l[i].gen.at_,.bool l[i].ref]:=hc
 cases hrf:l[i].ref with
 |false=>
  rw[hrf]at hc
  refine rx ?_
  refine s_cE (wholeC q l[i].gen (hl2 hrf) w4 S _ hqS hq4 hgn) ?_
  rintro w5 ⟨hq5,hf5⟩
  have hF5:=hF4.trans hf5 (fun x hx=>.inl hx)
  refine rx ?_
  exact Yfz
 |true=>
  rw[hrf]at hc
  cases cmd with
  |false=>
   refine rx ?_
   refine s_cE (argC q _ _ hq4) ?_
   rintro w5 ⟨hq5,hf5⟩
   have hF5:=hF4.trans hf5 (fun x hx=>.inl hx)
   refine rx ?_
   exact Yfz
  |true=>
   refine rx ?_
   refine s_call (zeroGenC _ _ _ _ _ _ _ _ _ _ _ _ _) rfl ?_
   rintro _ w5 ⟨⟨rb,rfl⟩,hf5⟩
   refine⟨_,rfl,?_⟩
   have hq5:=hq4.tr0 hf5
   have hF5:=hF4.trans0 hf5
   cases rb
   all_goals
    refine rx ?_
    refine s_cE (argC q _ _ hq5) ?_
    rintro w6 ⟨hq6,hf6⟩
    have hF6:=hF5.trans hf6 (fun x hx=>.inl hx)
    refine rx ?_
    exact q_roundK (i+1) Yhb ⟨rfl,by omega,hq6,hF6⟩ Yhd
end Go.Proofs.YtggmccicdhnkgaaGreat
namespace Go.Proofs.YtggmccicdhnkgaaGreat
open Go.Proofs.Tryz
open Go.Rf Go.RowKit
attribute [local irreducible] Code.wp wpList Exit.then Exit.inBlock bodyPost A Calls execOp Addr.add
set_option maxHeartbeats 8000000 in
theorem clCtorC(x:Ct)(cs:List Value)(w:World)(S:List Nat)(hd:RD w S (ctC x) cs):Calls prog 137 #[.agg cs.toArray] w fun e w'=>∃cs',e=.returned (.agg cs'.toArray)/\RD w' (rg w) (ctC x) cs'/\Fr [] w w':=by
 obtain⟨_,rfl,h1⟩:=RD.invC (x:=.string x.name) hd
 obtain⟨v0,_,rfl,hk,hn⟩:=RD.inv h1
 obtain rfl:=hn.inv0
 refine enter func137 rfl ntmps137 rfl ?_
 refine rx ?_
 refine s_boxN (l:=[.string x.name,v0]) rfl rfl (fun w1 b hbe hb hf1 hs1=>?_)
 refine rx ?_
 refine s_allocN (l:=[zT,zS]) rfl (fun w2 r hre hr hf2 hs2=>?_)
 have hb:=hb.tr0 hf2
 have hF2:Fr [] w w2:=hf1.trans0 hf2
 refine rx ?_
 refine s_c1 (clTypes x.args v0 w2 S (hk.tr0 hF2) (fun x hx cs u S h=>clTypeC x cs u S h)) ?_
 rintro v w3 ⟨hv,hf3⟩
 have hs3:=hf3.size
 have hb:=hb.tr0 hf3
 have hr:=hr.tr0 hf3
 have hF3:Fr [] w w3:=hF2.trans0 hf3
 have hv:=hv.down (w0:=w2) Yhd
 refine rx ?_
 ((with_reducible apply s_storeB);exact rfl;(conv=>lhs;whnf);exact hv.one;exact hb;exact rfl)
 intro w4 hb hf4 hs4
 replace hb:Blk w4 b [.string x.name,v] 219:=hb
 have hr:=hr.tr hf4 Yhj
 have hF4:Fr [] w w4:=hF3.trans hf4 (fun x hx=>.inr Yhg)
 have hv:=hv.old hf4 (in_rg Yhd)
 refine rx ?_
 have hdr:RD w4 (rg w2) (ctC x) [.string x.name,v]:=.cons (.c rfl) (.cons hv .nil)
 refine s_storeAggB (cs:=[.string x.name,v]) rfl rfl hr (RD.one hdr) rfl rfl (fun u hr2 hfu hsu=>?_)
 exact Ybb
set_option maxHeartbeats 8000000 in
theorem clParamC(x:Pm)(cs:List Value)(w:World)(S:List Nat)(hd:RD w S (pmC x) cs):Calls prog 139 #[.agg cs.toArray] w fun e w'=>∃cs',e=.returned (.agg cs'.toArray)/\RD w' (rg w) (pmC x) cs'/\Fr [] w w':=by
 obtain⟨_,rfl,h1⟩:=RD.invC (x:=.string x.name) hd
 obtain⟨s,_,rfl,hty,_,h2⟩:=RD.ty (t:=x.type) (ds:=[]) (by rw[List.append_nil];exact h1)
 obtain rfl:=h2.inv0
 refine enter func139 rfl ntmps139 rfl ?_
 refine rx ?_
 refine s_boxN (l:=[.string x.name,iV x.type.kind,.string x.type.name,s]) rfl rfl (fun w1 b hbe hb hf1 hs1=>?_)
 refine rx ?_
 refine s_allocN (l:=[zT,zI,zT,zS]) rfl (fun w2 r hre hr hf2 hs2=>?_)
 have hb:=hb.tr0 hf2
 have hF2:Fr [] w w2:=hf1.trans0 hf2
 refine rx ?_
 refine s_c1 (clTypeC x.type _ w2 S (hty.tr0 hF2)) ?_
 rintro cs1 w3 ⟨hv,hf3⟩
 have hs3:=hf3.size
 have hb:=hb.tr0 hf3
 have hr:=hr.tr0 hf3
 have hF3:Fr [] w w3:=hF2.trans0 hf3
 have hv:=hv.down (w0:=w2) Yhd
 obtain⟨s1,rfl,_⟩:=tyR.1 hv
 refine rx ?_
 refine s_storeSubB (cs:=[iV x.type.kind,.string x.type.name,s1]) rfl rfl hb (RD.one hv) Yhi rfl (fun w4 hb hf4 hs4=>?_)
 replace hb:Blk w4 b [.string x.name,iV x.type.kind,.string x.type.name,s1] 223:=hb
 have hr:=hr.tr hf4 Yhj
 have hF4:Fr [] w w4:=hF3.trans hf4 (fun x hx=>.inr Yhg)
 have hv:=hv.old hf4 (in_rg Yhd)
 refine rx ?_
 have hdr:RD w4 (rg w2) (pmC x) [.string x.name,iV x.type.kind,.string x.type.name,s1]:=.cons (.c rfl) hv
 refine s_storeAggB (cs:=[.string x.name,iV x.type.kind,.string x.type.name,s1]) rfl rfl hr (RD.one hdr) rfl rfl (fun u hr2 hfu hsu=>?_)
 exact Ybb
set_option maxHeartbeats 8000000 in
theorem clDrawC(x:Dw)(cs:List Value)(w:World)(S:List Nat)(hd:RD w S (dwC x) cs):Calls prog 144 #[.agg cs.toArray] w fun e w'=>∃cs',e=.returned (.agg cs'.toArray)/\RD w' (rg w) (dwC x) cs'/\Fr [] w w':=by
 obtain⟨_,rfl,h1⟩:=RD.invC (x:=.string x.name) hd
 obtain⟨s,_,rfl,hty,_,h2⟩:=RD.ty (t:=x.type) h1
 obtain⟨g1,gn1,gc1,g2,gn2,gc2,g3,gn3,gc3,_,rfl,hgn,h3⟩:=RD.gn (g:=x.gen) h2
 obtain⟨_,rfl,h4⟩:=RD.invC (x:=.bool x.ref) h3
 obtain rfl:=h4.inv0
 refine enter func144 rfl ntmps144 rfl ?_
 refine rx ?_
 refine s_boxN (l:=[.string x.name,iV x.type.kind,.string x.type.name,s,iV x.gen.kind,.string x.gen.name,.slice g1 gn1 gc1,.slice g2 gn2 gc2,.slice g3 gn3 gc3,iV x.gen.at_,.bool x.ref]) rfl rfl (fun w1 b hbe hb hf1 hs1=>?_)
 refine rx ?_
 refine s_allocN (l:=[zT,zI,zT,zS,zI,zT,zS,zS,zS,zI,.bool false]) rfl (fun w2 r hre hr hf2 hs2=>?_)
 have hb:=hb.tr0 hf2
 have hF2:Fr [] w w2:=hf1.trans0 hf2
 refine rx ?_
 refine s_c1 (clTypeC x.type _ w2 S (hty.tr0 hF2)) ?_
 rintro cs1 w3 ⟨hv,hf3⟩
 have hs3:=hf3.size
 have hb:=hb.tr0 hf3
 have hr:=hr.tr0 hf3
 have hF3:Fr [] w w3:=hF2.trans0 hf3
 have hv:=hv.down (w0:=w2) Yhd
 obtain⟨s1,rfl,_⟩:=tyR.1 hv
 refine rx ?_
 refine s_storeSubB (cs:=[iV x.type.kind,.string x.type.name,s1]) rfl rfl hb (RD.one hv) Yhi rfl (fun w4 hb hf4 hs4=>?_)
 replace hb:Blk w4 b [.string x.name,iV x.type.kind,.string x.type.name,s1,iV x.gen.kind,.string x.gen.name,.slice g1 gn1 gc1,.slice g2 gn2 gc2,.slice g3 gn3 gc3,iV x.gen.at_,.bool x.ref] 230:=hb
 have hr:=hr.tr hf4 Yhj
 have hF4:Fr [] w w4:=hF3.trans hf4 (fun x hx=>.inr Yhg)
 have hv:=hv.old hf4 (in_rg Yhd)
 refine rx ?_
 refine s_c1 (clGenC x.gen _ w4 S (hgn.tr0 hF4)) ?_
 rintro cs2 w5 ⟨hv2,hf5⟩
 have hs5:=hf5.size
 have hb:=hb.tr0 hf5
 have hr:=hr.tr0 hf5
 have hF5:Fr [] w w5:=hF4.trans0 hf5
 have hv:=hv.old hf5 Yhi
 have hv2:=hv2.down (w0:=w2) Yhd
 obtain⟨y1,y2,y3,rfl,_,_,_⟩:=gnR.1 hv2
 refine rx ?_
 refine s_storeSubB (cs:=[iV x.gen.kind,.string x.gen.name,y1,y2,y3,iV x.gen.at_]) rfl rfl hb (RD.one hv2) Yhi rfl (fun w6 hb hf6 hs6=>?_)
 replace hb:Blk w6 b [.string x.name,iV x.type.kind,.string x.type.name,s1,iV x.gen.kind,.string x.gen.name,y1,y2,y3,iV x.gen.at_,.bool x.ref] 230:=hb
 have hr:=hr.tr hf6 Yhj
 have hF6:Fr [] w w6:=hF5.trans hf6 (fun x hx=>.inr Yhg)
 have hv:=hv.old hf6 (in_rg Yhd)
 have hv2:=hv2.old hf6 (in_rg Yhd)
 refine rx ?_
 have hdr:RD w6 (rg w2) (dwC x) [.string x.name,iV x.type.kind,.string x.type.name,s1,iV x.gen.kind,.string x.gen.name,y1,y2,y3,iV x.gen.at_,.bool x.ref]:=.cons (.c rfl) (hv.app (hv2.app (.cons (.c rfl) .nil)))
 refine s_storeAggB (cs:=[.string x.name,iV x.type.kind,.string x.type.name,s1,iV x.gen.kind,.string x.gen.name,y1,y2,y3,iV x.gen.at_,.bool x.ref]) rfl rfl hr (RD.one hdr) rfl rfl (fun u hr2 hfu hsu=>?_)
 exact Ych
set_option maxHeartbeats 8000000 in
theorem clCheckC(x:Ck)(cs:List Value)(w:World)(S:List Nat)(hd:RD w S (ckC x) cs):Calls prog 146 #[.agg cs.toArray] w fun e w'=>∃cs',e=.returned (.agg cs'.toArray)/\RD w' (rg w) (ckC x) cs'/\Fr [] w w':=by
 obtain⟨_,rfl,h1⟩:=RD.invC (x:=.string x.name) hd
 obtain⟨g1,gn1,gc1,g2,gn2,gc2,g3,gn3,gc3,_,rfl,hex,h2⟩:=RD.ex (e:=x.expr) (ds:=[]) (by rw[List.append_nil];exact h1)
 obtain rfl:=h2.inv0
 refine enter func146 rfl ntmps146 rfl ?_
 refine rx ?_
 refine s_boxN (l:=[.string x.name,iV x.expr.kind,.string x.expr.name,iV x.expr.n,.slice g1 gn1 gc1,.slice g2 gn2 gc2,.slice g3 gn3 gc3,iV x.expr.at_]) rfl rfl (fun w1 b hbe hb hf1 hs1=>?_)
 refine rx ?_
 refine s_allocN (l:=[zT,zI,zT,zI,zS,zS,zS,zI]) rfl (fun w2 r hre hr hf2 hs2=>?_)
 have hb:=hb.tr0 hf2
 have hF2:Fr [] w w2:=hf1.trans0 hf2
 refine rx ?_
 refine s_c1 (clExprC x.expr _ w2 S (hex.tr0 hF2)) ?_
 rintro cs1 w3 ⟨hv,hf3⟩
 have hs3:=hf3.size
 have hb:=hb.tr0 hf3
 have hr:=hr.tr0 hf3
 have hF3:Fr [] w w3:=hF2.trans0 hf3
 have hv:=hv.down (w0:=w2) Yhd
 obtain⟨y1,y2,y3,rfl,_,_,_⟩:=exR.1 hv
 refine rx ?_
 refine s_storeSubB (cs:=[iV x.expr.kind,.string x.expr.name,iV x.expr.n,y1,y2,y3,iV x.expr.at_]) rfl rfl hb (RD.one hv) Yhi rfl (fun w4 hb hf4 hs4=>?_)
 replace hb:Blk w4 b [.string x.name,iV x.expr.kind,.string x.expr.name,iV x.expr.n,y1,y2,y3,iV x.expr.at_] 132:=hb
 have hr:=hr.tr hf4 Yhj
 have hF4:Fr [] w w4:=hF3.trans hf4 (fun x hx=>.inr Yhg)
 have hv:=hv.old hf4 (in_rg Yhd)
 refine rx ?_
 have hdr:RD w4 (rg w2) (ckC x) [.string x.name,iV x.expr.kind,.string x.expr.name,iV x.expr.n,y1,y2,y3,iV x.expr.at_]:=.cons (.c rfl) hv
 refine s_storeAggB (cs:=[.string x.name,iV x.expr.kind,.string x.expr.name,iV x.expr.n,y1,y2,y3,iV x.expr.at_]) rfl rfl hr (RD.one hdr) rfl rfl (fun u hr2 hfu hsu=>?_)
 exact Ybb
set_option maxHeartbeats 8000000 in
theorem clActC(x:Ac)(cs:List Value)(w:World)(S:List Nat)(hd:RD w S (acC x) cs):Calls prog 186 #[.agg cs.toArray] w fun e w'=>∃cs',e=.returned (.agg cs'.toArray)/\RD w' (rg w) (acC x) cs'/\Fr [] w w':=by
 obtain⟨g1,gn1,gc1,g2,gn2,gc2,g3,gn3,gc3,_,rfl,hsh,h2⟩:=RD.ex (e:=x.shared) hd
 obtain⟨k1,kn1,kc1,k2,kn2,kc2,k3,kn3,kc3,_,rfl,hlo,h3⟩:=RD.ex (e:=x.loc) (ds:=[]) (by rw[List.append_nil];exact h2)
 obtain rfl:=h3.inv0
 refine enter func186 rfl ntmps186 rfl ?_
 refine rx ?_
 refine s_boxN (l:=[iV x.shared.kind,.string x.shared.name,iV x.shared.n,.slice g1 gn1 gc1,.slice g2 gn2 gc2,.slice g3 gn3 gc3,iV x.shared.at_,iV x.loc.kind,.string x.loc.name,iV x.loc.n,.slice k1 kn1 kc1,.slice k2 kn2 kc2,.slice k3 kn3 kc3,iV x.loc.at_]) rfl rfl (fun w1 b hbe hb hf1 hs1=>?_)
 refine rx ?_
 refine s_allocN (l:=[zI,zT,zI,zS,zS,zS,zI,zI,zT,zI,zS,zS,zS,zI]) rfl (fun w2 r hre hr hf2 hs2=>?_)
 have hb:=hb.tr0 hf2
 have hF2:Fr [] w w2:=hf1.trans0 hf2
 refine rx ?_
 refine u_begin 7 (fun z=>True/\Blk z b [iV x.shared.kind,.string x.shared.name,iV x.shared.n,.slice g1 gn1 gc1,.slice g2 gn2 gc2,.slice g3 gn3 gc3,iV x.shared.at_,iV x.loc.kind,.string x.loc.name,iV x.loc.n,.slice k1 kn1 kc1,.slice k2 kn2 kc2,.slice k3 kn3 kc3,iV x.loc.at_] 181) Yhf rfl ?_
 obtain⟨w3,hw3⟩:=exq w2.drew
 rw[<-hw3]
 have hf3:Fr [] w2 w3:=hw3▸Fr.drew _ _
 have hs3:=hf3.size
 have hb:=hb.tr0 hf3
 have hr:=hr.tr0 hf3
 have hF3:Fr [] w w3:=hF2.trans0 hf3
 ((refine u_tx 0 (And.intro trivial hb) ?_);(refine u_tx 1 (And.intro trivial hb) ?_))
 ((refine u_tx 3 (And.intro trivial hb) ?_);(refine u_tx 4 (And.intro trivial hb) ?_))
 refine u_one (i:=2) rfl Yhf ?_
 refine s_c1 (clExprC x.shared _ w3 S (hsh.tr0 hF3)) ?_
 rintro cs1 w4 ⟨hv,hf4⟩
 have hs4:=hf4.size
 have hb:=hb.tr0 hf4
 have hr:=hr.tr0 hf4
 have hF4:Fr [] w w4:=hF3.trans0 hf4
 have hv:=hv.down (w0:=w2) Yhd
 obtain⟨y1,y2,y3,rfl,_,_,_⟩:=exR.1 hv
 refine Yga ?_
 refine Ygb ?_
 refine s_c1 (clExprC x.loc _ w4 S (hlo.tr0 hF4)) ?_
 rintro cs2 w5 ⟨hv2,hf5⟩
 have hs5:=hf5.size
 have hb:=hb.tr0 hf5
 have hr:=hr.tr0 hf5
 have hF5:Fr [] w w5:=hF4.trans0 hf5
 have hv:=hv.old hf5 Yhi
 have hv2:=hv2.down (w0:=w2) Yhd
 obtain⟨z1,z2,z3,rfl,_,_,_⟩:=exR.1 hv2
 refine Yga ?_
 refine u_tx 6 (And.intro trivial hb) (hrun:=(by(intro u hu;exact r_build ([iV x.shared.kind,.string x.shared.name,iV x.shared.n,y1,y2,y3,iV x.shared.at_,iV x.loc.kind,.string x.loc.name,iV x.loc.n,z1,z2,z3,iV x.loc.at_]) Yia))) ?_
 refine Ygc ?_
 have hdr:RD w5 (rg w2) (acC x) [iV x.shared.kind,.string x.shared.name,iV x.shared.n,y1,y2,y3,iV x.shared.at_,iV x.loc.kind,.string x.loc.name,iV x.loc.n,z1,z2,z3,iV x.loc.at_]:=hv.app hv2
 refine s_storeAggB (cs:=[iV x.shared.kind,.string x.shared.name,iV x.shared.n,y1,y2,y3,iV x.shared.at_,iV x.loc.kind,.string x.loc.name,iV x.loc.n,z1,z2,z3,iV x.loc.at_]) rfl rfl hr (RD.one hdr) rfl rfl (fun u hr2 hfu hsu=>?_)
 refine Yeo ?_
 refine retB rfl rfl hr2 rfl ⟨_,rfl,(hdr.old hfu (in_rg Yhd)).down Yhd,hF5.trans hfu (fun x hx=>.inr Yhg)⟩
set_option maxHeartbeats 8000000 in
theorem clOpC(x:Rf.Op)(cs:List Value)(w:World)(S:List Nat)(hd:RD w S (opC x) cs):Calls prog 151 #[.agg cs.toArray] w fun e w'=>∃cs',e=.returned (.agg cs'.toArray)/\RD w' (rg w) (opC x) cs'/\Fr [] w w':=by
 obtain⟨_,rfl,h1⟩:=RD.invC (x:=.string x.name) hd
 obtain⟨v0,_,rfl,hp,h2⟩:=RD.inv h1
 obtain⟨v1,_,rfl,ha,hn⟩:=RD.inv h2
 obtain rfl:=hn.inv0
 refine enter func151 rfl ntmps151 rfl ?_
 refine rx ?_
 refine s_boxN (l:=[.string x.name,v0,v1]) rfl rfl (fun w1 b hbe hb hf1 hs1=>?_)
 refine rx ?_
 refine s_allocN (l:=[zT,zS,zS]) rfl (fun w2 r hre hr hf2 hs2=>?_)
 have hb:=hb.tr0 hf2
 have hF2:Fr [] w w2:=hf1.trans0 hf2
 refine rx ?_
 refine s_c1 (clParams x.params v0 w2 S (hp.tr0 hF2) (fun x hx cs u S h=>clParamC x cs u S h)) ?_
 rintro v2 w3 ⟨hv,hf3⟩
 have hs3:=hf3.size
 have hb:=hb.tr0 hf3
 have hr:=hr.tr0 hf3
 have hF3:Fr [] w w3:=hF2.trans0 hf3
 have hv:=hv.down (w0:=w2) Yhd
 refine rx ?_
 ((with_reducible apply s_storeB);exact rfl;(conv=>lhs;whnf);exact hv.one;exact hb;exact rfl)
 intro w4 hb hf4 hs4
 replace hb:Blk w4 b [.string x.name,v2,v1] 179:=hb
 have hr:=hr.tr hf4 Yhj
 have hF4:Fr [] w w4:=hF3.trans hf4 (fun x hx=>.inr Yhg)
 have hv:=hv.old hf4 (in_rg Yhd)
 refine rx ?_
 refine s_c1 (clActs x.acts v1 w4 S (ha.tr0 hF4) (fun x hx cs u S h=>clActC x cs u S h)) ?_
 rintro v3 w5 ⟨hv2,hf5⟩
 have hs5:=hf5.size
 have hb:=hb.tr0 hf5
 have hr:=hr.tr0 hf5
 have hF5:Fr [] w w5:=hF4.trans0 hf5
 have hv:=hv.old hf5 Yhi
 have hv2:=hv2.down (w0:=w2) Yhd
 refine rx ?_
 ((with_reducible apply s_storeB);exact rfl;(conv=>lhs;whnf);exact hv2.one;exact hb;exact rfl)
 intro w6 hb hf6 hs6
 replace hb:Blk w6 b [.string x.name,v2,v3] 179:=hb
 have hr:=hr.tr hf6 Yhj
 have hF6:Fr [] w w6:=hF5.trans hf6 (fun x hx=>.inr Yhg)
 have hv:=hv.old hf6 (in_rg Yhd)
 have hv2:=hv2.old hf6 (in_rg Yhd)
 refine rx ?_
 have hdr:RD w6 (rg w2) (opC x) [.string x.name,v2,v3]:=.cons (.c rfl) (.cons hv (.cons hv2 .nil))
 refine s_storeAggB (cs:=[.string x.name,v2,v3]) rfl rfl hr (RD.one hdr) rfl rfl (fun u hr2 hfu hsu=>?_)
 exact Ych
set_option maxHeartbeats 8000000 in
theorem clCmdC(x:Cm)(cs:List Value)(w:World)(S:List Nat)(hd:RD w S (cmC x) cs):Calls prog 149 #[.agg cs.toArray] w fun e w'=>∃cs',e=.returned (.agg cs'.toArray)/\RD w' (rg w) (cmC x) cs'/\Fr [] w w':=by
 obtain⟨_,rfl,h1⟩:=RD.invC (x:=.string x.name) hd
 obtain⟨v0,_,rfl,hdd,h2⟩:=RD.inv h1
 obtain⟨g1,gn1,gc1,g2,gn2,gc2,g3,gn3,gc3,_,rfl,h3,h3'⟩:=RD.ex (e:=x.pre) h2
 obtain⟨k1,kn1,kc1,k2,kn2,kc2,k3,kn3,kc3,_,rfl,h4,h4'⟩:=RD.ex (e:=x.next) h3'
 obtain⟨m1,mn1,mc1,m2,mn2,mc2,m3,mn3,mc3,_,rfl,h5,h5'⟩:=RD.ex (e:=x.post) (ds:=[]) (by rw[List.append_nil];exact h4')
 obtain rfl:=h5'.inv0
 refine enter func149 rfl ntmps149 rfl ?_
 refine rx ?_
 refine s_boxN (l:=[.string x.name,v0,iV x.pre.kind,.string x.pre.name,iV x.pre.n,.slice g1 gn1 gc1,.slice g2 gn2 gc2,.slice g3 gn3 gc3,iV x.pre.at_,iV x.next.kind,.string x.next.name,iV x.next.n,.slice k1 kn1 kc1,.slice k2 kn2 kc2,.slice k3 kn3 kc3,iV x.next.at_,iV x.post.kind,.string x.post.name,iV x.post.n,.slice m1 mn1 mc1,.slice m2 mn2 mc2,.slice m3 mn3 mc3,iV x.post.at_]) rfl rfl (fun w1 b hbe hb hf1 hs1=>?_)
 refine rx ?_
 refine s_allocN (l:=[zT,zS,zI,zT,zI,zS,zS,zS,zI,zI,zT,zI,zS,zS,zS,zI,zI,zT,zI,zS,zS,zS,zI]) rfl (fun w2 r hre hr hf2 hs2=>?_)
 have hb:=hb.tr0 hf2
 have hF2:Fr [] w w2:=hf1.trans0 hf2
 refine rx ?_
 refine s_c1 (clDraws x.draws v0 w2 S (hdd.tr0 hF2) (fun x hx cs u S h=>clDrawC x cs u S h)) ?_
 rintro v1 w3 ⟨hv0,hf3⟩
 have hs3:=hf3.size
 have hb:=hb.tr0 hf3
 have hr:=hr.tr0 hf3
 have hF3:Fr [] w w3:=hF2.trans0 hf3
 have hv0:=hv0.down (w0:=w2) Yhd
 refine rx ?_
 ((with_reducible apply s_storeB);exact rfl;(conv=>lhs;whnf);exact hv0.one;exact hb;exact rfl)
 intro w4 hb hf4 hs4
 replace hb:Blk w4 b [.string x.name,v1,iV x.pre.kind,.string x.pre.name,iV x.pre.n,.slice g1 gn1 gc1,.slice g2 gn2 gc2,.slice g3 gn3 gc3,iV x.pre.at_,iV x.next.kind,.string x.next.name,iV x.next.n,.slice k1 kn1 kc1,.slice k2 kn2 kc2,.slice k3 kn3 kc3,iV x.next.at_,iV x.post.kind,.string x.post.name,iV x.post.n,.slice m1 mn1 mc1,.slice m2 mn2 mc2,.slice m3 mn3 mc3,iV x.post.at_] 176:=hb
 have hr:=hr.tr hf4 Yhj
 have hF4:Fr [] w w4:=hF3.trans hf4 (fun x hx=>.inr Yhg)
 have hv0:=hv0.old hf4 (in_rg Yhd)
 refine rx ?_
 refine u_begin 10 (fun z=>True/\Blk z b [.string x.name,v1,iV x.pre.kind,.string x.pre.name,iV x.pre.n,.slice g1 gn1 gc1,.slice g2 gn2 gc2,.slice g3 gn3 gc3,iV x.pre.at_,iV x.next.kind,.string x.next.name,iV x.next.n,.slice k1 kn1 kc1,.slice k2 kn2 kc2,.slice k3 kn3 kc3,iV x.next.at_,iV x.post.kind,.string x.post.name,iV x.post.n,.slice m1 mn1 mc1,.slice m2 mn2 mc2,.slice m3 mn3 mc3,iV x.post.at_] 176) Yhf rfl ?_
 obtain⟨w5,hw5⟩:=exq w4.drew
 rw[<-hw5]
 have hf5:Fr [] w4 w5:=hw5▸Fr.drew _ _
 have hs5:=hf5.size
 have hb:=hb.tr0 hf5
 have hr:=hr.tr0 hf5
 have hF5:Fr [] w w5:=hF4.trans0 hf5
 have hv0:=hv0.old hf5 Yhi
 ((refine u_tx 0 (And.intro trivial hb) ?_);(refine u_tx 1 (And.intro trivial hb) ?_))
 ((refine u_tx 3 (And.intro trivial hb) ?_);(refine u_tx 4 (And.intro trivial hb) ?_))
 ((refine u_tx 6 (And.intro trivial hb) ?_);(refine u_tx 7 (And.intro trivial hb) ?_))
 refine u_one (i:=2) rfl Yhf ?_
 refine s_c1 (clExprC x.pre _ w5 S (h3.tr0 hF5)) ?_
 rintro cs1 w6 ⟨hv,hf6⟩
 have hs6:=hf6.size
 have hb:=hb.tr0 hf6
 have hr:=hr.tr0 hf6
 have hF6:Fr [] w w6:=hF5.trans0 hf6
 have hv0:=hv0.old hf6 Yhi
 have hv:=hv.down (w0:=w2) Yhd
 obtain⟨y1,y2,y3,rfl,_,_,_⟩:=exR.1 hv
 refine Yga ?_
 ((refine u_tx 9 (And.intro trivial hb) ?_))
 refine Ygb ?_
 refine s_c1 (clExprC x.next _ w6 S (h4.tr0 hF6)) ?_
 rintro cs2 w7 ⟨hv2,hf7⟩
 have hs7:=hf7.size
 have hb:=hb.tr0 hf7
 have hr:=hr.tr0 hf7
 have hF7:Fr [] w w7:=hF6.trans0 hf7
 have hv0:=hv0.old hf7 Yhi
 have hv:=hv.old hf7 Yhi
 have hv2:=hv2.down (w0:=w2) Yhd
 obtain⟨z1,z2,z3,rfl,_,_,_⟩:=exR.1 hv2
 refine Yga ?_
 refine Ygd ?_
 refine s_c1 (clExprC x.post _ w7 S (h5.tr0 hF7)) ?_
 rintro cs3 w8 ⟨hv3,hf8⟩
 have hs8:=hf8.size
 have hb:=hb.tr0 hf8
 have hr:=hr.tr0 hf8
 have hF8:Fr [] w w8:=hF7.trans0 hf8
 have hv0:=hv0.old hf8 Yhi
 have hv:=hv.old hf8 Yhi
 have hv2:=hv2.old hf8 Yhi
 have hv3:=hv3.down (w0:=w2) Yhd
 obtain⟨t1,t2,t3,rfl,_,_,_⟩:=exR.1 hv3
 refine Yga ?_
 refine Yge ?_
 refine s_storeSubB (cs:=[iV x.pre.kind,.string x.pre.name,iV x.pre.n,y1,y2,y3,iV x.pre.at_]) rfl rfl hb (RD.one hv) Yhi rfl (fun w9 hb hf9 hs9=>?_)
 replace hb:Blk w9 b [.string x.name,v1,iV x.pre.kind,.string x.pre.name,iV x.pre.n,y1,y2,y3,iV x.pre.at_,iV x.next.kind,.string x.next.name,iV x.next.n,.slice k1 kn1 kc1,.slice k2 kn2 kc2,.slice k3 kn3 kc3,iV x.next.at_,iV x.post.kind,.string x.post.name,iV x.post.n,.slice m1 mn1 mc1,.slice m2 mn2 mc2,.slice m3 mn3 mc3,iV x.post.at_] 176:=hb
 have hr:=hr.tr hf9 Yhj
 have hF9:Fr [] w w9:=hF8.trans hf9 (fun x hx=>.inr Yhg)
 have hv0:=hv0.old hf9 (in_rg Yhd)
 have hv2:=hv2.old hf9 (in_rg Yhd)
 have hv3:=hv3.old hf9 (in_rg Yhd)
 have hv:=hv.old hf9 (in_rg Yhd)
 refine Ygf ?_
 refine u_one (i:=11) rfl Yhf ?_
 refine s_fieldAddr rfl ?_
 rw[add_lit]
 refine Ygf ?_
 refine u_one (i:=12) rfl Yhf ?_
 refine s_storeSubB (cs:=[iV x.next.kind,.string x.next.name,iV x.next.n,z1,z2,z3,iV x.next.at_]) rfl rfl hb (RD.one hv2) Yhi rfl (fun w10 hb hf10 hs10=>?_)
 replace hb:Blk w10 b [.string x.name,v1,iV x.pre.kind,.string x.pre.name,iV x.pre.n,y1,y2,y3,iV x.pre.at_,iV x.next.kind,.string x.next.name,iV x.next.n,z1,z2,z3,iV x.next.at_,iV x.post.kind,.string x.post.name,iV x.post.n,.slice m1 mn1 mc1,.slice m2 mn2 mc2,.slice m3 mn3 mc3,iV x.post.at_] 176:=hb
 have hr:=hr.tr hf10 Yhj
 have hF10:Fr [] w w10:=hF9.trans hf10 (fun x hx=>.inr Yhg)
 have hv0:=hv0.old hf10 (in_rg Yhd)
 have hv3:=hv3.old hf10 (in_rg Yhd)
 have hv:=hv.old hf10 (in_rg Yhd)
 have hv2:=hv2.old hf10 (in_rg Yhd)
 refine Ygf ?_
 refine u_one (i:=13) rfl Yhf ?_
 refine s_fieldAddr rfl ?_
 rw[add_lit]
 refine Ygf ?_
 refine u_one (i:=14) rfl Yhf ?_
 refine s_storeSubB (cs:=[iV x.post.kind,.string x.post.name,iV x.post.n,t1,t2,t3,iV x.post.at_]) rfl rfl hb (RD.one hv3) Yhi rfl (fun w11 hb hf11 hs11=>?_)
 replace hb:Blk w11 b [.string x.name,v1,iV x.pre.kind,.string x.pre.name,iV x.pre.n,y1,y2,y3,iV x.pre.at_,iV x.next.kind,.string x.next.name,iV x.next.n,z1,z2,z3,iV x.next.at_,iV x.post.kind,.string x.post.name,iV x.post.n,t1,t2,t3,iV x.post.at_] 176:=hb
 have hr:=hr.tr hf11 Yhj
 have hF11:Fr [] w w11:=hF10.trans hf11 (fun x hx=>.inr Yhg)
 have hv0:=hv0.old hf11 (in_rg Yhd)
 have hv:=hv.old hf11 (in_rg Yhd)
 have hv2:=hv2.old hf11 (in_rg Yhd)
 have hv3:=hv3.old hf11 (in_rg Yhd)
 refine Yeo ?_
 have hdr:RD w11 (rg w2) (cmC x) [.string x.name,v1,iV x.pre.kind,.string x.pre.name,iV x.pre.n,y1,y2,y3,iV x.pre.at_,iV x.next.kind,.string x.next.name,iV x.next.n,z1,z2,z3,iV x.next.at_,iV x.post.kind,.string x.post.name,iV x.post.n,t1,t2,t3,iV x.post.at_]:=.cons (.c rfl) (.cons hv0 (hv.app (hv2.app hv3)))
 refine s_storeAggB (cs:=[.string x.name,v1,iV x.pre.kind,.string x.pre.name,iV x.pre.n,y1,y2,y3,iV x.pre.at_,iV x.next.kind,.string x.next.name,iV x.next.n,z1,z2,z3,iV x.next.at_,iV x.post.kind,.string x.post.name,iV x.post.n,t1,t2,t3,iV x.post.at_]) rfl rfl hr (RD.one hdr) rfl rfl (fun u hr2 hfu hsu=>?_)
 refine rx ?_
 refine retB rfl rfl hr2 rfl ⟨_,rfl,(hdr.old hfu (in_rg Yhd)).down Yhd,hF11.trans hfu (fun x hx=>.inr Yhg)⟩
end Go.Proofs.YtggmccicdhnkgaaGreat
namespace Go.Proofs.YtggmccicdhnkgaaGreat
open Go.Proofs.Tryz
open Go.Rf Go.RowKit
variable{o:Bs}{r:List Tk}{al:List Value}{fid k:Nat}{α:Type}
attribute [local irreducible] Code.wp wpList Exit.then Exit.inBlock bodyPost A Calls execOp Addr.add
def opsG(k:Nat)(sub:Nat->List Tk->Option (Ex×List Tk)):Nat->Int->Ex->List Tk->Bs->Option (Ex×List Tk)
 |_,_,e,r,[]=>some (e,r)
 |0,_,_,_,_::_=>none
 |f+1,a,e,r,c::o=>(sub f r.tail).bind fun y=>opsG k sub f a ⟨9,bst (c::o),0,[],[],[e,y.1],a⟩ y.2 (if k=4 then[] else(operT k y.2).getD [])
theorem oper_isT(h:(operT k r).getD []=o)(ho:o≠[]):takeT o r=some r.tail:=by
 cases hq:operT k r with
 |none=>rw[hq]at h;exact absurd h.symm ho
 |some o'=>
  rw[hq]at h
  simp only[Option.getD_some]at h
  subst h
  have:=List.find?_some hq
  simp only[takeT,this,if_true]
theorem pLevC(k:Nat)(hk:k=1\/k=2\/k=4\/k=5\/k=6)(s1:Int->List Tk->Option (Ex×List Tk))(sub:Int->Nat->List Tk->Option (Ex×List Tk))(f:Nat)(ih1:PC 166 [iV ((k:Int)+1)] s1 exC)
 (ih:∀f'<f,PC 166 [iV ((k:Int)+1)] (fun n=>sub n f') exC):
 PC 166 [iV (k:Int)] (fun n r=>(s1 n r).bind fun y=>opsG k (sub n) f (atT n r) y.1 y.2 ((operT k y.2).getD [])) exC:=by
 intro bd p n r w x r' hP hg
 simp only at hg
 obtain⟨⟨e1,r1⟩,h1,hg⟩:=bind_some hg
 simp only at hg
 refine enter func166 rfl ntmps166 rfl ?_
 refine rx ?_
 refine s_allocN (l:=[zI,zT,zI,zS,zS,zS,zI]) rfl (fun w0 q hqq hbq hf0 hs0=>?_);have hP0:=hP.tr0 hf0;have hF0:Fr [p] w w0:=hf0.mono Yhi;have hbd:bd<=w.heap.size:=hP.le;have hpw:p<w.heap.size:=Nat.lt_of_lt_of_le hP.lt hbd
 refine rx ?_
 refine s_cE (pAt p n _ _ hP0) ?_;rintro w1 hf1;have hP1:=hP0.tr0 hf1;have hF1:=hF0.trans0 hf1;have hs1:=hf1.size
 have hbq:=hbq.tr hf1 Yhe
 refine rx ?_
 refine s_c1 (ih1 bd p n _ _ _ _ hP1 h1) ?_;rintro cs w2 ⟨hd,hP2,hf2⟩;have hF2:=hF1.trans hf2 Yhc;have hs2:=hf2.size
 have hbq:=hbq.tr hf2 Yhe
 have hl:cs.length=7:=by rw[hd.len,exC_len]
 refine s_var (l:=[zI,zT,zI,zS,zS,zS,zI]) (cs:=cs) rfl rfl hl hd.one rfl (fun v=>rfl) (fun w3 a hqa hba hf3 hs3=>?_);have hP3:=hP2.tr0 hf3;have hF3:=hF2.trans0 hf3
 have hd:=hd.tell (Y:=a::rg w1) (in_cons Yhd) hf3
 have hbq:=hbq.tr hf3 Yhe
 refine rx ?_
 refine s_cE (pOperC k Yhd Yhd bd p n r1 w3 hP3) ?_
 rintro w4 hf4
 have hP4:=hP3.tr0 hf4;have hF4:=hF3.trans0 hf4
 have hs4:=hf4.size
 have hbq:=hbq.tr hf4 Yhe
 have hba:=hba.tr hf4 Yhe
 have hd:=hd.tr0 hf4
 refine rx ?_
 refine c_loopK 9 [7,8] (σ:=Nat×Ex×List Tk×Bs) (fun s g u=>g 7=.string (bst s.2.2.2)/\s.1<=f/\PS bd u p n s.2.2.1/\Fr [p] w u/\w4.heap.size<=u.heap.size/\Blk u q [zI,zT,zI,zS,zS,zS,zI] 95/\(∃cs,Blk u a cs 95/\RD u (a::rg w1) (exC s.2.1) cs)/\opsG k (sub n) s.1 (atT n r) s.2.1 s.2.2.1 s.2.2.2=some (x,r')/\(s.2.2.2≠[]->takeT s.2.2.2 s.2.2.1=some s.2.2.1.tail)) (fun s=>s.1) (f,e1,r1,(operT k r1).getD []) ⟨rfl,Nat.le_refl _,hP4,hF4,Nat.le_refl _,hbq,⟨cs,hba,hd⟩,hg,oper_isT rfl⟩ ?_
 clear hP hP0 hP1 hP2 hP3 hP4 hF0 hF1 hF2 hF3 hF4 hd hba hbq hl
 rintro⟨f',e,r2,o⟩ g u ⟨h7,hff,hP5,hF5,hs5,hbq,⟨cs,hba,hd⟩,hops,ho⟩
 simp only at h7 hff hP5 hF5 hs5 hbq hba hd hops ho
 rw[eq_upd h7]
 have hl:cs.length=7:=by rw[hd.len,exC_len]
 refine rx ?_
 cases o with
 |nil=>
  simp only[opsG,Option.some.injEq,Prod.mk.injEq]at hops
  obtain⟨rfl,rfl⟩:=hops
  refine s_neqE rfl rfl (fun h=>absurd rfl h) (fun _=>?_)
  refine rx ?_
  refine s_loadAggB rfl hba hl ?_
  refine s_storeAggB (cs:=cs) rfl rfl hbq hd.one rfl hl (fun u hu hfu hsu=>?_);refine rx ?_;exact retB rfl rfl hu hl (outC (w0:=w0) hqq Yhd Yhd Yhd hP5 hF5 hfu (hd.mono (fun b hb=>.inl Yih)))
 |cons c o=>
 refine s_neqE rfl rfl (fun _=>?_) (fun h=>absurd (bst_inj.1 h) Yhi)
 cases f' with
 |zero=>simp[opsG]at hops
 |succ f'=>
 simp only[opsG]at hops
 obtain⟨⟨e2,r3⟩,h2,hops⟩:=bind_some hops
 simp only at hops
 have h3:=ho Yhi
 refine rx ?_
 refine s_cE (cTake hP5 h3) ?_;rintro w6 ⟨hP6,hf6⟩;have hF6:=hF5.trans hf6 Yhc;have hs6:=hf6.size
 have hbq:=hbq.tr hf6 Yhe
 have hba:=hba.tr hf6 Yhe
 have hd:=hd.old hf6 (fun b hb=>.inl Yih)
 refine rx ?_
 refine s_c1 ((ih f' Yhd) bd p n _ _ _ _ hP6 h2) ?_;rintro cs2 w7 ⟨hd2,hP7,hf7⟩;have hF7:=hF6.trans hf7 Yhc;have hs7:=hf7.size
 have hbq:=hbq.tr hf7 Yhe
 have hba:=hba.tr hf7 Yhe
 have hd:=hd.old hf7 (fun b hb=>.inl Yih)
 have hl2:cs2.length=7:=by rw[hd2.len,exC_len]
 refine s_var (l:=[zI,zT,zI,zS,zS,zS,zI]) (cs:=cs2) rfl rfl hl2 hd2.one rfl (fun v=>rfl) (fun w8 b hqb hbb hf8 hs8=>?_);have hP8:=hP7.tr0 hf8;have hF8:=hF7.trans0 hf8
 have hbq:=hbq.tr hf8 Yhe
 have hba:=hba.tr hf8 Yhe
 have hd:=hd.tr0 hf8
 have hd2:=hd2.tr0 hf8
 refine rx ?_
 refine s_loadAggB rfl hba hl ?_
 refine s_loadAggB rfl hbb hl2 ?_
 refine s_rows2 rfl rfl hl hl2 rfl (fun w9 k2 hk2 hown hf9 hs9=>?_)
 have hP9:=hP8.tr0 hf9;have hF9:=hF8.trans0 hf9
 have hbq:=hbq.tr hf9 Yhe
 have hba:=hba.tr hf9 Yhe
 have hd:=hd.tr0 hf9
 have hd2:=hd2.tr0 hf9
 refine rx ?_
 refine s_build [iV 9,.string (bst (c::o)),zI,zS,zS,.slice (some ⟨k2,0,none⟩) 2 2,iV (atT n r)] rfl ?_
 have hd9:RD w9 (a::rg w1) (exC ⟨9,bst (c::o),0,[],[],[e,e2],atT n r⟩) [iV 9,.string (bst (c::o)),zI,zS,zS,.slice (some ⟨k2,0,none⟩) 2 2,iV (atT n r)]:=
  exR.2 ⟨_,_,_,rfl,.nil,.nil,drOwn (rows:=[exC e,exC e2]) hown (.cons hd (.one (hd2.mono (fun b hb=>.inl Yih)))) (by simp[exC_len]) Yhi Yhw⟩
 refine s_storeAggB (cs:=[iV 9,.string (bst (c::o)),zI,zS,zS,.slice (some ⟨k2,0,none⟩) 2 2,iV (atT n r)]) rfl rfl hba Yhk hl rfl (fun w10 hba hf10 hs10=>?_)
 have hP10:=hP9.tr hf10 Yhj
 have hF10:=hF9.trans hf10 (fun x hx=>.inr Yhg)
 have hbq:=hbq.tr hf10 Yhe
 have hd:=hd9.old hf10 Yhi
 refine rx ?_
 refine s_cE (pOperC k Yhd Yhd bd p n _ w10 hP10) ?_
 rintro w11 hf11
 have hP11:=hP10.tr0 hf11;have hF11:=hF10.trans0 hf11
 have hs11:=hf11.size
 have hbq:=hbq.tr hf11 Yhe
 have hba:=hba.tr hf11 Yhe
 have hd:=hd.tr0 hf11
 refine rx ?_
 refine s_eql rfl rfl (fun h4=>?_) (fun h4=>?_)
 .have h4':k=4:=by omega
  rw[if_pos h4']at hops
  refine rx ?_
  exact q_roundK (f',_,r3,[]) Yhh ⟨rfl,by simp only;omega,hP11,hF11,by omega,hbq,⟨_,hba,hd⟩,hops,fun h=>absurd rfl h⟩ Yhm
 .have h4':¬k=4:=by omega
  rw[if_neg h4']at hops
  refine rx ?_
  exact q_roundK (f',_,r3,(operT k r3).getD []) Yhh ⟨rfl,by simp only;omega,hP11,hF11,by omega,hbq,⟨_,hba,hd⟩,hops,oper_isT rfl⟩ Yhm
theorem oper_ne(h1:1<=k)(h6:k<=6)(h:operT k r=some o):o≠[]:=by
 have hm:=List.mem_of_find?_eq_some h
 have hk:k=1\/k=2\/k=3\/k=4\/k=5\/k=6:=by omega
 rintro rfl
 revert hm
 rcases hk with rfl|rfl|rfl|rfl|rfl|rfl<;>decide
theorem opsG_of(h1:1<=k)(h6:k<=6)(h4:¬k=4){sub:Nat->List Tk->Option (Ex×List Tk)}{ops:Nat->Int->Ex->List Tk->Option (Ex×List Tk)}(h0:∀a e r,ops 0 a e r=none)
 (hs:∀f a e r,ops (f+1) a e r=match operT k r with
  |none=>some (e,r)
  |some o=>(sub f r.tail).bind fun y=>ops f a ⟨9,bst o,0,[],[],[e,y.1],a⟩ y.2):∀(f:Nat) (a:Int) (e:Ex) (r:List Tk) (y:Ex×List Tk),ops f a e r=some y->opsG k sub f a e r ((operT k r).getD [])=some y
 |0,a,e,r,y,h=>by rw[h0]at h;cases h
 |f+1,a,e,r,y,h=>by
  rw[hs]at h
  cases hq:operT k r with
  |none=>
   rw[hq]at h
   simpa[opsG]using h
  |some o=>
   rw[hq]at h
   simp only at h
   have hne:=oper_ne h1 h6 hq
   cases o with
   |nil=>exact absurd rfl hne
   |cons c o=>
    obtain⟨z,h2,h3⟩:=bind_some h
    simp only[Option.getD_some,opsG,h2,Option.bind_some,if_neg h4]
    exact opsG_of h1 h6 h4 h0 hs f a _ _ y h3
theorem PC.of{g g':Int->List Tk->Option (α×List Tk)}{C:α->List Dt}(h:PC fid al g' C)(hg:∀n r y,g n r=some y->g' n r=some y):PC fid al g C:=
 fun bd p n r w x r' hP he=>h bd p n r w x r' hP (hg n r _ he)
theorem PL.of{g g':Int->List Tk->Option (α×List Tk)}{C:α->List (List Dt)}(h:PL fid al g' C)(hg:∀n r y,g n r=some y->g' n r=some y):PL fid al g C:=
 fun bd p n r w x r' hP he=>h bd p n r w x r' hP (hg n r _ he)
def levF:Nat->Int->Nat->List Tk->Option (Ex×List Tk)
 |1=>pLev1
 |2=>pLev2
 |3=>pLev3
 |4=>pLev4
 |5=>pLev5
 |6=>pLev6
 |_=>pOpnd
theorem pLevG(k:Nat)(hk:k=1\/k=2\/k=5\/k=6)(f:Nat)(ih:∀f'≤f,PC 166 [iV ((k:Int)+1)] (fun n=>levF (k+1) n f') exC):
 PC 166 [iV (k:Int)] (fun n=>levF k n (f+1)) exC:=by
 refine PC.of (pLevC k Yhd (fun n=>levF (k+1) n f) (fun n f'=>levF (k+1) n f') f (ih f (Nat.le_refl _)) (fun f' h=>ih f' Yhd)) (fun n r y h=>?_)
 rcases hk with rfl|rfl|rfl|rfl
 .change pLev1 n (f+1) r=some y at h
  change ((pLev2 n f r).bind fun y=>opsG 1 (pLev2 n) f (atT n r) y.1 y.2 ((operT 1 y.2).getD []))=some y
  simp only[pLev1]at h
  obtain⟨z,h1,h2⟩:=bind_some h
  rw[h1,Option.bind_some]
  exact opsG_of (ops:=pOps1 n) Yhd Yhd Yhd (fun _ _ _=>by rw[pOps1]) (fun _ _ _ t=>by rw[pOps1];cases operT 1 t<;>rfl) f _ _ _ y h2
 .change pLev2 n (f+1) r=some y at h
  change ((pLev3 n f r).bind fun y=>opsG 2 (pLev3 n) f (atT n r) y.1 y.2 ((operT 2 y.2).getD []))=some y
  simp only[pLev2]at h
  obtain⟨z,h1,h2⟩:=bind_some h
  rw[h1,Option.bind_some]
  exact opsG_of (ops:=pOps2 n) Yhd Yhd Yhd (fun _ _ _=>by rw[pOps2]) (fun _ _ _ t=>by rw[pOps2];cases operT 2 t<;>rfl) f _ _ _ y h2
 .change pLev5 n (f+1) r=some y at h
  change ((pLev6 n f r).bind fun y=>opsG 5 (pLev6 n) f (atT n r) y.1 y.2 ((operT 5 y.2).getD []))=some y
  simp only[pLev5]at h
  obtain⟨z,h1,h2⟩:=bind_some h
  rw[h1,Option.bind_some]
  exact opsG_of (ops:=pOps5 n) Yhd Yhd Yhd (fun _ _ _=>by rw[pOps5]) (fun _ _ _ t=>by rw[pOps5];cases operT 5 t<;>rfl) f _ _ _ y h2
 .change pLev6 n (f+1) r=some y at h
  change ((pOpnd n f r).bind fun y=>opsG 6 (pOpnd n) f (atT n r) y.1 y.2 ((operT 6 y.2).getD []))=some y
  simp only[pLev6]at h
  obtain⟨z,h1,h2⟩:=bind_some h
  rw[h1,Option.bind_some]
  exact opsG_of (ops:=pOps6 n) Yhd Yhd Yhd (fun _ _ _=>by rw[pOps6]) (fun _ _ _ t=>by rw[pOps6];cases operT 6 t<;>rfl) f _ _ _ y h2
theorem pLevG4(f:Nat)(ih:PC 166 [iV (((4:Nat):Int)+1)] (fun n=>levF 5 n f) exC):
 PC 166 [iV ((4:Nat):Int)] (fun n=>levF 4 n (f+1)) exC:=by
 refine PC.of (pLevC 4 Yhd (fun n=>levF 5 n f) (fun n f'=>levF 5 n f) 1 ih (fun f' h=>ih)) (fun n r y h=>?_)
 change pLev4 n (f+1) r=some y at h
 change ((pLev5 n f r).bind fun y=>opsG 4 (fun _=>pLev5 n f) 1 (atT n r) y.1 y.2 ((operT 4 y.2).getD []))=some y
 simp only[pLev4]at h
 obtain⟨z,h1,h2⟩:=bind_some h
 rw[h1,Option.bind_some]
 cases hq:operT 4 z.2 with
 |none=>
  rw[hq]at h2
  simpa[opsG]using h2
 |some o=>
  rw[hq]at h2
  simp only at h2
  have hne:=oper_ne Yhd Yhd hq
  cases o with
  |nil=>exact absurd rfl hne
  |cons c o=>
   obtain⟨b,h3,h4⟩:=bind_some h2
   simp only[Option.getD_some,opsG,h3,Option.bind_some,if_true]
   exact h4
end Go.Proofs.YtggmccicdhnkgaaGreat
