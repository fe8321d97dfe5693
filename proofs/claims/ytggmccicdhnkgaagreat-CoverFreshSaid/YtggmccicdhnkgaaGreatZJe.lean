/-
 New of package cover.
-/
import Derived.Test.YtggmccicdhnkgaaGreatZFgu1
import Derived.Test.YtggmccicdhnkgaaGreatZCo
import Derived.Test.YtggmccicdhnkgaaGreatZCq
set_option linter.all false
namespace Go.Rf
open Go.RowKit
theorem reachGo_fuel(ds:List De):∀(n n':Nat) (s:List ByteArray×List De),mu ds s<=n->mu ds s<=n'->reachGo ds n s=reachGo ds n' s
 |0,0,s,_,_=>rfl
 |0,n'+1,(seen,q),h,_=>by
  have:q=[]:=by unfold mu at h;exact List.eq_nil_of_length_eq_zero (by simp only at h;omega)
  subst this;rfl
 |n+1,0,(seen,q),_,h=>by
  have:q=[]:=by unfold mu at h;exact List.eq_nil_of_length_eq_zero (by simp only at h;omega)
  subst this;rfl
 |n+1,n'+1,(seen,[]),_,_=>rfl
 |n+1,n'+1,(seen,d::q),h,h'=>by
  have hm:=mu_fold ds (nodesEs (partsD d)) (seen,q)
  have hp:mu ds (seen,d::q)=mu ds (seen,q)+1:=by simp only[mu,List.length_cons];omega
  simp only[reachGo]
  rw[reachGo_fuel ds n n' _ Yhd Yhd]
structure SzD (d:De):Prop where
 parts:(partsD d).length<=100000
 brs:(ofD d).length<=11000
 dep:∀e∈partsD d,exD e<=1000
 cmds:d.cmds.length<=1000000
 calls:(callsE (nodesEs (partsD d))).length<=10000
theorem free_le(ds:List De)(seen:List ByteArray):freeD ds seen<=ds.length:=List.length_filter_le ..
theorem rootD_drop{ds:List De}{nm:ByteArray}{i:Nat}(hi:i<ds.length):rootD (ds.drop i) nm=if ds[i].name=nm/\ds[i].kind≠0/\ds[i].kind≠2 then some ds[i] else rootD (ds.drop (i+1)) nm:=by
 unfold rootD
 rw[List.drop_eq_getElem_cons hi,List.find?_cons]
 by_cases h:ds[i].name=nm/\ds[i].kind≠0/\ds[i].kind≠2<;>simp[h]
theorem cells_eq{w:World}{a:Addr}{l l':List Value}(h:Cells w a l)(h':Cells w a l')(hl:l.length=l'.length):l=l':=by
 apply List.ext_getElem hl
 intro i h1 h2
 have e1:=h i l[i] (List.getElem?_eq_getElem h1)
 have e2:=h' i l'[i] (List.getElem?_eq_getElem h2)
 rw[e1]at e2
 exact Option.some.inj e2
theorem rws_cons{α:Type}{R:α->List Value->Prop}{x:α}{l:List α}{ys:List Value}(h:Rws R (x::l) ys):∃cs ys',ys=cs++ys'/\R x cs/\Rws R l ys':=by
 cases h with
 |cons h1 h2=>exact⟨_,_,rfl,h1,h2⟩
theorem reachGo_nil(ds:List De)(n:Nat)(seen:List ByteArray):reachGo ds n (seen,[])=[]:=by cases n<;>rfl
def IdxR(w:World)(ds:List De)(nm:ByteArray)(e:Ending)(w':World):Prop:=Fr [] w w'/\((e=.returned (iV (-1))/\rootD ds nm=none)\/∃i,∃h:i<ds.length,e=.returned (iV (i:Int))/\rootD ds nm=some ds[i])
end Go.Rf
namespace Go.Proofs.YtggmccicdhnkgaaGreat
open Go.Proofs.Tryz
open Go.Rf Go.RowKit
attribute [local irreducible] Code.wp wpList Exit.then Exit.inBlock bodyPost A Calls execOp Addr.add
theorem run_true{σ:Type}{step:σ->Ex->σ}:∀{l:List Ex} {s:σ},Run (fun _ _=>True) step s l
 |[],s=>trivial
 |e::l,s=>⟨trivial,run_true⟩
set_option maxHeartbeats 8000000 in
theorem root1C(d:De)(nm:ByteArray)(bn tbn:Nat)(cs:List Value)(w:World)(S:List Nat)(hbn:Blk w bn [.string nm] tbn)(hd:RD w S (deC d) cs):
 Calls prog 41 #[.agg cs.toArray,.pointer (some ⟨bn,0,none⟩)] w fun e w'=>e=.returned (.bool (decide (d.name=nm/\d.kind≠0/\d.kind≠2)))/\Fr [] w w':=by
 obtain⟨_,rfl,r1⟩:=RD.invC (x:=iV d.kind) hd
 obtain⟨_,rfl,r2⟩:=RD.invC (x:=.string d.name) r1
 obtain⟨_,rfl,r3⟩:=RD.invC (x:=iV d.at_) r2
 obtain⟨ct,ctc,_,rfl,hct,r4⟩:=RD.lst (rows:=d.ctors.map ctC) r3
 obtain⟨pm,pmc,_,rfl,hpm,r5⟩:=RD.lst (rows:=d.params.map pmC) r4
 obtain⟨sty,_,rfl,hty,hk1,r6⟩:=RD.ty (t:=d.type) r5
 obtain⟨ty,tyc,rfl,_⟩:=hk1.slice
 obtain⟨bo1,bon1,boc1,bo2,bon2,boc2,bo3,bon3,boc3,_,rfl,hbo,r7⟩:=RD.ex (e:=d.body) r6
 obtain⟨_,rfl,r8⟩:=RD.invC (x:=iV d.depth) r7
 obtain⟨ge1,gen1,gec1,ge2,gen2,gec2,ge3,gen3,gec3,_,rfl,hge,r9⟩:=RD.gn (g:=d.gen) r8
 obtain⟨dw,dwc,_,rfl,hdw,r10⟩:=RD.lst (rows:=d.draws.map dwC) r9
 obtain⟨ck,ckc,_,rfl,hck,r11⟩:=RD.lst (rows:=d.checks.map ckC) r10
 obtain⟨cs,csc,_,rfl,hcs,r12⟩:=RD.lst (rows:=d.classes.map ckC) r11
 obtain⟨cl,clc,_,rfl,hcl,r13⟩:=RD.lst (rows:=d.claims.map clC) r12
 obtain⟨sst,_,rfl,hstt,hk2,r14⟩:=RD.ty (t:=d.state) r13
 obtain⟨st,stc,rfl,_⟩:=hk2.slice
 obtain⟨it1,itn1,itc1,it2,itn2,itc2,it3,itn3,itc3,_,rfl,hit,r15⟩:=RD.ex (e:=d.init) r14
 obtain⟨cm,cmc,_,rfl,hcm,r16⟩:=RD.lst (rows:=d.cmds.map cmC) r15
 obtain⟨op,opc,_,rfl,hop,r17⟩:=RD.lst (rows:=d.ops.map opC) r16
 obtain⟨rc1,rcn1,rcc1,rc2,rcn2,rcc2,rc3,rcn3,rcc3,_,rfl,hrc,r18⟩:=RD.ex (e:=d.recov) (ds:=[]) Yhz
 obtain rfl:=r18.inv0
 clear r1 r2 r3 r4 r5 r6 r7 r8 r9 r10 r11 r12 r13 r14 r15 r16 r17 r18 hk1 hk2
 refine enter func41 rfl ntmps41 rfl ?_
 refine rx ?_
 refine s_boxN (l:=[iV d.kind,.string d.name,iV d.at_,.slice ct (d.ctors.map ctC).length ctc,.slice pm (d.params.map pmC).length pmc,iV d.type.kind,.string d.type.name,.slice ty (d.type.kids.map tyC).length tyc,iV d.body.kind,.string d.body.name,iV d.body.n,.slice bo1 bon1 boc1,.slice bo2 bon2 boc2,.slice bo3 bon3 boc3,iV d.body.at_,iV d.depth,iV d.gen.kind,.string d.gen.name,.slice ge1 gen1 gec1,.slice ge2 gen2 gec2,.slice ge3 gen3 gec3,iV d.gen.at_,.slice dw (d.draws.map dwC).length dwc,.slice ck (d.checks.map ckC).length ckc,.slice cs (d.classes.map ckC).length csc,.slice cl (d.claims.map clC).length clc,iV d.state.kind,.string d.state.name,.slice st (d.state.kids.map tyC).length stc,iV d.init.kind,.string d.init.name,iV d.init.n,.slice it1 itn1 itc1,.slice it2 itn2 itc2,.slice it3 itn3 itc3,iV d.init.at_,.slice cm (d.cmds.map cmC).length cmc,.slice op (d.ops.map opC).length opc,iV d.recov.kind,.string d.recov.name,iV d.recov.n,.slice rc1 rcn1 rcc1,.slice rc2 rcn2 rcc2,.slice rc3 rcn3 rcc3,iV d.recov.at_]) rfl rfl (fun w1 b hbe hb hf1 hs1=>?_)
 have hbn:=hbn.tr0 hf1
 by_cases e1:d.name=nm
 case neg=>
  refine Yei ?_
  exact⟨by simp[e1],hf1⟩
 by_cases e2:d.kind=0
 .refine rx ?_
  refine Yfn ?_
  exact⟨by simp[e2],hf1⟩
 by_cases e3:d.kind=2
 .refine rx ?_
  refine Yfn ?_
  exact⟨by simp[e3],hf1⟩
 refine Yei ?_
 exact⟨by simp[e1,e2,e3],hf1⟩
set_option maxHeartbeats 8000000 in
theorem idxC(ds:List De)(nm:ByteArray)(bn tbn:Nat)(v:Value)(w:World)(S:List Nat)(hbn:Blk w bn [.string nm] tbn)(hd:DR w S (.l (ds.map deC)) v)(hl:ds.length<=1000000):
 Calls prog 40 #[v,.func (.func 41) #[] #[.pointer (some ⟨bn,0,none⟩)]] w (IdxR w ds nm):=by
 have hll:(ds.map deC).length=ds.length:=List.length_map ..
 obtain⟨ao,c,rfl,_⟩:=hd.slice
 rw[hll]at hd ⊢
 refine enter func40 rfl ntmps40 rfl ?_
 refine rx ?_
 refine c_loopK 5 [] (σ:=Nat) (fun i g u=>g 7=iV ds.length/\g 8=iV i/\i<=ds.length/\rootD (ds.drop i) nm=rootD ds nm/\Fr [] w u) (fun i=>ds.length-i) 0 ⟨rfl,rfl,Nat.zero_le _,rfl,Fr.refl _ _⟩ ?_
 rintro i g u ⟨g7,g8,hi,he,hF⟩
 rw[eq_upd g7,eq_upd g8]
 by_cases hlt:i<ds.length
 case neg=>
  refine Yei ?_
  refine⟨hF,.inl ⟨rfl,?_⟩⟩
  rw[<-he,List.drop_eq_nil_of_le Yhd];rfl
 obtain⟨ad,cs,had,hr,hc⟩:=DR.at deC_len (hd.tr0 hF) hlt
 subst had
 have hlen:cs.length=45:=by rw[hr.len,deC_len]
 rw[rootD_drop hlt]at he
 refine Yfi ?_
 refine s_callV (first:=[]) (cap:=[.pointer (some ⟨bn,0,none⟩)]) (root1C ds[i] nm bn tbn cs u S (hbn.tr0 hF) hr) rfl rfl rfl ?_
 rintro _ u1 ⟨rfl,hf1⟩
 refine⟨_,rfl,?_⟩
 by_cases hk:ds[i].name=nm/\ds[i].kind≠0/\ds[i].kind≠2
 .rw [decide_eq_true hk]
  rw[if_pos hk]at he
  refine Yei ?_
  exact⟨hF.trans0 hf1,.inr ⟨i,hlt,rfl,he.symm⟩⟩
 .rw [decide_eq_false hk]
  rw[if_neg hk]at he
  refine rx ?_
  exact q_roundK (i+1) Yhb ⟨rfl,rfl,hlt,he,hF.trans0 hf1⟩ Yhd
def RchI(ds:List De)(w:World)(bm tbm tm ttm mb ql tq:Nat)(vM:Value)(tot:List Br)(s:(List ByteArray×List De)×List Br×Value)(u:World):Prop:=
 Fr [] w u/\Blk u bm [vM] tbm/\Blk u tm [.map (some mb)] ttm/\Mp Value.string Value.bool u mb (seenM s.1.1)/\
 (∃v,Blk u ql [v] tq/\QW ([mb,ql]++blks s.2.2) u s.1.2 v/\(∀x∈blks v,w.heap.size<=x/\x≠mb/\x≠ql/\x≠bm/\x≠tm/\x∉blks s.2.2))/\
 BO w 50 u s.2.1 s.2.2/\(∀x∈blks s.2.2,x≠mb/\x≠ql/\x≠bm/\x≠tm)/\(∀d∈s.1.2,d∈ds)/\s.2.1++reachGo ds (mu ds s.1) s.1=tot/\mu ds s.1<=ds.length+1/\s.2.1.length+mu ds s.1*11000<=(ds.length+1)*11000
set_option maxHeartbeats 16000000 in
theorem reachC(ds:List De)(nm:ByteArray)(v0:Value)(w:World)(S0:List Nat)(hsz:∀d∈ds,SzD d)(hl:ds.length<=50)(hd:DR w S0 (.l (ds.map deC)) v0):
 Calls prog 11 #[.agg ([v0]:List Value).toArray,.string nm] w fun e w'=>∃v,e=.returned v/\BO w 50 w' (setL ltB (reachD ds nm)) v/\Fr [] w w':=by
 have hbd:=hd.bound
 have hll:(ds.map deC).length=ds.length:=List.length_map ..
 obtain⟨ao,c,hv0,_⟩:=hd.slice
 rw[hll]at hv0
 refine enter func11 rfl ntmps11 rfl ?_
 refine rx ?_
 refine s_boxN (l:=[v0]) rfl rfl (fun w1 bm hbme hbm hf1 hs1=>?_)
 refine rx ?_
 refine s_boxN (l:=[.string nm]) rfl rfl (fun w2 bn hbne hbn hf2 hs2=>?_)
 have hbm:=hbm.tr0 hf2
 have hF2:=hf1.trans0 hf2
 refine rx ?_
 refine s_makeFunc (a:=[]) (b:=[.pointer (some ⟨bn,0,none⟩)]) rfl rfl ?_
 refine rx ?_
 refine s_call (idxC ds nm bn _ v0 w2 S0 hbn (hd.tr0 hF2) Yhd) rfl ?_
 rintro _ w3 ⟨hf3,hcase⟩
 have hF3:=hF2.trans0 hf3
 have hbm:=hbm.tr0 hf3
 have hs3:=hf3.size
 rcases hcase with⟨rfl,hn⟩|⟨i,hi,rfl,hn⟩
 .refine ⟨_,rfl,?_⟩
  refine Yei ?_
  refine⟨_,rfl,?_,hF3⟩
  unfold reachD
  rw[hn]
  exact BO.nil
 refine⟨_,rfl,?_⟩
 refine rx ?_
 refine s_makeMap (key:=Value.string) (val:=Value.bool) (fun w4 hmp hf4 hs4=>?_)
 obtain⟨mb,hmb⟩:=exq w3.heap.size
 rw[<-hmb]at hmp ⊢
 refine rx ?_
 refine s_allocN (l:=[.map none]) rfl (fun w5 tm htme htm hf5 hs5=>?_)
 have hmp:=hmp.tr0 hf5
 refine rx ?_
 ((with_reducible apply s_storeB);exact rfl;(conv=>lhs;whnf);exact rfl;exact htm;exact rfl)
 intro w6 htm hf6 hs6
 replace htm:Blk w6 tm [.map (some mb)] _:=htm
 have hmp:=hmp.tr hf6 Yhj
 have hbm:=((hbm.tr0 hf4).tr0 hf5).tr hf6 Yhj
 have hF6:Fr [] w w6:=((hF3.trans0 hf4).trans0 hf5).trans hf6 (fun x hx=>.inr Yhg)
 have hd6:=hd.tr0 hF6
 obtain⟨ad,cs,had,hr,hc⟩:=DR.at deC_len (hv0▸hd6) hi
 subst had
 have hlen:cs.length=45:=by rw[hr.len,deC_len]
 subst hv0
 refine Yfi ?_
 refine s_rows1 (c1:=cs) rfl hlen rfl (fun w7 qq hqq ho hf7 hs7=>?_)
 have hbm:=hbm.tr0 hf7
 have htm:=htm.tr0 hf7
 have hmp:=hmp.tr0 hf7
 refine rx ?_
 refine s_allocN (l:=[zS]) rfl (fun w8 ql hqle hql hf8 hs8=>?_)
 have hbm:=hbm.tr0 hf8
 have htm:=htm.tr0 hf8
 have hmp:=hmp.tr0 hf8
 have ho:=ho.tr0 hf8
 refine rx ?_
 ((with_reducible apply s_storeB);exact rfl;(conv=>lhs;whnf);exact rfl;exact hql;exact rfl)
 intro w9 hql hf9 hs9
 replace hql:Blk w9 ql [.slice (some ⟨qq,0,none⟩) 1 1] _:=hql
 have hF9:Fr [] w w9:=((hF6.trans0 hf7).trans0 hf8).trans hf9 (fun x hx=>.inr Yhg)
 have hr9:RD w9 ([mb,ql]++blks (.slice (some ⟨qq,0,none⟩) 1 1)) (deC ds[i]) cs:=by
  have h1:=DR.at deC_len hd hi
  have h2:=(hd.mono (T:=[mb,ql]++blks (.slice (some ⟨qq,0,none⟩) 1 1)) (fun b hb=>by
   right
   simp[blks,Value.ownBlock]at hb
   omega))
  obtain⟨ad',cs',e1,h3,h4⟩:=DR.at deC_len (h2.tr0 hF6) hi
  cases e1
  have e2:cs'=cs:=cells_eq h4 hc (by rw[h3.len,hr.len])
  rw[e2]at h3
  exact((h3.tr0 hf7).tr0 hf8).old hf9 (fun b hb=>.inl Yja)
 have hQ9:QW ([mb,ql]++blks (zS)) w9 [ds[i]] (.slice (some ⟨qq,0,none⟩) 1 1):=⟨cs,(WOwn.ofOwn ho Yhi).tr hf9 Yiy,Rws.one hr9⟩
 have hmu0:mu ds ([],[ds[i]])<=ds.length+1:=by have:=free_le ds [];simp only[mu,List.length_singleton];omega
 have htot:[]++reachGo ds (mu ds ([],[ds[i]])) ([],[ds[i]])=reachD ds nm:=by
  unfold reachD
  rw[hn]
  exact reachGo_fuel ds _ _ _ (Nat.le_refl _) Yhd
 have hmp9:Mp Value.string Value.bool w9 mb (seenM []):=hmp.tr hf9 Yhj
 have hbm9:=hbm.tr hf9 Yhj
 have htm9:=htm.tr hf9 Yhj
 refine rx ?_
 refine c_loopK 9 [6] (σ:=(List ByteArray×List De)×List Br×Value) (fun s g u=>g 6=s.2.2/\RchI ds w bm _ tm _ mb ql _ _ (reachD ds nm) s u) (fun s=>mu ds s.1) (([],[ds[i]]),[],zS) ⟨rfl,hF9,hbm9,htm9,hmp9,⟨_,hql,hQ9,fun x hx=>?_⟩,BO.nil,by simp[blks,Value.ownBlock],by simp,htot,hmu0,by simp only[List.length_nil];omega⟩ ?_
 .simp [blks,Value.ownBlock]at hx
  simp[blks,Value.ownBlock]
  omega
 have hids:w.heap.size<=mb/\w.heap.size<=ql/\w.heap.size<=bm/\w.heap.size<=tm/\ql≠bm/\ql≠tm:=by omega
 clear hF9 hbm9 htm9 hmp9 hQ9 hr9 hql ho hbm htm hmp hf1 hf2 hf3 hf4 hf5 hf6 hf7 hf8 hf9 hr hc hbn hd6 htot hF2 hF3 hF6
 rintro⟨⟨seen,q⟩,acc,va⟩ g u ⟨g6,hF,hbm,htm,hmp,⟨v,hql,hQ,hv⟩,hB,hva,hq,htot,hmu,hal⟩
 simp only at g6 hmp hQ hB hva hq htot hmu hal hv
 rw[eq_upd g6]
 have hQ0:=hQ
 obtain⟨xs,hw,hrw⟩:=hQ
 cases q with
 |nil=>
  obtain⟨_,g0,o0,cap,cur,rfl,_⟩:=hw
  simp only[mu,reachGo_nil,List.append_nil]at htot
  replace hql:Blk u ql [.slice (some ⟨g0,o0,none⟩) 0 cap] _:=hql
  refine rx ?_
  refine s_c1 (setC acc va u (hB.dr Yhd) Yhd) ?_
  rintro v1 u1 ⟨hB1,hf1⟩
  refine Yei ?_
  rw[htot]at hB1
  exact⟨v1,rfl,⟨hB1.1,fun x hx=>by have:=hB1.2 x hx;have:=hF.size;omega⟩,hF.trans0 hf1⟩
 |cons d q=>
  obtain⟨cs,xs',rfl,hr,hrw'⟩:=rws_cons hrw
  simp only[List.length_cons]at hw
  have hlen:cs.length=45:=by rw[hr.len,deC_len]
  have hsz1:=hsz d (hq d Yhi)
  have hw0:=hw
  obtain⟨_,g0,o0,cap,cur,rfl,_,hnc,hcm,_⟩:=hw0
  have hmp1:mu ds (seen,d::q)=mu ds (seen,q)+1:=by simp only[mu,List.length_cons];omega
  have hcd:Cells u ((⟨g0,o0,none⟩:Addr).add (0*45)) cs:=fun j x hx=>by
   have:=hw.cells j x (by rw[List.getElem?_append_left (List.getElem?_eq_some_iff.1 hx).1];exact hx)
   rw[add_lit,add_lit]
   rw[add_lit]at this
   rw[Nat.zero_mul,Nat.add_zero]
   exact this
  have hgu:g0<u.heap.size:=hw.lt g0 Yhs
  have hgv:=hv g0 Yhs
  have hsu:=hF.size
  have hmlt:=hmp.lt
  have hqlt:=hql.lt
  have hmq:mb≠ql:=hmp.ne hql
  have hmbm:mb≠bm:=hmp.ne hbm
  have hmtm:mb≠tm:=hmp.ne htm
  have hvlt:∀x∈blks va,x<u.heap.size:=hB.1.lt
  refine rx ?_
  refine s_indexAddr (j:=0) rfl rfl rfl Yhd rfl ?_
  refine s_loadAggC rfl hcd hlen ?_
  refine rx ?_
  refine s_allocN (l:=[zI,zT,zI,zS,zS,zI,zT,zS,zI,zT,zI,zS,zS,zS,zI,zI,zI,zT,zS,zS,zS,zI,zS,zS,zS,zS,zI,zT,zS,zI,zT,zI,zS,zS,zS,zI,zS,zS,zI,zT,zI,zS,zS,zS,zI]) rfl (fun u1 bd hbde hbd1 hf1 hs1=>?_)
  refine rx ?_
  refine s_storeAggB (cs:=cs) rfl rfl hbd1 (RD.one hr) rfl hlen (fun u2 hbd2 hf2 hs2=>?_)
  have hF2:Fr [] u u2:=hf1.trans hf2 (fun x hx=>.inr Yhg)
  have hql2:=hql.tr0 hF2
  refine rx ?_
  refine s_cut1 (hw.tr0 hF2) hlen rfl rfl (fun v' hw2 hbv'=>?_)
  have h1v:v'.oneCell'=true:=by obtain⟨_,_,_,_,_,rfl,_⟩:=hw2;rfl
  refine rx ?_
  ((with_reducible apply s_storeB);exact rfl;(conv=>lhs;whnf);exact h1v;exact hql2;exact rfl)
  intro u3 hql3 hf3 hs3
  replace hql3:Blk u3 ql [v'] _:=hql3
  have hb3:∀x∈blks v',x∉[ql]:=fun x hx hm=>by rw[hbv']at hx;have:=hv x hx;rw[List.mem_singleton.1 hm]at this;exact this.2.2.1 rfl
  have hw3:=hw2.tr hf3 hb3
  have hbd3:=hbd2.tr hf3 Yhj
  have hF3:Fr [ql] u u3:=(hF2.mono Yhi).trans hf3 (fun x hx=>.inl hx)
  obtain⟨im,iq,ib,it,iqb,iqt⟩:=hids
  have hvb:∀x∈blks v',x<u.heap.size/\w.heap.size<=x/\x≠mb/\x≠ql/\x≠bm/\x≠tm/\x∉blks va:=fun x hx=>by
   rw[hbv']at hx
   exact⟨hw.lt x hx,hv x hx⟩
  have hs13:=hF3.size
  have hS3:∀x∈([mb,ql]++blks va)++blks v',x<u3.heap.size:=fun x hx=>by
   simp only[List.mem_append,List.mem_cons,List.not_mem_nil,or_false]at hx
   rcases hx with((rfl|rfl)|hx)|hx
   .omega
   .omega
   .have:=hvlt x hx;omega
   .have:=(hvb x hx).1;omega
  have hr3:RD u3 (([mb,ql]++blks va)++blks v') (deC d) cs:=by rw[hbv'];exact hr.old hF3 (fun b hb=>.inl Yja)
  refine rx ?_
  refine s_loadAggB rfl hbd3 hlen ?_
  refine rx ?_
  refine s_c1 (ofC d (by have:=hsz1.parts;omega) (by have:=hsz1.brs;omega) hsz1.dep cs u3 _ hS3 hr3) ?_
  rintro vo u4 ⟨hBo,hf4⟩
  have hF4:Fr [ql] u u4:=hF3.trans0 hf4
  have hvaq:∀x∈blks va,x∉[ql]:=fun x hx hm=>(hva x hx).2.1 (List.mem_singleton.1 hm)
  have hs4:=hF4.size
  have hoflen:=hsz1.brs
  refine rx ?_
  refine s_append (hB.1.tr hF4 hvaq) rfl hBo.1.src rfl (brV_flen _) (brV_one _) Yhl Yhd (fun va' u5 hoa hf5 hk5 _=>?_)
  have hF5:Fr ([ql]++blks va) u u5:=(hF4.mono Yhi).trans hf5 (fun x hx=>.inl Yim)
  have hs5:=hf5.size
  have hva':∀x∈blks va',w.heap.size<=x/\x≠mb/\x≠ql/\x≠bm/\x≠tm/\x∉blks v':=fun x hx=>by
   have hbmlt:=hbm.lt
   have htmlt:=htm.lt
   rcases hk5 x hx with h|h
   .have h1:=hva x h
    have h2:=hB.2 x h
    exact⟨h2,h1.1,h1.2.1,h1.2.2.1,h1.2.2.2,fun hm=>(hvb x hm).2.2.2.2.2.2 h⟩
   .refine ⟨by omega,by omega,by omega,by omega,by omega,fun hm=>by have:=(hvb x hm).1;omega⟩
  have hval:∀x∈blks va',x<u5.heap.size:=hoa.lt
  obtain⟨S6,hS6⟩:=exq (([mb,ql]++blks va')++blks v')
  obtain⟨T6,hT6⟩:=exq ([mb,ql]++blks v')
  have hTm:∀{x:Nat},x∈T6->x=mb\/x=ql\/x∈blks v':=fun{x} hx=>by
   rw[hT6]at hx
   simpa[or_assoc]using hx
  have hTS:∀x∈T6,x∈S6:=fun x hx=>by
   rw[hS6]
   rcases hTm hx with rfl|rfl|h
   .simp
   .simp
   .simp [h]
  have hSlt:∀x∈S6,x<u5.heap.size:=fun x hx=>by
   rw[hS6]at hx
   simp only[List.mem_append,List.mem_cons,List.not_mem_nil,or_false]at hx
   rcases hx with((rfl|rfl)|hx)|hx
   .omega
   .omega
   .exact hval x hx
   .have:=(hvb x hx).1;omega
  have hold:∀{dd:De} {cc:List Value},RD u (([mb,ql]++blks va)++blks (Value.slice (some ⟨g0,o0,none⟩) (q.length+1) cap)) (deC dd) cc->RD u5 S6 (deC dd) cc:=fun{dd cc} hh=>by
   have h1:=hh.old (T:=[ql]++blks va) hF5 (fun b hb=>.inl (by
    rcases List.mem_append.1 hb with h|h
    .rw [List.mem_singleton.1 h];simp
    .simp [h]))
   have h2:=hh.mono (T:=(([mb,ql]++blks va)++blks va')++blks v') (fun b hb=>by
    simp only[List.mem_append]at hb
    rcases hb with((h|h)|h)|h
    .exact .inl (List.mem_append_left _ (List.mem_append_left _ h))
    .exact .inl (by simp[h])
    .rcases hk5 b h with h|h
     .exact .inl (by simp[h])
     .exact .inr Yhd
    .rw [hbv']at h;exact .inl (by simp[h]))
   have h3:=h2.old (T:=[ql]++blks va) hF5 (fun b hb=>.inl (by
    rcases List.mem_append.1 hb with h|h
    .rw [List.mem_singleton.1 h];simp
    .simp [h]))
   exact h3.mono (fun b hb=>.inl (by rw[hS6]at hb;rw[List.mem_append,List.mem_append]at hb;rcases hb with(h|h)|h;exact List.mem_append_left _ (List.mem_append_left _ (List.mem_append_left _ h));exact List.mem_append_left _ (List.mem_append_right _ h);exact List.mem_append_right _ h))
  have hr5:=hold hr
  have hrw5:Rws (fun d cs=>RD u5 S6 (deC d) cs) q xs':=hrw'.imp (fun dd cc _ h=>hold h)
  have hqlbd:bd≠ql:=by omega
  have hbd5:=(hbd3.tr0 hf4).tr hf5 (fun hm=>by have:=hvlt bd hm;omega)
  have hql5:=(hql3.tr0 hf4).tr hf5 (fun hm=>(hva ql hm).2.1 rfl)
  have hw5:=(hw3.tr0 hf4).tr hf5 (fun x hx hm=>(hvb x hx).2.2.2.2.2.2 hm)
  have hmp5:Mp Value.string Value.bool u5 mb (seenM seen):=hmp.tr hF5 (fun hm=>by
   rcases List.mem_append.1 hm with h|h
   .exact hmq (List.mem_singleton.1 h)
   .exact (hva mb h).1 rfl)
  have hbm5:=hbm.tr hF5 (fun hm=>by
   rcases List.mem_append.1 hm with h|h
   .exact iqb (List.mem_singleton.1 h).symm
   .exact (hva bm h).2.2.1 rfl)
  have htm5:=htm.tr hF5 (fun hm=>by
   rcases List.mem_append.1 hm with h|h
   .exact iqt (List.mem_singleton.1 h).symm
   .exact (hva tm h).2.2.2 rfl)
  have hF05:Fr [] w u5:=hF.trans hF5 (fun x hx=>.inr (by
   rcases List.mem_append.1 hx with h|h
   .rw [List.mem_singleton.1 h];exact iq
   .exact hB.2 x h))
  refine rx ?_
  refine s_loadAggB rfl hbd5 hlen ?_
  refine rx ?_
  refine s_call (partsP d (by have:=hsz1.parts;omega) cs u5 S6 hr5) rfl ?_
  rintro _ u6 ⟨w61,vp,hf61,rfl,hLO,hf62⟩
  refine⟨_,rfl,?_⟩
  have hs61:=hf61.size
  have hf6:=hf61.trans0 hf62
  have hs6:=hf6.size
  have hpl:=hsz1.parts
  have hdp:=hLO.dr exC_len Yhd hf62 Yhi (fun x hx=>by have:=hSlt x hx;omega)
  refine rx ?_
  refine s_makeFunc (a:=[]) (b:=[.pointer (some ⟨tm,0,none⟩),.pointer (some ⟨bm,0,none⟩),.pointer (some ⟨ql,0,none⟩)]) rfl rfl ?_
  refine rx ?_
  have hF6:=hF05.trans0 hf6
  have hdM:DR u6 S6 (.l (ds.map deC)) _:=(hd.mono (T:=S6) (fun x hx=>.inr (by
   rw[hS6]at hx
   simp only[List.mem_append,List.mem_cons,List.not_mem_nil,or_false]at hx
   rcases hx with((rfl|rfl)|hx)|hx
   .exact im
   .exact iq
   .exact (hva' x hx).1
   .exact (hvb x hx).2.1))).tr0 hF6
  have hq6:∀x∈q,x∈ds:=fun x hx=>hq x Yim
  have H:=reach2C ds (fun d hd=>(hsz d hd).cmds) mb ql 23 tm _ bm _ S6 T6 u6 _ hTS (fun x hx=>by have:=hSlt x hx;omega) (by rw[hT6];simp) (by rw[hT6];simp) hmq (htm5.tr0 hf6) Yiq (hbm5.tr0 hf6) Yir hdM
  have hI:RcI ds mb ql 23 u6 S6 T6 [] (seen,q) u6:=by
   refine⟨hmp5.tr0 hf6,⟨v',hql5.tr0 hf6,⟨xs',hw5.tr0 hf6,hrw5.imp (fun dd cc _ h=>(h.tr0 hf6).mono (fun b hb=>.inl (by rcases List.mem_append.1 hb with h|h;exact h;rw[hS6];simp[h])))⟩,fun x hx=>.inl (by rw[hT6];simp[hx]),by simp,fun hm=>(hvb mb hm).2.2.1 rfl,fun hm=>(hvb ql hm).2.2.2.1 rfl⟩,by simp,by simp,by simp,by omega⟩
  refine s_cE (visitC H (partsD d) hsz1.dep vp u6 (Fr.refl _ _) [] Yhi (seen,q) run_true hI hdp) ?_
  rintro u7 ⟨⟨Z',_,⟨hmp7,⟨v7,hql7,hQ7,hv7T,_,hmv7,hqv7⟩,_,_,_,_⟩⟩,_,hf7⟩
  obtain⟨s',hs'⟩:=exq ((nodesEs (partsD d)).foldl (rstE ds) (seen,q))
  rw[<-hs']at hmp7 hQ7
  have hmu':mu ds s'<=mu ds (seen,q):=hs'▸mu_fold ds _ _
  have hgo:reachGo ds (mu ds (seen,d::q)) (seen,d::q)=ofD d++reachGo ds (mu ds s') s':=by
   rw[hmp1,reachGo,<-hs',reachGo_fuel ds _ (mu ds s') s' hmu' (Nat.le_refl _)]
  have hbml:=hbm5.lt
  have html:=htm5.lt
  have hT7:∀x∈T6,w.heap.size<=x:=fun x hx=>by
   rcases hTm hx with rfl|rfl|h
   .exact im
   .exact iq
   .exact (hvb x h).2.1
  have hva7:∀x∈blks va',x∉T6:=fun x hx hm=>by
   have h1:=hva' x hx
   rcases hTm hm with h|h|h
   .exact h1.2.1 h
   .exact h1.2.2.1 h
   .exact h1.2.2.2.2.2 h
  have hv7:∀x∈blks v7,w.heap.size<=x/\x≠mb/\x≠ql/\x≠bm/\x≠tm/\x∉blks va':=fun x hx=>by
   have e1:x≠mb:=fun e=>hmv7 (e▸hx)
   have e2:x≠ql:=fun e=>hqv7 (e▸hx)
   rcases hv7T x hx with h|h
   .refine ⟨hT7 x h,e1,e2,?_,?_,fun hm=>hva7 x hm h⟩
    .rcases hTm h with h|h|h
     .exact absurd h e1
     .exact absurd h e2
     .exact (hvb x h).2.2.2.2.1
    .rcases hTm h with h|h|h
     .exact absurd h e1
     .exact absurd h e2
     .exact (hvb x h).2.2.2.2.2.1
   .exact ⟨by omega,e1,e2,by omega,by omega,fun hm=>by have:=hval x hm;omega⟩
  refine rx ?_
  have hB7:BO w 50 u7 (acc++ofD d) va':=⟨by rw[List.length_append,List.flatMap_append];exact(hoa.tr0 hf6).tr hf7 hva7,fun x hx=>(hva' x hx).1⟩
  have hQ7':QW ([mb,ql]++blks va') u7 s'.2 v7:=by
   obtain⟨ys,h1,h2⟩:=hQ7
   refine⟨ys,h1,h2.imp (fun dd cc _ h=>h.mono (fun b hb=>.inl (by rw[hS6];rw[List.mem_append,List.mem_append]at hb;rcases hb with(h|h)|h;exact List.mem_append_left _ (List.mem_append_left _ (List.mem_append_left _ h));exact List.mem_append_left _ (List.mem_append_left _ (List.mem_append_right _ h));exact List.mem_append_right _ h)))⟩
  refine q_roundK (s',acc++ofD d,va') Yhb ?_ ?_
  .refine ⟨rfl,hF6.trans hf7 (fun x hx=>.inr (hT7 x hx)),(hbm5.tr0 hf6).tr hf7 Yir,(htm5.tr0 hf6).tr hf7 Yiq,hmp7,⟨v7,hql7,hQ7',hv7⟩,hB7,fun x hx=>⟨(hva' x hx).2.1,(hva' x hx).2.2.1,(hva' x hx).2.2.2.1,(hva' x hx).2.2.2.2.1⟩,?_,?_,?_,?_⟩
   .rw [hs'];exact rstE_foldsub hq6
   .rw [List.append_assoc];show acc++(ofD d++reachGo ds (mu ds s') s')=_;rw[<-hgo];exact htot
   .show mu ds s'<=_;omega
   .show (acc++ofD d).length+mu ds s'*11000<=_;rw[List.length_append];omega
  .show mu ds s'<mu ds (seen,d::q);omega
end Go.Proofs.YtggmccicdhnkgaaGreat
namespace Go.Rf
open Go.RowKit
variable{M R S T l:List Nat}{i n p:Nat}{P:Pp}{s:St}{α β:Type}{u u':World}
def natsV(l:List Nat):List Value:=l.map (fun n=>Value.int .i64 (n:Nat))
theorem natsV_len(l:List Nat):(natsV l).length=l.length:=by simp[natsV]
theorem natsV_one(l:List Nat):∀u∈natsV l,u.oneCell'=true:=fun u hu=>by
 obtain⟨n,_,rfl⟩:=List.mem_map.1 hu;rfl
theorem natsV_get(h:i<l.length):(natsV l)[i]?=some (iV (l[i]:Nat)):=by
 unfold natsV;rw[List.getElem?_map,List.getElem?_eq_getElem h];rfl
theorem natsV_set:(natsV l).set i (iV (n:Nat))=natsV (l.set i n):=by
 unfold natsV;rw[List.map_set]
def RelB(m:List (Br×Int))(cnt:Br->Nat):Prop:=∀b,getM m b=if cnt b=0 then none else some (cnt b:Int)
def RelP(m:List (Pr×Bool))(ps:Pr->Prop):Prop:=∀p,(ps p->getM m p=some true)/\(¬ps p->getM m p=none)
theorem RelB.nil:RelB [] (fun _=>0):=fun b=>rfl
theorem RelP.nil:RelP [] (fun _=>False):=fun p=>⟨fun h=>h.elim,fun _=>rfl⟩
theorem RelB.keys{m:List (Br×Int)}{cnt:Br->Nat}(h:RelB m cnt){b:Br}:b∈m.map Prod.fst↔cnt b≠0:=by
 have:=h b
 by_cases h0:cnt b=0
 .rw [if_pos h0]at this
  have:=getM_none.1 this
  simp only[h0,ne_eq,not_true_eq_false,iff_false];exact this
 .rw [if_neg h0]at this
  simp only[ne_eq,h0,not_false_eq_true,iff_true]
  apply Classical.byContradiction
  intro hn
  rw[getM_none.2 hn]at this;cases this
theorem RelP.keys{m:List (Pr×Bool)}{ps:Pr->Prop}(h:RelP m ps){p:Pr}:p∈m.map Prod.fst↔ps p:=by
 constructor
 .intro hm
  apply Classical.byContradiction
  intro hn
  exact getM_none.1 ((h p).2 hn) hm
 .intro hp
  apply Classical.byContradiction
  intro hn
  have:=(h p).1 hp
  rw[getM_none.2 hn]at this;cases this
theorem RelB.look{m:List (Br×Int)}{cnt:Br->Nat}(h:RelB m cnt)(b:Br):(getM m b).getD 0=(cnt b:Int):=by
 rw[h b]
 split
 .next h0=>rw[h0];rfl
 .rfl
theorem RelB.put{m:List (Br×Int)}{cnt:Br->Nat}(h:RelB m cnt){b:Br}(hn:n≠0):RelB (putM m b (n:Int)) (fun x=>if x=b then n else cnt x):=fun x=>by
 rw[getM_put]
 by_cases e:x=b
 .simp [e,hn]
 .simp only[if_neg e];exact h x
theorem RelP.put{m:List (Pr×Bool)}{ps:Pr->Prop}(h:RelP m ps){b:Pr}:RelP (putM m b true) (fun x=>x=b\/ps x):=fun x=>by
 rw[getM_put]
 by_cases e:x=b
 .simp [e]
 .simp only[if_neg e,e,false_or];exact h x
theorem RelB.congr{m:List (Br×Int)}{cnt cnt':Br->Nat}(h:RelB m cnt)(e:∀b,cnt b=cnt' b):RelB m cnt':=by
 obtain rfl:cnt=cnt':=funext e
 exact h
theorem RelP.congr{m:List (Pr×Bool)}{ps ps':Pr->Prop}(h:RelP m ps)(e:∀b,ps b↔ps' b):RelP m ps':=by
 obtain rfl:ps=ps':=funext (fun b=>propext (e b))
 exact h
theorem keys_len{lt:α->α->Bool}[DecidableEq α](T:Tot lt){m:List (α×β)}{l:List α}(hn:(m.map Prod.fst).Nodup)(hl:Asc lt l)(h:∀a,a∈m.map Prod.fst↔a∈l):m.length=l.length:=by
 have hp:(m.map Prod.fst).Perm l:=(List.perm_ext_iff_of_nodup hn (Asc.nd T hl)).2 h
 have:=hp.length_eq
 rw[List.length_map]at this
 exact this
theorem keys_set{lt:α->α->Bool}[DecidableEq α](T:Tot lt){m:List (α×β)}{l:List α}(hl:Asc lt l)(h:∀a,a∈m.map Prod.fst↔a∈l):setL lt (m.map Prod.fst)=l:=setL_of T hl (fun y=>(h y).symm)
def rnC(r:Rn):List Dt:=[.c (iV r.kind),.c (iV r.at_),.c (iV r.code),.l (r.bs.map brC),.l (r.cl.map intR)]
def CovM(u:World)(p:Nat)(M R:List Nat)(P:Pp)(s:St):Prop:=
 ∃bb pb vr vc mb mp,M=[p,bb,pb]++blks vc/\R=blks vr/\(M++R).Nodup/\
  Blk u p [.string P.prop,iV (P.checks:Nat),vr,iV (s.runs:Nat),iV (s.o 0:Nat),iV (s.o 1:Nat),iV (s.o 2:Nat),vc,.map (some bb),.map (some pb)] 125/\
  Own u 50 3 vr P.reach.length (P.reach.flatMap brV)/\Own u 3 1 vc s.cls.length (natsV s.cls)/\
  Mp brK (Value.int .i64) u bb mb/\RelB mb s.cnt/\Mp prK Value.bool u pb mp/\RelP mp (· ∈s.ps)/\StOk P s
theorem CovM.tr(h:CovM u p M R P s)(hf:Fr T u u')(hT:∀x∈M++R,x∉T):CovM u' p M R P s:=by
 obtain⟨bb,pb,vr,vc,mb,mp,rfl,rfl,hnd,hb,hr,hc,hmb,hrb,hmp,hrp,hok⟩:=h
 exact⟨bb,pb,vr,vc,mb,mp,rfl,rfl,hnd,hb.tr hf (hT p Yhi),hr.tr hf (fun k hk=>hT k Yjs),hc.tr hf (fun k hk=>hT k Yjs),hmb.tr hf (hT bb Yhi),hrb,hmp.tr hf (hT pb Yhi),hrp,hok⟩
theorem CovM.tr0(h:CovM u p M R P s)(hf:Fr [] u u'):CovM u' p M R P s:=h.tr hf Yhi
theorem CovM.lt(h:CovM u p M R P s):∀x∈M++R,x<u.heap.size:=by
 obtain⟨bb,pb,vr,vc,mb,mp,rfl,rfl,hnd,hb,hr,hc,hmb,hrb,hmp,hrp,hok⟩:=h
 intro x hx
 simp only[List.mem_append,List.mem_cons,List.not_mem_nil,or_false]at hx
 rcases hx with((rfl|rfl|rfl)|hx)|hx
 .exact hb.lt
 .exact hmb.lt
 .exact hmp.lt
 .exact hc.lt x hx
 .exact hr.lt x hx
def RcV(u:World)(p:Nat)(P:Pp)(rs:List Rn):Prop:=
 ∃vr vs,Blk u p [.string P.prop,iV (P.checks:Nat),iV (P.ncls:Nat),vr,vs] 120/\DR u [] (.l (P.reach.map brC)) vr/\DR u [] (.l (rs.map rnC)) vs
theorem RcV.tr0{rs:List Rn}(h:RcV u p P rs)(hf:Fr [] u u'):RcV u' p P rs:=by
 obtain⟨vr,vs,h1,h2,h3⟩:=h
 exact⟨vr,vs,h1.tr0 hf,h2.tr0 hf,h3.tr0 hf⟩
def RcM(u:World)(p:Nat)(M R S:List Nat)(P:Pp)(rs:List Rn):Prop:=
 ∃vr vs xs,M=[p]++blks vs/\R=blks vr/\(M++R).Nodup/\(∀x∈M,x∈S)/\
  Blk u p [.string P.prop,iV (P.checks:Nat),iV (P.ncls:Nat),vr,vs] 120/\
  Own u 50 3 vr P.reach.length (P.reach.flatMap brV)/\
  Own u 41 5 vs rs.length xs/\Rws (fun r cs=>RD u S (rnC r) cs) rs xs
theorem RcM.tr{rs:List Rn}(h:RcM u p M R S P rs)(hf:Fr T u u')(hT:∀x∈M++R,x∉T)(hS:∀x∈T,x∈S\/u.heap.size<=x):RcM u' p M R S P rs:=by
 obtain⟨vr,vs,xs,rfl,rfl,hnd,hMS,hb,hr,hs,hw⟩:=h
 exact⟨vr,vs,xs,rfl,rfl,hnd,hMS,hb.tr hf (hT p Yhi),hr.tr hf (fun k hk=>hT k Yjs),hs.tr hf (fun k hk=>hT k Yjs),hw.imp (fun r cs _ h=>h.old hf hS)⟩
theorem RcM.tr0{rs:List Rn}(h:RcM u p M R S P rs)(hf:Fr [] u u'):RcM u' p M R S P rs:=h.tr hf Yhi Yhi
theorem RcM.mono{S':List Nat}{rs:List Rn}(h:RcM u p M R S P rs)(hM:∀x∈M,x∈S')(hS:∀x∈S',x∈S\/u.heap.size<=x):RcM u p M R S' P rs:=by
 obtain⟨vr,vs,xs,rfl,rfl,hnd,hMS,hb,hr,hs,hw⟩:=h
 exact⟨vr,vs,xs,rfl,rfl,hnd,hM,hb,hr,hs,hw.imp (fun r cs _ h=>h.mono hS)⟩
theorem RcM.lt{rs:List Rn}(h:RcM u p M R S P rs):∀x∈M++R,x<u.heap.size:=by
 obtain⟨vr,vs,xs,rfl,rfl,hnd,hMS,hb,hr,hs,hw⟩:=h
 intro x hx
 simp only[List.mem_append,List.mem_cons,List.not_mem_nil,or_false]at hx
 rcases hx with(rfl|hx)|hx
 .exact hb.lt
 .exact hs.lt x hx
 .exact hr.lt x hx
theorem RcM.v{rs:List Rn}(h:RcM u p M R S P rs)(h1:P.reach.length<=1000000000000)(h2:rs.length<=1000000000000):RcV u p P rs:=by
 obtain⟨vr,vs,xs,rfl,rfl,hnd,hMS,hb,hr,hs,hw⟩:=h
 refine⟨vr,vs,hb,own_dr hr h1,DR.ofTyped (k:=5) (fun _=>rfl) h2 ⟨xs,hs.src,fun ad n c e _ hm=>by simp at hm,hw.imp (fun r cs _ h=>h.mono Yhi)⟩⟩
end Go.Rf
namespace Go.Rf
open Go.RowKit
variable{f:Env}{Q:Exit->Act->World->Prop}{l:List Oper}{bb fuel i j k n p pb:Nat}{P:Program}{w:World}{S:World->Prop}
theorem d_threeC{D:Dfs}{listed:Array Bool}{o o' o'':Oper}(hi:l[i]?=some o)(hj:l[j]?=some o')(hk:l[k]?=some o'')(hr:Region.ready .any l.toArray listed=[i,j,k])
 (h1:wpList P l.toArray (Exit.then (fun a' w'=>S w'/\wpAnyH P .any l.toArray Q S fuel (listed.setIfInBounds i true) a' w') Q) [o] (A n f) w)
 (h2:wpList P l.toArray (Exit.then (fun a' w'=>S w'/\wpAnyH P .any l.toArray Q S fuel (listed.setIfInBounds j true) a' w') Q) [o'] (A n f) w)
 (h3:wpList P l.toArray (Exit.then (fun a' w'=>S w'/\wpAnyH P .any l.toArray Q S fuel (listed.setIfInBounds k true) a' w') Q) [o''] (A n f) w):wpAnyH P .any l.toArray Q S (fuel+1) listed (A n f) w:=by
 refine wpAnyH_all hr Yhi fun m hm=>?_
 simp only[List.mem_cons,List.not_mem_nil,or_false]at hm
 rcases hm with rfl|rfl|rfl
 .exact wpOp_of_list hi h1
 .exact wpOp_of_list hj h2
 .exact wpOp_of_list hk h3
theorem d_fourC{D:Dfs}{listed:Array Bool}{m:Nat}{o o' o'' o3:Oper}(hi:l[i]?=some o)(hj:l[j]?=some o')(hk:l[k]?=some o'')(hm':l[m]?=some o3)(hr:Region.ready .any l.toArray listed=[i,j,k,m])
 (h1:wpList P l.toArray (Exit.then (fun a' w'=>S w'/\wpAnyH P .any l.toArray Q S fuel (listed.setIfInBounds i true) a' w') Q) [o] (A n f) w)
 (h2:wpList P l.toArray (Exit.then (fun a' w'=>S w'/\wpAnyH P .any l.toArray Q S fuel (listed.setIfInBounds j true) a' w') Q) [o'] (A n f) w)
 (h3:wpList P l.toArray (Exit.then (fun a' w'=>S w'/\wpAnyH P .any l.toArray Q S fuel (listed.setIfInBounds k true) a' w') Q) [o''] (A n f) w)
 (h4:wpList P l.toArray (Exit.then (fun a' w'=>S w'/\wpAnyH P .any l.toArray Q S fuel (listed.setIfInBounds m true) a' w') Q) [o3] (A n f) w):wpAnyH P .any l.toArray Q S (fuel+1) listed (A n f) w:=by
 refine wpAnyH_all hr Yhi fun m hm=>?_
 simp only[List.mem_cons,List.not_mem_nil,or_false]at hm
 rcases hm with rfl|rfl|rfl|rfl
 .exact wpOp_of_list hi h1
 .exact wpOp_of_list hj h2
 .exact wpOp_of_list hk h3
 .exact wpOp_of_list hm' h4
def In(L:List Nat)(a b:Nat):Prop:=∀x∈L,a<=x/\x<b
theorem own_le1{e:Nat}{v:Value}{xs:List Value}(h:Own w e k v n xs):(blks v).Nodup:=by
 rcases h.2 with⟨rfl,_⟩|⟨g,cap,cur,rfl,_⟩<;>simp[blks,Value.ownBlock]
theorem nd_of{a b:List Nat}(ha:a.Nodup)(hb:b.Nodup)(h1:p≠bb)(h2:p≠pb)(h3:bb≠pb)(h4:∀x∈a,x≠p/\x≠bb/\x≠pb/\x∉b)(h5:∀x∈b,x≠p/\x≠bb/\x≠pb):(([p,bb,pb]++a)++b).Nodup:=by
 rw[List.nodup_append,List.nodup_append]
 refine⟨⟨by simp[h1,h2,h3],ha,fun x hx y hy e=>?_⟩,hb,fun x hx y hy e=>?_⟩
 .subst e
  have:=h4 x hy
  simp only[List.mem_cons,List.not_mem_nil,or_false]at hx
  rcases hx with rfl|rfl|rfl
  .exact this.1 rfl
  .exact this.2.1 rfl
  .exact this.2.2.1 rfl
 .subst e
  have:=h5 x hy
  simp only[List.mem_append,List.mem_cons,List.not_mem_nil,or_false]at hx
  rcases hx with(rfl|rfl|rfl)|hx
  .exact this.1 rfl
  .exact this.2.1 rfl
  .exact this.2.2 rfl
  .exact (h4 x hx).2.2.2 hy
theorem zeros_natsV(n:Nat):zeros [Value.int .i64 0] n=natsV (stOf n []).cls:=by
 have h1:(stOf n []).cls=List.replicate n 0:=by
  unfold stOf
  simp only[List.countP_nil]
  rw[List.map_const',List.length_range]
 rw[h1]
 unfold natsV
 rw[List.map_replicate]
 clear h1
 induction n with
 |zero=>rfl
 |succ n ih=>rw[zeros,List.replicate_succ,ih];rfl
end Go.Rf
namespace Go.Proofs.YtggmccicdhnkgaaGreat
open Go.Proofs.Tryz
open Go.Rf Go.RowKit
variable{bb n p pb:Nat}{w:World}
attribute [local irreducible] Code.wp wpList Exit.then Exit.inBlock bodyPost A Calls execOp Addr.add
theorem RD.cks{S:List Nat}{d:De}{cs:List Value}(hd:RD w S (deC d) cs):(∃a c,cs[23]?=some (.slice a d.checks.length c))/\(∃a c,cs[24]?=some (.slice a d.classes.length c))/\d.classes.length<=1000000000000:=by
 obtain⟨_,rfl,r1⟩:=RD.invC (x:=iV d.kind) hd
 obtain⟨_,rfl,r2⟩:=RD.invC (x:=.string d.name) r1
 obtain⟨_,rfl,r3⟩:=RD.invC (x:=iV d.at_) r2
 obtain⟨ct,ctc,_,rfl,hct,r4⟩:=RD.lst (rows:=d.ctors.map ctC) r3
 obtain⟨pm,pmc,_,rfl,hpm,r5⟩:=RD.lst (rows:=d.params.map pmC) r4
 obtain⟨sty,_,rfl,hty,hk1,r6⟩:=RD.ty (t:=d.type) r5
 obtain⟨ty,tyc,rfl,_⟩:=hk1.slice
 obtain⟨bo1,bon1,boc1,bo2,bon2,boc2,bo3,bon3,boc3,_,rfl,hbo,r7⟩:=RD.ex (e:=d.body) r6
 obtain⟨_,rfl,r8⟩:=RD.invC (x:=iV d.depth) r7
 obtain⟨ge1,gen1,gec1,ge2,gen2,gec2,ge3,gen3,gec3,_,rfl,hge,r9⟩:=RD.gn (g:=d.gen) r8
 obtain⟨dw,dwc,_,rfl,hdw,r10⟩:=RD.lst (rows:=d.draws.map dwC) r9
 obtain⟨ck,ckc,_,rfl,hck,r11⟩:=RD.lst (rows:=d.checks.map ckC) r10
 obtain⟨cs,csc,_,rfl,hcs,r12⟩:=RD.lst (rows:=d.classes.map ckC) r11
 obtain⟨cl,clc,_,rfl,hcl,r13⟩:=RD.lst (rows:=d.claims.map clC) r12
 obtain⟨sst,_,rfl,hstt,hk2,r14⟩:=RD.ty (t:=d.state) r13
 obtain⟨st,stc,rfl,_⟩:=hk2.slice
 obtain⟨it1,itn1,itc1,it2,itn2,itc2,it3,itn3,itc3,_,rfl,hit,r15⟩:=RD.ex (e:=d.init) r14
 obtain⟨cm,cmc,_,rfl,hcm,r16⟩:=RD.lst (rows:=d.cmds.map cmC) r15
 obtain⟨op,opc,_,rfl,hop,r17⟩:=RD.lst (rows:=d.ops.map opC) r16
 obtain⟨rc1,rcn1,rcc1,rc2,rcn2,rcc2,rc3,rcn3,rcc3,_,rfl,hrc,r18⟩:=RD.ex (e:=d.recov) (ds:=[]) Yhz
 obtain rfl:=r18.inv0
 clear r1 r2 r3 r4 r5 r6 r7 r8 r9 r10 r11 r12 r13 r14 r15 r16 r17 r18 hk1 hk2
 refine⟨⟨ck,ckc,?_⟩,⟨cs,csc,?_⟩,by have:=hcs.bound;rw[List.length_map]at this;exact this⟩
 .simp only[List.length_map];rfl
 .simp only[List.length_map];rfl
def NewR(w:World)(ds:List De)(nm:ByteArray)(e:Ending)(w':World):Prop:=Fr [] w w'/\match fdD ds 3 nm with
 |none=>e=.returned (.tuple #[.pointer none,.int .i64 6])
 |some d=>∃p M R,e=.returned (.tuple #[.pointer (some ⟨p,0,none⟩),.int .i64 0])/\CovM w' p M R ⟨nm,d.checks.length,d.classes.length,setL ltB (reachD ds nm)⟩ (stOf d.classes.length [])/\∀x∈M++R,w.heap.size<=x
theorem mkNew{u:World}{vr vc:Value}{P:Pp}{a0 a1 b0 b1:Nat}(hn:P.ncls=n)(hb:Blk u p [.string P.prop,iV (P.checks:Nat),vr,zI,zI,zI,zI,vc,.map (some bb),.map (some pb)] 125)
 (hr:Own u 50 3 vr P.reach.length (P.reach.flatMap brV)) (hc:Own u 3 1 vc n (natsV (stOf n []).cls)) (hmb:Mp brK (Value.int .i64) u bb []) (hmp:Mp prK Value.bool u pb [])
 (ir:In (blks vr) a0 a1) (ic:In (blks vc) b0 b1) (d1:a1<=b0\/b1<=a0) (d2:bb≠pb) (d3:bb<a0\/a1<=bb) (d4:pb<a0\/a1<=pb) (d5:bb<b0\/b1<=bb) (d6:pb<b0\/b1<=pb) (d7:bb<p/\pb<p/\a1<=p/\b1<=p):CovM u p ([p,bb,pb]++blks vc) (blks vr) P (stOf P.ncls []):=by
 subst hn
 refine⟨bb,pb,vr,vc,[],[],rfl,rfl,nd_of (own_le1 hc) (own_le1 hr) Yhd Yhd d2 (fun x hx=>?_) (fun x hx=>?_),hb,hr,?_,hmb,RelB.nil,hmp,RelP.nil.congr (fun b=>by simp[stOf,setL]),stOf_ok P [] Yhi⟩
 .have:=ic x hx
  refine⟨by omega,by omega,by omega,fun hm=>?_⟩
  have:=ir x hm
  omega
 .have:=ir x hx
  exact⟨by omega,by omega,by omega⟩
 .rw [show(stOf P.ncls []).cls.length=P.ncls by simp[stOf]]
  exact hc
set_option maxHeartbeats 32000000 in
theorem newC(ds:List De)(nm:ByteArray)(v0:Value)(w:World)(S0:List Nat)(hsz:∀d∈ds,SzD d)(hl:ds.length<=50)(hd:DR w S0 (.l (ds.map deC)) v0):
 Calls prog 24 #[.agg ([v0]:List Value).toArray,.string nm] w (NewR w ds nm):=by
 have h01:=hd.one
 refine enter func24 rfl ntmps24 rfl ?_
 refine rx ?_
 refine s_boxN (l:=[v0]) rfl rfl (fun w1 b2 hb2e hb2 hf1 hs1=>?_)
 have hd1:=hd.tr0 hf1
 refine rx ?_
 refine s_call (parDeclC ds 3 nm v0 w1 S0 (fun d hd=>(hsz d hd).cmds) hd1) rfl ?_
 rintro en w2 hfd
 obtain⟨cs,b,rfl,hlen,hone,hf2,hcase⟩:=fdX hfd
 refine⟨_,rfl,?_⟩
 have hb2:=hb2.tr0 hf2
 have hF2:=hf1.trans0 hf2
 refine rx ?_
 refine s_allocN (l:=[zI,zT,zI,zS,zS,zI,zT,zS,zI,zT,zI,zS,zS,zS,zI,zI,zI,zT,zS,zS,zS,zI,zS,zS,zS,zS,zI,zT,zS,zI,zT,zI,zS,zS,zS,zI,zS,zS,zI,zT,zI,zS,zS,zS,zI]) rfl (fun w3 q hqe hq hf3 hs3=>?_)
 have hb2:=hb2.tr0 hf3
 have hb2lt:=hb2.lt
 have hs2:=hF2.size
 refine rx ?_
 refine s_storeAggB (cs:=cs) rfl rfl hq hone rfl hlen (fun w4 hq4 hf4 hs4=>?_)
 have hb2:=hb2.tr hf4 (by have:=hb2e;have:=hf2.size;simp;omega)
 have hF4:Fr [] w w4:=(hF2.trans0 hf3).trans hf4 (fun x hx=>.inr Yhg)
 rcases hcase with⟨hn,rfl⟩|⟨d,hsd,rfl,hrd⟩
 .refine rx ?_
  refine Ygt ?_
  unfold NewR
  rw[hn]
  exact⟨hF4,rfl⟩
 obtain⟨⟨a23,c23,h23⟩,⟨a24,c24,h24⟩,hncl⟩:=RD.cks hrd
 have hd4:=hd.tr0 hF4
 have hs04:=hF4.size
 obtain⟨nc,hnc⟩:=exq d.classes.length
 rw[<-hnc]at h24 hncl
 obtain⟨rl,hrl⟩:=exq (setL ltB (reachD ds nm))
 refine rx ?_
 refine c_cutK 6 [4,5] (fun g u=>∃p M R,g 4=.pointer (some ⟨p,0,none⟩)/\g 5=zI/\CovM u p M R ⟨nm,d.checks.length,d.classes.length,setL ltB (reachD ds nm)⟩ (stOf d.classes.length [])/\(∀x∈M++R,w.heap.size<=x)/\Fr [] w u) ?_ ?_
 . (refine d_begin (fun z=>Fr [] w4 z) Yhf rfl ?_)
   obtain⟨u,hu⟩:=exq w4.drew
   rw[<-hu]
   have hS:Fr [] w4 u:=hu▸Fr.drew _ _
   have hz:=hS.size
   have hgo0:=hd4.tr0 hS
   refine d_z2 0 1 hS ?_
   refine d_tx 2 hS ?_ (hrun:=by(intro u hu;exact(r_load rfl (Blk.cell (hq4.tr0 hu) h23))))
   refine d_z2 3 4 hS ?_;refine d_z 5 hS ?_
   refine d_z 7 hS ?_
   refine d_tx 8 hS ?_ (hrun:=by(intro u hu;exact(r_load rfl (Blk.cell (hq4.tr0 hu) h24))))
   refine d_z 9 hS ?_
   refine d_fourC (i:=6) (j:=10) (k:=11) (m:=12) rfl rfl rfl rfl Yhf ?_ ?_ ?_ ?_
   .obtain ⟨n,hn⟩:=exq u.heap.size
    refine Ygu ?_
    rintro vr u ⟨hR,hf⟩
    have hRi:In (blks vr) n u.heap.size:=fun x hx=>⟨by have:=hR.2 x hx;omega,hR.1.lt x hx⟩
    have hR:=hR.1
    rw[<-hrl]at hR
    obtain⟨aor,cr,rfl⟩:=hR.slice
    have hz:=hf.size
    have hS:=hS.trans0 hf
    clear hf
    refine Yfo ?_
    refine d_threeC (i:=10) (j:=11) (k:=12) rfl rfl rfl Yhf ?_ ?_ ?_
    .obtain ⟨n,hn⟩:=exq u.heap.size
     obtain⟨bC,hbC⟩:=exq u.heap.size
     refine s_makeS (k:=nc) rfl rfl Yhd Yhl (fun u hC hf hsC=>?_)
     rw[<-hbC]at hC ⊢
     rw[zeros_natsV]at hC
     have hCi:In (blks (Value.slice (some ⟨bC,0,none⟩) nc nc)) n u.heap.size:=fun x hx=>by simp[blks,Value.ownBlock]at hx;omega
     have hz:=hf.size
     have hR:=hR.tr0 hf
     exact Yec
    .obtain ⟨n,hn⟩:=exq u.heap.size
     obtain⟨bB,hbB⟩:=exq u.heap.size
     refine s_makeMap (key:=brK) (val:=Value.int .i64) (fun u hB hf hsB=>?_)
     rw[<-hbB]at hB ⊢
     have hz:=hf.size
     have hR:=hR.tr0 hf
     exact Ydz
    .obtain ⟨n,hn⟩:=exq u.heap.size
     obtain⟨bP,hbP⟩:=exq u.heap.size
     refine s_makeMap (key:=prK) (val:=Value.bool) (fun u hP hf hsP=>?_)
     rw[<-hbP]at hP ⊢
     have hz:=hf.size
     have hR:=hR.tr0 hf
     exact Ydy
   .obtain ⟨n,hn⟩:=exq u.heap.size
    obtain⟨bC,hbC⟩:=exq u.heap.size
    refine s_makeS (k:=nc) rfl rfl Yhd Yhl (fun u hC hf hsC=>?_)
    rw[<-hbC]at hC ⊢
    rw[zeros_natsV]at hC
    have hCi:In (blks (Value.slice (some ⟨bC,0,none⟩) nc nc)) n u.heap.size:=fun x hx=>by simp[blks,Value.ownBlock]at hx;omega
    have hz:=hf.size
    have hS:=hS.trans0 hf
    clear hf
    refine Yfo ?_
    refine d_threeC (i:=6) (j:=11) (k:=12) rfl rfl rfl Yhf ?_ ?_ ?_
    .obtain ⟨n,hn⟩:=exq u.heap.size
     refine Ygu ?_
     rintro vr u ⟨hR,hf⟩
     have hRi:In (blks vr) n u.heap.size:=fun x hx=>⟨by have:=hR.2 x hx;omega,hR.1.lt x hx⟩
     have hR:=hR.1
     rw[<-hrl]at hR
     obtain⟨aor,cr,rfl⟩:=hR.slice
     have hz:=hf.size
     have hC:=hC.tr0 hf
     exact Yec
    .obtain ⟨n,hn⟩:=exq u.heap.size
     obtain⟨bB,hbB⟩:=exq u.heap.size
     refine s_makeMap (key:=brK) (val:=Value.int .i64) (fun u hB hf hsB=>?_)
     rw[<-hbB]at hB ⊢
     have hz:=hf.size
     have hC:=hC.tr0 hf
     exact Yeb
    .obtain ⟨n,hn⟩:=exq u.heap.size
     obtain⟨bP,hbP⟩:=exq u.heap.size
     refine s_makeMap (key:=prK) (val:=Value.bool) (fun u hP hf hsP=>?_)
     rw[<-hbP]at hP ⊢
     have hz:=hf.size
     have hC:=hC.tr0 hf
     exact Yea
   .obtain ⟨n,hn⟩:=exq u.heap.size
    obtain⟨bB,hbB⟩:=exq u.heap.size
    refine s_makeMap (key:=brK) (val:=Value.int .i64) (fun u hB hf hsB=>?_)
    rw[<-hbB]at hB ⊢
    have hz:=hf.size
    have hS:=hS.trans0 hf
    clear hf
    refine Yfo ?_
    refine d_threeC (i:=6) (j:=10) (k:=12) rfl rfl rfl Yhf ?_ ?_ ?_
    .obtain ⟨n,hn⟩:=exq u.heap.size
     refine Ygu ?_
     rintro vr u ⟨hR,hf⟩
     have hRi:In (blks vr) n u.heap.size:=fun x hx=>⟨by have:=hR.2 x hx;omega,hR.1.lt x hx⟩
     have hR:=hR.1
     rw[<-hrl]at hR
     obtain⟨aor,cr,rfl⟩:=hR.slice
     have hz:=hf.size
     have hB:=hB.tr0 hf
     exact Ydz
    .obtain ⟨n,hn⟩:=exq u.heap.size
     obtain⟨bC,hbC⟩:=exq u.heap.size
     refine s_makeS (k:=nc) rfl rfl Yhd Yhl (fun u hC hf hsC=>?_)
     rw[<-hbC]at hC ⊢
     rw[zeros_natsV]at hC
     have hCi:In (blks (Value.slice (some ⟨bC,0,none⟩) nc nc)) n u.heap.size:=fun x hx=>by simp[blks,Value.ownBlock]at hx;omega
     have hz:=hf.size
     have hB:=hB.tr0 hf
     exact Yeb
    .obtain ⟨n,hn⟩:=exq u.heap.size
     obtain⟨bP,hbP⟩:=exq u.heap.size
     refine s_makeMap (key:=prK) (val:=Value.bool) (fun u hP hf hsP=>?_)
     rw[<-hbP]at hP ⊢
     have hz:=hf.size
     have hB:=hB.tr0 hf
     exact Ydx
   .obtain ⟨n,hn⟩:=exq u.heap.size
    obtain⟨bP,hbP⟩:=exq u.heap.size
    refine s_makeMap (key:=prK) (val:=Value.bool) (fun u hP hf hsP=>?_)
    rw[<-hbP]at hP ⊢
    have hz:=hf.size
    have hS:=hS.trans0 hf
    clear hf
    refine Yfo ?_
    refine d_threeC (i:=6) (j:=10) (k:=11) rfl rfl rfl Yhf ?_ ?_ ?_
    .obtain ⟨n,hn⟩:=exq u.heap.size
     refine Ygu ?_
     rintro vr u ⟨hR,hf⟩
     have hRi:In (blks vr) n u.heap.size:=fun x hx=>⟨by have:=hR.2 x hx;omega,hR.1.lt x hx⟩
     have hR:=hR.1
     rw[<-hrl]at hR
     obtain⟨aor,cr,rfl⟩:=hR.slice
     have hz:=hf.size
     have hP:=hP.tr0 hf
     exact Ydy
    .obtain ⟨n,hn⟩:=exq u.heap.size
     obtain⟨bC,hbC⟩:=exq u.heap.size
     refine s_makeS (k:=nc) rfl rfl Yhd Yhl (fun u hC hf hsC=>?_)
     rw[<-hbC]at hC ⊢
     rw[zeros_natsV]at hC
     have hCi:In (blks (Value.slice (some ⟨bC,0,none⟩) nc nc)) n u.heap.size:=fun x hx=>by simp[blks,Value.ownBlock]at hx;omega
     have hz:=hf.size
     have hP:=hP.tr0 hf
     exact Yea
    .obtain ⟨n,hn⟩:=exq u.heap.size
     obtain⟨bB,hbB⟩:=exq u.heap.size
     refine s_makeMap (key:=brK) (val:=Value.int .i64) (fun u hB hf hsB=>?_)
     rw[<-hbB]at hB ⊢
     have hz:=hf.size
     have hP:=hP.tr0 hf
     exact Ydx
 rintro g u ⟨p,M,R,g4,g5,hC,hM,hF⟩
 rw[eq_upd g4,eq_upd g5]
 refine rx ?_
 refine Ygt ?_
 unfold NewR
 rw[hsd]
 exact⟨hF,p,M,R,rfl,hC,hM⟩
end Go.Proofs.YtggmccicdhnkgaaGreat
