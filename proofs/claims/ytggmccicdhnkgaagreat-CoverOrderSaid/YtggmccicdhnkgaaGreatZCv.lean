/-
 The reference's sets and pairs of branches.
-/
import Derived.Test.YtggmccicdhnkgaaGreatZFgu1
import Derived.Test.YtggmccicdhnkgaaGreatZCo
import Derived.Test.YtggmccicdhnkgaaGreatZCq
set_option linter.all false
namespace Go.Rf
open Go.RowKit
theorem reachGo_fuel(ds:List De):∀(n n':Nat) (s:List ByteArray×List De),mu ds s<=n->mu ds s<=n'->reachGo ds n s=reachGo ds n' s
 |0,0,s,_,_=>rfl
 |0,n'+1,(seen,q),h,_=>by
  have:q=[]:=by unfold mu at h;exact List.eq_nil_of_length_eq_zero (by simp only at h;omega)
  subst this;rfl
 |n+1,0,(seen,q),_,h=>by
  have:q=[]:=by unfold mu at h;exact List.eq_nil_of_length_eq_zero (by simp only at h;omega)
  subst this;rfl
 |n+1,n'+1,(seen,[]),_,_=>rfl
 |n+1,n'+1,(seen,d::q),h,h'=>by
  have hm:=mu_fold ds (nodesEs (partsD d)) (seen,q);have hp:mu ds (seen,d::q)=mu ds (seen,q)+1:=by simp only[mu,List.length_cons];omega
  simp only[reachGo];rw[reachGo_fuel ds n n' _ Yhn Yhn]
structure SzD (d:De):Prop where
 parts:(partsD d).length<=100000
 brs:(ofD d).length<=11000
 dep:∀e∈partsD d,exD e<=1000
 cmds:d.cmds.length<=1000000
 calls:(callsE (nodesEs (partsD d))).length<=10000
theorem free_le(ds:List De)(seen:List ByteArray):freeD ds seen<=ds.length:=List.length_filter_le ..
theorem rootD_drop{ds:List De}{nm:ByteArray}{i:Nat}(hi:i<ds.length):rootD (ds.drop i) nm=if ds[i].name=nm/\ds[i].kind≠0/\ds[i].kind≠2 then some ds[i] else rootD (ds.drop (i+1)) nm:=by
 unfold rootD;rw[List.drop_eq_getElem_cons hi,List.find?_cons];by_cases h:ds[i].name=nm/\ds[i].kind≠0/\ds[i].kind≠2<;>simp[h]
theorem cells_eq{w:World}{a:Addr}{l l':List Value}(h:Cells w a l)(h':Cells w a l')(hl:l.length=l'.length):l=l':=by
 apply List.ext_getElem hl;intro i h1 h2;have e1:=h i l[i] (List.getElem?_eq_getElem h1);have e2:=h' i l'[i] (List.getElem?_eq_getElem h2);rw[e1]at e2;exact Option.some.inj e2
theorem rws_cons{α:Type}{R:α->List Value->Prop}{x:α}{l:List α}{ys:List Value}(h:Rws R (x::l) ys):∃cs ys',ys=cs++ys'/\R x cs/\Rws R l ys':=by
 cases h with
 |cons h1 h2=>exact⟨_,_,rfl,h1,h2⟩
theorem reachGo_nil(ds:List De)(n:Nat)(seen:List ByteArray):reachGo ds n (seen,[])=[]:=by cases n<;>rfl
def IdxR(w:World)(ds:List De)(nm:ByteArray)(e:Ending)(w':World):Prop:=Fr [] w w'/\((e=.returned (iV (-1))/\rootD ds nm=none)\/∃i,∃h:i<ds.length,e=.returned (iV (i:Int))/\rootD ds nm=some ds[i])
end Go.Rf
namespace Go.Proofs.YtggmccicdhnkgaaGreat
open Go.Proofs.Tryz
open Go.Rf Go.RowKit
attribute [local irreducible] Code.wp wpList Exit.then Exit.inBlock bodyPost A Calls execOp Addr.add
theorem run_true{σ:Type}{step:σ->Ex->σ}:∀{l:List Ex} {s:σ},Run (fun _ _=>True) step s l
 |[],s=>trivial
 |e::l,s=>⟨trivial,run_true⟩
set_option maxHeartbeats 8000000 in
theorem root1C(d:De)(nm:ByteArray)(bn tbn:Nat)(cs:List Value)(w:World)(S:List Nat)(hbn:Blk w bn [.string nm] tbn)(hd:RD w S (deC d) cs):
 Calls prog 41 #[.agg cs.toArray,.pointer (some ⟨bn,0,none⟩)] w fun e w'=>e=.returned (.bool (decide (d.name=nm/\d.kind≠0/\d.kind≠2)))/\Fr [] w w':=by
 obtain⟨_,rfl,r1⟩:=RD.invC (x:=iV d.kind) hd;obtain⟨_,rfl,r2⟩:=RD.invC (x:=.string d.name) r1;obtain⟨_,rfl,r3⟩:=RD.invC (x:=iV d.at_) r2;obtain⟨ct,ctc,_,rfl,hct,r4⟩:=RD.lst (rows:=d.ctors.map ctC) r3;obtain⟨pm,pmc,_,rfl,hpm,r5⟩:=RD.lst (rows:=d.params.map pmC) r4;obtain⟨sty,_,rfl,hty,hk1,r6⟩:=RD.ty (t:=d.type) r5;obtain⟨ty,tyc,rfl,_⟩:=hk1.slice;obtain⟨bo1,bon1,boc1,bo2,bon2,boc2,bo3,bon3,boc3,_,rfl,hbo,r7⟩:=RD.ex (e:=d.body) r6;obtain⟨_,rfl,r8⟩:=RD.invC (x:=iV d.depth) r7;obtain⟨ge1,gen1,gec1,ge2,gen2,gec2,ge3,gen3,gec3,_,rfl,hge,r9⟩:=RD.gn (g:=d.gen) r8;obtain⟨dw,dwc,_,rfl,hdw,r10⟩:=RD.lst (rows:=d.draws.map dwC) r9;obtain⟨ck,ckc,_,rfl,hck,r11⟩:=RD.lst (rows:=d.checks.map ckC) r10;obtain⟨cs,csc,_,rfl,hcs,r12⟩:=RD.lst (rows:=d.classes.map ckC) r11;obtain⟨cl,clc,_,rfl,hcl,r13⟩:=RD.lst (rows:=d.claims.map clC) r12;obtain⟨sst,_,rfl,hstt,hk2,r14⟩:=RD.ty (t:=d.state) r13;obtain⟨st,stc,rfl,_⟩:=hk2.slice;obtain⟨it1,itn1,itc1,it2,itn2,itc2,it3,itn3,itc3,_,rfl,hit,r15⟩:=RD.ex (e:=d.init) r14;obtain⟨cm,cmc,_,rfl,hcm,r16⟩:=RD.lst (rows:=d.cmds.map cmC) r15;obtain⟨op,opc,_,rfl,hop,r17⟩:=RD.lst (rows:=d.ops.map opC) r16;obtain⟨rc1,rcn1,rcc1,rc2,rcn2,rcc2,rc3,rcn3,rcc3,_,rfl,hrc,r18⟩:=RD.ex (e:=d.recov) (ds:=[]) Yij;obtain rfl:=r18.inv0;clear r1 r2 r3 r4 r5 r6 r7 r8 r9 r10 r11 r12 r13 r14 r15 r16 r17 r18 hk1 hk2;refine enter func41 rfl ntmps41 rfl ?_;refine rx ?_;refine s_boxN (l:=[iV d.kind,.string d.name,iV d.at_,.slice ct (d.ctors.map ctC).length ctc,.slice pm (d.params.map pmC).length pmc,iV d.type.kind,.string d.type.name,.slice ty (d.type.kids.map tyC).length tyc,iV d.body.kind,.string d.body.name,iV d.body.n,.slice bo1 bon1 boc1,.slice bo2 bon2 boc2,.slice bo3 bon3 boc3,iV d.body.at_,iV d.depth,iV d.gen.kind,.string d.gen.name,.slice ge1 gen1 gec1,.slice ge2 gen2 gec2,.slice ge3 gen3 gec3,iV d.gen.at_,.slice dw (d.draws.map dwC).length dwc,.slice ck (d.checks.map ckC).length ckc,.slice cs (d.classes.map ckC).length csc,.slice cl (d.claims.map clC).length clc,iV d.state.kind,.string d.state.name,.slice st (d.state.kids.map tyC).length stc,iV d.init.kind,.string d.init.name,iV d.init.n,.slice it1 itn1 itc1,.slice it2 itn2 itc2,.slice it3 itn3 itc3,iV d.init.at_,.slice cm (d.cmds.map cmC).length cmc,.slice op (d.ops.map opC).length opc,iV d.recov.kind,.string d.recov.name,iV d.recov.n,.slice rc1 rcn1 rcc1,.slice rc2 rcn2 rcc2,.slice rc3 rcn3 rcc3,iV d.recov.at_]) rfl rfl (fun w1 b hbe hb hf1 hs1=>?_);have hbn:=hbn.tr0 hf1;by_cases e1:d.name=nm
 case neg=>
  refine Yeo ?_;exact⟨by simp[e1],hf1⟩
 by_cases e2:d.kind=0
 .refine rx ?_;refine Yfw ?_;exact⟨by simp[e2],hf1⟩
 by_cases e3:d.kind=2
 .refine rx ?_;refine Yfw ?_;exact⟨by simp[e3],hf1⟩
 refine Yeo ?_;exact⟨by simp[e1,e2,e3],hf1⟩
set_option maxHeartbeats 8000000 in
theorem idxC(ds:List De)(nm:ByteArray)(bn tbn:Nat)(v:Value)(w:World)(S:List Nat)(hbn:Blk w bn [.string nm] tbn)(hd:DR w S (.l (ds.map deC)) v)(hl:ds.length<=1000000):
 Calls prog 40 #[v,.func (.func 41) #[] #[.pointer (some ⟨bn,0,none⟩)]] w (IdxR w ds nm):=by
 have hll:(ds.map deC).length=ds.length:=List.length_map ..;obtain⟨ao,c,rfl,_⟩:=hd.slice;rw[hll]at hd ⊢;refine enter func40 rfl ntmps40 rfl ?_;refine rx ?_;refine c_loopK 5 [] (σ:=Nat) (fun i g u=>g 7=iV ds.length/\g 8=iV i/\i<=ds.length/\rootD (ds.drop i) nm=rootD ds nm/\Fr [] w u) (fun i=>ds.length-i) 0 ⟨rfl,rfl,Nat.zero_le _,rfl,Fr.refl _ _⟩ ?_;rintro i g u ⟨g7,g8,hi,he,hF⟩;rw[eq_upd g7,eq_upd g8];by_cases hlt:i<ds.length
 case neg=>
  refine Yeo ?_;refine⟨hF,.inl ⟨rfl,?_⟩⟩;rw[<-he,List.drop_eq_nil_of_le Yhn];rfl
 obtain⟨ad,cs,had,hr,hc⟩:=DR.at deC_len (hd.tr0 hF) hlt;subst had;have hlen:cs.length=45:=by rw[hr.len,deC_len]
 rw[rootD_drop hlt]at he;refine Yfr ?_;refine s_callV (first:=[]) (cap:=[.pointer (some ⟨bn,0,none⟩)]) (root1C ds[i] nm bn tbn cs u S (hbn.tr0 hF) hr) rfl rfl rfl ?_;rintro _ u1 ⟨rfl,hf1⟩;refine⟨_,rfl,?_⟩;by_cases hk:ds[i].name=nm/\ds[i].kind≠0/\ds[i].kind≠2
 .rw [decide_eq_true hk];rw[if_pos hk]at he;refine Yeo ?_;exact⟨hF.trans0 hf1,.inr ⟨i,hlt,rfl,he.symm⟩⟩
 .rw [decide_eq_false hk];rw[if_neg hk]at he;refine rx ?_;exact q_roundK (i+1) Yhl ⟨rfl,rfl,hlt,he,hF.trans0 hf1⟩ Yhn
def RchI(ds:List De)(w:World)(bm tbm tm ttm mb ql tq:Nat)(vM:Value)(tot:List Br)(s:(List ByteArray×List De)×List Br×Value)(u:World):Prop:=
 Fr [] w u/\Blk u bm [vM] tbm/\Blk u tm [.map (some mb)] ttm/\Mp Value.string Value.bool u mb (seenM s.1.1)/\
 (∃v,Blk u ql [v] tq/\QW ([mb,ql]++blks s.2.2) u s.1.2 v/\(∀x∈blks v,w.heap.size<=x/\x≠mb/\x≠ql/\x≠bm/\x≠tm/\x∉blks s.2.2))/\
 BO w 50 u s.2.1 s.2.2/\(∀x∈blks s.2.2,x≠mb/\x≠ql/\x≠bm/\x≠tm)/\(∀d∈s.1.2,d∈ds)/\s.2.1++reachGo ds (mu ds s.1) s.1=tot/\mu ds s.1<=ds.length+1/\s.2.1.length+mu ds s.1*11000<=(ds.length+1)*11000
set_option maxHeartbeats 16000000 in
theorem reachC(ds:List De)(nm:ByteArray)(v0:Value)(w:World)(S0:List Nat)(hsz:∀d∈ds,SzD d)(hl:ds.length<=50)(hd:DR w S0 (.l (ds.map deC)) v0):
 Calls prog 11 #[.agg ([v0]:List Value).toArray,.string nm] w fun e w'=>∃v,e=.returned v/\BO w 50 w' (setL ltB (reachD ds nm)) v/\Fr [] w w':=by
 have hbd:=hd.bound;have hll:(ds.map deC).length=ds.length:=List.length_map ..;obtain⟨ao,c,hv0,_⟩:=hd.slice;rw[hll]at hv0;refine enter func11 rfl ntmps11 rfl ?_;refine rx ?_;refine s_boxN (l:=[v0]) rfl rfl (fun w1 bm hbme hbm hf1 hs1=>?_);refine rx ?_;refine s_boxN (l:=[.string nm]) rfl rfl (fun w2 bn hbne hbn hf2 hs2=>?_);have hbm:=hbm.tr0 hf2;have hF2:=hf1.trans0 hf2;refine rx ?_;refine s_makeFunc (a:=[]) (b:=[.pointer (some ⟨bn,0,none⟩)]) rfl rfl ?_;refine rx ?_;refine s_call (idxC ds nm bn _ v0 w2 S0 hbn (hd.tr0 hF2) Yhn) rfl ?_;rintro _ w3 ⟨hf3,hcase⟩;have hF3:=hF2.trans0 hf3;have hbm:=hbm.tr0 hf3;have hs3:=hf3.size;rcases hcase with⟨rfl,hn⟩|⟨i,hi,rfl,hn⟩
 .refine ⟨_,rfl,?_⟩;refine Yeo ?_;refine⟨_,rfl,?_,hF3⟩;unfold reachD;rw[hn];exact BO.nil
 refine⟨_,rfl,?_⟩;refine rx ?_;refine s_makeMap (key:=Value.string) (val:=Value.bool) (fun w4 hmp hf4 hs4=>?_);obtain⟨mb,hmb⟩:=exq w3.heap.size;rw[<-hmb]at hmp ⊢;refine rx ?_;refine s_allocN (l:=[.map none]) rfl (fun w5 tm htme htm hf5 hs5=>?_);have hmp:=hmp.tr0 hf5;refine rx ?_
 ((with_reducible apply s_storeB);exact rfl;(conv=>lhs;whnf);exact rfl;exact htm;exact rfl)
 intro w6 htm hf6 hs6;replace htm:Blk w6 tm [.map (some mb)] _:=htm;have hmp:=hmp.tr hf6 Yht;have hbm:=((hbm.tr0 hf4).tr0 hf5).tr hf6 Yht;have hF6:Fr [] w w6:=((hF3.trans0 hf4).trans0 hf5).trans hf6 (fun x hx=>.inr Yhq);have hd6:=hd.tr0 hF6;obtain⟨ad,cs,had,hr,hc⟩:=DR.at deC_len (hv0▸hd6) hi;subst had;have hlen:cs.length=45:=by rw[hr.len,deC_len]
 subst hv0;refine Yfr ?_;refine s_rows1 (c1:=cs) rfl hlen rfl (fun w7 qq hqq ho hf7 hs7=>?_);have hbm:=hbm.tr0 hf7;have htm:=htm.tr0 hf7;have hmp:=hmp.tr0 hf7;refine rx ?_;refine s_allocN (l:=[zS]) rfl (fun w8 ql hqle hql hf8 hs8=>?_);have hbm:=hbm.tr0 hf8;have htm:=htm.tr0 hf8;have hmp:=hmp.tr0 hf8;have ho:=ho.tr0 hf8;refine rx ?_
 ((with_reducible apply s_storeB);exact rfl;(conv=>lhs;whnf);exact rfl;exact hql;exact rfl)
 intro w9 hql hf9 hs9;replace hql:Blk w9 ql [.slice (some ⟨qq,0,none⟩) 1 1] _:=hql;have hF9:Fr [] w w9:=((hF6.trans0 hf7).trans0 hf8).trans hf9 (fun x hx=>.inr Yhq);have hr9:RD w9 ([mb,ql]++blks (.slice (some ⟨qq,0,none⟩) 1 1)) (deC ds[i]) cs:=by
  have h1:=DR.at deC_len hd hi;have h2:=(hd.mono (T:=[mb,ql]++blks (.slice (some ⟨qq,0,none⟩) 1 1)) (fun b hb=>by
   right;simp[blks,Value.ownBlock]at hb;omega))
  obtain⟨ad',cs',e1,h3,h4⟩:=DR.at deC_len (h2.tr0 hF6) hi;cases e1
  have e2:cs'=cs:=cells_eq h4 hc (by rw[h3.len,hr.len]);rw[e2]at h3;exact((h3.tr0 hf7).tr0 hf8).old hf9 (fun b hb=>.inl Yjq)
 have hQ9:QW ([mb,ql]++blks (zS)) w9 [ds[i]] (.slice (some ⟨qq,0,none⟩) 1 1):=⟨cs,(WOwn.ofOwn ho Yhs).tr hf9 Yjo,Rws.one hr9⟩;have hmu0:mu ds ([],[ds[i]])<=ds.length+1:=by have:=free_le ds [];simp only[mu,List.length_singleton];omega
 have htot:[]++reachGo ds (mu ds ([],[ds[i]])) ([],[ds[i]])=reachD ds nm:=by
  unfold reachD;rw[hn];exact reachGo_fuel ds _ _ _ (Nat.le_refl _) Yhn
 have hmp9:Mp Value.string Value.bool w9 mb (seenM []):=hmp.tr hf9 Yht;have hbm9:=hbm.tr hf9 Yht;have htm9:=htm.tr hf9 Yht;refine rx ?_;refine c_loopK 9 [6] (σ:=(List ByteArray×List De)×List Br×Value) (fun s g u=>g 6=s.2.2/\RchI ds w bm _ tm _ mb ql _ _ (reachD ds nm) s u) (fun s=>mu ds s.1) (([],[ds[i]]),[],zS) ⟨rfl,hF9,hbm9,htm9,hmp9,⟨_,hql,hQ9,fun x hx=>?_⟩,BO.nil,by simp[blks,Value.ownBlock],by simp,htot,hmu0,by simp only[List.length_nil];omega⟩ ?_
 .simp [blks,Value.ownBlock]at hx;simp[blks,Value.ownBlock];omega
 have hids:w.heap.size<=mb/\w.heap.size<=ql/\w.heap.size<=bm/\w.heap.size<=tm/\ql≠bm/\ql≠tm:=by omega
 clear hF9 hbm9 htm9 hmp9 hQ9 hr9 hql ho hbm htm hmp hf1 hf2 hf3 hf4 hf5 hf6 hf7 hf8 hf9 hr hc hbn hd6 htot hF2 hF3 hF6;rintro⟨⟨seen,q⟩,acc,va⟩ g u ⟨g6,hF,hbm,htm,hmp,⟨v,hql,hQ,hv⟩,hB,hva,hq,htot,hmu,hal⟩;simp only at g6 hmp hQ hB hva hq htot hmu hal hv;rw[eq_upd g6];have hQ0:=hQ;obtain⟨xs,hw,hrw⟩:=hQ;cases q with
 |nil=>
  obtain⟨_,g0,o0,cap,cur,rfl,_⟩:=hw;simp only[mu,reachGo_nil,List.append_nil]at htot;replace hql:Blk u ql [.slice (some ⟨g0,o0,none⟩) 0 cap] _:=hql;refine rx ?_;refine s_c1 (setC acc va u (hB.dr Yhn) Yhn) ?_;rintro v1 u1 ⟨hB1,hf1⟩;refine Yeo ?_;rw[htot]at hB1;exact⟨v1,rfl,⟨hB1.1,fun x hx=>by have:=hB1.2 x hx;have:=hF.size;omega⟩,hF.trans0 hf1⟩
 |cons d q=>
  obtain⟨cs,xs',rfl,hr,hrw'⟩:=rws_cons hrw;simp only[List.length_cons]at hw;have hlen:cs.length=45:=by rw[hr.len,deC_len]
  have hsz1:=hsz d (hq d Yhs);have hw0:=hw;obtain⟨_,g0,o0,cap,cur,rfl,_,hnc,hcm,_⟩:=hw0;have hmp1:mu ds (seen,d::q)=mu ds (seen,q)+1:=by simp only[mu,List.length_cons];omega
  have hcd:Cells u ((⟨g0,o0,none⟩:Addr).add (0*45)) cs:=fun j x hx=>by
   have:=hw.cells j x (by rw[List.getElem?_append_left (List.getElem?_eq_some_iff.1 hx).1];exact hx);rw[add_lit,add_lit];rw[add_lit]at this;rw[Nat.zero_mul,Nat.add_zero];exact this
  have hgu:g0<u.heap.size:=hw.lt g0 Yic;have hgv:=hv g0 Yic;have hsu:=hF.size;have hmlt:=hmp.lt;have hqlt:=hql.lt;have hmq:mb≠ql:=hmp.ne hql;have hmbm:mb≠bm:=hmp.ne hbm;have hmtm:mb≠tm:=hmp.ne htm;have hvlt:∀x∈blks va,x<u.heap.size:=hB.1.lt;refine rx ?_;refine s_indexAddr (j:=0) rfl rfl rfl Yhn rfl ?_;refine s_loadAggC rfl hcd hlen ?_;refine rx ?_;refine s_allocN (l:=[zI,zT,zI,zS,zS,zI,zT,zS,zI,zT,zI,zS,zS,zS,zI,zI,zI,zT,zS,zS,zS,zI,zS,zS,zS,zS,zI,zT,zS,zI,zT,zI,zS,zS,zS,zI,zS,zS,zI,zT,zI,zS,zS,zS,zI]) rfl (fun u1 bd hbde hbd1 hf1 hs1=>?_);refine rx ?_;refine s_storeAggB (cs:=cs) rfl rfl hbd1 (RD.one hr) rfl hlen (fun u2 hbd2 hf2 hs2=>?_);have hF2:Fr [] u u2:=hf1.trans hf2 (fun x hx=>.inr Yhq);have hql2:=hql.tr0 hF2;refine rx ?_;refine s_cut1 (hw.tr0 hF2) hlen rfl rfl (fun v' hw2 hbv'=>?_);have h1v:v'.oneCell'=true:=by obtain⟨_,_,_,_,_,rfl,_⟩:=hw2;rfl
  refine rx ?_
  ((with_reducible apply s_storeB);exact rfl;(conv=>lhs;whnf);exact h1v;exact hql2;exact rfl)
  intro u3 hql3 hf3 hs3;replace hql3:Blk u3 ql [v'] _:=hql3;have hb3:∀x∈blks v',x∉[ql]:=fun x hx hm=>by rw[hbv']at hx;have:=hv x hx;rw[List.mem_singleton.1 hm]at this;exact this.2.2.1 rfl
  have hw3:=hw2.tr hf3 hb3;have hbd3:=hbd2.tr hf3 Yht;have hF3:Fr [ql] u u3:=(hF2.mono Yhs).trans hf3 (fun x hx=>.inl hx);obtain⟨im,iq,ib,it,iqb,iqt⟩:=hids;have hvb:∀x∈blks v',x<u.heap.size/\w.heap.size<=x/\x≠mb/\x≠ql/\x≠bm/\x≠tm/\x∉blks va:=fun x hx=>by
   rw[hbv']at hx;exact⟨hw.lt x hx,hv x hx⟩
  have hs13:=hF3.size;have hS3:∀x∈([mb,ql]++blks va)++blks v',x<u3.heap.size:=fun x hx=>by
   simp only[List.mem_append,List.mem_cons,List.not_mem_nil,or_false]at hx;rcases hx with((rfl|rfl)|hx)|hx
   .omega
   .omega
   .have:=hvlt x hx;omega
   .have:=(hvb x hx).1;omega
  have hr3:RD u3 (([mb,ql]++blks va)++blks v') (deC d) cs:=by rw[hbv'];exact hr.old hF3 (fun b hb=>.inl Yjq)
  refine rx ?_;refine s_loadAggB rfl hbd3 hlen ?_;refine rx ?_;refine s_c1 (ofC d (by have:=hsz1.parts;omega) (by have:=hsz1.brs;omega) hsz1.dep cs u3 _ hS3 hr3) ?_;rintro vo u4 ⟨hBo,hf4⟩;have hF4:Fr [ql] u u4:=hF3.trans0 hf4;have hvaq:∀x∈blks va,x∉[ql]:=fun x hx hm=>(hva x hx).2.1 (List.mem_singleton.1 hm)
  have hs4:=hF4.size;have hoflen:=hsz1.brs;refine rx ?_;refine s_append (hB.1.tr hF4 hvaq) rfl hBo.1.src rfl (brV_flen _) (brV_one _) Yhv Yhn (fun va' u5 hoa hf5 hk5 _=>?_);have hF5:Fr ([ql]++blks va) u u5:=(hF4.mono Yhs).trans hf5 (fun x hx=>.inl Yix);have hs5:=hf5.size;have hva':∀x∈blks va',w.heap.size<=x/\x≠mb/\x≠ql/\x≠bm/\x≠tm/\x∉blks v':=fun x hx=>by
   have hbmlt:=hbm.lt;have htmlt:=htm.lt;rcases hk5 x hx with h|h
   .have h1:=hva x h;have h2:=hB.2 x h;exact⟨h2,h1.1,h1.2.1,h1.2.2.1,h1.2.2.2,fun hm=>(hvb x hm).2.2.2.2.2.2 h⟩
   .refine ⟨by omega,by omega,by omega,by omega,by omega,fun hm=>by have:=(hvb x hm).1;omega⟩
  have hval:∀x∈blks va',x<u5.heap.size:=hoa.lt;obtain⟨S6,hS6⟩:=exq (([mb,ql]++blks va')++blks v');obtain⟨T6,hT6⟩:=exq ([mb,ql]++blks v');have hTm:∀{x:Nat},x∈T6->x=mb\/x=ql\/x∈blks v':=fun{x} hx=>by
   rw[hT6]at hx;simpa[or_assoc]using hx
  have hTS:∀x∈T6,x∈S6:=fun x hx=>by
   rw[hS6];rcases hTm hx with rfl|rfl|h
   .simp
   .simp
   .simp [h]
  have hSlt:∀x∈S6,x<u5.heap.size:=fun x hx=>by
   rw[hS6]at hx;simp only[List.mem_append,List.mem_cons,List.not_mem_nil,or_false]at hx;rcases hx with((rfl|rfl)|hx)|hx
   .omega
   .omega
   .exact hval x hx
   .have:=(hvb x hx).1;omega
  have hold:∀{dd:De} {cc:List Value},RD u (([mb,ql]++blks va)++blks (Value.slice (some ⟨g0,o0,none⟩) (q.length+1) cap)) (deC dd) cc->RD u5 S6 (deC dd) cc:=fun{dd cc} hh=>by
   have h1:=hh.old (T:=[ql]++blks va) hF5 (fun b hb=>.inl (by
    rcases List.mem_append.1 hb with h|h
    .rw [List.mem_singleton.1 h];simp
    .simp [h]))
   have h2:=hh.mono (T:=(([mb,ql]++blks va)++blks va')++blks v') (fun b hb=>by
    simp only[List.mem_append]at hb;rcases hb with((h|h)|h)|h
    .exact .inl (List.mem_append_left _ (List.mem_append_left _ h))
    .exact .inl (by simp[h])
    .rcases hk5 b h with h|h
     .exact .inl (by simp[h])
     .exact .inr Yhn
    .rw [hbv']at h;exact .inl (by simp[h]))
   have h3:=h2.old (T:=[ql]++blks va) hF5 (fun b hb=>.inl (by
    rcases List.mem_append.1 hb with h|h
    .rw [List.mem_singleton.1 h];simp
    .simp [h]))
   exact h3.mono (fun b hb=>.inl (by rw[hS6]at hb;rw[List.mem_append,List.mem_append]at hb;rcases hb with(h|h)|h;exact List.mem_append_left _ (List.mem_append_left _ (List.mem_append_left _ h));exact List.mem_append_left _ (List.mem_append_right _ h);exact List.mem_append_right _ h))
  have hr5:=hold hr;have hrw5:Rws (fun d cs=>RD u5 S6 (deC d) cs) q xs':=hrw'.imp (fun dd cc _ h=>hold h);have hqlbd:bd≠ql:=by omega
  have hbd5:=(hbd3.tr0 hf4).tr hf5 (fun hm=>by have:=hvlt bd hm;omega);have hql5:=(hql3.tr0 hf4).tr hf5 (fun hm=>(hva ql hm).2.1 rfl);have hw5:=(hw3.tr0 hf4).tr hf5 (fun x hx hm=>(hvb x hx).2.2.2.2.2.2 hm);have hmp5:Mp Value.string Value.bool u5 mb (seenM seen):=hmp.tr hF5 (fun hm=>by
   rcases List.mem_append.1 hm with h|h
   .exact hmq (List.mem_singleton.1 h)
   .exact (hva mb h).1 rfl)
  have hbm5:=hbm.tr hF5 (fun hm=>by
   rcases List.mem_append.1 hm with h|h
   .exact iqb (List.mem_singleton.1 h).symm
   .exact (hva bm h).2.2.1 rfl)
  have htm5:=htm.tr hF5 (fun hm=>by
   rcases List.mem_append.1 hm with h|h
   .exact iqt (List.mem_singleton.1 h).symm
   .exact (hva tm h).2.2.2 rfl)
  have hF05:Fr [] w u5:=hF.trans hF5 (fun x hx=>.inr (by
   rcases List.mem_append.1 hx with h|h
   .rw [List.mem_singleton.1 h];exact iq
   .exact hB.2 x h))
  refine rx ?_;refine s_loadAggB rfl hbd5 hlen ?_;refine rx ?_;refine s_call (partsP d (by have:=hsz1.parts;omega) cs u5 S6 hr5) rfl ?_;rintro _ u6 ⟨w61,vp,hf61,rfl,hLO,hf62⟩;refine⟨_,rfl,?_⟩;have hs61:=hf61.size;have hf6:=hf61.trans0 hf62;have hs6:=hf6.size;have hpl:=hsz1.parts;have hdp:=hLO.dr exC_len Yhn hf62 Yhs (fun x hx=>by have:=hSlt x hx;omega);refine rx ?_;refine s_makeFunc (a:=[]) (b:=[.pointer (some ⟨tm,0,none⟩),.pointer (some ⟨bm,0,none⟩),.pointer (some ⟨ql,0,none⟩)]) rfl rfl ?_;refine rx ?_;have hF6:=hF05.trans0 hf6;have hdM:DR u6 S6 (.l (ds.map deC)) _:=(hd.mono (T:=S6) (fun x hx=>.inr (by
   rw[hS6]at hx;simp only[List.mem_append,List.mem_cons,List.not_mem_nil,or_false]at hx;rcases hx with((rfl|rfl)|hx)|hx
   .exact im
   .exact iq
   .exact (hva' x hx).1
   .exact (hvb x hx).2.1))).tr0 hF6
  have hq6:∀x∈q,x∈ds:=fun x hx=>hq x Yix
  have H:=reach2C ds (fun d hd=>(hsz d hd).cmds) mb ql 23 tm _ bm _ S6 T6 u6 _ hTS (fun x hx=>by have:=hSlt x hx;omega) (by rw[hT6];simp) (by rw[hT6];simp) hmq (htm5.tr0 hf6) Yjg (hbm5.tr0 hf6) Yjh hdM;have hI:RcI ds mb ql 23 u6 S6 T6 [] (seen,q) u6:=by
   refine⟨hmp5.tr0 hf6,⟨v',hql5.tr0 hf6,⟨xs',hw5.tr0 hf6,hrw5.imp (fun dd cc _ h=>(h.tr0 hf6).mono (fun b hb=>.inl (by rcases List.mem_append.1 hb with h|h;exact h;rw[hS6];simp[h])))⟩,fun x hx=>.inl (by rw[hT6];simp[hx]),by simp,fun hm=>(hvb mb hm).2.2.1 rfl,fun hm=>(hvb ql hm).2.2.2.1 rfl⟩,by simp,by simp,by simp,by omega⟩
  refine s_cE (visitC H (partsD d) hsz1.dep vp u6 (Fr.refl _ _) [] Yhs (seen,q) run_true hI hdp) ?_;rintro u7 ⟨⟨Z',_,⟨hmp7,⟨v7,hql7,hQ7,hv7T,_,hmv7,hqv7⟩,_,_,_,_⟩⟩,_,hf7⟩;obtain⟨s',hs'⟩:=exq ((nodesEs (partsD d)).foldl (rstE ds) (seen,q));rw[<-hs']at hmp7 hQ7;have hmu':mu ds s'<=mu ds (seen,q):=hs'▸mu_fold ds _ _;have hgo:reachGo ds (mu ds (seen,d::q)) (seen,d::q)=ofD d++reachGo ds (mu ds s') s':=by
   rw[hmp1,reachGo,<-hs',reachGo_fuel ds _ (mu ds s') s' hmu' (Nat.le_refl _)]
  have hbml:=hbm5.lt;have html:=htm5.lt;have hT7:∀x∈T6,w.heap.size<=x:=fun x hx=>by
   rcases hTm hx with rfl|rfl|h
   .exact im
   .exact iq
   .exact (hvb x h).2.1
  have hva7:∀x∈blks va',x∉T6:=fun x hx hm=>by
   have h1:=hva' x hx;rcases hTm hm with h|h|h
   .exact h1.2.1 h
   .exact h1.2.2.1 h
   .exact h1.2.2.2.2.2 h
  have hv7:∀x∈blks v7,w.heap.size<=x/\x≠mb/\x≠ql/\x≠bm/\x≠tm/\x∉blks va':=fun x hx=>by
   have e1:x≠mb:=fun e=>hmv7 (e▸hx)
   have e2:x≠ql:=fun e=>hqv7 (e▸hx)
   rcases hv7T x hx with h|h
   .refine ⟨hT7 x h,e1,e2,?_,?_,fun hm=>hva7 x hm h⟩
    .rcases hTm h with h|h|h
     .exact absurd h e1
     .exact absurd h e2
     .exact (hvb x h).2.2.2.2.1
    .rcases hTm h with h|h|h
     .exact absurd h e1
     .exact absurd h e2
     .exact (hvb x h).2.2.2.2.2.1
   .exact ⟨by omega,e1,e2,by omega,by omega,fun hm=>by have:=hval x hm;omega⟩
  refine rx ?_;have hB7:BO w 50 u7 (acc++ofD d) va':=⟨by rw[List.length_append,List.flatMap_append];exact(hoa.tr0 hf6).tr hf7 hva7,fun x hx=>(hva' x hx).1⟩;have hQ7':QW ([mb,ql]++blks va') u7 s'.2 v7:=by
   obtain⟨ys,h1,h2⟩:=hQ7;refine⟨ys,h1,h2.imp (fun dd cc _ h=>h.mono (fun b hb=>.inl (by rw[hS6];rw[List.mem_append,List.mem_append]at hb;rcases hb with(h|h)|h;exact List.mem_append_left _ (List.mem_append_left _ (List.mem_append_left _ h));exact List.mem_append_left _ (List.mem_append_left _ (List.mem_append_right _ h));exact List.mem_append_right _ h)))⟩
  refine q_roundK (s',acc++ofD d,va') Yhl ?_ ?_
  .refine ⟨rfl,hF6.trans hf7 (fun x hx=>.inr (hT7 x hx)),(hbm5.tr0 hf6).tr hf7 Yjh,(htm5.tr0 hf6).tr hf7 Yjg,hmp7,⟨v7,hql7,hQ7',hv7⟩,hB7,fun x hx=>⟨(hva' x hx).2.1,(hva' x hx).2.2.1,(hva' x hx).2.2.2.1,(hva' x hx).2.2.2.2.1⟩,?_,?_,?_,?_⟩
   .rw [hs'];exact rstE_foldsub hq6
   .rw [List.append_assoc];show acc++(ofD d++reachGo ds (mu ds s') s')=_;rw[<-hgo];exact htot
   .show mu ds s'<=_;omega
   .show (acc++ofD d).length+mu ds s'*11000<=_;rw[List.length_append];omega
  .show mu ds s'<mu ds (seen,d::q);omega
end Go.Proofs.YtggmccicdhnkgaaGreat
namespace Go.Rf
open Go.RowKit
variable{M R S T l:List Nat}{i n p:Nat}{P:Pp}{s:St}{α β:Type}{u u':World}
def natsV(l:List Nat):List Value:=l.map (fun n=>Value.int .i64 (n:Nat))
theorem natsV_len(l:List Nat):(natsV l).length=l.length:=by simp[natsV]
theorem natsV_one(l:List Nat):∀u∈natsV l,u.oneCell'=true:=fun u hu=>by
 obtain⟨n,_,rfl⟩:=List.mem_map.1 hu;rfl
theorem natsV_get(h:i<l.length):(natsV l)[i]?=some (iV (l[i]:Nat)):=by
 unfold natsV;rw[List.getElem?_map,List.getElem?_eq_getElem h];rfl
theorem natsV_set:(natsV l).set i (iV (n:Nat))=natsV (l.set i n):=by
 unfold natsV;rw[List.map_set]
def RelB(m:List (Br×Int))(cnt:Br->Nat):Prop:=∀b,getM m b=if cnt b=0 then none else some (cnt b:Int)
def RelP(m:List (Pr×Bool))(ps:Pr->Prop):Prop:=∀p,(ps p->getM m p=some true)/\(¬ps p->getM m p=none)
theorem RelB.nil:RelB [] (fun _=>0):=fun b=>rfl
theorem RelP.nil:RelP [] (fun _=>False):=fun p=>⟨fun h=>h.elim,fun _=>rfl⟩
theorem RelB.keys{m:List (Br×Int)}{cnt:Br->Nat}(h:RelB m cnt){b:Br}:b∈m.map Prod.fst↔cnt b≠0:=by
 have:=h b;by_cases h0:cnt b=0
 .rw [if_pos h0]at this;have:=getM_none.1 this;simp only[h0,ne_eq,not_true_eq_false,iff_false];exact this
 .rw [if_neg h0]at this;simp only[ne_eq,h0,not_false_eq_true,iff_true];apply Classical.byContradiction;intro hn;rw[getM_none.2 hn]at this;cases this
theorem RelP.keys{m:List (Pr×Bool)}{ps:Pr->Prop}(h:RelP m ps){p:Pr}:p∈m.map Prod.fst↔ps p:=by
 constructor
 .intro hm;apply Classical.byContradiction;intro hn;exact getM_none.1 ((h p).2 hn) hm
 .intro hp;apply Classical.byContradiction;intro hn;have:=(h p).1 hp;rw[getM_none.2 hn]at this;cases this
theorem RelB.look{m:List (Br×Int)}{cnt:Br->Nat}(h:RelB m cnt)(b:Br):(getM m b).getD 0=(cnt b:Int):=by
 rw[h b]
 split
 .next h0=>rw[h0];rfl
 .rfl
theorem RelB.put{m:List (Br×Int)}{cnt:Br->Nat}(h:RelB m cnt){b:Br}(hn:n≠0):RelB (putM m b (n:Int)) (fun x=>if x=b then n else cnt x):=fun x=>by
 rw[getM_put];by_cases e:x=b
 .simp [e,hn]
 .simp only[if_neg e];exact h x
theorem RelP.put{m:List (Pr×Bool)}{ps:Pr->Prop}(h:RelP m ps){b:Pr}:RelP (putM m b true) (fun x=>x=b\/ps x):=fun x=>by
 rw[getM_put];by_cases e:x=b
 .simp [e]
 .simp only[if_neg e,e,false_or];exact h x
theorem RelB.congr{m:List (Br×Int)}{cnt cnt':Br->Nat}(h:RelB m cnt)(e:∀b,cnt b=cnt' b):RelB m cnt':=by
 obtain rfl:cnt=cnt':=funext e;exact h
theorem RelP.congr{m:List (Pr×Bool)}{ps ps':Pr->Prop}(h:RelP m ps)(e:∀b,ps b↔ps' b):RelP m ps':=by
 obtain rfl:ps=ps':=funext (fun b=>propext (e b));exact h
theorem keys_len{lt:α->α->Bool}[DecidableEq α](T:Tot lt){m:List (α×β)}{l:List α}(hn:(m.map Prod.fst).Nodup)(hl:Asc lt l)(h:∀a,a∈m.map Prod.fst↔a∈l):m.length=l.length:=by
 have hp:(m.map Prod.fst).Perm l:=(List.perm_ext_iff_of_nodup hn (Asc.nd T hl)).2 h;have:=hp.length_eq;rw[List.length_map]at this;exact this
theorem keys_set{lt:α->α->Bool}[DecidableEq α](T:Tot lt){m:List (α×β)}{l:List α}(hl:Asc lt l)(h:∀a,a∈m.map Prod.fst↔a∈l):setL lt (m.map Prod.fst)=l:=setL_of T hl (fun y=>(h y).symm)
def rnC(r:Rn):List Dt:=[.c (iV r.kind),.c (iV r.at_),.c (iV r.code),.l (r.bs.map brC),.l (r.cl.map intR)]
def CovM(u:World)(p:Nat)(M R:List Nat)(P:Pp)(s:St):Prop:=
 ∃bb pb vr vc mb mp,M=[p,bb,pb]++blks vc/\R=blks vr/\(M++R).Nodup/\
  Blk u p [.string P.prop,iV (P.checks:Nat),vr,iV (s.runs:Nat),iV (s.o 0:Nat),iV (s.o 1:Nat),iV (s.o 2:Nat),vc,.map (some bb),.map (some pb)] 125/\
  Own u 50 3 vr P.reach.length (P.reach.flatMap brV)/\Own u 3 1 vc s.cls.length (natsV s.cls)/\
  Mp brK (Value.int .i64) u bb mb/\RelB mb s.cnt/\Mp prK Value.bool u pb mp/\RelP mp (· ∈s.ps)/\StOk P s
theorem CovM.tr(h:CovM u p M R P s)(hf:Fr T u u')(hT:∀x∈M++R,x∉T):CovM u' p M R P s:=by
 obtain⟨bb,pb,vr,vc,mb,mp,rfl,rfl,hnd,hb,hr,hc,hmb,hrb,hmp,hrp,hok⟩:=h;exact⟨bb,pb,vr,vc,mb,mp,rfl,rfl,hnd,hb.tr hf (hT p Yhs),hr.tr hf (fun k hk=>hT k Ykl),hc.tr hf (fun k hk=>hT k Ykl),hmb.tr hf (hT bb Yhs),hrb,hmp.tr hf (hT pb Yhs),hrp,hok⟩
theorem CovM.tr0(h:CovM u p M R P s)(hf:Fr [] u u'):CovM u' p M R P s:=h.tr hf Yhs
theorem CovM.lt(h:CovM u p M R P s):∀x∈M++R,x<u.heap.size:=by
 obtain⟨bb,pb,vr,vc,mb,mp,rfl,rfl,hnd,hb,hr,hc,hmb,hrb,hmp,hrp,hok⟩:=h;intro x hx;simp only[List.mem_append,List.mem_cons,List.not_mem_nil,or_false]at hx;rcases hx with((rfl|rfl|rfl)|hx)|hx
 .exact hb.lt
 .exact hmb.lt
 .exact hmp.lt
 .exact hc.lt x hx
 .exact hr.lt x hx
def RcV(u:World)(p:Nat)(P:Pp)(rs:List Rn):Prop:=
 ∃vr vs,Blk u p [.string P.prop,iV (P.checks:Nat),iV (P.ncls:Nat),vr,vs] 120/\DR u [] (.l (P.reach.map brC)) vr/\DR u [] (.l (rs.map rnC)) vs
theorem RcV.tr0{rs:List Rn}(h:RcV u p P rs)(hf:Fr [] u u'):RcV u' p P rs:=by
 obtain⟨vr,vs,h1,h2,h3⟩:=h;exact⟨vr,vs,h1.tr0 hf,h2.tr0 hf,h3.tr0 hf⟩
def RcM(u:World)(p:Nat)(M R S:List Nat)(P:Pp)(rs:List Rn):Prop:=
 ∃vr vs xs,M=[p]++blks vs/\R=blks vr/\(M++R).Nodup/\(∀x∈M,x∈S)/\
  Blk u p [.string P.prop,iV (P.checks:Nat),iV (P.ncls:Nat),vr,vs] 120/\
  Own u 50 3 vr P.reach.length (P.reach.flatMap brV)/\
  Own u 41 5 vs rs.length xs/\Rws (fun r cs=>RD u S (rnC r) cs) rs xs
theorem RcM.tr{rs:List Rn}(h:RcM u p M R S P rs)(hf:Fr T u u')(hT:∀x∈M++R,x∉T)(hS:∀x∈T,x∈S\/u.heap.size<=x):RcM u' p M R S P rs:=by
 obtain⟨vr,vs,xs,rfl,rfl,hnd,hMS,hb,hr,hs,hw⟩:=h;exact⟨vr,vs,xs,rfl,rfl,hnd,hMS,hb.tr hf (hT p Yhs),hr.tr hf (fun k hk=>hT k Ykl),hs.tr hf (fun k hk=>hT k Ykl),hw.imp (fun r cs _ h=>h.old hf hS)⟩
theorem RcM.tr0{rs:List Rn}(h:RcM u p M R S P rs)(hf:Fr [] u u'):RcM u' p M R S P rs:=h.tr hf Yhs Yhs
theorem RcM.mono{S':List Nat}{rs:List Rn}(h:RcM u p M R S P rs)(hM:∀x∈M,x∈S')(hS:∀x∈S',x∈S\/u.heap.size<=x):RcM u p M R S' P rs:=by
 obtain⟨vr,vs,xs,rfl,rfl,hnd,hMS,hb,hr,hs,hw⟩:=h;exact⟨vr,vs,xs,rfl,rfl,hnd,hM,hb,hr,hs,hw.imp (fun r cs _ h=>h.mono hS)⟩
theorem RcM.lt{rs:List Rn}(h:RcM u p M R S P rs):∀x∈M++R,x<u.heap.size:=by
 obtain⟨vr,vs,xs,rfl,rfl,hnd,hMS,hb,hr,hs,hw⟩:=h;intro x hx;simp only[List.mem_append,List.mem_cons,List.not_mem_nil,or_false]at hx;rcases hx with(rfl|hx)|hx
 .exact hb.lt
 .exact hs.lt x hx
 .exact hr.lt x hx
theorem RcM.v{rs:List Rn}(h:RcM u p M R S P rs)(h1:P.reach.length<=1000000000000)(h2:rs.length<=1000000000000):RcV u p P rs:=by
 obtain⟨vr,vs,xs,rfl,rfl,hnd,hMS,hb,hr,hs,hw⟩:=h;refine⟨vr,vs,hb,own_dr hr h1,DR.ofTyped (k:=5) (fun _=>rfl) h2 ⟨xs,hs.src,fun ad n c e _ hm=>by simp at hm,hw.imp (fun r cs _ h=>h.mono Yhs)⟩⟩
end Go.Rf
namespace Go.Rf
open Go.RowKit
variable{st:Nat}
section
variable{α β:Type}
theorem ents_key(key:α->Value)(val:β->Value)(a:α)(v:β):∀{m:List (α×β)} {ns:List Nat} {i:Nat},ns.length=m.length->m[i]?=some (a,v)->(ents key val m ns).modify i (fun e=>{e with key:=key a})=ents key val m ns
 |[],ns,i,_,h=>by simp at h
 |q::m,[],i,h,_=>by simp at h
 |q::m,k::ns,0,h,h1=>by
  simp only[List.getElem?_cons_zero,Option.some.injEq]at h1;subst h1;simp[ents]
 |q::m,k::ns,i+1,h,h1=>by
  simp only[List.getElem?_cons_succ]at h1;simp only[ents,List.modify_succ_cons];rw[ents_key key val a v Yil h1]
theorem ents_val(key:α->Value)(val:β->Value)(a:α)(v v':β):∀{m:List (α×β)} {ns:List Nat} {i:Nat},ns.length=m.length->m[i]?=some (a,v)->(ents key val m ns).modify i (fun e=>{e with val:=val v'})=ents key val (m.set i (a,v')) ns
 |[],ns,i,_,h=>by simp at h
 |q::m,[],i,h,_=>by simp at h
 |q::m,k::ns,0,h,h1=>by
  simp only[List.getElem?_cons_zero,Option.some.injEq]at h1;subst h1;simp[ents]
 |q::m,k::ns,i+1,h,h1=>by
  simp only[List.getElem?_cons_succ]at h1;simp only[ents,List.modify_succ_cons,List.set_cons_succ];rw[ents_val key val a v v' Yil h1]
theorem ents_born(key:α->Value)(val:β->Value)(st:Nat):∀{m:List (α×β)} {ns:List Nat} {i:Nat},ns.length=m.length->ns.Nodup->ns[i]?=some st->(ents key val m ns).findIdx? (fun e=>(e.born:Int)==(st:Int))=some i
 |[],[],i,_,_,h=>by simp at h
 |[],k::ns,i,h,_,_=>by simp at h
 |q::m,[],i,h,_,_=>by simp at h
 |q::m,k::ns,0,h,_,h1=>by
  simp only[List.getElem?_cons_zero,Option.some.injEq]at h1;subst h1;simp[ents,List.findIdx?_cons]
 |q::m,k::ns,i+1,h,hn,h1=>by
  simp only[List.getElem?_cons_succ]at h1;have hne:¬(k:Int)=(st:Int):=fun e=>by
   have:k=st:=by omega
   subst this;exact(List.nodup_cons.1 hn).1 (List.mem_of_getElem? h1)
  simp only[ents,List.findIdx?_cons];rw[ents_born key val st Yil (List.nodup_cons.1 hn).2 h1];simp[hne]
variable[DecidableEq α]
theorem putM_set{a:α}{v v':β}:∀{m:List (α×β)} {i:Nat},(m.map Prod.fst).Nodup->m[i]?=some (a,v)->putM m a v'=m.set i (a,v')
 |[],i,_,h=>by simp at h
 |q::m,0,_,h=>by
  simp only[List.getElem?_cons_zero,Option.some.injEq]at h;subst h;simp[putM]
 |q::m,i+1,hn,h=>by
  simp only[List.getElem?_cons_succ]at h;simp only[List.map_cons,List.nodup_cons]at hn;have hne:¬a=q.1:=fun e=>hn.1 (by rw[<-e];exact List.mem_map.2 ⟨(a,v),List.mem_of_getElem? h,rfl⟩)
  simp only[putM,if_neg hne,List.set_cons_succ];rw[putM_set hn.2 h]
end
section
variable{α β:Type}[DecidableEq α]{key:α->Value}{val:β->Value}{w w':World}{b:Nat}{m:List (α×β)}
def MpS(key:α->Value)(val:β->Value)(w:World)(b:Nat)(m:List (α×β))(a:α)(st:Nat):Prop:=
 ∃ns clock,ns.length=m.length/\w.heap[b]?=some (.map (ents key val m ns).toArray clock)/\(m.map Prod.fst).Nodup/\ns.Nodup/\(∀n∈ns,n<clock)/\∃(i:Nat) (v:β),m[i]?=some (a,v)/\ns[i]?=some st
theorem MpS.mp{a:α}(h:MpS key val w b m a st):Mp key val w b m:=by
 obtain⟨ns,c,h1,h2,h3,h4,h5,_⟩:=h;exact⟨ns,c,h1,h2,h3,h4,h5⟩
theorem MpS.tr{S:List Nat}{a:α}(h:MpS key val w b m a st)(hf:Fr S w w')(hS:b∉S):MpS key val w' b m a st:=by
 have hl:=h.mp.lt;exact Ydi
variable{P:Program}{ops:Array Oper}{Q:Exit->Act->World->Prop}{rest:List Oper}{n:Nat}{f:Env}{D:Dfs}
variable{d:Nat}{d':Option Nat}{ty:TypeId}{ps:String}{af:Array Edge}{x y z:Operand}{t k e:Nat}
def entM(m:List (α×β))(a:α)(z:β):List (α×β):=match getM m a with|some _=>m|none=>m++[(a,z)]
theorem run_mapEntry{a:α}{z0:β}[T:MapT P t k e][K:KeyT P k key][Z:ZeroT P e (val z0)](hm:Mp key val w b m):
 ∃w' st,(Instr.mapEntry t (.map (some b)) (key a)).run P w=.ok (.tuple #[val ((getM m a).getD z0),iV (st:Nat)]) w'/\MpS key val w' b (entM m a z0) a st/\Fr [b] w w'/\w'.heap.size=w.heap.size:=by
 obtain⟨ns,c,h1,h2,h3,h4,h5⟩:=hm;obtain⟨i,hi,hz⟩:=Z.z;have hf:=find_key (P:=P) (k:=k) (w:=w) (key:=key) (val:=val) a h1;have hg:=lookI_get m a 0;cases hl:lookI m a 0 with
 |none=>
  rw[hl]at hf hg;have hg:getM m a=none:=hg.symm;have hnm:=lookI_none.1 hl;have hs:=mp_set (o:=.map (ents key val (m++[(a,z0)]) (ns++[c])).toArray (c+1)) h2;refine⟨_,c,?_,?_,hs.1,by simp[ChangeMaps.setBlock]⟩
  .simp only[Instr.mapEntry,Sem.run_bind,run_underlying T.u,Result.andThen_ok,MapKept.run_getObj_map h2,K.chk];rw[hf];simp only[Option.map_none,Result.andThen_ok,zeroValue,typeInfo,Sem.run_bind];rw[ents_snoc key val h1,hg];simp[hi,hz,MapKept.run_setObj_map _ h2,ChangeMaps.setBlock,goInt]
  .unfold entM;rw[hg];refine⟨ns++[c],c+1,by simp[h1],hs.2,?_,?_,?_,m.length,z0,by simp,by rw[<-h1];simp⟩
   .rw [List.map_append,List.nodup_append];exact⟨h3,by simp,fun x hx y hy=>by simp at hy;subst hy;exact fun e=>hnm (e▸hx)⟩
   .rw [List.nodup_append];exact Ycw
   .intro q hq;exact Ydf
 |some p=>
  obtain⟨j,v0⟩:=p;rw[hl]at hf hg;have hg:getM m a=some v0:=hg.symm;obtain⟨_,g1,g2⟩:=lookI_some hl;rw[Nat.sub_zero]at g1 g2;have hjl:j<m.length:=(List.getElem?_eq_some_iff.1 g1).1;have hs:=mp_set (o:=.map (ents key val m ns).toArray c) h2;have hge:=ents_get key val (i:=j) g1 (List.getElem?_eq_getElem (show j<ns.length by omega));refine⟨_,ns[j]'Yhn,?_,?_,hs.1,by simp[ChangeMaps.setBlock]⟩
  .simp only[Instr.mapEntry,Sem.run_bind,run_underlying T.u,Result.andThen_ok,MapKept.run_getObj_map h2,K.chk];rw[hf];simp only[Option.map_some,Result.andThen_ok,Sem.run_bind,List.getElem?_toArray,hge,Option.getD_some,Instr.keyThatStays,K.same,if_true,Sem.run_pure,MapKept.run_setObj_map _ h2,List.modify_toArray];rw[ents_key key val a v0 h1 g1,hg];simp[ChangeMaps.setBlock,goInt]
  .unfold entM;rw[hg];exact⟨ns,c,h1,hs.2,h3,h4,h5,j,v0,g1,List.getElem?_eq_getElem Yhn⟩
theorem run_entryStore{a:α}{v:β}(hm:MpS key val w b m a st):
 ∃w',(Instr.entryStore t (.map (some b)) (iV (st:Nat)) (val v)).run P w=.ok () w'/\Mp key val w' b (putM m a v)/\Fr [b] w w'/\w'.heap.size=w.heap.size:=by
 obtain⟨ns,c,h1,h2,h3,h4,h5,i,v0,hi,hs⟩:=hm;have hp:=putM_set (v':=v) h3 hi;have hst:=mp_set (o:=.map (ents key val (m.set i (a,v)) ns).toArray c) h2;refine⟨_,?_,⟨ns,c,by rw[hp];simp[h1],?_,putM_nd h3,h4,h5⟩,hst.1,by simp[ChangeMaps.setBlock]⟩
 .simp only[Instr.entryStore,Sem.run_bind,MapKept.run_getObj_map h2,Result.andThen_ok,asInt,Sem.run_pure,asIntOf];rw[show(ents key val m ns).toArray.findIdx? (fun e=>(e.born:Int)==(st:Int))=some i by rw[List.findIdx?_toArray];exact ents_born key val st h1 h4 hs];simp only[MapKept.run_setObj_map _ h2,List.modify_toArray];rw[ents_val key val a v0 v h1 hi];simp[ChangeMaps.setBlock]
 .rw [hp];exact hst.2
theorem s_mapEntry{a:α}{z0:β}[T:MapT P t k e][K:KeyT P k key][Z:ZeroT P e (val z0)](hm:Mp key val w b m)(hx:ev n f x=.map (some b))(hy:ev n f y=key a)
 (h:∀w' st,MpS key val w' b (entM m a z0) a st->Fr [b] w w'->w'.heap.size=w.heap.size->wpList P ops Q rest (A n (upd f d (.tuple #[val ((getM m a).getD z0),iV (st:Nat)]))) w'):
 wpList P ops Q (⟨some d,.mapEntry t x y,ty,ps,af,none⟩::rest) (A n f) w:=by
 obtain⟨w',st,hr,h1,h2,h3⟩:=run_mapEntry (P:=P) (t:=t) (a:=a) (z0:=z0) hm;refine s_run (w':=w') ?_ (h w' st h1 h2 h3);simp[execOp,hx,hy,hr,Result.andThen]
theorem s_entryStore{a:α}{v:β}(hm:MpS key val w b m a st)(hx:ev n f x=.map (some b))(hy:ev n f y=iV (st:Nat))(hz:ev n f z=val v)
 (h:∀w',Mp key val w' b (putM m a v)->Fr [b] w w'->w'.heap.size=w.heap.size->wpList P ops Q rest (A n (updo f d' undef)) w'):
 wpList P ops Q (⟨d',.entryStore t x y z,ty,ps,af,none⟩::rest) (A n f) w:=by
 obtain⟨w',hr,h1,h2,h3⟩:=run_entryStore (P:=P) (t:=t) (v:=v) hm;refine s_skip (w':=w') ?_ (h w' h1 h2 h3);simp[execOp,hx,hy,hz,hr,Result.andThen]
end
end Go.Rf
namespace Go.Rf
open Go.RowKit
variable{k tb:Nat}{α:Type}{u w0:World}
section
variable{α:Type}{enc:α->List Value}{K:Nat}
theorem fm_takeK(hk:∀x,(enc x).length=K):∀(l:List α) (k:Nat),(l.flatMap enc).take (k*K)=(l.take k).flatMap enc
 |l,0=>by simp
 |[],k+1=>by simp
 |a::l,k+1=>by
  rw[List.flatMap_cons,List.take_succ_cons,List.flatMap_cons,<-fm_takeK hk l k,List.take_append,hk,Nat.succ_mul,List.take_of_length_le (by rw[hk];omega)]
  congr 2;omega
theorem fm_dropK(hk:∀x,(enc x).length=K):∀(l:List α) (k:Nat),(l.flatMap enc).drop (k*K)=(l.drop k).flatMap enc
 |l,0=>by simp
 |[],k+1=>by simp
 |a::l,k+1=>by
  rw[List.flatMap_cons,List.drop_succ_cons,<-fm_dropK hk l k,List.drop_append,hk,Nat.succ_mul,List.drop_eq_nil_of_le (by rw[hk];omega),List.nil_append]
  congr 1;omega
theorem fm_get(hk:∀x,(enc x).length=K):∀(l:List α) (i j:Nat) (hi:i<l.length),j<K->(l.flatMap enc)[i*K+j]?=(enc l[i])[j]?
 |a::l,0,j,_,hj=>by
  rw[List.flatMap_cons,Nat.zero_mul,Nat.zero_add,List.getElem?_append_left (by rw[hk];exact hj)];rfl
 |a::l,i+1,j,hi,hj=>by
  rw[List.flatMap_cons,List.getElem?_append_right (by rw[hk,Nat.succ_mul];omega),hk,show(i+1)*K+j-K=i*K+j by rw[Nat.succ_mul];omega,fm_get hk l i j Yjf hj];rfl
end
theorem take_all{lt:α->α->Bool}(T:Tot lt){l:List α}(ha:Asc lt l){x:α}(hk:k<=l.length)(h:k=0\/∀h:k-1<l.length,lt l[k-1] x=true):∀i (hi:i<l.length),i<k->lt l[i] x=true:=fun i hi hik=>by
 rcases h with h|h
 .omega
 .have h1:=h Yhn;rcases Nat.lt_or_ge i (k-1)with h2|h2
  .exact T.tr (List.pairwise_iff_getElem.1 ha i (k-1) hi Yhn h2) h1
  .obtain rfl:i=k-1:=by omega
   exact h1
section
variable{D:Dfs}
variable{P:Program}{ops:Array Oper}{Q:Exit->Act->World->Prop}{rest:List Oper}{n:Nat}{f:Env}{w:World}
variable{d:Nat}{ty:TypeId}{ps:String}{af:Array Edge}{x s:Operand}{t:Nat}
end
theorem PO.nil:PO w0 tb u [] (zS):=⟨Own.nil _ _ _,fun b hb=>by simp[blks,Value.ownBlock]at hb⟩
theorem PO.tr0{u':World}{l:List Pr}{v:Value}(h:PO w0 tb u l v)(hf:Fr [] u u'):PO w0 tb u' l v:=⟨h.1.tr0 hf,h.2⟩
theorem brV_l3(b:Br):(brV b).length=3:=rfl
theorem prV_l6(p:Pr):(prV p).length=6:=rfl
theorem getEq{l:List α}{x:α}(hk:k<l.length):l[k]?=some x↔l[k]=x:=by rw[List.getElem?_eq_getElem hk];simp
end Go.Rf
namespace Go.Proofs.YtggmccicdhnkgaaGreat
open Go.Proofs.Tryz
open Go.Rf Go.RowKit
variable{S:List Nat}{u:World}
section
variable{α:Type}{enc:α->List Value}{K:Nat}
theorem src_rows(hk:∀x,(enc x).length=K){l:List α}{ao:Option Addr}{m c:Nat}(h:Src u (.slice ao m c) m (l.flatMap enc)){i:Nat}(hi:i<l.length)(hK:0<K):∃ad,ao=some ad/\Cells u (ad.add (i*K)) (enc l[i]):=by
 have hg:∀j,j<K->∃u,(l.flatMap enc)[i*K+j]?=some u:=fun j hj=>⟨_,(fm_get hk l i j hi hj).trans (List.getElem?_eq_getElem (by rw[hk];exact hj))⟩
 obtain⟨y,hy⟩:=hg 0 hK;obtain⟨ao',c',e,hm,hh⟩:=h;cases e
 cases ao with
 |none=>
  obtain⟨ad,e,_⟩:=src_at (w:=u) ⟨none,c,rfl,hm,hh⟩ hy;cases e
 |some ad=>
  refine⟨ad,rfl,fun j v hj=>?_⟩;have hjK:j<K:=by rw[<-hk l[i]];exact(List.getElem?_eq_some_iff.1 hj).1
  rw[add_add];exact src_cell ⟨some ad,c,rfl,hm,hh⟩ ((fm_get hk l i j hi hjK).trans hj)
end
attribute [local irreducible] Code.wp wpList Exit.then Exit.inBlock bodyPost A Calls execOp Addr.add
set_option maxHeartbeats 16000000 in
theorem refPutC(l:List Br)(b:Br)(v:Value)(w0 w:World)(h:BO w0 50 w l v)(hw:w0.heap.size<=w.heap.size)(ha:Asc ltB l)(hl:l.length<=1000000):
 Calls prog 157 #[v,.agg (brV b).toArray] w fun e w'=>∃v',e=.returned v'/\BO w0 50 w' (insL ltB b l) v'/\Fr [] w w':=by
 obtain⟨ao,c,hv⟩:=h.1.slice;subst hv;refine enter func157 rfl ntmps157 rfl ?_;refine rx ?_;refine s_boxN (l:=brV b) rfl rfl (fun w1 p hp hb1 hf1 hs1=>?_);replace hb1:Blk w1 p [.string b.decl,iV b.at_,iV b.arm] _:=hb1;refine rx ?_;refine c_loopK 7 [5] (σ:=Nat) (fun k g u=>g 5=iV (k:Nat)/\k<=l.length/\(∀i (hi:i<l.length),k<=i->ltB l[i] b=false)/\Fr [] w1 u) (fun k=>k) l.length ⟨rfl,Nat.le_refl _,fun i hi h=>by omega,Fr.refl _ _⟩ ?_;rintro k g u ⟨g5,hk,hge,hF⟩;rw[eq_upd g5];have hFu:=hf1.trans0 hF;have hsz0:=hFu.size;have hbu:=hb1.tr0 hF;refine wp_seq ?_;refine wp_seq ?_;refine c_cutK 7 [] (fun g u'=>Fr [] u u'/\∃bb,g 20=.bool bb/\(bb=true->0<k/\∀h:k-1<l.length,ltB l[k-1] b=false)/\(bb=false->k=0\/∀h:k-1<l.length,ltB l[k-1] b=true)) ?_ ?_
 . (refine d_begin (fun z=>Fr [] u z) Yhp rfl ?_)
   obtain⟨u1,hu1⟩:=exq u.drew;rw[<-hu1];have hS:Fr [] u u1:=hu1▸Fr.drew _ _;by_cases hk0:k=0
   . (refine d_z4 0 1 2 3 hS ?_;refine d_z4 4 5 6 7 hS ?_;refine d_z4 8 9 10 11 hS ?_)
     refine Yfx ?_;exact q_cutK Yhl ⟨hS,false,rfl,fun h=>Yiw,fun _=>.inl hk0⟩
   .have hkl:k-1<l.length:=by omega
    obtain⟨ad,rfl,hc⟩:=src_rows brV_l3 (h.1.src.tr0 hFu) hkl Yhy;have hc:Cells u (ad.add ((k-1)*3)) [.string l[k-1].decl,iV l[k-1].at_,iV l[k-1].arm]:=hc;refine d_z4 0 1 2 3 hS ?_;refine d_z2 4 5 hS ?_;refine d_z 6 hS ?_;rw[show((k:Int)-1)=((k-1:Nat):Int) by omega];refine d_z2 7 8 hS ?_;refine Ygx ?_;refine rx ?_;refine s_cE (refCmpBC b l[k-1] u1) ?_;rintro u2 hf2;have hS2:=hS.trans0 hf2;refine wpList_nil (q_held hS2 ?_);by_cases hle:cmpB b l[k-1]<=0
    . (refine d_z2 10 11 hS2 ?_)
      refine Yfx ?_;exact q_cutK Yhl ⟨hS2,true,rfl,fun _=>⟨by omega,fun _=>cmpB_le.1 hle⟩,fun h=>by cases h⟩
    . (refine d_z2 10 11 hS2 ?_)
      refine Yfx ?_;refine q_cutK Yhl ⟨hS2,false,rfl,fun h=>Yiw,fun _=>.inr fun _=>?_⟩;cases hq:ltB l[k-1] b with
      |true=>rfl
      |false=>exact absurd (cmpB_le.2 hq) hle
 clear hbu hFu hsz0;rintro g1 u ⟨hfu,bb,g20,ht,hff⟩;rw[eq_upd g20];have hF:=hF.trans0 hfu;cases bb with
 |true=>
  obtain⟨hk0,hlt⟩:=ht rfl;refine rx ?_;refine q_roundK (k-1) Yhl ⟨?_,by omega,fun i hi hki=>?_,hF⟩ Yhn
  .show Value.int .i64 ((k:Int)-1)=_;rw[show((k:Int)-1)=((k-1:Nat):Int) by omega]
  .rcases Nat.lt_or_ge i k with h1|h1
   .obtain rfl:i=k-1:=by omega
    exact hlt hi
   .exact hge i hi h1
 |false=>
 have hal:=take_all totB ha hk (hff rfl);have hins:=ins_at totB k l hk hal (fun h=>hge k h (Nat.le_refl _));have hFu:=hf1.trans0 hF;have hsz0:=hFu.size;have hbu:=hb1.tr0 hF;have hsu:=h.1.src.tr0 hFu;refine rx ?_;refine c_cutK 7 [] (fun g u'=>Fr [] u u'/\g 34=.bool (decide (l[k]?=some b))) ?_ ?_
 . (refine d_begin (fun z=>Fr [] u z) Yhp rfl ?_)
   obtain⟨u1,hu1⟩:=exq u.drew;rw[<-hu1];have hS:Fr [] u u1:=hu1▸Fr.drew _ _;by_cases hkl:k<l.length
   .obtain ⟨ad,rfl,hc⟩:=src_rows brV_l3 hsu hkl Yhy;have hc:Cells u (ad.add (k*3)) [.string l[k].decl,iV l[k].at_,iV l[k].arm]:=hc;refine d_z4 0 1 2 3 hS ?_;refine d_z4 4 5 6 7 hS ?_;refine d_z2 8 9 hS ?_;refine d_ty 10 hS ?_ (hrun:=by(intro u hu;exact(r_eqlB (a:=l[k]) (b:=b) rfl rfl rfl)));refine d_z 11 hS ?_;refine Yfx ?_;refine q_cutK Yhl ⟨hS,?_⟩;simp only[getEq hkl];rfl
   . (refine d_z4 0 1 2 3 hS ?_;refine d_z4 4 5 6 7 hS ?_;refine d_z4 8 9 10 11 hS ?_)
     refine Yfx ?_;refine q_cutK Yhl ⟨hS,?_⟩;rw[List.getElem?_eq_none Yhn];rfl
 clear hbu hsu;rintro g1 u ⟨hfu,g34⟩;rw[eq_upd g34];replace hF:=hF.trans0 hfu;replace hFu:=hFu.trans0 hfu;replace hsz0:=hFu.size;have hbu:=hb1.tr0 hF;have hsu:=h.1.src.tr0 hFu;by_cases he:l[k]?=some b
 .rw [decide_eq_true he];rw[if_pos he]at hins;refine Yeo ?_;rw[hins];exact⟨_,rfl,⟨h.1.tr0 hFu,h.2⟩,hFu⟩
 rw[decide_eq_false he];rw[if_neg he]at hins;refine rx ?_;refine s_cut 0 k hsu rfl (by rw[brV_flen]) rfl ⟨_,rfl⟩ Yhn hk (fun ao1 c1 hc1 _ _=>?_);rw[Nat.zero_mul,List.drop_zero,fm_takeK brV_l3,Nat.sub_zero]at hc1;refine rx ?_;refine s_appB (w0:=u) BO.nil rfl rfl (by rw[List.length_take,Nat.min_eq_left hk]) hc1 Ykq Yht (Nat.le_refl _) (fun v1 u1 hB1 hfr1=>?_);have hF1:=hfr1 [] (Fr.refl _ _);have hs1':=hF1.size;have hbu:=hbu.tr0 hF1;rw[List.nil_append]at hB1;refine rx ?_;refine s_rows1 (c1:=brV b) rfl rfl rfl (fun u2 q2 hq2 ho2 hf2 hs2=>?_);have hF2:=hF1.trans0 hf2;refine rx ?_;refine s_appB (al:=[b]) (hB1.tr0 hf2) rfl rfl rfl (show Src u2 (.slice (some ⟨q2,0,none⟩) 1 1) 1 ([b].flatMap brV) from by simpa using ho2.src) Ykq Yht Yhn (fun v3 u3 hB3 hfr3=>?_);have hF3:=hfr3 [] hF2;refine rx ?_;refine s_cut k l.length (hsu.tr0 hF3) rfl (by rw[brV_flen]) ⟨_,rfl⟩ rfl hk (Nat.le_refl _) (fun ao4 c4 hc4 _ _=>?_);rw[<-brV_flen,List.take_length,fm_dropK brV_l3]at hc4;refine rx ?_;refine s_appB (al:=l.drop k) hB3 rfl rfl (by rw[List.length_drop]) hc4 Ykq Yht hF3.size (fun v5 u5 hB5 hfr5=>?_);have hF5:=hfr5 [] hF3;refine Yeo ?_;rw[hins];refine⟨v5,rfl,⟨?_,fun x hx=>by have:=hB5.2 x hx;omega⟩,hFu.trans0 hF5⟩;have h1:=hB5.1;rw[List.append_assoc,List.singleton_append]at h1;exact h1
set_option maxHeartbeats 8000000 in
theorem refSetC(l:List Br)(v:Value)(w:World)(hd:DR w S (.l (l.map brC)) v)(hl:l.length<=1000000):
 Calls prog 101 #[v] w fun e w'=>∃v',e=.returned v'/\BO w 50 w' (setL ltB l) v'/\Fr [] w w':=by
 have hll:(l.map brC).length=l.length:=List.length_map ..;obtain⟨ao,c,rfl,_⟩:=hd.slice;rw[hll]at hd ⊢;refine enter func101 rfl ntmps101 rfl ?_;refine rx ?_;refine c_loopK 5 [3,4] (σ:=Nat×Value) (fun s g u=>g 3=s.2/\g 4=iV (s.1:Nat)/\s.1<=l.length/\BO w 50 u (setL ltB (l.take s.1)) s.2/\Fr [] w u) (fun s=>l.length-s.1) (0,_) ⟨rfl,rfl,Nat.zero_le _,BO.nil,Fr.refl _ _⟩ ?_;rintro⟨i,va⟩ g u ⟨g3,g4,hi,hB,hF⟩;simp only at g3 g4 hi hB;rw[eq_upd g3,eq_upd g4];by_cases hlt:i<l.length
 case neg=>
  rw[List.take_of_length_le Yhn]at hB;refine Yeo ?_;exact⟨va,rfl,hB,hF⟩
 obtain⟨ad,rfl,hc⟩:=(hd.tr0 hF).br hlt;refine rx ?_;refine s_c1 (refPutC (setL ltB (l.take i)) l[i] va w u hB hF.size (setL_asc totB _) (by have:=setL_len (lt:=ltB) (l:=l.take i);rw[List.length_take]at this;omega)) ?_;rintro v' u1 ⟨hB1,hf1⟩;refine rx ?_;refine q_roundK (i+1,v') Yhl ⟨rfl,rfl,hlt,?_,hF.trans0 hf1⟩ Yhw;simp only;rw[List.take_succ_eq_append_getElem hlt,setL_app totB];exact hB1
set_option maxHeartbeats 8000000 in
theorem refUnionC(l m:List Br)(v va:Value)(w:World){S':List Nat}(hd:DR w S (.l (l.map brC)) v)(hm:DR w S' (.l (m.map brC)) va)(hl:l.length+m.length<=1000000):
 Calls prog 132 #[v,va] w fun e w'=>∃v',e=.returned v'/\BO w 50 w' (setL ltB (l++m)) v'/\Fr [] w w':=by
 have hll:(m.map brC).length=m.length:=List.length_map ..;obtain⟨ao,c,rfl,_⟩:=hm.slice;rw[hll]at hm ⊢;refine enter func132 rfl ntmps132 rfl ?_;refine rx ?_;refine s_c1 (refSetC l v w hd Yhn) ?_;rintro v1 w1 ⟨hB1,hf1⟩;refine rx ?_;refine c_loopK 7 [5,6] (σ:=Nat×Value) (fun s g u=>g 5=s.2/\g 6=iV (s.1:Nat)/\s.1<=m.length/\BO w 50 u (setL ltB (l++m.take s.1)) s.2/\Fr [] w u) (fun s=>m.length-s.1) (0,_) ⟨rfl,rfl,Nat.zero_le _,by rw[List.take_zero,List.append_nil];exact hB1,hf1⟩ ?_;clear hB1 hf1;rintro⟨i,vb⟩ g u ⟨g5,g6,hi,hB,hF⟩;simp only at g5 g6 hi hB;rw[eq_upd g5,eq_upd g6];by_cases hlt:i<m.length
 case neg=>
  rw[List.take_of_length_le Yhn]at hB;refine Yeo ?_;exact⟨vb,rfl,hB,hF⟩
 obtain⟨ad,rfl,hc⟩:=(hm.tr0 hF).br hlt;refine rx ?_;refine s_c1 (refPutC (setL ltB (l++m.take i)) m[i] vb w u hB hF.size (setL_asc totB _) (by have:=setL_len (lt:=ltB) (l:=l++m.take i);rw[List.length_append,List.length_take]at this;omega)) ?_;rintro v' u1 ⟨hB2,hf1⟩;refine rx ?_;refine q_roundK (i+1,v') Yhl ⟨rfl,rfl,hlt,?_,hF.trans0 hf1⟩ Yhw;simp only;rw[List.take_succ_eq_append_getElem hlt,<-List.append_assoc,setL_app totB (l:=l++m.take i)];exact hB2
end Go.Proofs.YtggmccicdhnkgaaGreat
