/-
 Maps in memory:an entry that is changed in place (m[k]++).
-/
import Derived.Test.YtggmccicdhnkgaaGreatWFgu
import Derived.Test.YtggmccicdhnkgaaGreatWCo
import Derived.Test.YtggmccicdhnkgaaGreatWCq
set_option linter.all false
set_option maxHeartbeats 64000000
namespace Go.Rf
open Go.RowKit
theorem VI(ds:List De):∀(n n':Nat) (s:List ByteArray×List De),mu ds s<=n->mu ds s<=n'->KD ds n s=KD ds n' s
 |0,0,s,_,_=>rfl
 |0,n'+1,(seen,q),h,_=>by
  have:q=[]:=by unfold mu at h;exact Dj (by simp only at h;omega)
  subst this;rfl
 |n+1,0,(seen,q),_,h=>by
  have:q=[]:=by unfold mu at h;exact Dj (by simp only at h;omega)
  subst this;rfl
 |n+1,n'+1,(seen,[]),_,_=>rfl
 |n+1,n'+1,(seen,d::q),h,h'=>by
  have hm:=Ja3 ds (Js (Jw d)) (seen,q);have hp:mu ds (seen,d::q)=mu ds (seen,q)+1:=by simp only[mu,SI];omega
  simp only[KD];rw[VI ds n n' _ Yhn Yhn]
structure SzD (d:De):Prop where
 parts:(Jw d).length<=100000
 brs:(ofD d).length<=11000
 dep:∀e∈Jw d,exD e<=1000
 cmds:d.cmds.length<=1000000
 calls:(KY (Js (Jw d))).length<=10000
theorem JdV(ds:List De)(seen:List ByteArray):Jaz ds seen<=ds.length:=D5 ..
theorem NI{ds:List De}{nm:ByteArray}{i:Nat}(hi:i<ds.length):QF (ds.drop i) nm=if ds[i].name=nm/\ds[i].kind≠0/\ds[i].kind≠2 then some ds[i] else QF (ds.drop (i+1)) nm:=by
 unfold QF;rw[Dh hi,Ho];by_cases h:ds[i].name=nm/\ds[i].kind≠0/\ds[i].kind≠2<;>simp[h]
theorem JgA{w:World}{a:Addr}{l l':List Value}(h:Cells w a l)(h':Cells w a l')(hl:l.length=l'.length):l=l':=by
 apply Ew hl;intro i h1 h2;have e1:=h i l[i] (Dc h1);have e2:=h' i l'[i] (Dc h2);rw[e1]at e2;exact Dl e2
theorem Jfo{α:Type}{R:α->List Value->Prop}{x:α}{l:List α}{ys:List Value}(h:Rws R (x::l) ys):∃cs ys',ys=cs++ys'/\R x cs/\Rws R l ys':=by
 cases h with
 |cons h1 h2=>exact⟨_,_,rfl,h1,h2⟩
theorem Zb(ds:List De)(n:Nat)(seen:List ByteArray):KD ds n (seen,[])=[]:=by cases n<;>rfl
def Jk4(w:World)(ds:List De)(nm:ByteArray)(e:Ending)(w':World):Prop:=Fr [] w w'/\((e=.returned (iV (-1))/\QF ds nm=none)\/∃i,∃h:i<ds.length,e=.returned (iV (i:Int))/\QF ds nm=some ds[i])
end Go.Rf
namespace Go.Proofs.YtggmccicdhnkgaaGreat
open Go.Proofs.Tryz
open Go.Rf Go.RowKit
attribute [local irreducible] Code.wp wpList Exit.then Exit.inBlock bodyPost A Calls execOp Addr.add
theorem JbI{σ:Type}{step:σ->Ex->σ}:∀{l:List Ex} {s:σ},Run (fun _ _=>True) step s l
 |[],s=>trivial
 |e::l,s=>⟨trivial,JbI⟩
theorem JiJ(d:De)(nm:ByteArray)(bn tbn:Nat)(cs:List Value)(w:World)(S:List Nat)(hbn:Blk w bn [.string nm] tbn)(hd:RD w S (deC d) cs):
 Calls prog 41 #[.agg cs.toArray,.pointer (some ⟨bn,0,none⟩)] w fun e w'=>e=.returned (.bool (decide (d.name=nm/\d.kind≠0/\d.kind≠2)))/\Fr [] w w':=by
 obtain⟨_,rfl,r1⟩:=RD.JI (x:=iV d.kind) hd;obtain⟨_,rfl,r2⟩:=RD.JI (x:=.string d.name) r1;obtain⟨_,rfl,r3⟩:=RD.JI (x:=iV d.at_) r2;obtain⟨ct,ctc,_,rfl,hct,r4⟩:=RD.lst (rows:=d.ctors.map ctC) r3;obtain⟨pm,pmc,_,rfl,hpm,r5⟩:=RD.lst (rows:=d.params.map pmC) r4;obtain⟨sty,_,rfl,hty,hk1,r6⟩:=RD.ty (t:=d.type) r5;obtain⟨ty,tyc,rfl,_⟩:=hk1.slice;obtain⟨bo1,bon1,boc1,bo2,bon2,boc2,bo3,bon3,boc3,_,rfl,hbo,r7⟩:=RD.ex (e:=d.body) r6;obtain⟨_,rfl,r8⟩:=RD.JI (x:=iV d.depth) r7;obtain⟨ge1,gen1,gec1,ge2,gen2,gec2,ge3,gen3,gec3,_,rfl,hge,r9⟩:=RD.gn (g:=d.gen) r8;obtain⟨dw,dwc,_,rfl,hdw,r10⟩:=RD.lst (rows:=d.draws.map dwC) r9;obtain⟨ck,ckc,_,rfl,hck,r11⟩:=RD.lst (rows:=d.checks.map ckC) r10;obtain⟨cs,csc,_,rfl,hcs,r12⟩:=RD.lst (rows:=d.classes.map ckC) r11;obtain⟨cl,clc,_,rfl,hcl,r13⟩:=RD.lst (rows:=d.claims.map clC) r12;obtain⟨sst,_,rfl,hstt,hk2,r14⟩:=RD.ty (t:=d.state) r13;obtain⟨st,stc,rfl,_⟩:=hk2.slice;obtain⟨it1,itn1,itc1,it2,itn2,itc2,it3,itn3,itc3,_,rfl,hit,r15⟩:=RD.ex (e:=d.init) r14;obtain⟨cm,cmc,_,rfl,hcm,r16⟩:=RD.lst (rows:=d.cmds.map cmC) r15;obtain⟨op,opc,_,rfl,hop,r17⟩:=RD.lst (rows:=d.ops.map opC) r16;obtain⟨rc1,rcn1,rcc1,rc2,rcn2,rcc2,rc3,rcn3,rcc3,_,rfl,hrc,r18⟩:=RD.ex (e:=d.recov) (ds:=[]) Yij;obtain rfl:=r18.inv0;clear r1 r2 r3 r4 r5 r6 r7 r8 r9 r10 r11 r12 r13 r14 r15 r16 r17 r18 hk1 hk2;refine enter func41 rfl ntmps41 rfl ?_;refine rx ?_;refine Ju (l:=[iV d.kind,.string d.name,iV d.at_,.slice ct (d.ctors.map ctC).length ctc,.slice pm (d.params.map pmC).length pmc,iV d.type.kind,.string d.type.name,.slice ty (d.type.kids.map tyC).length tyc,iV d.body.kind,.string d.body.name,iV d.body.n,.slice bo1 bon1 boc1,.slice bo2 bon2 boc2,.slice bo3 bon3 boc3,iV d.body.at_,iV d.depth,iV d.gen.kind,.string d.gen.name,.slice ge1 gen1 gec1,.slice ge2 gen2 gec2,.slice ge3 gen3 gec3,iV d.gen.at_,.slice dw (d.draws.map dwC).length dwc,.slice ck (d.checks.map ckC).length ckc,.slice cs (d.classes.map ckC).length csc,.slice cl (d.claims.map clC).length clc,iV d.state.kind,.string d.state.name,.slice st (d.state.kids.map tyC).length stc,iV d.init.kind,.string d.init.name,iV d.init.n,.slice it1 itn1 itc1,.slice it2 itn2 itc2,.slice it3 itn3 itc3,iV d.init.at_,.slice cm (d.cmds.map cmC).length cmc,.slice op (d.ops.map opC).length opc,iV d.recov.kind,.string d.recov.name,iV d.recov.n,.slice rc1 rcn1 rcc1,.slice rc2 rcn2 rcc2,.slice rc3 rcn3 rcc3,iV d.recov.at_]) rfl rfl (fun w1 b hbe hb hf1 hs1=>?_);have hbn:=hbn.tr0 hf1;by_cases e1:d.name=nm
 case neg=>
  refine Yeo ?_;exact⟨by simp[e1],hf1⟩
 by_cases e2:d.kind=0
 .refine rx ?_;refine Yfw ?_;exact⟨by simp[e2],hf1⟩
 by_cases e3:d.kind=2
 .refine rx ?_;refine Yfw ?_;exact⟨by simp[e3],hf1⟩
 refine Yeo ?_;exact⟨by simp[e1,e2,e3],hf1⟩
theorem JkR(ds:List De)(nm:ByteArray)(bn tbn:Nat)(v:Value)(w:World)(S:List Nat)(hbn:Blk w bn [.string nm] tbn)(hd:DR w S (.l (ds.map deC)) v)(hl:ds.length<=1000000):
 Calls prog 40 #[v,.func (.func 41) #[] #[.pointer (some ⟨bn,0,none⟩)]] w (Jk4 w ds nm):=by
 have hll:(ds.map deC).length=ds.length:=Sr ..;obtain⟨ao,c,rfl,_⟩:=hd.slice;rw[hll]at hd ⊢;refine enter func40 rfl ntmps40 rfl ?_;refine rx ?_;refine Jh 5 [] (σ:=Nat) (fun i g u=>g 7=iV ds.length/\g 8=iV i/\i<=ds.length/\QF (ds.drop i) nm=QF ds nm/\Fr [] w u) (fun i=>ds.length-i) 0 ⟨rfl,rfl,SL _,rfl,Fr.refl _ _⟩ ?_;rintro i g u ⟨g7,g8,hi,he,hF⟩;rw[Ja g7,Ja g8];by_cases hlt:i<ds.length
 case neg=>
  refine Yeo ?_;refine⟨hF,.inl ⟨rfl,?_⟩⟩;rw[<-he,Ci Yhn];rfl
 obtain⟨ad,cs,had,hr,hc⟩:=DR.at KL (hd.tr0 hF) hlt;subst had;have hlen:cs.length=45:=by rw[hr.len,KL]
 rw[NI hlt]at he;refine Yfr ?_;refine ZF (first:=[]) (cap:=[.pointer (some ⟨bn,0,none⟩)]) (JiJ ds[i] nm bn tbn cs u S (hbn.tr0 hF) hr) rfl rfl rfl ?_;rintro _ u1 ⟨rfl,hf1⟩;refine⟨_,rfl,?_⟩;by_cases hk:ds[i].name=nm/\ds[i].kind≠0/\ds[i].kind≠2
 .rw [SN hk];rw[Cb hk]at he;refine Yeo ?_;exact⟨hF.Jb hf1,.inr ⟨i,hlt,rfl,he.symm⟩⟩
 .rw [SG hk];rw[SH hk]at he;refine rx ?_;exact Jc (i+1) Yhl ⟨rfl,rfl,hlt,he,hF.Jb hf1⟩ Yhn
def Jk3(ds:List De)(w:World)(bm tbm tm ttm mb ql tq:Nat)(vM:Value)(tot:List Br)(s:(List ByteArray×List De)×List Br×Value)(u:World):Prop:=
 Fr [] w u/\Blk u bm [vM] tbm/\Blk u tm [.map (some mb)] ttm/\Mp Value.string Value.bool u mb (LW s.1.1)/\
 (∃v,Blk u ql [v] tq/\QW ([mb,ql]++blks s.2.2) u s.1.2 v/\(∀x∈blks v,w.heap.size<=x/\x≠mb/\x≠ql/\x≠bm/\x≠tm/\x∉blks s.2.2))/\
 BO w 50 u s.2.1 s.2.2/\(∀x∈blks s.2.2,x≠mb/\x≠ql/\x≠bm/\x≠tm)/\(∀d∈s.1.2,d∈ds)/\s.2.1++KD ds (mu ds s.1) s.1=tot/\mu ds s.1<=ds.length+1/\s.2.1.length+mu ds s.1*11000<=(ds.length+1)*11000
theorem Jfx(ds:List De)(nm:ByteArray)(v0:Value)(w:World)(S0:List Nat)(hsz:∀d∈ds,SzD d)(hl:ds.length<=50)(hd:DR w S0 (.l (ds.map deC)) v0):
 Calls prog 11 #[.agg ([v0]:List Value).toArray,.string nm] w fun e w'=>∃v,e=.returned v/\BO w 50 w' (JM ltB (KX ds nm)) v/\Fr [] w w':=by
 have hbd:=hd.bound;have hll:(ds.map deC).length=ds.length:=Sr ..;obtain⟨ao,c,hv0,_⟩:=hd.slice;rw[hll]at hv0;refine enter func11 rfl ntmps11 rfl ?_;refine rx ?_;refine Ju (l:=[v0]) rfl rfl (fun w1 bm hbme hbm hf1 hs1=>?_);refine rx ?_;refine Ju (l:=[.string nm]) rfl rfl (fun w2 bn hbne hbn hf2 hs2=>?_);have hbm:=hbm.tr0 hf2;have hF2:=hf1.Jb hf2;refine rx ?_;refine XM (a:=[]) (b:=[.pointer (some ⟨bn,0,none⟩)]) rfl rfl ?_;refine rx ?_;refine s_call (JkR ds nm bn _ v0 w2 S0 hbn (hd.tr0 hF2) Yhn) rfl ?_;rintro _ w3 ⟨hf3,hcase⟩;have hF3:=hF2.Jb hf3;have hbm:=hbm.tr0 hf3;have hs3:=hf3.size;rcases hcase with⟨rfl,hn⟩|⟨i,hi,rfl,hn⟩
 .refine ⟨_,rfl,?_⟩;refine Yeo ?_;refine⟨_,rfl,?_,hF3⟩;unfold KX;rw[hn];exact BO.nil
 refine⟨_,rfl,?_⟩;refine rx ?_;refine Kt (key:=Value.string) (val:=Value.bool) (fun w4 hmp hf4 hs4=>?_);obtain⟨mb,hmb⟩:=exq w3.heap.size;rw[<-hmb]at hmp ⊢;refine rx ?_;refine Jm (l:=[.map none]) rfl (fun w5 tm htme htm hf5 hs5=>?_);have hmp:=hmp.tr0 hf5;refine rx ?_
 ((with_reducible apply Ji);exact rfl;(conv=>lhs;whnf);exact rfl;exact htm;exact rfl)
 intro w6 htm hf6 hs6;replace htm:Blk w6 tm [.map (some mb)] _:=htm;have hmp:=hmp.tr hf6 Yht;have hbm:=((hbm.tr0 hf4).tr0 hf5).tr hf6 Yht;have hF6:Fr [] w w6:=((hF3.Jb hf4).Jb hf5).trans hf6 (fun x hx=>.inr Yhq);have hd6:=hd.tr0 hF6;obtain⟨ad,cs,had,hr,hc⟩:=DR.at KL (hv0▸hd6) hi;subst had;have hlen:cs.length=45:=by rw[hr.len,KL]
 subst hv0;refine Yfr ?_;refine JQ (c1:=cs) rfl hlen rfl (fun w7 qq hqq ho hf7 hs7=>?_);have hbm:=hbm.tr0 hf7;have htm:=htm.tr0 hf7;have hmp:=hmp.tr0 hf7;refine rx ?_;refine Jm (l:=[zS]) rfl (fun w8 ql hqle hql hf8 hs8=>?_);have hbm:=hbm.tr0 hf8;have htm:=htm.tr0 hf8;have hmp:=hmp.tr0 hf8;have ho:=ho.tr0 hf8;refine rx ?_
 ((with_reducible apply Ji);exact rfl;(conv=>lhs;whnf);exact rfl;exact hql;exact rfl)
 intro w9 hql hf9 hs9;replace hql:Blk w9 ql [.slice (some ⟨qq,0,none⟩) 1 1] _:=hql;have hF9:Fr [] w w9:=((hF6.Jb hf7).Jb hf8).trans hf9 (fun x hx=>.inr Yhq);have hr9:RD w9 ([mb,ql]++blks (.slice (some ⟨qq,0,none⟩) 1 1)) (deC ds[i]) cs:=by
  have h1:=DR.at KL hd hi;have h2:=(hd.mono (T:=[mb,ql]++blks (.slice (some ⟨qq,0,none⟩) 1 1)) (fun b hb=>by
   right;simp[blks,Value.ownBlock]at hb;omega))
  obtain⟨ad',cs',e1,h3,h4⟩:=DR.at KL (h2.tr0 hF6) hi;cases e1
  have e2:cs'=cs:=JgA h4 hc (by rw[h3.len,hr.len]);rw[e2]at h3;exact((h3.tr0 hf7).tr0 hf8).old hf9 (fun b hb=>.inl Yjq)
 have hQ9:QW ([mb,ql]++blks (zS)) w9 [ds[i]] (.slice (some ⟨qq,0,none⟩) 1 1):=⟨cs,(XC.Jie ho Yhs).tr hf9 Yjo,Rws.one hr9⟩;have hmu0:mu ds ([],[ds[i]])<=ds.length+1:=by have:=JdV ds [];simp only[mu,Dx];omega
 have htot:[]++KD ds (mu ds ([],[ds[i]])) ([],[ds[i]])=KX ds nm:=by
  unfold KX;rw[hn];exact VI ds _ _ _ (SX _) Yhn
 have hmp9:Mp Value.string Value.bool w9 mb (LW []):=hmp.tr hf9 Yht;have hbm9:=hbm.tr hf9 Yht;have htm9:=htm.tr hf9 Yht;refine rx ?_;refine Jh 9 [6] (σ:=(List ByteArray×List De)×List Br×Value) (fun s g u=>g 6=s.2.2/\Jk3 ds w bm _ tm _ mb ql _ _ (KX ds nm) s u) (fun s=>mu ds s.1) (([],[ds[i]]),[],zS) ⟨rfl,hF9,hbm9,htm9,hmp9,⟨_,hql,hQ9,fun x hx=>?_⟩,BO.nil,by simp[blks,Value.ownBlock],by simp,htot,hmu0,by simp only[SY];omega⟩ ?_
 .simp [blks,Value.ownBlock]at hx;simp[blks,Value.ownBlock];omega
 have hids:w.heap.size<=mb/\w.heap.size<=ql/\w.heap.size<=bm/\w.heap.size<=tm/\ql≠bm/\ql≠tm:=by omega
 clear hF9 hbm9 htm9 hmp9 hQ9 hr9 hql ho hbm htm hmp hf1 hf2 hf3 hf4 hf5 hf6 hf7 hf8 hf9 hr hc hbn hd6 htot hF2 hF3 hF6;rintro⟨⟨seen,q⟩,acc,va⟩ g u ⟨g6,hF,hbm,htm,hmp,⟨v,hql,hQ,hv⟩,hB,hva,hq,htot,hmu,hal⟩;simp only at g6 hmp hQ hB hva hq htot hmu hal hv;rw[Ja g6];have hQ0:=hQ;obtain⟨xs,hw,hrw⟩:=hQ;cases q with
 |nil=>
  obtain⟨_,g0,o0,cap,cur,rfl,_⟩:=hw;simp only[mu,Zb,Ce]at htot;replace hql:Blk u ql [.slice (some ⟨g0,o0,none⟩) 0 cap] _:=hql;refine rx ?_;refine Jl (JjN acc va u (hB.dr Yhn) Yhn) ?_;rintro v1 u1 ⟨hB1,hf1⟩;refine Yeo ?_;rw[htot]at hB1;exact⟨v1,rfl,⟨hB1.1,fun x hx=>by have:=hB1.2 x hx;have:=hF.size;omega⟩,hF.Jb hf1⟩
 |cons d q=>
  obtain⟨cs,xs',rfl,hr,hrw'⟩:=Jfo hrw;simp only[SI]at hw;have hlen:cs.length=45:=by rw[hr.len,KL]
  have hsz1:=hsz d (hq d Yhs);have hw0:=hw;obtain⟨_,g0,o0,cap,cur,rfl,_,hnc,hcm,_⟩:=hw0;have hmp1:mu ds (seen,d::q)=mu ds (seen,q)+1:=by simp only[mu,SI];omega
  have hcd:Cells u ((⟨g0,o0,none⟩:Addr).add (0*45)) cs:=fun j x hx=>by
   have:=hw.cells j x (by rw[Ej (Df.1 hx).1];exact hx);rw[add_lit,add_lit];rw[add_lit]at this;rw[D8,En];exact this
  have hgu:g0<u.heap.size:=hw.lt g0 Yic;have hgv:=hv g0 Yic;have hsu:=hF.size;have hmlt:=hmp.lt;have hqlt:=hql.lt;have hmq:mb≠ql:=hmp.ne hql;have hmbm:mb≠bm:=hmp.ne hbm;have hmtm:mb≠tm:=hmp.ne htm;have hvlt:∀x∈blks va,x<u.heap.size:=hB.1.lt;refine rx ?_;refine Wq (j:=0) rfl rfl rfl Yhn rfl ?_;refine Vz rfl hcd hlen ?_;refine rx ?_;refine Jm (l:=[zI,zT,zI,zS,zS,zI,zT,zS,zI,zT,zI,zS,zS,zS,zI,zI,zI,zT,zS,zS,zS,zI,zS,zS,zS,zS,zI,zT,zS,zI,zT,zI,zS,zS,zS,zI,zS,zS,zI,zT,zI,zS,zS,zS,zI]) rfl (fun u1 bd hbde hbd1 hf1 hs1=>?_);refine rx ?_;refine Jd (cs:=cs) rfl rfl hbd1 (RD.one hr) rfl hlen (fun u2 hbd2 hf2 hs2=>?_);have hF2:Fr [] u u2:=hf1.trans hf2 (fun x hx=>.inr Yhq);have hql2:=hql.tr0 hF2;refine rx ?_;refine JiF (hw.tr0 hF2) hlen rfl rfl (fun v' hw2 hbv'=>?_);have h1v:v'.oneCell'=true:=by obtain⟨_,_,_,_,_,rfl,_⟩:=hw2;rfl
  refine rx ?_
  ((with_reducible apply Ji);exact rfl;(conv=>lhs;whnf);exact h1v;exact hql2;exact rfl)
  intro u3 hql3 hf3 hs3;replace hql3:Blk u3 ql [v'] _:=hql3;have hb3:∀x∈blks v',x∉[ql]:=fun x hx hm=>by rw[hbv']at hx;have:=hv x hx;rw[Sv.1 hm]at this;exact this.2.2.1 rfl
  have hw3:=hw2.tr hf3 hb3;have hbd3:=hbd2.tr hf3 Yht;have hF3:Fr [ql] u u3:=(hF2.mono Yhs).trans hf3 (fun x hx=>.inl hx);obtain⟨im,iq,ib,it,iqb,iqt⟩:=hids;have hvb:∀x∈blks v',x<u.heap.size/\w.heap.size<=x/\x≠mb/\x≠ql/\x≠bm/\x≠tm/\x∉blks va:=fun x hx=>by
   rw[hbv']at hx;exact⟨hw.lt x hx,hv x hx⟩
  have hs13:=hF3.size;have hS3:∀x∈([mb,ql]++blks va)++blks v',x<u3.heap.size:=fun x hx=>by
   simp only[SE,SC,S9,CU]at hx;rcases hx with((rfl|rfl)|hx)|hx
   .omega
   .omega
   .have:=hvlt x hx;omega
   .have:=(hvb x hx).1;omega
  have hr3:RD u3 (([mb,ql]++blks va)++blks v') (deC d) cs:=by rw[hbv'];exact hr.old hF3 (fun b hb=>.inl Yjq)
  refine rx ?_;refine KE rfl hbd3 hlen ?_;refine rx ?_;refine Jl (ofC d (by have:=hsz1.parts;omega) (by have:=hsz1.brs;omega) hsz1.dep cs u3 _ hS3 hr3) ?_;rintro vo u4 ⟨hBo,hf4⟩;have hF4:Fr [ql] u u4:=hF3.Jb hf4;have hvaq:∀x∈blks va,x∉[ql]:=fun x hx hm=>(hva x hx).2.1 (Sv.1 hm)
  have hs4:=hF4.size;have hoflen:=hsz1.brs;refine rx ?_;refine JC (hB.1.tr hF4 hvaq) rfl hBo.1.src rfl (XL _) (Jbn _) Yhv Yhn (fun va' u5 hoa hf5 hk5 _=>?_);have hF5:Fr ([ql]++blks va) u u5:=(hF4.mono Yhs).trans hf5 (fun x hx=>.inl Yix);have hs5:=hf5.size;have hva':∀x∈blks va',w.heap.size<=x/\x≠mb/\x≠ql/\x≠bm/\x≠tm/\x∉blks v':=fun x hx=>by
   have hbmlt:=hbm.lt;have htmlt:=htm.lt;rcases hk5 x hx with h|h
   .have h1:=hva x h;have h2:=hB.2 x h;exact⟨h2,h1.1,h1.2.1,h1.2.2.1,h1.2.2.2,fun hm=>(hvb x hm).2.2.2.2.2.2 h⟩
   .refine ⟨by omega,by omega,by omega,by omega,by omega,fun hm=>by have:=(hvb x hm).1;omega⟩
  have hval:∀x∈blks va',x<u5.heap.size:=hoa.lt;obtain⟨S6,hS6⟩:=exq (([mb,ql]++blks va')++blks v');obtain⟨T6,hT6⟩:=exq ([mb,ql]++blks v');have hTm:∀{x:Nat},x∈T6->x=mb\/x=ql\/x∈blks v':=fun{x} hx=>by
   rw[hT6]at hx;simpa[or_assoc]using hx
  have hTS:∀x∈T6,x∈S6:=fun x hx=>by
   rw[hS6];rcases hTm hx with rfl|rfl|h
   .simp
   .simp
   .simp [h]
  have hSlt:∀x∈S6,x<u5.heap.size:=fun x hx=>by
   rw[hS6]at hx;simp only[SE,SC,S9,CU]at hx;rcases hx with((rfl|rfl)|hx)|hx
   .omega
   .omega
   .exact hval x hx
   .have:=(hvb x hx).1;omega
  have hold:∀{dd:De} {cc:List Value},RD u (([mb,ql]++blks va)++blks (Value.slice (some ⟨g0,o0,none⟩) (q.length+1) cap)) (deC dd) cc->RD u5 S6 (deC dd) cc:=fun{dd cc} hh=>by
   have h1:=hh.old (T:=[ql]++blks va) hF5 (fun b hb=>.inl (by
    rcases SE.1 hb with h|h
    .rw [Sv.1 h];simp
    .simp [h]))
   have h2:=hh.mono (T:=(([mb,ql]++blks va)++blks va')++blks v') (fun b hb=>by
    simp only[SE]at hb;rcases hb with((h|h)|h)|h
    .exact .inl (SA _ (SA _ h))
    .exact .inl Ynn
    .rcases hk5 b h with h|h
     .exact .inl Ynn
     .exact .inr Yhn
    .rw [hbv']at h;exact .inl Ynn)
   have h3:=h2.old (T:=[ql]++blks va) hF5 (fun b hb=>.inl (by
    rcases SE.1 hb with h|h
    .rw [Sv.1 h];simp
    .simp [h]))
   exact h3.mono (fun b hb=>.inl (by rw[hS6]at hb;rw[SE,SE]at hb;rcases hb with(h|h)|h;exact SA _ (SA _ (SA _ h));exact SA _ (CJ _ h);exact CJ _ h))
  have hr5:=hold hr;have hrw5:Rws (fun d cs=>RD u5 S6 (deC d) cs) q xs':=hrw'.imp (fun dd cc _ h=>hold h);have hqlbd:bd≠ql:=by omega
  have hbd5:=(hbd3.tr0 hf4).tr hf5 (fun hm=>by have:=hvlt bd hm;omega);have hql5:=(hql3.tr0 hf4).tr hf5 (fun hm=>(hva ql hm).2.1 rfl);have hw5:=(hw3.tr0 hf4).tr hf5 (fun x hx hm=>(hvb x hx).2.2.2.2.2.2 hm);have hmp5:Mp Value.string Value.bool u5 mb (LW seen):=hmp.tr hF5 (fun hm=>by
   rcases SE.1 hm with h|h
   .exact hmq (Sv.1 h)
   .exact (hva mb h).1 rfl)
  have hbm5:=hbm.tr hF5 (fun hm=>by
   rcases SE.1 hm with h|h
   .exact iqb (Sv.1 h).symm
   .exact (hva bm h).2.2.1 rfl)
  have htm5:=htm.tr hF5 (fun hm=>by
   rcases SE.1 hm with h|h
   .exact iqt (Sv.1 h).symm
   .exact (hva tm h).2.2.2 rfl)
  have hF05:Fr [] w u5:=hF.trans hF5 (fun x hx=>.inr (by
   rcases SE.1 hx with h|h
   .rw [Sv.1 h];exact iq
   .exact hB.2 x h))
  refine rx ?_;refine KE rfl hbd5 hlen ?_;refine rx ?_;refine s_call (JfL d (by have:=hsz1.parts;omega) cs u5 S6 hr5) rfl ?_;rintro _ u6 ⟨w61,vp,hf61,rfl,hLO,hf62⟩;refine⟨_,rfl,?_⟩;have hs61:=hf61.size;have hf6:=hf61.Jb hf62;have hs6:=hf6.size;have hpl:=hsz1.parts;have hdp:=hLO.dr Jq Yhn hf62 Yhs (fun x hx=>by have:=hSlt x hx;omega);refine rx ?_;refine XM (a:=[]) (b:=[.pointer (some ⟨tm,0,none⟩),.pointer (some ⟨bm,0,none⟩),.pointer (some ⟨ql,0,none⟩)]) rfl rfl ?_;refine rx ?_;have hF6:=hF05.Jb hf6;have hdM:DR u6 S6 (.l (ds.map deC)) _:=(hd.mono (T:=S6) (fun x hx=>.inr (by
   rw[hS6]at hx;simp only[SE,SC,S9,CU]at hx;rcases hx with((rfl|rfl)|hx)|hx
   .exact im
   .exact iq
   .exact (hva' x hx).1
   .exact (hvb x hx).2.1))).tr0 hF6
  have hq6:∀x∈q,x∈ds:=fun x hx=>hq x Yix
  have H:=Jg9 ds (fun d hd=>(hsz d hd).cmds) mb ql 23 tm _ bm _ S6 T6 u6 _ hTS (fun x hx=>by have:=hSlt x hx;omega) (by rw[hT6];simp) (by rw[hT6];simp) hmq (htm5.tr0 hf6) Yjg (hbm5.tr0 hf6) Yjh hdM;have hI:RcI ds mb ql 23 u6 S6 T6 [] (seen,q) u6:=by
   refine⟨hmp5.tr0 hf6,⟨v',hql5.tr0 hf6,⟨xs',hw5.tr0 hf6,hrw5.imp (fun dd cc _ h=>(h.tr0 hf6).mono (fun b hb=>.inl (by rcases SE.1 hb with h|h;exact h;rw[hS6];simp[h])))⟩,fun x hx=>.inl (by rw[hT6];simp[hx]),by simp,fun hm=>(hvb mb hm).2.2.1 rfl,fun hm=>(hvb ql hm).2.2.2.1 rfl⟩,by simp,by simp,by simp,by omega⟩
  refine Jg (JeZ H (Jw d) hsz1.dep vp u6 (Fr.refl _ _) [] Yhs (seen,q) JbI hI hdp) ?_;rintro u7 ⟨⟨Z',_,⟨hmp7,⟨v7,hql7,hQ7,hv7T,_,hmv7,hqv7⟩,_,_,_,_⟩⟩,_,hf7⟩;obtain⟨s',hs'⟩:=exq ((Js (Jw d)).foldl (Xy ds) (seen,q));rw[<-hs']at hmp7 hQ7;have hmu':mu ds s'<=mu ds (seen,q):=hs'▸Ja3 ds _ _;have hgo:KD ds (mu ds (seen,d::q)) (seen,d::q)=ofD d++KD ds (mu ds s') s':=by
   rw[hmp1,KD,<-hs',VI ds _ (mu ds s') s' hmu' (SX _)]
  have hbml:=hbm5.lt;have html:=htm5.lt;have hT7:∀x∈T6,w.heap.size<=x:=fun x hx=>by
   rcases hTm hx with rfl|rfl|h
   .exact im
   .exact iq
   .exact (hvb x h).2.1
  have hva7:∀x∈blks va',x∉T6:=fun x hx hm=>by
   have h1:=hva' x hx;rcases hTm hm with h|h|h
   .exact h1.2.1 h
   .exact h1.2.2.1 h
   .exact h1.2.2.2.2.2 h
  have hv7:∀x∈blks v7,w.heap.size<=x/\x≠mb/\x≠ql/\x≠bm/\x≠tm/\x∉blks va':=fun x hx=>by
   have e1:x≠mb:=fun e=>hmv7 (e▸hx)
   have e2:x≠ql:=fun e=>hqv7 (e▸hx)
   rcases hv7T x hx with h|h
   .refine ⟨hT7 x h,e1,e2,?_,?_,fun hm=>hva7 x hm h⟩
    .rcases hTm h with h|h|h
     .exact absurd h e1
     .exact absurd h e2
     .exact (hvb x h).2.2.2.2.1
    .rcases hTm h with h|h|h
     .exact absurd h e1
     .exact absurd h e2
     .exact (hvb x h).2.2.2.2.2.1
   .exact ⟨by omega,e1,e2,by omega,by omega,fun hm=>by have:=hval x hm;omega⟩
  refine rx ?_;have hB7:BO w 50 u7 (acc++ofD d) va':=⟨by rw[Sm,List.flatMap_append];exact(hoa.tr0 hf6).tr hf7 hva7,fun x hx=>(hva' x hx).1⟩;have hQ7':QW ([mb,ql]++blks va') u7 s'.2 v7:=by
   obtain⟨ys,h1,h2⟩:=hQ7;refine⟨ys,h1,h2.imp (fun dd cc _ h=>h.mono (fun b hb=>.inl (by rw[hS6];rw[SE,SE]at hb;rcases hb with(h|h)|h;exact SA _ (SA _ (SA _ h));exact SA _ (SA _ (CJ _ h));exact CJ _ h)))⟩
  refine Jc (s',acc++ofD d,va') Yhl ?_ ?_
  .refine ⟨rfl,hF6.trans hf7 (fun x hx=>.inr (hT7 x hx)),(hbm5.tr0 hf6).tr hf7 Yjh,(htm5.tr0 hf6).tr hf7 Yjg,hmp7,⟨v7,hql7,hQ7',hv7⟩,hB7,fun x hx=>⟨(hva' x hx).2.1,(hva' x hx).2.2.1,(hva' x hx).2.2.2.1,(hva' x hx).2.2.2.2.1⟩,?_,?_,?_,?_⟩
   .rw [hs'];exact WO hq6
   .rw [List.append_assoc];show acc++(ofD d++KD ds (mu ds s') s')=_;rw[<-hgo];exact htot
   .show mu ds s'<=_;omega
   .show (acc++ofD d).length+mu ds s'*11000<=_;rw[Sm];omega
  .show mu ds s'<mu ds (seen,d::q);omega
end Go.Proofs.YtggmccicdhnkgaaGreat
namespace Go.Rf
open Go.RowKit
section
variable{M R S T l:List Nat}{i n p:Nat}{P:Pp}{s:St}{α β:Type}{u u':World}
def Vk(l:List Nat):List Value:=l.map (fun n=>Value.int .i64 (n:Nat))
theorem V9(h:i<l.length):(Vk l)[i]?=some (iV (l[i]:Nat)):=by
 unfold Vk;rw[ET,Dc h];rfl
theorem JeD:(Vk l).set i (iV (n:Nat))=Vk (l.set i n):=by
 unfold Vk;rw[List.map_set]
def RelB(m:List (Br×Int))(cnt:Br->Nat):Prop:=∀b,getM m b=if cnt b=0 then none else some (cnt b:Int)
def BJ(m:List (Pr×Bool))(ps:Pr->Prop):Prop:=∀p,(ps p->getM m p=some true)/\(¬ps p->getM m p=none)
theorem RelB.nil:RelB [] (fun _=>0):=fun b=>rfl
theorem BJ.nil:BJ [] (fun _=>False):=fun p=>⟨fun h=>h.elim,fun _=>rfl⟩
theorem RelB.keys{m:List (Br×Int)}{cnt:Br->Nat}(h:RelB m cnt){b:Br}:b∈m.map Prod.fst↔cnt b≠0:=by
 have:=h b;by_cases h0:cnt b=0
 .rw [Cb h0]at this;have:=getM_none.1 this;simp only[h0,ne_eq,Ob,iff_false];exact this
 .rw [SH h0]at this;simp only[ne_eq,h0,not_false_eq_true,iff_true];apply DZ;intro hn;rw[getM_none.2 hn]at this;cases this
theorem BJ.keys{m:List (Pr×Bool)}{ps:Pr->Prop}(h:BJ m ps){p:Pr}:p∈m.map Prod.fst↔ps p:=by
 constructor
 .intro hm;apply DZ;intro hn;exact getM_none.1 ((h p).2 hn) hm
 .intro hp;apply DZ;intro hn;have:=(h p).1 hp;rw[getM_none.2 hn]at this;cases this
theorem RelB.look{m:List (Br×Int)}{cnt:Br->Nat}(h:RelB m cnt)(b:Br):(getM m b).getD 0=(cnt b:Int):=by
 rw[h b]
 split
 .next h0=>rw[h0];rfl
 .rfl
theorem RelB.put{m:List (Br×Int)}{cnt:Br->Nat}(h:RelB m cnt){b:Br}(hn:n≠0):RelB (VJ m b (n:Int)) (fun x=>if x=b then n else cnt x):=fun x=>by
 rw[GK];by_cases e:x=b
 .simp [e,hn]
 .simp only[SH e];exact h x
theorem BJ.put{m:List (Pr×Bool)}{ps:Pr->Prop}(h:BJ m ps){b:Pr}:BJ (VJ m b true) (fun x=>x=b\/ps x):=fun x=>by
 rw[GK];by_cases e:x=b
 .simp [e]
 .simp only[SH e,e,false_or];exact h x
theorem RelB.congr{m:List (Br×Int)}{cnt cnt':Br->Nat}(h:RelB m cnt)(e:∀b,cnt b=cnt' b):RelB m cnt':=by
 obtain rfl:cnt=cnt':=funext e;exact h
theorem BJ.congr{m:List (Pr×Bool)}{ps ps':Pr->Prop}(h:BJ m ps)(e:∀b,ps b↔ps' b):BJ m ps':=by
 obtain rfl:ps=ps':=funext (fun b=>propext (e b));exact h
theorem GI{lt:α->α->Bool}[DecidableEq α](T:Tot lt){m:List (α×β)}{l:List α}(hn:(m.map Prod.fst).Nodup)(hl:Asc lt l)(h:∀a,a∈m.map Prod.fst↔a∈l):m.length=l.length:=by
 have hp:(m.map Prod.fst).Perm l:=(List.perm_ext_iff_of_nodup hn (Asc.nd T hl)).2 h;have:=hp.length_eq;rw[Sr]at this;exact this
theorem Uw{lt:α->α->Bool}[DecidableEq α](T:Tot lt){m:List (α×β)}{l:List α}(hl:Asc lt l)(h:∀a,a∈m.map Prod.fst↔a∈l):JM lt (m.map Prod.fst)=l:=BP T hl (fun y=>(h y).symm)
def rnC(r:Rn):List Dt:=[.c (iV r.kind),.c (iV r.at_),.c (iV r.code),.l (r.bs.map brC),.l (r.cl.map KI)]
def Wj(u:World)(p:Nat)(M R:List Nat)(P:Pp)(s:St):Prop:=
 ∃bb pb vr vc mb mp,M=[p,bb,pb]++blks vc/\R=blks vr/\(M++R).Nodup/\
  Blk u p [.string P.prop,iV (P.checks:Nat),vr,iV (s.runs:Nat),iV (s.o 0:Nat),iV (s.o 1:Nat),iV (s.o 2:Nat),vc,.map (some bb),.map (some pb)] 125/\
  Own u 50 3 vr P.reach.length (P.reach.flatMap brV)/\Own u 3 1 vc s.cls.length (Vk s.cls)/\
  Mp brK (Value.int .i64) u bb mb/\RelB mb s.cnt/\Mp prK Value.bool u pb mp/\BJ mp (· ∈s.ps)/\StOk P s
theorem Wj.tr(h:Wj u p M R P s)(hf:Fr T u u')(hT:∀x∈M++R,x∉T):Wj u' p M R P s:=by
 obtain⟨bb,pb,vr,vc,mb,mp,rfl,rfl,hnd,hb,hr,hc,hmb,hrb,hmp,hrp,hok⟩:=h;exact⟨bb,pb,vr,vc,mb,mp,rfl,rfl,hnd,hb.tr hf (hT p Yhs),hr.tr hf (fun k hk=>hT k Ykl),hc.tr hf (fun k hk=>hT k Ykl),hmb.tr hf (hT bb Yhs),hrb,hmp.tr hf (hT pb Yhs),hrp,hok⟩
theorem Wj.tr0(h:Wj u p M R P s)(hf:Fr [] u u'):Wj u' p M R P s:=h.tr hf Yhs
theorem Wj.lt(h:Wj u p M R P s):∀x∈M++R,x<u.heap.size:=by
 obtain⟨bb,pb,vr,vc,mb,mp,rfl,rfl,hnd,hb,hr,hc,hmb,hrb,hmp,hrp,hok⟩:=h;intro x hx;simp only[SE,SC,S9,CU]at hx;rcases hx with((rfl|rfl|rfl)|hx)|hx
 .exact hb.lt
 .exact hmb.lt
 .exact hmp.lt
 .exact hc.lt x hx
 .exact hr.lt x hx
def RcV(u:World)(p:Nat)(P:Pp)(rs:List Rn):Prop:=
 ∃vr vs,Blk u p [.string P.prop,iV (P.checks:Nat),iV (P.ncls:Nat),vr,vs] 120/\DR u [] (.l (P.reach.map brC)) vr/\DR u [] (.l (rs.map rnC)) vs
theorem RcV.tr0{rs:List Rn}(h:RcV u p P rs)(hf:Fr [] u u'):RcV u' p P rs:=by
 obtain⟨vr,vs,h1,h2,h3⟩:=h;exact⟨vr,vs,h1.tr0 hf,h2.tr0 hf,h3.tr0 hf⟩
def RcM(u:World)(p:Nat)(M R S:List Nat)(P:Pp)(rs:List Rn):Prop:=
 ∃vr vs xs,M=[p]++blks vs/\R=blks vr/\(M++R).Nodup/\(∀x∈M,x∈S)/\
  Blk u p [.string P.prop,iV (P.checks:Nat),iV (P.ncls:Nat),vr,vs] 120/\
  Own u 50 3 vr P.reach.length (P.reach.flatMap brV)/\
  Own u 41 5 vs rs.length xs/\Rws (fun r cs=>RD u S (rnC r) cs) rs xs
theorem RcM.tr{rs:List Rn}(h:RcM u p M R S P rs)(hf:Fr T u u')(hT:∀x∈M++R,x∉T)(hS:∀x∈T,x∈S\/u.heap.size<=x):RcM u' p M R S P rs:=by
 obtain⟨vr,vs,xs,rfl,rfl,hnd,hMS,hb,hr,hs,hw⟩:=h;exact⟨vr,vs,xs,rfl,rfl,hnd,hMS,hb.tr hf (hT p Yhs),hr.tr hf (fun k hk=>hT k Ykl),hs.tr hf (fun k hk=>hT k Ykl),hw.imp (fun r cs _ h=>h.old hf hS)⟩
theorem RcM.tr0{rs:List Rn}(h:RcM u p M R S P rs)(hf:Fr [] u u'):RcM u' p M R S P rs:=h.tr hf Yhs Yhs
theorem RcM.mono{S':List Nat}{rs:List Rn}(h:RcM u p M R S P rs)(hM:∀x∈M,x∈S')(hS:∀x∈S',x∈S\/u.heap.size<=x):RcM u p M R S' P rs:=by
 obtain⟨vr,vs,xs,rfl,rfl,hnd,hMS,hb,hr,hs,hw⟩:=h;exact⟨vr,vs,xs,rfl,rfl,hnd,hM,hb,hr,hs,hw.imp (fun r cs _ h=>h.mono hS)⟩
theorem RcM.lt{rs:List Rn}(h:RcM u p M R S P rs):∀x∈M++R,x<u.heap.size:=by
 obtain⟨vr,vs,xs,rfl,rfl,hnd,hMS,hb,hr,hs,hw⟩:=h;intro x hx;simp only[SE,SC,S9,CU]at hx;rcases hx with(rfl|hx)|hx
 .exact hb.lt
 .exact hs.lt x hx
 .exact hr.lt x hx
theorem RcM.v{rs:List Rn}(h:RcM u p M R S P rs)(h1:P.reach.length<=1000000000000)(h2:rs.length<=1000000000000):RcV u p P rs:=by
 obtain⟨vr,vs,xs,rfl,rfl,hnd,hMS,hb,hr,hs,hw⟩:=h;refine⟨vr,vs,hb,JfS hr h1,DR.ofTyped (k:=5) (fun _=>rfl) h2 ⟨xs,hs.src,fun ad n c e _ hm=>by simp at hm,hw.imp (fun r cs _ h=>h.mono Yhs)⟩⟩
end
section
variable{f:Env}{Q:Exit->Act->World->Prop}{l:List Oper}{bb fuel i j k n p pb:Nat}{P:Program}{w:World}{S:World->Prop}
theorem XJ{D:Dfs}{listed:Array Bool}{o o' o'':Oper}(hi:l[i]?=some o)(hj:l[j]?=some o')(hk:l[k]?=some o'')(hr:Region.ready .any l.toArray listed=[i,j,k])
 (h1:wpList P l.toArray (Exit.then (fun a' w'=>S w'/\wpAnyH P .any l.toArray Q S fuel (listed.setIfInBounds i true) a' w') Q) [o] (A n f) w)
 (h2:wpList P l.toArray (Exit.then (fun a' w'=>S w'/\wpAnyH P .any l.toArray Q S fuel (listed.setIfInBounds j true) a' w') Q) [o'] (A n f) w)
 (h3:wpList P l.toArray (Exit.then (fun a' w'=>S w'/\wpAnyH P .any l.toArray Q S fuel (listed.setIfInBounds k true) a' w') Q) [o''] (A n f) w):wpAnyH P .any l.toArray Q S (fuel+1) listed (A n f) w:=by
 refine wpAnyH_all hr Yhs fun m hm=>?_
 simp only[SC,S9,CU]at hm;rcases hm with rfl|rfl|rfl
 .exact KC hi h1
 .exact KC hj h2
 .exact KC hk h3
theorem JhJ{D:Dfs}{listed:Array Bool}{m:Nat}{o o' o'' o3:Oper}(hi:l[i]?=some o)(hj:l[j]?=some o')(hk:l[k]?=some o'')(hm':l[m]?=some o3)(hr:Region.ready .any l.toArray listed=[i,j,k,m])
 (h1:wpList P l.toArray (Exit.then (fun a' w'=>S w'/\wpAnyH P .any l.toArray Q S fuel (listed.setIfInBounds i true) a' w') Q) [o] (A n f) w)
 (h2:wpList P l.toArray (Exit.then (fun a' w'=>S w'/\wpAnyH P .any l.toArray Q S fuel (listed.setIfInBounds j true) a' w') Q) [o'] (A n f) w)
 (h3:wpList P l.toArray (Exit.then (fun a' w'=>S w'/\wpAnyH P .any l.toArray Q S fuel (listed.setIfInBounds k true) a' w') Q) [o''] (A n f) w)
 (h4:wpList P l.toArray (Exit.then (fun a' w'=>S w'/\wpAnyH P .any l.toArray Q S fuel (listed.setIfInBounds m true) a' w') Q) [o3] (A n f) w):wpAnyH P .any l.toArray Q S (fuel+1) listed (A n f) w:=by
 refine wpAnyH_all hr Yhs fun m hm=>?_
 simp only[SC,S9,CU]at hm;rcases hm with rfl|rfl|rfl|rfl
 .exact KC hi h1
 .exact KC hj h2
 .exact KC hk h3
 .exact KC hm' h4
def In(L:List Nat)(a b:Nat):Prop:=∀x∈L,a<=x/\x<b
theorem JaW{e:Nat}{v:Value}{xs:List Value}(h:Own w e k v n xs):(blks v).Nodup:=by
 rcases h.2 with⟨rfl,_⟩|⟨g,cap,cur,rfl,_⟩<;>simp[blks,Value.ownBlock]
theorem Jj8{a b:List Nat}(ha:a.Nodup)(hb:b.Nodup)(h1:p≠bb)(h2:p≠pb)(h3:bb≠pb)(h4:∀x∈a,x≠p/\x≠bb/\x≠pb/\x∉b)(h5:∀x∈b,x≠p/\x≠bb/\x≠pb):(([p,bb,pb]++a)++b).Nodup:=by
 rw[DW,DW];refine⟨⟨by simp[h1,h2,h3],ha,fun x hx y hy e=>?_⟩,hb,fun x hx y hy e=>?_⟩
 .subst e;have:=h4 x hy;simp only[SC,S9,CU]at hx;rcases hx with rfl|rfl|rfl
  .exact this.1 rfl
  .exact this.2.1 rfl
  .exact this.2.2.1 rfl
 .subst e;have:=h5 x hy;simp only[SE,SC,S9,CU]at hx;rcases hx with(rfl|rfl|rfl)|hx
  .exact this.1 rfl
  .exact this.2.1 rfl
  .exact this.2.2 rfl
  .exact (h4 x hx).2.2.2 hy
theorem QE(n:Nat):zeros [Value.int .i64 0] n=Vk (J6 n []).cls:=by
 have h1:(J6 n []).cls=List.replicate n 0:=by
  unfold J6;simp only[List.countP_nil];rw[List.map_const',FV]
 rw[h1];unfold Vk;rw[List.map_replicate];clear h1
 induction n with
 |zero=>rfl
 |succ n ih=>rw[zeros,List.replicate_succ,ih];rfl
end
end Go.Rf
namespace Go.Proofs.YtggmccicdhnkgaaGreat
open Go.Proofs.Tryz
open Go.Rf Go.RowKit
variable{bb n p pb:Nat}{w:World}
attribute [local irreducible] Code.wp wpList Exit.then Exit.inBlock bodyPost A Calls execOp Addr.add
theorem RD.cks{S:List Nat}{d:De}{cs:List Value}(hd:RD w S (deC d) cs):(∃a c,cs[23]?=some (.slice a d.checks.length c))/\(∃a c,cs[24]?=some (.slice a d.classes.length c))/\d.classes.length<=1000000000000:=by
 obtain⟨_,rfl,r1⟩:=RD.JI (x:=iV d.kind) hd;obtain⟨_,rfl,r2⟩:=RD.JI (x:=.string d.name) r1;obtain⟨_,rfl,r3⟩:=RD.JI (x:=iV d.at_) r2;obtain⟨ct,ctc,_,rfl,hct,r4⟩:=RD.lst (rows:=d.ctors.map ctC) r3;obtain⟨pm,pmc,_,rfl,hpm,r5⟩:=RD.lst (rows:=d.params.map pmC) r4;obtain⟨sty,_,rfl,hty,hk1,r6⟩:=RD.ty (t:=d.type) r5;obtain⟨ty,tyc,rfl,_⟩:=hk1.slice;obtain⟨bo1,bon1,boc1,bo2,bon2,boc2,bo3,bon3,boc3,_,rfl,hbo,r7⟩:=RD.ex (e:=d.body) r6;obtain⟨_,rfl,r8⟩:=RD.JI (x:=iV d.depth) r7;obtain⟨ge1,gen1,gec1,ge2,gen2,gec2,ge3,gen3,gec3,_,rfl,hge,r9⟩:=RD.gn (g:=d.gen) r8;obtain⟨dw,dwc,_,rfl,hdw,r10⟩:=RD.lst (rows:=d.draws.map dwC) r9;obtain⟨ck,ckc,_,rfl,hck,r11⟩:=RD.lst (rows:=d.checks.map ckC) r10;obtain⟨cs,csc,_,rfl,hcs,r12⟩:=RD.lst (rows:=d.classes.map ckC) r11;obtain⟨cl,clc,_,rfl,hcl,r13⟩:=RD.lst (rows:=d.claims.map clC) r12;obtain⟨sst,_,rfl,hstt,hk2,r14⟩:=RD.ty (t:=d.state) r13;obtain⟨st,stc,rfl,_⟩:=hk2.slice;obtain⟨it1,itn1,itc1,it2,itn2,itc2,it3,itn3,itc3,_,rfl,hit,r15⟩:=RD.ex (e:=d.init) r14;obtain⟨cm,cmc,_,rfl,hcm,r16⟩:=RD.lst (rows:=d.cmds.map cmC) r15;obtain⟨op,opc,_,rfl,hop,r17⟩:=RD.lst (rows:=d.ops.map opC) r16;obtain⟨rc1,rcn1,rcc1,rc2,rcn2,rcc2,rc3,rcn3,rcc3,_,rfl,hrc,r18⟩:=RD.ex (e:=d.recov) (ds:=[]) Yij;obtain rfl:=r18.inv0;clear r1 r2 r3 r4 r5 r6 r7 r8 r9 r10 r11 r12 r13 r14 r15 r16 r17 r18 hk1 hk2;refine⟨⟨ck,ckc,?_⟩,⟨cs,csc,?_⟩,by have:=hcs.bound;rw[Sr]at this;exact this⟩
 .simp only[Sr];rfl
 .simp only[Sr];rfl
def Jh0(w:World)(ds:List De)(nm:ByteArray)(e:Ending)(w':World):Prop:=Fr [] w w'/\match fdD ds 3 nm with
 |none=>e=.returned (.tuple #[.pointer none,.int .i64 6])
 |some d=>∃p M R,e=.returned (.tuple #[.pointer (some ⟨p,0,none⟩),.int .i64 0])/\Wj w' p M R ⟨nm,d.checks.length,d.classes.length,JM ltB (KX ds nm)⟩ (J6 d.classes.length [])/\∀x∈M++R,w.heap.size<=x
theorem Jkc{u:World}{vr vc:Value}{P:Pp}{a0 a1 b0 b1:Nat}(hn:P.ncls=n)(hb:Blk u p [.string P.prop,iV (P.checks:Nat),vr,zI,zI,zI,zI,vc,.map (some bb),.map (some pb)] 125)
 (hr:Own u 50 3 vr P.reach.length (P.reach.flatMap brV)) (hc:Own u 3 1 vc n (Vk (J6 n []).cls)) (hmb:Mp brK (Value.int .i64) u bb []) (hmp:Mp prK Value.bool u pb [])
 (ir:In (blks vr) a0 a1) (ic:In (blks vc) b0 b1) (d1:a1<=b0\/b1<=a0) (d2:bb≠pb) (d3:bb<a0\/a1<=bb) (d4:pb<a0\/a1<=pb) (d5:bb<b0\/b1<=bb) (d6:pb<b0\/b1<=pb) (d7:bb<p/\pb<p/\a1<=p/\b1<=p):Wj u p ([p,bb,pb]++blks vc) (blks vr) P (J6 P.ncls []):=by
 subst hn;refine⟨bb,pb,vr,vc,[],[],rfl,rfl,Jj8 (JaW hc) (JaW hr) Yhn Yhn d2 (fun x hx=>?_) (fun x hx=>?_),hb,hr,?_,hmb,RelB.nil,hmp,BJ.nil.congr (fun b=>by simp[J6,JM]),JgP P [] Yhs⟩
 .have:=ic x hx;refine⟨by omega,by omega,by omega,fun hm=>?_⟩;have:=ir x hm;omega
 .have:=ir x hx;exact⟨by omega,by omega,by omega⟩
 .rw [show(J6 P.ncls []).cls.length=P.ncls by simp[J6]];exact hc
theorem newC(ds:List De)(nm:ByteArray)(v0:Value)(w:World)(S0:List Nat)(hsz:∀d∈ds,SzD d)(hl:ds.length<=50)(hd:DR w S0 (.l (ds.map deC)) v0):
 Calls prog 24 #[.agg ([v0]:List Value).toArray,.string nm] w (Jh0 w ds nm):=by
 have h01:=hd.one;refine enter func24 rfl ntmps24 rfl ?_;refine rx ?_;refine Ju (l:=[v0]) rfl rfl (fun w1 b2 hb2e hb2 hf1 hs1=>?_);have hd1:=hd.tr0 hf1;refine rx ?_;refine s_call (NW ds 3 nm v0 w1 S0 (fun d hd=>(hsz d hd).cmds) hd1) rfl ?_;rintro en w2 hfd;obtain⟨cs,b,rfl,hlen,hone,hf2,hcase⟩:=fdX hfd;refine⟨_,rfl,?_⟩;have hb2:=hb2.tr0 hf2;have hF2:=hf1.Jb hf2;refine rx ?_;refine Jm (l:=[zI,zT,zI,zS,zS,zI,zT,zS,zI,zT,zI,zS,zS,zS,zI,zI,zI,zT,zS,zS,zS,zI,zS,zS,zS,zS,zI,zT,zS,zI,zT,zI,zS,zS,zS,zI,zS,zS,zI,zT,zI,zS,zS,zS,zI]) rfl (fun w3 q hqe hq hf3 hs3=>?_);have hb2:=hb2.tr0 hf3;have hb2lt:=hb2.lt;have hs2:=hF2.size;refine rx ?_;refine Jd (cs:=cs) rfl rfl hq hone rfl hlen (fun w4 hq4 hf4 hs4=>?_);have hb2:=hb2.tr hf4 (by have:=hb2e;have:=hf2.size;simp;omega);have hF4:Fr [] w w4:=(hF2.Jb hf3).trans hf4 (fun x hx=>.inr Yhq);rcases hcase with⟨hn,rfl⟩|⟨d,hsd,rfl,hrd⟩
 .refine rx ?_;refine Yhd ?_;unfold Jh0;rw[hn];exact⟨hF4,rfl⟩
 obtain⟨⟨a23,c23,h23⟩,⟨a24,c24,h24⟩,hncl⟩:=RD.cks hrd;have hd4:=hd.tr0 hF4;have hs04:=hF4.size;obtain⟨nc,hnc⟩:=exq d.classes.length;rw[<-hnc]at h24 hncl;obtain⟨rl,hrl⟩:=exq (JM ltB (KX ds nm));refine rx ?_;refine KZ 6 [4,5] (fun g u=>∃p M R,g 4=.pointer (some ⟨p,0,none⟩)/\g 5=zI/\Wj u p M R ⟨nm,d.checks.length,d.classes.length,JM ltB (KX ds nm)⟩ (J6 d.classes.length [])/\(∀x∈M++R,w.heap.size<=x)/\Fr [] w u) ?_ ?_
 . (refine JE (fun z=>Fr [] w4 z) Yhp rfl ?_)
   obtain⟨u,hu⟩:=exq w4.drew;rw[<-hu];have hS:Fr [] w4 u:=hu▸Fr.drew _ _;have hz:=hS.size;have hgo0:=hd4.tr0 hS;refine JX 0 1 hS ?_;refine Kw 2 hS ?_ (hrun:=by(intro u hu;exact(J7 rfl (Blk.cell (hq4.tr0 hu) h23))));refine JX 3 4 hS ?_;refine d_z 5 hS ?_;refine d_z 7 hS ?_;refine Kw 8 hS ?_ (hrun:=by(intro u hu;exact(J7 rfl (Blk.cell (hq4.tr0 hu) h24))));refine d_z 9 hS ?_;refine JhJ (i:=6) (j:=10) (k:=11) (m:=12) rfl rfl rfl rfl Yhp ?_ ?_ ?_ ?_
   .obtain ⟨n,hn⟩:=exq u.heap.size;refine Yhf ?_;rintro vr u ⟨hR,hf⟩;have hRi:In (blks vr) n u.heap.size:=fun x hx=>⟨by have:=hR.2 x hx;omega,hR.1.lt x hx⟩
    have hR:=hR.1;rw[<-hrl]at hR;obtain⟨aor,cr,rfl⟩:=hR.slice;have hz:=hf.size;have hS:=hS.Jb hf;clear hf;refine Yfz ?_;refine XJ (i:=10) (j:=11) (k:=12) rfl rfl rfl Yhp ?_ ?_ ?_
    .obtain ⟨n,hn⟩:=exq u.heap.size;obtain⟨bC,hbC⟩:=exq u.heap.size;refine Qh (k:=nc) rfl rfl Yhn Yhv (fun u hC hf hsC=>?_);rw[<-hbC]at hC ⊢;rw[QE]at hC;have hCi:In (blks (Value.slice (some ⟨bC,0,none⟩) nc nc)) n u.heap.size:=fun x hx=>by simp[blks,Value.ownBlock]at hx;omega
     have hz:=hf.size;have hR:=hR.tr0 hf;exact Yei
    .obtain ⟨n,hn⟩:=exq u.heap.size;obtain⟨bB,hbB⟩:=exq u.heap.size;refine Kt (key:=brK) (val:=Value.int .i64) (fun u hB hf hsB=>?_);rw[<-hbB]at hB ⊢;have hz:=hf.size;have hR:=hR.tr0 hf;exact Yef
    .obtain ⟨n,hn⟩:=exq u.heap.size;obtain⟨bP,hbP⟩:=exq u.heap.size;refine Kt (key:=prK) (val:=Value.bool) (fun u hP hf hsP=>?_);rw[<-hbP]at hP ⊢;have hz:=hf.size;have hR:=hR.tr0 hf;exact Yee
   .obtain ⟨n,hn⟩:=exq u.heap.size;obtain⟨bC,hbC⟩:=exq u.heap.size;refine Qh (k:=nc) rfl rfl Yhn Yhv (fun u hC hf hsC=>?_);rw[<-hbC]at hC ⊢;rw[QE]at hC;have hCi:In (blks (Value.slice (some ⟨bC,0,none⟩) nc nc)) n u.heap.size:=fun x hx=>by simp[blks,Value.ownBlock]at hx;omega
    have hz:=hf.size;have hS:=hS.Jb hf;clear hf;refine Yfz ?_;refine XJ (i:=6) (j:=11) (k:=12) rfl rfl rfl Yhp ?_ ?_ ?_
    .obtain ⟨n,hn⟩:=exq u.heap.size;refine Yhf ?_;rintro vr u ⟨hR,hf⟩;have hRi:In (blks vr) n u.heap.size:=fun x hx=>⟨by have:=hR.2 x hx;omega,hR.1.lt x hx⟩
     have hR:=hR.1;rw[<-hrl]at hR;obtain⟨aor,cr,rfl⟩:=hR.slice;have hz:=hf.size;have hC:=hC.tr0 hf;exact Yei
    .obtain ⟨n,hn⟩:=exq u.heap.size;obtain⟨bB,hbB⟩:=exq u.heap.size;refine Kt (key:=brK) (val:=Value.int .i64) (fun u hB hf hsB=>?_);rw[<-hbB]at hB ⊢;have hz:=hf.size;have hC:=hC.tr0 hf;exact Yeh
    .obtain ⟨n,hn⟩:=exq u.heap.size;obtain⟨bP,hbP⟩:=exq u.heap.size;refine Kt (key:=prK) (val:=Value.bool) (fun u hP hf hsP=>?_);rw[<-hbP]at hP ⊢;have hz:=hf.size;have hC:=hC.tr0 hf;exact Yeg
   .obtain ⟨n,hn⟩:=exq u.heap.size;obtain⟨bB,hbB⟩:=exq u.heap.size;refine Kt (key:=brK) (val:=Value.int .i64) (fun u hB hf hsB=>?_);rw[<-hbB]at hB ⊢;have hz:=hf.size;have hS:=hS.Jb hf;clear hf;refine Yfz ?_;refine XJ (i:=6) (j:=10) (k:=12) rfl rfl rfl Yhp ?_ ?_ ?_
    .obtain ⟨n,hn⟩:=exq u.heap.size;refine Yhf ?_;rintro vr u ⟨hR,hf⟩;have hRi:In (blks vr) n u.heap.size:=fun x hx=>⟨by have:=hR.2 x hx;omega,hR.1.lt x hx⟩
     have hR:=hR.1;rw[<-hrl]at hR;obtain⟨aor,cr,rfl⟩:=hR.slice;have hz:=hf.size;have hB:=hB.tr0 hf;exact Yef
    .obtain ⟨n,hn⟩:=exq u.heap.size;obtain⟨bC,hbC⟩:=exq u.heap.size;refine Qh (k:=nc) rfl rfl Yhn Yhv (fun u hC hf hsC=>?_);rw[<-hbC]at hC ⊢;rw[QE]at hC;have hCi:In (blks (Value.slice (some ⟨bC,0,none⟩) nc nc)) n u.heap.size:=fun x hx=>by simp[blks,Value.ownBlock]at hx;omega
     have hz:=hf.size;have hB:=hB.tr0 hf;exact Yeh
    .obtain ⟨n,hn⟩:=exq u.heap.size;obtain⟨bP,hbP⟩:=exq u.heap.size;refine Kt (key:=prK) (val:=Value.bool) (fun u hP hf hsP=>?_);rw[<-hbP]at hP ⊢;have hz:=hf.size;have hB:=hB.tr0 hf;exact Yed
   .obtain ⟨n,hn⟩:=exq u.heap.size;obtain⟨bP,hbP⟩:=exq u.heap.size;refine Kt (key:=prK) (val:=Value.bool) (fun u hP hf hsP=>?_);rw[<-hbP]at hP ⊢;have hz:=hf.size;have hS:=hS.Jb hf;clear hf;refine Yfz ?_;refine XJ (i:=6) (j:=10) (k:=11) rfl rfl rfl Yhp ?_ ?_ ?_
    .obtain ⟨n,hn⟩:=exq u.heap.size;refine Yhf ?_;rintro vr u ⟨hR,hf⟩;have hRi:In (blks vr) n u.heap.size:=fun x hx=>⟨by have:=hR.2 x hx;omega,hR.1.lt x hx⟩
     have hR:=hR.1;rw[<-hrl]at hR;obtain⟨aor,cr,rfl⟩:=hR.slice;have hz:=hf.size;have hP:=hP.tr0 hf;exact Yee
    .obtain ⟨n,hn⟩:=exq u.heap.size;obtain⟨bC,hbC⟩:=exq u.heap.size;refine Qh (k:=nc) rfl rfl Yhn Yhv (fun u hC hf hsC=>?_);rw[<-hbC]at hC ⊢;rw[QE]at hC;have hCi:In (blks (Value.slice (some ⟨bC,0,none⟩) nc nc)) n u.heap.size:=fun x hx=>by simp[blks,Value.ownBlock]at hx;omega
     have hz:=hf.size;have hP:=hP.tr0 hf;exact Yeg
    .obtain ⟨n,hn⟩:=exq u.heap.size;obtain⟨bB,hbB⟩:=exq u.heap.size;refine Kt (key:=brK) (val:=Value.int .i64) (fun u hB hf hsB=>?_);rw[<-hbB]at hB ⊢;have hz:=hf.size;have hP:=hP.tr0 hf;exact Yed
 rintro g u ⟨p,M,R,g4,g5,hC,hM,hF⟩;rw[Ja g4,Ja g5];refine Ymt ?_;unfold Jh0;rw[hsd];exact⟨hF,p,M,R,rfl,hC,hM⟩
end Go.Proofs.YtggmccicdhnkgaaGreat
namespace Go.Rf
open Go.RowKit
variable{st:Nat}
section
variable{α β:Type}
theorem Jcj(key:α->Value)(val:β->Value)(a:α)(v:β):∀{m:List (α×β)} {ns:List Nat} {i:Nat},ns.length=m.length->m[i]?=some (a,v)->(ents key val m ns).modify i (fun e=>{e with key:=key a})=ents key val m ns
 |[],ns,i,_,h=>by simp at h
 |q::m,[],i,h,_=>by simp at h
 |q::m,k::ns,0,h,h1=>by
  simp only[Ep,Sj]at h1;subst h1;simp[ents]
 |q::m,k::ns,i+1,h,h1=>by
  simp only[DX]at h1;simp only[ents,Hl];rw[Jcj key val a v Yil h1]
theorem Jcg(key:α->Value)(val:β->Value)(a:α)(v v':β):∀{m:List (α×β)} {ns:List Nat} {i:Nat},ns.length=m.length->m[i]?=some (a,v)->(ents key val m ns).modify i (fun e=>{e with val:=val v'})=ents key val (m.set i (a,v')) ns
 |[],ns,i,_,h=>by simp at h
 |q::m,[],i,h,_=>by simp at h
 |q::m,k::ns,0,h,h1=>by
  simp only[Ep,Sj]at h1;subst h1;simp[ents]
 |q::m,k::ns,i+1,h,h1=>by
  simp only[DX]at h1;simp only[ents,Hl,Ie];rw[Jcg key val a v v' Yil h1]
theorem JaA(key:α->Value)(val:β->Value)(st:Nat):∀{m:List (α×β)} {ns:List Nat} {i:Nat},ns.length=m.length->ns.Nodup->ns[i]?=some st->(ents key val m ns).findIdx? (fun e=>(e.born:Int)==(st:Int))=some i
 |[],[],i,_,_,h=>by simp at h
 |[],k::ns,i,h,_,_=>by simp at h
 |q::m,[],i,h,_,_=>by simp at h
 |q::m,k::ns,0,h,_,h1=>by
  simp only[Ep,Sj]at h1;subst h1;simp[ents,I4]
 |q::m,k::ns,i+1,h,hn,h1=>by
  simp only[DX]at h1;have hne:¬(k:Int)=(st:Int):=fun e=>by
   have:k=st:=by omega
   subst this;exact(EF.1 hn).1 (Hz h1)
  simp only[ents,I4];rw[JaA key val st Yil (EF.1 hn).2 h1];simp[hne]
variable[DecidableEq α]
theorem JbQ{a:α}{v v':β}:∀{m:List (α×β)} {i:Nat},(m.map Prod.fst).Nodup->m[i]?=some (a,v)->VJ m a v'=m.set i (a,v')
 |[],i,_,h=>by simp at h
 |q::m,0,_,h=>by
  simp only[Ep,Sj]at h;subst h;simp[VJ]
 |q::m,i+1,hn,h=>by
  simp only[DX]at h;simp only[DL,EF]at hn;have hne:¬a=q.1:=fun e=>hn.1 (by rw[<-e];exact Du.2 ⟨(a,v),Hz h,rfl⟩)
  simp only[VJ,SH hne,Ie];rw[JbQ hn.2 h]
end
section
variable{α β:Type}[DecidableEq α]{key:α->Value}{val:β->Value}{w w':World}{b:Nat}{m:List (α×β)}
def MpS(key:α->Value)(val:β->Value)(w:World)(b:Nat)(m:List (α×β))(a:α)(st:Nat):Prop:=
 ∃ns clock,ns.length=m.length/\w.heap[b]?=some (.map (ents key val m ns).toArray clock)/\(m.map Prod.fst).Nodup/\ns.Nodup/\(∀n∈ns,n<clock)/\∃(i:Nat) (v:β),m[i]?=some (a,v)/\ns[i]?=some st
theorem MpS.mp{a:α}(h:MpS key val w b m a st):Mp key val w b m:=by
 obtain⟨ns,c,h1,h2,h3,h4,h5,_⟩:=h;exact⟨ns,c,h1,h2,h3,h4,h5⟩
theorem MpS.tr{S:List Nat}{a:α}(h:MpS key val w b m a st)(hf:Fr S w w')(hS:b∉S):MpS key val w' b m a st:=by
 have hl:=h.mp.lt;exact Ydi
variable{P:Program}{ops:Array Oper}{Q:Exit->Act->World->Prop}{rest:List Oper}{n:Nat}{f:Env}{D:Dfs}
variable{d:Nat}{d':Option Nat}{ty:TypeId}{ps:String}{af:Array Edge}{x y z:Operand}{t k e:Nat}
def Jck(m:List (α×β))(a:α)(z:β):List (α×β):=match getM m a with|some _=>m|none=>m++[(a,z)]
theorem JaM{a:α}{z0:β}[T:MapT P t k e][K:KeyT P k key][Z:ZeroT P e (val z0)](hm:Mp key val w b m):
 ∃w' st,(Instr.mapEntry t (.map (some b)) (key a)).run P w=.ok (.tuple #[val ((getM m a).getD z0),iV (st:Nat)]) w'/\MpS key val w' b (Jck m a z0) a st/\Fr [b] w w'/\w'.heap.size=w.heap.size:=by
 obtain⟨ns,c,h1,h2,h3,h4,h5⟩:=hm;obtain⟨i,hi,hz⟩:=Z.z;have hf:=UC (P:=P) (k:=k) (w:=w) (key:=key) (val:=val) a h1;have hg:=Lu m a 0;cases hl:Wv m a 0 with
 |none=>
  rw[hl]at hf hg;have hg:getM m a=none:=hg.symm;have hnm:=BD.1 hl;have hs:=Uo (o:=.map (ents key val (m++[(a,z0)]) (ns++[c])).toArray (c+1)) h2;refine⟨_,c,?_,?_,hs.1,by simp[ChangeMaps.setBlock]⟩
  .simp only[Instr.mapEntry,Sem.run_bind,run_underlying T.u,Result.andThen_ok,MapKept.run_getObj_map h2,K.chk];rw[hf];simp only[Iw,Result.andThen_ok,zeroValue,typeInfo,Sem.run_bind];rw[LK key val h1,hg];simp[hi,hz,MapKept.run_setObj_map _ h2,ChangeMaps.setBlock,goInt]
  .unfold Jck;rw[hg];refine⟨ns++[c],c+1,by simp[h1],hs.2,?_,?_,?_,m.length,z0,by simp,by rw[<-h1];simp⟩
   .rw [Dp,DW];exact⟨h3,by simp,fun x hx y hy=>by simp at hy;subst hy;exact fun e=>hnm (e▸hx)⟩
   .rw [DW];exact Ycw
   .intro q hq;exact Ydf
 |some p=>
  obtain⟨j,v0⟩:=p;rw[hl]at hf hg;have hg:getM m a=some v0:=hg.symm;obtain⟨_,g1,g2⟩:=BA hl;rw[EJ]at g1 g2;have hjl:j<m.length:=(Df.1 g1).1;have hs:=Uo (o:=.map (ents key val m ns).toArray c) h2;have hge:=UG key val (i:=j) g1 (Dc (show j<ns.length by omega));refine⟨_,ns[j]'Yhn,?_,?_,hs.1,by simp[ChangeMaps.setBlock]⟩
  .simp only[Instr.mapEntry,Sem.run_bind,run_underlying T.u,Result.andThen_ok,MapKept.run_getObj_map h2,K.chk];rw[hf];simp only[EO,Result.andThen_ok,Sem.run_bind,EX,hge,E8,Instr.keyThatStays,K.same,CX,Sem.run_pure,MapKept.run_setObj_map _ h2,IU];rw[Jcj key val a v0 h1 g1,hg];simp[ChangeMaps.setBlock,goInt]
  .unfold Jck;rw[hg];exact⟨ns,c,h1,hs.2,h3,h4,h5,j,v0,g1,Dc Yhn⟩
theorem NH{a:α}{v:β}(hm:MpS key val w b m a st):
 ∃w',(Instr.entryStore t (.map (some b)) (iV (st:Nat)) (val v)).run P w=.ok () w'/\Mp key val w' b (VJ m a v)/\Fr [b] w w'/\w'.heap.size=w.heap.size:=by
 obtain⟨ns,c,h1,h2,h3,h4,h5,i,v0,hi,hs⟩:=hm;have hp:=JbQ (v':=v) h3 hi;have hst:=Uo (o:=.map (ents key val (m.set i (a,v)) ns).toArray c) h2;refine⟨_,?_,⟨ns,c,by rw[hp];simp[h1],?_,JaS h3,h4,h5⟩,hst.1,by simp[ChangeMaps.setBlock]⟩
 .simp only[Instr.entryStore,Sem.run_bind,MapKept.run_getObj_map h2,Result.andThen_ok,asInt,Sem.run_pure,asIntOf];rw[show(ents key val m ns).toArray.findIdx? (fun e=>(e.born:Int)==(st:Int))=some i by rw[List.findIdx?_toArray];exact JaA key val st h1 h4 hs];simp only[MapKept.run_setObj_map _ h2,IU];rw[Jcg key val a v0 v h1 hi];simp[ChangeMaps.setBlock]
 .rw [hp];exact hst.2
theorem JcX{a:α}{z0:β}[T:MapT P t k e][K:KeyT P k key][Z:ZeroT P e (val z0)](hm:Mp key val w b m)(hx:ev n f x=.map (some b))(hy:ev n f y=key a)
 (h:∀w' st,MpS key val w' b (Jck m a z0) a st->Fr [b] w w'->w'.heap.size=w.heap.size->wpList P ops Q rest (A n (upd f d (.tuple #[val ((getM m a).getD z0),iV (st:Nat)]))) w'):
 wpList P ops Q (⟨some d,.mapEntry t x y,ty,ps,af,none⟩::rest) (A n f) w:=by
 obtain⟨w',st,hr,h1,h2,h3⟩:=JaM (P:=P) (t:=t) (a:=a) (z0:=z0) hm;refine JR (w':=w') ?_ (h w' st h1 h2 h3);simp[execOp,hx,hy,hr,Result.andThen]
theorem JaL{a:α}{v:β}(hm:MpS key val w b m a st)(hx:ev n f x=.map (some b))(hy:ev n f y=iV (st:Nat))(hz:ev n f z=val v)
 (h:∀w',Mp key val w' b (VJ m a v)->Fr [b] w w'->w'.heap.size=w.heap.size->wpList P ops Q rest (A n (Jei f d' undef)) w'):
 wpList P ops Q (⟨d',.entryStore t x y z,ty,ps,af,none⟩::rest) (A n f) w:=by
 obtain⟨w',hr,h1,h2,h3⟩:=NH (P:=P) (t:=t) (v:=v) hm;refine X8 (w':=w') ?_ (h w' h1 h2 h3);simp[execOp,hx,hy,hz,hr,Result.andThen]
end
end Go.Rf
