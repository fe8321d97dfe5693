/-
 Copy and Merge of package cover.
-/
import Derived.Test.YtggmccicdhnkgaaGreatZCv
import Derived.Test.YtggmccicdhnkgaaGreatZJf
import Derived.Test.YtggmccicdhnkgaaGreatZRf2
set_option linter.all false
namespace Go.Rf
open Go.RowKit
variable{f:Env}{Q:Exit->Act->World->Prop}{l:List Oper}{bb fuel i j k n p pb:Nat}{P:Program}{w:World}{S:World->Prop}
theorem d_threeC{D:Dfs}{listed:Array Bool}{o o' o'':Oper}(hi:l[i]?=some o)(hj:l[j]?=some o')(hk:l[k]?=some o'')(hr:Region.ready .any l.toArray listed=[i,j,k])
 (h1:wpList P l.toArray (Exit.then (fun a' w'=>S w'/\wpAnyH P .any l.toArray Q S fuel (listed.setIfInBounds i true) a' w') Q) [o] (A n f) w)
 (h2:wpList P l.toArray (Exit.then (fun a' w'=>S w'/\wpAnyH P .any l.toArray Q S fuel (listed.setIfInBounds j true) a' w') Q) [o'] (A n f) w)
 (h3:wpList P l.toArray (Exit.then (fun a' w'=>S w'/\wpAnyH P .any l.toArray Q S fuel (listed.setIfInBounds k true) a' w') Q) [o''] (A n f) w):wpAnyH P .any l.toArray Q S (fuel+1) listed (A n f) w:=by
 refine wpAnyH_all hr Yhs fun m hm=>?_
 simp only[List.mem_cons,List.not_mem_nil,or_false]at hm;rcases hm with rfl|rfl|rfl
 .exact wpOp_of_list hi h1
 .exact wpOp_of_list hj h2
 .exact wpOp_of_list hk h3
theorem d_fourC{D:Dfs}{listed:Array Bool}{m:Nat}{o o' o'' o3:Oper}(hi:l[i]?=some o)(hj:l[j]?=some o')(hk:l[k]?=some o'')(hm':l[m]?=some o3)(hr:Region.ready .any l.toArray listed=[i,j,k,m])
 (h1:wpList P l.toArray (Exit.then (fun a' w'=>S w'/\wpAnyH P .any l.toArray Q S fuel (listed.setIfInBounds i true) a' w') Q) [o] (A n f) w)
 (h2:wpList P l.toArray (Exit.then (fun a' w'=>S w'/\wpAnyH P .any l.toArray Q S fuel (listed.setIfInBounds j true) a' w') Q) [o'] (A n f) w)
 (h3:wpList P l.toArray (Exit.then (fun a' w'=>S w'/\wpAnyH P .any l.toArray Q S fuel (listed.setIfInBounds k true) a' w') Q) [o''] (A n f) w)
 (h4:wpList P l.toArray (Exit.then (fun a' w'=>S w'/\wpAnyH P .any l.toArray Q S fuel (listed.setIfInBounds m true) a' w') Q) [o3] (A n f) w):wpAnyH P .any l.toArray Q S (fuel+1) listed (A n f) w:=by
 refine wpAnyH_all hr Yhs fun m hm=>?_
 simp only[List.mem_cons,List.not_mem_nil,or_false]at hm;rcases hm with rfl|rfl|rfl|rfl
 .exact wpOp_of_list hi h1
 .exact wpOp_of_list hj h2
 .exact wpOp_of_list hk h3
 .exact wpOp_of_list hm' h4
def In(L:List Nat)(a b:Nat):Prop:=∀x∈L,a<=x/\x<b
theorem own_le1{e:Nat}{v:Value}{xs:List Value}(h:Own w e k v n xs):(blks v).Nodup:=by
 rcases h.2 with⟨rfl,_⟩|⟨g,cap,cur,rfl,_⟩<;>simp[blks,Value.ownBlock]
theorem nd_of{a b:List Nat}(ha:a.Nodup)(hb:b.Nodup)(h1:p≠bb)(h2:p≠pb)(h3:bb≠pb)(h4:∀x∈a,x≠p/\x≠bb/\x≠pb/\x∉b)(h5:∀x∈b,x≠p/\x≠bb/\x≠pb):(([p,bb,pb]++a)++b).Nodup:=by
 rw[List.nodup_append,List.nodup_append];refine⟨⟨by simp[h1,h2,h3],ha,fun x hx y hy e=>?_⟩,hb,fun x hx y hy e=>?_⟩
 .subst e;have:=h4 x hy;simp only[List.mem_cons,List.not_mem_nil,or_false]at hx;rcases hx with rfl|rfl|rfl
  .exact this.1 rfl
  .exact this.2.1 rfl
  .exact this.2.2.1 rfl
 .subst e;have:=h5 x hy;simp only[List.mem_append,List.mem_cons,List.not_mem_nil,or_false]at hx;rcases hx with(rfl|rfl|rfl)|hx
  .exact this.1 rfl
  .exact this.2.1 rfl
  .exact this.2.2 rfl
  .exact (h4 x hx).2.2.2 hy
theorem zeros_natsV(n:Nat):zeros [Value.int .i64 0] n=natsV (stOf n []).cls:=by
 have h1:(stOf n []).cls=List.replicate n 0:=by
  unfold stOf;simp only[List.countP_nil];rw[List.map_const',List.length_range]
 rw[h1];unfold natsV;rw[List.map_replicate];clear h1
 induction n with
 |zero=>rfl
 |succ n ih=>rw[zeros,List.replicate_succ,ih];rfl
end Go.Rf
namespace Go.Proofs.YtggmccicdhnkgaaGreat
open Go.Proofs.Tryz
open Go.Rf Go.RowKit
variable{bb n p pb:Nat}{w:World}
attribute [local irreducible] Code.wp wpList Exit.then Exit.inBlock bodyPost A Calls execOp Addr.add
theorem RD.cks{S:List Nat}{d:De}{cs:List Value}(hd:RD w S (deC d) cs):(∃a c,cs[23]?=some (.slice a d.checks.length c))/\(∃a c,cs[24]?=some (.slice a d.classes.length c))/\d.classes.length<=1000000000000:=by
 obtain⟨_,rfl,r1⟩:=RD.invC (x:=iV d.kind) hd;obtain⟨_,rfl,r2⟩:=RD.invC (x:=.string d.name) r1;obtain⟨_,rfl,r3⟩:=RD.invC (x:=iV d.at_) r2;obtain⟨ct,ctc,_,rfl,hct,r4⟩:=RD.lst (rows:=d.ctors.map ctC) r3;obtain⟨pm,pmc,_,rfl,hpm,r5⟩:=RD.lst (rows:=d.params.map pmC) r4;obtain⟨sty,_,rfl,hty,hk1,r6⟩:=RD.ty (t:=d.type) r5;obtain⟨ty,tyc,rfl,_⟩:=hk1.slice;obtain⟨bo1,bon1,boc1,bo2,bon2,boc2,bo3,bon3,boc3,_,rfl,hbo,r7⟩:=RD.ex (e:=d.body) r6;obtain⟨_,rfl,r8⟩:=RD.invC (x:=iV d.depth) r7;obtain⟨ge1,gen1,gec1,ge2,gen2,gec2,ge3,gen3,gec3,_,rfl,hge,r9⟩:=RD.gn (g:=d.gen) r8;obtain⟨dw,dwc,_,rfl,hdw,r10⟩:=RD.lst (rows:=d.draws.map dwC) r9;obtain⟨ck,ckc,_,rfl,hck,r11⟩:=RD.lst (rows:=d.checks.map ckC) r10;obtain⟨cs,csc,_,rfl,hcs,r12⟩:=RD.lst (rows:=d.classes.map ckC) r11;obtain⟨cl,clc,_,rfl,hcl,r13⟩:=RD.lst (rows:=d.claims.map clC) r12;obtain⟨sst,_,rfl,hstt,hk2,r14⟩:=RD.ty (t:=d.state) r13;obtain⟨st,stc,rfl,_⟩:=hk2.slice;obtain⟨it1,itn1,itc1,it2,itn2,itc2,it3,itn3,itc3,_,rfl,hit,r15⟩:=RD.ex (e:=d.init) r14;obtain⟨cm,cmc,_,rfl,hcm,r16⟩:=RD.lst (rows:=d.cmds.map cmC) r15;obtain⟨op,opc,_,rfl,hop,r17⟩:=RD.lst (rows:=d.ops.map opC) r16;obtain⟨rc1,rcn1,rcc1,rc2,rcn2,rcc2,rc3,rcn3,rcc3,_,rfl,hrc,r18⟩:=RD.ex (e:=d.recov) (ds:=[]) Yij;obtain rfl:=r18.inv0;clear r1 r2 r3 r4 r5 r6 r7 r8 r9 r10 r11 r12 r13 r14 r15 r16 r17 r18 hk1 hk2;refine⟨⟨ck,ckc,?_⟩,⟨cs,csc,?_⟩,by have:=hcs.bound;rw[List.length_map]at this;exact this⟩
 .simp only[List.length_map];rfl
 .simp only[List.length_map];rfl
def NewR(w:World)(ds:List De)(nm:ByteArray)(e:Ending)(w':World):Prop:=Fr [] w w'/\match fdD ds 3 nm with
 |none=>e=.returned (.tuple #[.pointer none,.int .i64 6])
 |some d=>∃p M R,e=.returned (.tuple #[.pointer (some ⟨p,0,none⟩),.int .i64 0])/\CovM w' p M R ⟨nm,d.checks.length,d.classes.length,setL ltB (reachD ds nm)⟩ (stOf d.classes.length [])/\∀x∈M++R,w.heap.size<=x
theorem mkNew{u:World}{vr vc:Value}{P:Pp}{a0 a1 b0 b1:Nat}(hn:P.ncls=n)(hb:Blk u p [.string P.prop,iV (P.checks:Nat),vr,zI,zI,zI,zI,vc,.map (some bb),.map (some pb)] 125)
 (hr:Own u 50 3 vr P.reach.length (P.reach.flatMap brV)) (hc:Own u 3 1 vc n (natsV (stOf n []).cls)) (hmb:Mp brK (Value.int .i64) u bb []) (hmp:Mp prK Value.bool u pb [])
 (ir:In (blks vr) a0 a1) (ic:In (blks vc) b0 b1) (d1:a1<=b0\/b1<=a0) (d2:bb≠pb) (d3:bb<a0\/a1<=bb) (d4:pb<a0\/a1<=pb) (d5:bb<b0\/b1<=bb) (d6:pb<b0\/b1<=pb) (d7:bb<p/\pb<p/\a1<=p/\b1<=p):CovM u p ([p,bb,pb]++blks vc) (blks vr) P (stOf P.ncls []):=by
 subst hn;refine⟨bb,pb,vr,vc,[],[],rfl,rfl,nd_of (own_le1 hc) (own_le1 hr) Yhn Yhn d2 (fun x hx=>?_) (fun x hx=>?_),hb,hr,?_,hmb,RelB.nil,hmp,RelP.nil.congr (fun b=>by simp[stOf,setL]),stOf_ok P [] Yhs⟩
 .have:=ic x hx;refine⟨by omega,by omega,by omega,fun hm=>?_⟩;have:=ir x hm;omega
 .have:=ir x hx;exact⟨by omega,by omega,by omega⟩
 .rw [show(stOf P.ncls []).cls.length=P.ncls by simp[stOf]];exact hc
set_option maxHeartbeats 32000000 in
theorem newC(ds:List De)(nm:ByteArray)(v0:Value)(w:World)(S0:List Nat)(hsz:∀d∈ds,SzD d)(hl:ds.length<=50)(hd:DR w S0 (.l (ds.map deC)) v0):
 Calls prog 24 #[.agg ([v0]:List Value).toArray,.string nm] w (NewR w ds nm):=by
 have h01:=hd.one;refine enter func24 rfl ntmps24 rfl ?_;refine rx ?_;refine s_boxN (l:=[v0]) rfl rfl (fun w1 b2 hb2e hb2 hf1 hs1=>?_);have hd1:=hd.tr0 hf1;refine rx ?_;refine s_call (parDeclC ds 3 nm v0 w1 S0 (fun d hd=>(hsz d hd).cmds) hd1) rfl ?_;rintro en w2 hfd;obtain⟨cs,b,rfl,hlen,hone,hf2,hcase⟩:=fdX hfd;refine⟨_,rfl,?_⟩;have hb2:=hb2.tr0 hf2;have hF2:=hf1.trans0 hf2;refine rx ?_;refine s_allocN (l:=[zI,zT,zI,zS,zS,zI,zT,zS,zI,zT,zI,zS,zS,zS,zI,zI,zI,zT,zS,zS,zS,zI,zS,zS,zS,zS,zI,zT,zS,zI,zT,zI,zS,zS,zS,zI,zS,zS,zI,zT,zI,zS,zS,zS,zI]) rfl (fun w3 q hqe hq hf3 hs3=>?_);have hb2:=hb2.tr0 hf3;have hb2lt:=hb2.lt;have hs2:=hF2.size;refine rx ?_;refine s_storeAggB (cs:=cs) rfl rfl hq hone rfl hlen (fun w4 hq4 hf4 hs4=>?_);have hb2:=hb2.tr hf4 (by have:=hb2e;have:=hf2.size;simp;omega);have hF4:Fr [] w w4:=(hF2.trans0 hf3).trans hf4 (fun x hx=>.inr Yhq);rcases hcase with⟨hn,rfl⟩|⟨d,hsd,rfl,hrd⟩
 .refine rx ?_;refine Yhd ?_;unfold NewR;rw[hn];exact⟨hF4,rfl⟩
 obtain⟨⟨a23,c23,h23⟩,⟨a24,c24,h24⟩,hncl⟩:=RD.cks hrd;have hd4:=hd.tr0 hF4;have hs04:=hF4.size;obtain⟨nc,hnc⟩:=exq d.classes.length;rw[<-hnc]at h24 hncl;obtain⟨rl,hrl⟩:=exq (setL ltB (reachD ds nm));refine rx ?_;refine c_cutK 6 [4,5] (fun g u=>∃p M R,g 4=.pointer (some ⟨p,0,none⟩)/\g 5=zI/\CovM u p M R ⟨nm,d.checks.length,d.classes.length,setL ltB (reachD ds nm)⟩ (stOf d.classes.length [])/\(∀x∈M++R,w.heap.size<=x)/\Fr [] w u) ?_ ?_
 . (refine d_begin (fun z=>Fr [] w4 z) Yhp rfl ?_)
   obtain⟨u,hu⟩:=exq w4.drew;rw[<-hu];have hS:Fr [] w4 u:=hu▸Fr.drew _ _;have hz:=hS.size;have hgo0:=hd4.tr0 hS;refine d_z2 0 1 hS ?_;refine d_tx 2 hS ?_ (hrun:=by(intro u hu;exact(r_load rfl (Blk.cell (hq4.tr0 hu) h23))));refine d_z2 3 4 hS ?_;refine d_z 5 hS ?_;refine d_z 7 hS ?_;refine d_tx 8 hS ?_ (hrun:=by(intro u hu;exact(r_load rfl (Blk.cell (hq4.tr0 hu) h24))));refine d_z 9 hS ?_;refine d_fourC (i:=6) (j:=10) (k:=11) (m:=12) rfl rfl rfl rfl Yhp ?_ ?_ ?_ ?_
   .obtain ⟨n,hn⟩:=exq u.heap.size;refine Yhf ?_;rintro vr u ⟨hR,hf⟩;have hRi:In (blks vr) n u.heap.size:=fun x hx=>⟨by have:=hR.2 x hx;omega,hR.1.lt x hx⟩
    have hR:=hR.1;rw[<-hrl]at hR;obtain⟨aor,cr,rfl⟩:=hR.slice;have hz:=hf.size;have hS:=hS.trans0 hf;clear hf;refine Yfz ?_;refine d_threeC (i:=10) (j:=11) (k:=12) rfl rfl rfl Yhp ?_ ?_ ?_
    .obtain ⟨n,hn⟩:=exq u.heap.size;obtain⟨bC,hbC⟩:=exq u.heap.size;refine s_makeS (k:=nc) rfl rfl Yhn Yhv (fun u hC hf hsC=>?_);rw[<-hbC]at hC ⊢;rw[zeros_natsV]at hC;have hCi:In (blks (Value.slice (some ⟨bC,0,none⟩) nc nc)) n u.heap.size:=fun x hx=>by simp[blks,Value.ownBlock]at hx;omega
     have hz:=hf.size;have hR:=hR.tr0 hf;exact Yei
    .obtain ⟨n,hn⟩:=exq u.heap.size;obtain⟨bB,hbB⟩:=exq u.heap.size;refine s_makeMap (key:=brK) (val:=Value.int .i64) (fun u hB hf hsB=>?_);rw[<-hbB]at hB ⊢;have hz:=hf.size;have hR:=hR.tr0 hf;exact Yef
    .obtain ⟨n,hn⟩:=exq u.heap.size;obtain⟨bP,hbP⟩:=exq u.heap.size;refine s_makeMap (key:=prK) (val:=Value.bool) (fun u hP hf hsP=>?_);rw[<-hbP]at hP ⊢;have hz:=hf.size;have hR:=hR.tr0 hf;exact Yee
   .obtain ⟨n,hn⟩:=exq u.heap.size;obtain⟨bC,hbC⟩:=exq u.heap.size;refine s_makeS (k:=nc) rfl rfl Yhn Yhv (fun u hC hf hsC=>?_);rw[<-hbC]at hC ⊢;rw[zeros_natsV]at hC;have hCi:In (blks (Value.slice (some ⟨bC,0,none⟩) nc nc)) n u.heap.size:=fun x hx=>by simp[blks,Value.ownBlock]at hx;omega
    have hz:=hf.size;have hS:=hS.trans0 hf;clear hf;refine Yfz ?_;refine d_threeC (i:=6) (j:=11) (k:=12) rfl rfl rfl Yhp ?_ ?_ ?_
    .obtain ⟨n,hn⟩:=exq u.heap.size;refine Yhf ?_;rintro vr u ⟨hR,hf⟩;have hRi:In (blks vr) n u.heap.size:=fun x hx=>⟨by have:=hR.2 x hx;omega,hR.1.lt x hx⟩
     have hR:=hR.1;rw[<-hrl]at hR;obtain⟨aor,cr,rfl⟩:=hR.slice;have hz:=hf.size;have hC:=hC.tr0 hf;exact Yei
    .obtain ⟨n,hn⟩:=exq u.heap.size;obtain⟨bB,hbB⟩:=exq u.heap.size;refine s_makeMap (key:=brK) (val:=Value.int .i64) (fun u hB hf hsB=>?_);rw[<-hbB]at hB ⊢;have hz:=hf.size;have hC:=hC.tr0 hf;exact Yeh
    .obtain ⟨n,hn⟩:=exq u.heap.size;obtain⟨bP,hbP⟩:=exq u.heap.size;refine s_makeMap (key:=prK) (val:=Value.bool) (fun u hP hf hsP=>?_);rw[<-hbP]at hP ⊢;have hz:=hf.size;have hC:=hC.tr0 hf;exact Yeg
   .obtain ⟨n,hn⟩:=exq u.heap.size;obtain⟨bB,hbB⟩:=exq u.heap.size;refine s_makeMap (key:=brK) (val:=Value.int .i64) (fun u hB hf hsB=>?_);rw[<-hbB]at hB ⊢;have hz:=hf.size;have hS:=hS.trans0 hf;clear hf;refine Yfz ?_;refine d_threeC (i:=6) (j:=10) (k:=12) rfl rfl rfl Yhp ?_ ?_ ?_
    .obtain ⟨n,hn⟩:=exq u.heap.size;refine Yhf ?_;rintro vr u ⟨hR,hf⟩;have hRi:In (blks vr) n u.heap.size:=fun x hx=>⟨by have:=hR.2 x hx;omega,hR.1.lt x hx⟩
     have hR:=hR.1;rw[<-hrl]at hR;obtain⟨aor,cr,rfl⟩:=hR.slice;have hz:=hf.size;have hB:=hB.tr0 hf;exact Yef
    .obtain ⟨n,hn⟩:=exq u.heap.size;obtain⟨bC,hbC⟩:=exq u.heap.size;refine s_makeS (k:=nc) rfl rfl Yhn Yhv (fun u hC hf hsC=>?_);rw[<-hbC]at hC ⊢;rw[zeros_natsV]at hC;have hCi:In (blks (Value.slice (some ⟨bC,0,none⟩) nc nc)) n u.heap.size:=fun x hx=>by simp[blks,Value.ownBlock]at hx;omega
     have hz:=hf.size;have hB:=hB.tr0 hf;exact Yeh
    .obtain ⟨n,hn⟩:=exq u.heap.size;obtain⟨bP,hbP⟩:=exq u.heap.size;refine s_makeMap (key:=prK) (val:=Value.bool) (fun u hP hf hsP=>?_);rw[<-hbP]at hP ⊢;have hz:=hf.size;have hB:=hB.tr0 hf;exact Yed
   .obtain ⟨n,hn⟩:=exq u.heap.size;obtain⟨bP,hbP⟩:=exq u.heap.size;refine s_makeMap (key:=prK) (val:=Value.bool) (fun u hP hf hsP=>?_);rw[<-hbP]at hP ⊢;have hz:=hf.size;have hS:=hS.trans0 hf;clear hf;refine Yfz ?_;refine d_threeC (i:=6) (j:=10) (k:=11) rfl rfl rfl Yhp ?_ ?_ ?_
    .obtain ⟨n,hn⟩:=exq u.heap.size;refine Yhf ?_;rintro vr u ⟨hR,hf⟩;have hRi:In (blks vr) n u.heap.size:=fun x hx=>⟨by have:=hR.2 x hx;omega,hR.1.lt x hx⟩
     have hR:=hR.1;rw[<-hrl]at hR;obtain⟨aor,cr,rfl⟩:=hR.slice;have hz:=hf.size;have hP:=hP.tr0 hf;exact Yee
    .obtain ⟨n,hn⟩:=exq u.heap.size;obtain⟨bC,hbC⟩:=exq u.heap.size;refine s_makeS (k:=nc) rfl rfl Yhn Yhv (fun u hC hf hsC=>?_);rw[<-hbC]at hC ⊢;rw[zeros_natsV]at hC;have hCi:In (blks (Value.slice (some ⟨bC,0,none⟩) nc nc)) n u.heap.size:=fun x hx=>by simp[blks,Value.ownBlock]at hx;omega
     have hz:=hf.size;have hP:=hP.tr0 hf;exact Yeg
    .obtain ⟨n,hn⟩:=exq u.heap.size;obtain⟨bB,hbB⟩:=exq u.heap.size;refine s_makeMap (key:=brK) (val:=Value.int .i64) (fun u hB hf hsB=>?_);rw[<-hbB]at hB ⊢;have hz:=hf.size;have hP:=hP.tr0 hf;exact Yed
 rintro g u ⟨p,M,R,g4,g5,hC,hM,hF⟩;rw[eq_upd g4,eq_upd g5];refine rx ?_;refine Yhd ?_;unfold NewR;rw[hsd];exact⟨hF,p,M,R,rfl,hC,hM⟩
end Go.Proofs.YtggmccicdhnkgaaGreat
namespace Go.Rf
open Go.RowKit
variable{α:Type}
theorem fmT_le(f:α->List Int):∀(l:List α) (i:Nat),((l.take i).flatMap f).length<=(l.flatMap f).length
 |[],i=>by simp
 |a::l,0=>by simp
 |a::l,i+1=>by
  have:=fmT_le f l i;simp only[List.take_succ_cons,List.flatMap_cons,List.length_append];omega
theorem fmT_snoc(f:α->List Int){l:List α}{i:Nat}(h:i<l.length):(l.take (i+1)).flatMap f=(l.take i).flatMap f++f l[i]:=by
 rw[List.take_succ_eq_append_getElem h,List.flatMap_append,List.flatMap_cons,List.flatMap_nil,List.append_nil]
end Go.Rf
namespace Go.Proofs.YtggmccicdhnkgaaGreat
open Go.Proofs.Tryz
open Go.Rf Go.RowKit
variable{p:Nat}{u u1 w:World}
attribute [local irreducible] Code.wp wpList Exit.then Exit.inBlock bodyPost A Calls execOp Addr.add
theorem i64_nat{n:Nat}(h:n<=1000000000):InI64 (n:Int):=⟨by omega,by omega⟩
theorem WStep.next{v:Value}{bs:List Int}(h:WStep p w v bs u)(hf:Fr [] u u1):WStep p w v bs u1:=by
 obtain⟨v',hI,h1,h2⟩:=h;exact⟨v',⟨hI.1.tr0 hf,hI.2.tr0 hf⟩,h1.trans0 hf,h2⟩
theorem WStep.fr{v:Value}{bs:List Int}(h:WStep p w v bs u):Fr (p::blks v) w u:=by
 obtain⟨_,_,hf,_⟩:=h;exact hf
theorem WStep.from{v:Value}{bs:List Int}(h:WStep p w v bs u)(hf1:Fr [] u u1):∃v',(∀x∈p::blks v',x<u.heap.size/\(x=p\/x∈blks v\/w.heap.size<=x))/\WStep p u1 v' bs u1/\∀bs2 u2,WStep p u1 v' bs2 u2->WStep p w v bs2 u2:=by
 obtain⟨v',hI,hf,hk⟩:=h;refine⟨v',fun x hx=>?_,WStep.refl ⟨hI.1.tr0 hf1,hI.2.tr0 hf1⟩,fun bs2 u2 h2=>h2.trans (hf.trans0 hf1) hk⟩;rcases List.mem_cons.1 hx with rfl|hx
 .exact ⟨hI.1.lt,.inl rfl⟩
 .exact ⟨hI.2.lt x hx,.inr (hk x hx)⟩
theorem wsInt{v:Value}{bs:List Int}(n:Int)(h:WStep p w v bs u)(hn:InI64 n)(hl:bs.length<=10000000000):
 Calls prog 66 #[.pointer (some ⟨p,0,none⟩),iV n] u fun e u'=>e=.returned (.tuple #[])/\WStep p w v (bs++iv n) u':=by
 obtain⟨v',hI,h1,hk⟩:=h;exact(wInt p v' bs n u hn.1 hn.2 hI Yhn).mono fun e u' ⟨he,hs⟩=>⟨he,hs.trans h1 hk⟩
theorem wsText{v:Value}{bs:List Int}(s:ByteArray)(h:WStep p w v bs u)(hs:s.size<=10000000000)(hl:bs.length<=10000000000):
 Calls prog 65 #[.pointer (some ⟨p,0,none⟩),.string s] u fun e u'=>e=.returned (.tuple #[])/\WStep p w v (bs++raw (sb s)) u':=by
 obtain⟨v',hI,h1,hk⟩:=h;exact(wText p v' bs s u hI Yhn Yhn).mono fun e u' ⟨he,hs⟩=>⟨he,hs.trans h1 hk⟩
def BrE(b:Br):Prop:=b.decl.size<=1000000000/\InI64 b.at_/\InI64 b.arm
theorem brE_len(b:Br)(h:BrE b):(brE b).length<=1000000100:=by
 have h1:=iv_len h.2.1.1 h.2.1.2;have h2:=iv_len h.2.2.1 h.2.2.2;exact Ycy
theorem wsBr{v:Value}{bs:List Int}(b:Br)(hb:BrE b)(h:WStep p w v bs u)(hl:bs.length<=5000000000):
 Calls prog 67 #[.pointer (some ⟨p,0,none⟩),.agg (brV b).toArray] u fun e u'=>e=.returned (.tuple #[])/\WStep p w v (bs++brE b) u':=by
 refine enter func67 rfl ntmps67 rfl ?_;refine rx ?_;refine s_boxN (l:=brV b) rfl rfl (fun u1 q hq h1 hf1 hs1=>?_);replace h1:Blk u1 q [.string b.decl,iV b.at_,iV b.arm] _:=h1;obtain⟨v1,hlt,hW,hgo⟩:=h.from hf1;have hq1:q∉p::blks v1:=fun hm=>by have:=(hlt q hm).1;omega
 have hl1:=iv_len hb.2.1.1 hb.2.1.2;have hl3:=uv_len (sb b.decl).length (by have:=hb.1;have:=sb_len b.decl;omega);have hl4:=hb.1;have hl5:=sb_len b.decl;refine rx ?_;refine s_cE (wsText b.decl hW Yhn Yhn) ?_;rintro u2 hW2;have g2:=h1.tr hW2.fr hq1;refine rx ?_;refine s_cE (wsInt b.at_ hW2 hb.2.1 (by simp only[raw,List.length_append];omega)) ?_;rintro u3 hW3;have g3:=h1.tr hW3.fr hq1;refine rx ?_;refine s_cE (wsInt b.arm hW3 hb.2.2 (by simp only[raw,List.length_append];omega)) ?_;rintro u4 hW4;refine rx ?_;refine end0 rfl ⟨rfl,?_⟩;have:=hgo _ _ hW4
 rwa [show bs++raw (sb b.decl)++iv b.at_++iv b.arm=bs++brE b by simp[brE]]at this
theorem wfr{w1:World}{q:Nat}{bs:List Int}(hf:Fr [] w w1)(hq:q=w.heap.size)(h:WStep q w1 (zS) bs u):Fr [] w u:=
 hf.trans h.fr (fun x hx=>.inr (by simp[blks,Value.ownBlock]at hx;omega))
set_option maxHeartbeats 32000000 in
theorem encodeC{M R:List Nat}{P:Pp}{s:St}(w:World)(hC:CovM w p M R P s)(hn:s.cls.length<=1000000)(hk:s.ks.length<=1000000)(hps:s.ps.length<=1000000)(hr0:s.runs<=1000000)(hpr:P.prop.size<=1000000)(hbr:∀b∈s.ks,BrE b)(hL:(encC P.prop s).length<=1000000000):
 Calls prog 27 #[.pointer (some ⟨p,0,none⟩)] w fun e w'=>∃v,e=.returned v/\Own w' 5 1 v (encC P.prop s).length ((encC P.prop s).map (.int .u8))/\Fr [] w w'/\(∀x∈blks v,w.heap.size<=x):=by
 obtain⟨bb,pb,vr,vc,mb,mp,rfl,rfl,hnd,hb,hr,hc,hmb,hrb,hmp,hrp,hok⟩:=hC;obtain⟨aoc,cc,rfl⟩:=hc.slice;have hlp:mp.length=s.ps.length:=keys_len totP hmp.nd hok.pasc (fun a=>hrp.keys);have hlb:mb.length=s.ks.length:=keys_len totB hmb.nd hok.kasc (fun a=>hrb.keys.trans (hok.cnt a));have ho:=hok.o;simp only[encC,List.length_append]at hL;refine enter func27 rfl ntmps27 rfl ?_;refine rx ?_;refine s_allocN (l:=[zS]) rfl (fun w1 q hqe hq hf1 hs1=>?_);have hW:=WStep.refl (bs:=[]) ⟨hq,Own.nil _ _ _⟩;have hb1:=hb.tr0 hf1;refine rx ?_;refine s_cE (wsText P.prop hW Yhn Yhs) ?_;rintro u hW;have hb2:=hb.tr0 (wfr hf1 hqe hW);refine rx ?_;refine s_cE (wsInt s.runs hW (i64_nat Yhn) (by simp only[List.nil_append];omega)) ?_;rintro u2 hW;have hb3:=hb.tr0 (wfr hf1 hqe hW);refine rx ?_;clear hb1 hb2 hb3;refine c_loopK 26 [5] (σ:=Nat) (fun i g u=>g 26=iV (i:Nat)/\i<=3/\WStep q w1 (zS) (raw (sb P.prop)++iv s.runs++([s.o 0,s.o 1,s.o 2].take i).flatMap (fun n=>iv (n:Nat))) u) (fun i=>3-i) 0 ⟨rfl,Nat.zero_le _,by simpa using hW⟩ ?_;clear hW;rintro i g u ⟨g26,hi,hW⟩;rw[eq_upd g26];have hbt:=fmT_le (fun(n:Nat)=>iv (n:Nat)) [s.o 0,s.o 1,s.o 2] i;by_cases hlt:i<3
 case pos=>
  refine rx ?_;refine s_indexArr (cs:=natsV [s.o 0,s.o 1,s.o 2]) (v:=iV ([s.o 0,s.o 1,s.o 2][i]:Nat)) rfl rfl hlt (natsV_get hlt) ?_;refine rx ?_;have hoi:[s.o 0,s.o 1,s.o 2][i]<=1000000:=by
   have:∀n∈[s.o 0,s.o 1,s.o 2],n<=1000000:=by simp;omega
   exact this _ (List.getElem_mem _)
  refine s_cE (wsInt _ hW (i64_nat Yhn) (by simp only[List.length_append];rw[show([s.o 0,s.o 1,s.o 2].flatMap (fun(n:Nat)=>iv (n:Nat))).length=(iv (s.o 0)).length+((iv (s.o 1)).length+(iv (s.o 2)).length) by simp]at hbt;omega)) ?_;rintro u2 hW;refine rx ?_;refine q_roundK (i+1) Yhl ⟨rfl,hlt,?_⟩ Yhn;rw[fmT_snoc _ hlt,<-List.append_assoc];exact hW
 rw[List.take_of_length_le Yht,show[s.o 0,s.o 1,s.o 2].flatMap (fun n=>iv (n:Nat))=iv (s.o 0)++(iv (s.o 1)++iv (s.o 2)) by simp,<-List.append_assoc,<-List.append_assoc]at hW;have hb1:=hb.tr0 (wfr hf1 hqe hW);clear hbt hi g26;refine rx ?_;refine s_cE (wsInt s.cls.length hW (i64_nat Yhn) Yim) ?_;rintro u2 hW;have hb2:=hb.tr0 (wfr hf1 hqe hW);refine rx ?_;clear hb1 hb2;obtain⟨B,hB⟩:=exq (raw (sb P.prop)++iv s.runs++iv (s.o 0)++iv (s.o 1)++iv (s.o 2)++iv s.cls.length);have hBL:B.length+(s.cls.flatMap (fun n=>iv (n:Nat))).length<=1000000000:=by rw[hB];simp only[List.length_append];omega
 rw[<-hB]at hW;refine c_loopK 43 [7] (σ:=Nat) (fun i g u=>g 43=iV (i:Nat)/\i<=s.cls.length/\WStep q w1 (zS) (B++(s.cls.take i).flatMap (fun n=>iv (n:Nat))) u) (fun i=>s.cls.length-i) 0 ⟨rfl,Nat.zero_le _,by simpa using hW⟩ ?_;clear hW;rintro i g u ⟨g43,hi,hW⟩;rw[eq_upd g43];have hbt:=fmT_le (fun(n:Nat)=>iv (n:Nat)) s.cls i;by_cases hlt:i<s.cls.length
 case pos=>
  obtain⟨ad,had,hcell⟩:=src_at (hc.tr0 (wfr hf1 hqe hW)).src (natsV_get hlt);subst had;refine Yfm ?_;refine rx ?_;refine s_cE (wsInt _ hW (i64_nat (by have:=hok.ocls _ (List.getElem_mem hlt);omega)) Yim) ?_;rintro u2 hW;refine rx ?_;refine q_roundK (i+1) Yhl ⟨rfl,hlt,?_⟩ Yhn;rw[fmT_snoc _ hlt,<-List.append_assoc];exact hW
 rw[List.take_of_length_le Yhn]at hW;have hFu:=wfr hf1 hqe hW;have hb1:=hb.tr0 hFu;have hmb1:=hmb.tr0 hFu;clear hbt g43;refine rx ?_;refine s_lenM rfl hmb1 ?_;rw[hlb];refine rx ?_;refine s_cE (wsInt s.ks.length hW (i64_nat Yhn) Yim) ?_;rintro u2 hW;have hFu2:=wfr hf1 hqe hW;have hb2:=hb.tr0 hFu2;have hmb2:=hmb.tr0 hFu2;refine rx ?_;refine s_c1 (sortedBC mb bb u2 hmb2 Yhn) ?_;rintro vq w3 ⟨hBq,hf3⟩;rw[keys_set totB hok.kasc (fun a=>hrb.keys.trans (hok.cnt a))]at hBq;obtain⟨aoq,cq,rfl⟩:=hBq.1.slice;obtain⟨v3,hv3,hV,hgo⟩:=hW.from hf3;have hFw3:=hFu2.trans0 hf3;have hsw3:=hFw3.size;have hs23:=hf3.size;have hv30:∀x∈q::blks v3,x<u2.heap.size/\w.heap.size<=x:=fun x hx=>by
  have h1:=hv3 x hx;have:=hs1;refine⟨h1.1,?_⟩;rcases h1.2 with h|h|h
  .omega
  .simp [blks,Value.ownBlock]at h
  .omega
 have hQ:∀x∈blks (Value.slice aoq s.ks.length cq),x∉q::blks v3:=fun x hx hm=>by
  have h1:=hBq.2 x hx;have h2:=(hv30 x hm).1;omega
 have hF3:∀bs u,WStep q w3 v3 bs u->Fr [] w u:=fun bs u h=>hFw3.trans h.fr (fun x hx=>.inr (hv30 x hx).2)
 clear hW;obtain⟨B2,hB2⟩:=exq (B++s.cls.flatMap (fun n=>iv (n:Nat))++iv s.ks.length);rw[<-hB2]at hV;have hBL2:B2.length+(s.ks.flatMap (fun b=>brE b++iv (s.cnt b))).length<=1000000000:=by rw[hB2,hB];simp only[List.length_append];omega
 refine rx ?_;refine c_loopK 62 [9] (σ:=Nat) (fun i g u=>g 62=iV (i:Nat)/\i<=s.ks.length/\WStep q w3 v3 (B2++(s.ks.take i).flatMap (fun b=>brE b++iv (s.cnt b))) u) (fun i=>s.ks.length-i) 0 ⟨rfl,Nat.zero_le _,by simpa using hV⟩ ?_;clear hV;rintro i g u ⟨g62,hi,hV⟩;rw[eq_upd g62];have hbt:=fmT_le (fun b=>brE b++iv (s.cnt b)) s.ks i;have hFu:=hF3 _ _ hV;by_cases hlt:i<s.ks.length
 case pos=>
  obtain⟨adq,hadq,hcq⟩:=src_rows brV_l3 (hBq.1.tr hV.fr hQ).src hlt Yhy;subst hadq;have hcq:Cells u (adq.add (i*3)) [.string s.ks[i].decl,iV s.ks[i].at_,iV s.ks[i].arm]:=hcq;refine rx ?_;refine s_allocN (l:=[zT,zI,zI]) rfl (fun u1 b9 hb9 h9 hf5 hs5=>?_);refine rx ?_;refine s_storeAggB (cs:=brV s.ks[i]) rfl rfl h9 (brV_one1 _) rfl rfl (fun u2 h9 hf6 hs6=>?_);replace h9:Blk u2 b9 [.string s.ks[i].decl,iV s.ks[i].at_,iV s.ks[i].arm] _:=h9;have hF2:Fr [] u u2:=hf5.trans hf6 (fun x hx=>.inr Yhq);obtain⟨v4,hv4,hV4,hgo4⟩:=hV.from hF2;have hbB:=hbr _ (List.getElem_mem hlt);have n9:b9∉q::blks v4:=fun hm=>by have:=(hv4 _ hm).1;omega
  have hFu2:=hFu.trans0 hF2;refine rx ?_;refine s_cE (wsBr s.ks[i] hbB hV4 Yim) ?_;rintro u3 hV5;have hb5:=hb.tr0 hFu2;have hmb5:=hmb.tr0 hFu2;refine rx ?_;refine d_begin (fun z=>Fr (q::blks v4) u2 z) Yhp rfl ?_;obtain⟨u4,hu4⟩:=exq u3.drew;rw[<-hu4];have hd:Fr [] u3 u4:=hu4▸Fr.drew _ _;have hS:Fr (q::blks v4) u2 u4:=hV5.fr.trans0 hd;have np:p∉q::blks v4:=fun hm=>by
   have h1:=hb.lt;have h2:=(hv4 p hm).2;rcases h2 with h|h|h
   .omega
   .have:=(hv30 p (List.mem_cons_of_mem _ h)).2;omega
   .omega
  have nb:bb∉q::blks v4:=fun hm=>by
   have h1:=hmb.lt;have h2:=(hv4 bb hm).2;rcases h2 with h|h|h
   .omega
   .have:=(hv30 bb (List.mem_cons_of_mem _ h)).2;omega
   .omega
  refine d_z2 0 1 hS ?_;refine d_z 2 hS ?_;refine d_tx 3 hS ?_ (hrun:=by(intro u hu;exact(r_load rfl (Blk.cell (hb5.tr hu np) rfl))));refine d_tx 4 hS ?_ (hrun:=by(intro u hu;exact(r_loadC rfl (Cells.ofBlk (h9.tr hu n9)) Yik)));refine d_tx 5 hS ?_ (hrun:=by(intro u hu;refine(r_cnt (P:=prog) (t:=122) (a:=s.ks[i]) ?_ ?_ (hmb5.tr hu nb) hrb);exact rfl;exact rfl));refine d_one (i:=6) rfl Yhp ?_;have hV7:=hV5.next hd;have hbl:=brE_len _ hbB;refine s_cE (wsInt _ hV7 (i64_nat (by have:=hok.ocnt s.ks[i];omega)) Yim) ?_;rintro u5 hV8;refine wpList_nil (q_held hV8.fr ?_);refine Yev ?_;refine q_roundK (i+1) Yhl ⟨rfl,hlt,?_⟩ Yhn;have:=hgo4 _ _ hV8;rw[fmT_snoc _ hlt];simpa only[List.append_assoc]using this
 rw[List.take_of_length_le Yhn]at hV;have hb1:=hb.tr0 hFu;have hmp1:=hmp.tr0 hFu;clear hbt g62;refine rx ?_;refine s_lenM rfl hmp1 ?_;rw[hlp];refine rx ?_;refine s_cE (wsInt s.ps.length hV (i64_nat Yhn) Yim) ?_;rintro u2 hV;have hFu2:=hF3 _ _ hV;have hb2:=hb.tr0 hFu2;have hmp2:=hmp.tr0 hFu2;refine rx ?_;refine s_c1 (sortedPC mp pb u2 hmp2 Yhn) ?_;rintro vq2 w5 ⟨hPq,hf5⟩;rw[keys_set totP hok.pasc (fun a=>hrp.keys)]at hPq;obtain⟨aop,cp,rfl⟩:=hPq.1.slice;obtain⟨v5,hv5,hU,hgoU⟩:=(hgo _ _ hV).from hf5;have hFw5:=hFu2.trans0 hf5;have hsw5:=hFw5.size;have hv50:∀x∈q::blks v5,x<u2.heap.size/\w.heap.size<=x:=fun x hx=>by
  have h1:=hv5 x hx;have:=hs1;refine⟨h1.1,?_⟩;rcases h1.2 with h|h|h
  .omega
  .simp [blks,Value.ownBlock]at h
  .omega
 have hQ5:∀x∈blks (Value.slice aop s.ps.length cp),x∉q::blks v5:=fun x hx hm=>by
  have h1:=hPq.2 x hx;have h2:=(hv50 x hm).1;omega
 have hF5:∀bs u,WStep q w5 v5 bs u->Fr [] w u:=fun bs u h=>hFw5.trans h.fr (fun x hx=>.inr (hv50 x hx).2)
 clear hV;obtain⟨B3,hB3⟩:=exq (B2++s.ks.flatMap (fun b=>brE b++iv (s.cnt b))++iv s.ps.length);rw[<-hB3]at hU;have hBL3:B3.length+(s.ps.flatMap (fun p=>brE p.1++brE p.2)).length<=1000000000:=by rw[hB3,hB2,hB];simp only[List.length_append];omega
 refine rx ?_;refine c_loopK 88 [11] (σ:=Nat) (fun i g u=>g 88=iV (i:Nat)/\i<=s.ps.length/\WStep q w5 v5 (B3++(s.ps.take i).flatMap (fun p=>brE p.1++brE p.2)) u) (fun i=>s.ps.length-i) 0 ⟨rfl,Nat.zero_le _,by simpa using hU⟩ ?_;clear hU;rintro k g u ⟨g88,hi,hU⟩;rw[eq_upd g88];have hbt:=fmT_le (fun(p:Pr)=>brE p.1++brE p.2) s.ps k;have hFu:=hF5 _ _ hU;by_cases hlt:k<s.ps.length
 case pos=>
  obtain⟨adq,hadq,hcq⟩:=src_rows prV_l6 (hPq.1.tr hU.fr hQ5).src hlt Yhy;subst hadq;have hcq:Cells u (adq.add (k*6)) [.string s.ps[k].1.decl,iV s.ps[k].1.at_,iV s.ps[k].1.arm,.string s.ps[k].2.decl,iV s.ps[k].2.at_,iV s.ps[k].2.arm]:=hcq;refine rx ?_;refine s_allocN (l:=[zT,zI,zI,zT,zI,zI]) rfl (fun u1 b9 hb9 h9 hf5 hs5=>?_);refine rx ?_;refine s_storeAggB (cs:=prV s.ps[k]) rfl rfl h9 (prV_one1 _) rfl rfl (fun u2 h9 hf6 hs6=>?_);replace h9:Blk u2 b9 [.string s.ps[k].1.decl,iV s.ps[k].1.at_,iV s.ps[k].1.arm,.string s.ps[k].2.decl,iV s.ps[k].2.at_,iV s.ps[k].2.arm] _:=h9;have hF2:Fr [] u u2:=hf5.trans hf6 (fun x hx=>.inr Yhq);obtain⟨v4,hv4,hV4,hgo4⟩:=hU.from hF2;have hpk:=hok.pks _ (List.getElem_mem hlt);have hbA:=hbr _ hpk.1;have hbB:=hbr _ hpk.2;have hbl:=brE_len _ hbA;have n9:b9∉q::blks v4:=fun hm=>by have:=(hv4 _ hm).1;omega
  refine rx ?_;refine s_addrB (j:=0) rfl rfl Yhy ?_;refine rx ?_;refine s_cE (wsBr s.ps[k].1 hbA hV4 Yim) ?_;rintro u3 hV5;have h9:=h9.tr hV5.fr n9;refine rx ?_;refine s_addrB (j:=1) rfl rfl Yhy ?_;refine rx ?_;refine s_cE (wsBr s.ps[k].2 hbB hV5 Yim) ?_;rintro u4 hV6;refine rx ?_;refine q_roundK (k+1) Yhl ⟨rfl,hlt,?_⟩ Yhn;have:=hgo4 _ _ hV6;rw[fmT_snoc _ hlt];simpa only[List.append_assoc]using this
 rw[List.take_of_length_le Yhn]at hU;clear hbt g88;refine rx ?_;obtain⟨v6,hI,_,hk6⟩:=hgoU _ _ hU;refine s_c1 (wDone q v6 _ u hI (by rw[List.length_append];omega)) ?_;rintro v u2 ⟨ho2,hf2,hk2,_⟩;refine Yeo ?_;refine⟨v,rfl,?_,hFu.trans0 hf2,fun x hx=>?_⟩
 .rw [show encC P.prop s=B3++s.ps.flatMap (fun p=>brE p.1++brE p.2) by rw[hB3,hB2,hB];rfl];simpa using ho2
 .have:=hk2 x hx;have:=hFu.size;omega
end Go.Proofs.YtggmccicdhnkgaaGreat
namespace Go.Rf
open Go.RowKit
variable{α β:Type}
theorem left_step{left left':List (α×β)}{a:α}{v:β}{q:α×β->Prop}(hl:left.Perm ((a,v)::left'))(h:∀x∈left,q x):q (a,v)/\∀x∈left',q x:=⟨h _ (hl.mem_iff.2 Yhs),fun x hx=>h _ (hl.mem_iff.2 Yix)⟩
theorem left_nd{xs:List α}{left left':List (α×β)}{m:List (α×β)}{a:α}{v:β}(hn:(m.map Prod.fst).Nodup)(hp:(xs++left.map Prod.fst).Perm (m.map Prod.fst))(hl:left.Perm ((a,v)::left')):a∉xs:=by
 have h1:(xs++left.map Prod.fst).Nodup:=hp.nodup_iff.2 hn;rw[List.nodup_append]at h1;intro hx;exact h1.2.2 a hx a (List.mem_map.2 ⟨(a,v),hl.mem_iff.2 Yhs,rfl⟩) rfl
theorem RelB.mem{m:List (Br×Int)}{cnt:Br->Nat}(hn:(m.map Prod.fst).Nodup)(h:RelB m cnt):∀x∈m,x.2=(cnt x.1:Int)/\cnt x.1≠0:=fun x hx=>by
 have h1:=(getM_mem hn).2 (show(x.1,x.2)∈m from hx);rw[h x.1]at h1;by_cases h0:cnt x.1=0
 .rw [if_pos h0]at h1;cases h1
 .rw [if_neg h0]at h1;exact⟨(Option.some.inj h1).symm,h0⟩
end Go.Rf
namespace Go.Proofs.YtggmccicdhnkgaaGreat
open Go.Proofs.Tryz
open Go.Rf Go.RowKit
attribute [local irreducible] Code.wp wpList Exit.then Exit.inBlock bodyPost A Calls execOp Addr.add
set_option maxHeartbeats 16000000 in
theorem copyC{p:Nat}{M R:List Nat}{P:Pp}{s:St}(w:World)(hC:CovM w p M R P s)(hn:s.cls.length<=1000000):
 Calls prog 31 #[.pointer (some ⟨p,0,none⟩)] w fun e w'=>∃q M',e=.returned (.pointer (some ⟨q,0,none⟩))/\CovM w' q M' R P s/\(∀x∈M',w.heap.size<=x)/\Fr [] w w':=by
 obtain⟨bb,pb,vr,vc,mb,mp,rfl,rfl,hnd,hb,hr,hc,hmb,hrb,hmp,hrp,hok⟩:=hC;have hr1:=hr.one;have hc1:=hc.one;have hrlt:=hr.lt;have hcsrc:=hc.src;refine enter func31 rfl ntmps31 rfl ?_;refine rx ?_;refine s_allocN (l:=[zT,zI,zS,zI,zI,zI,zI,zS,.map none,.map none]) rfl (fun w1 q hqe hq hf1 hs1=>?_);refine rx ?_;refine s_storeAggB (cs:=([.string P.prop,iV (P.checks:Nat),vr,iV (s.runs:Nat),iV (s.o 0:Nat),iV (s.o 1:Nat),iV (s.o 2:Nat),vc,.map (some bb),.map (some pb)])) rfl rfl hq (by intro c hc;simp only[List.mem_cons,List.not_mem_nil,or_false]at hc;rcases hc with rfl|rfl|rfl|rfl|rfl|rfl|rfl|rfl|rfl|rfl<;>first|rfl|assumption) rfl rfl (fun w2 hq2 hf2 hs2=>?_);have hF2:Fr [] w w2:=hf1.trans hf2 (fun x hx=>.inr Yhq);have hb2:=hb.tr0 hF2;refine rx ?_;refine s_build0 (fun w3 ho hf3 hs3=>?_);have hb3:=hb2.tr0 hf3;refine rx ?_;refine s_append ho rfl ((hcsrc.tr0 hF2).tr0 hf3) rfl Ykf (natsV_one _) Yhv Yhn (fun vc2 w4 hc4 hf4 hk4 _=>?_);have hs4:=hf4.size;have hk4':∀x∈blks vc2,w2.heap.size<=x:=fun x hx=>(hk4 x hx).elim (fun h=>by simp[blks,Value.ownBlock]at h;omega) Yid
 have hF24:Fr [] w2 w4:=hf3.trans hf4 (fun x hx=>.inr (by simp[blks,Value.ownBlock]at hx;omega));have hq4:=hq2.tr0 hF24;rw[List.nil_append,Nat.zero_add]at hc4;have hc41:=hc4.one;have hs24:=hF24.size;have hc4lt:=hc4.lt;refine rx ?_
 ((with_reducible apply s_storeB);exact rfl;(conv=>lhs;whnf);exact hc41;exact hq4;exact rfl)
 intro w5 hq5 hf5 hs5;replace hq5:Blk w5 q [.string P.prop,iV (P.checks:Nat),vr,iV (s.runs:Nat),iV (s.o 0:Nat),iV (s.o 1:Nat),iV (s.o 2:Nat),vc2,.map (some bb),.map (some pb)] _:=hq5;have hc5:=hc4.tr hf5 Yja;have hF5:Fr [] w w5:=(hF2.trans0 hF24).trans hf5 (fun x hx=>.inr Yhq);refine rx ?_;refine s_makeMap (key:=brK) (val:=Value.int .i64) (fun w6 hm6 hf6 hs6=>?_);obtain⟨nb,hnb⟩:=exq w5.heap.size;rw[<-hnb]at hm6 ⊢;refine rx ?_
 ((with_reducible apply s_storeB);exact rfl;(conv=>lhs;whnf);exact rfl;exact(hq5.tr0 hf6);exact rfl)
 intro w7 hq7 hf7 hs7;replace hq7:Blk w7 q [.string P.prop,iV (P.checks:Nat),vr,iV (s.runs:Nat),iV (s.o 0:Nat),iV (s.o 1:Nat),iV (s.o 2:Nat),vc2,.map (some nb),.map (some pb)] _:=hq7;have hF57:Fr [q] w5 w7:=(hf6.mono Yhs).trans hf7 (fun x hx=>.inl hx);have hm7:=hm6.tr hf7 Yht;have hc7:=hc5.tr hF57 Yja;have hF7:Fr [] w w7:=hF5.trans hF57 (fun x hx=>.inr Yhq);have hb7:=hb.tr0 hF7;have hmb7:=hmb.tr0 hF7;refine rx ?_;refine s_rangeM rfl hmb7 (fun w8 hIt hf8 hs8=>?_);obtain⟨rr,hrr⟩:=exq w7.heap.size;rw[<-hrr]at hIt ⊢;have hq8:=hq7.tr0 hf8;have hm8:=hm7.tr0 hf8;have hc8:=hc7.tr0 hf8;have hF8:=hF7.trans0 hf8;have hbblt:=hmb.lt;have hpblt:=hmp.lt;have hplt:=hb.lt;have hs8':=hF8.size;have hmem:=hrb.mem hmb.nd;clear hq hq2 hq4 hq5 hq7 hm6 hm7 hc4 hc5 hc7 hb2 hb3;refine rx ?_;refine c_loopK 24 [4,5] (σ:=List Br×List (Br×Int)×Option (Br×Int)×List (Br×Int)) (fun t g u=>MIt brK (Value.int .i64) u bb rr mb t.2.1 t.2.2.1/\Mp brK (Value.int .i64) u nb t.2.2.2/\RelB t.2.2.2 (fun b=>if b∈t.1 then s.cnt b else 0)/\(t.1++t.2.1.map Prod.fst).Perm (mb.map Prod.fst)/\(∀x∈t.2.1,x∈mb)/\Fr [rr,nb] w8 u) (fun t=>t.2.1.length) ([],mb,none,[]) ⟨hIt,hm8,RelB.nil.congr (fun b=>by simp),by simp,fun x hx=>hx,Fr.refl _ _⟩ ?_;clear hIt hm8;rintro⟨xs,left,cur,m2⟩ g u ⟨hIt,hm2,hr2,hp,hsub,hF⟩;simp only at hIt hm2 hr2 hp hsub;have hsu:=hF.size;have hrl:=hIt.lt;have hm2lt:=hm2.lt;have hqu:=hq8.tr hF Yht;refine rx ?_;refine s_nextM rfl hIt (fun h0=>?_) (fun a av left' u3 hl' hIt3 hf3 hs3=>?_)
 .have hk:=keys_done h0 hp;have hr3:RelB m2 s.cnt:=hr2.congr (fun b=>by
   by_cases h:b∈xs
   .rw [if_pos h]
   .rw [if_neg h];have h1:¬b∈mb.map Prod.fst:=fun h2=>h (hk.mem_iff.2 h2)
    have h3:s.cnt b=0:=Classical.byContradiction (fun h2=>h1 (hrb.keys.2 h2));omega)
  have hcu:=hc8.tr hF (fun x hx hm=>by have:=hc4lt x hx;simp at hm;omega);have hFu:Fr [] w u:=hF8.trans hF (fun x hx=>.inr (by simp at hx;omega));clear hIt hr2 hp hsub hq8 hc8;refine rx ?_;refine s_makeMap (key:=prK) (val:=Value.bool) (fun v1 hn1 hg1 ht1=>?_);obtain⟨np,hnp⟩:=exq u.heap.size;rw[<-hnp]at hn1 ⊢;refine rx ?_
  ((with_reducible apply s_storeB);exact rfl;(conv=>lhs;whnf);exact rfl;exact(hqu.tr0 hg1);exact rfl)
  intro v2 hq9 hg2 ht2;replace hq9:Blk v2 q [.string P.prop,iV (P.checks:Nat),vr,iV (s.runs:Nat),iV (s.o 0:Nat),iV (s.o 1:Nat),iV (s.o 2:Nat),vc2,.map (some nb),.map (some np)] _:=hq9;have hn2:=hn1.tr hg2 Yht;have hG2:Fr [q] u v2:=(hg1.mono Yhs).trans hg2 (fun x hx=>.inl hx);have hc9:=hcu.tr hG2 Yja;have hm9:=hm2.tr hG2 Yht;have hF9:Fr [] w v2:=hFu.trans hG2 (fun x hx=>.inr Yhq);have hb9:=hb.tr0 hF9;have hmp9:=hmp.tr0 hF9;have hsv2:=hG2.size;refine rx ?_;refine s_rangeM rfl hmp9 (fun v3 hIt hg3 ht3=>?_);obtain⟨rs,hrs⟩:=exq v2.heap.size;rw[<-hrs]at hIt ⊢;have hq10:=hq9.tr0 hg3;have hn3:=hn2.tr0 hg3;have hc10:=hc9.tr0 hg3;have hm10:=hm9.tr0 hg3;have hF10:=hF9.trans0 hg3;clear hq9 hn2 hn1 hc9 hm9 hb9;refine rx ?_;refine c_loopK 40 [6] (σ:=List Pr×List (Pr×Bool)×Option (Pr×Bool)×List (Pr×Bool)) (fun t g u=>MIt prK Value.bool u pb rs mp t.2.1 t.2.2.1/\Mp prK Value.bool u np t.2.2.2/\RelP t.2.2.2 (· ∈t.1)/\(t.1++t.2.1.map Prod.fst).Perm (mp.map Prod.fst)/\Fr [rs,np] v3 u) (fun t=>t.2.1.length) ([],mp,none,[]) ⟨hIt,hn3,RelP.nil.congr (fun b=>by simp),by simp,Fr.refl _ _⟩ ?_;clear hIt hn3;rintro⟨ys,left,cur,m3⟩ g u ⟨hIt,hm3,hr4,hp,hF⟩;simp only at hIt hm3 hr4 hp;have hsu3:=hF.size;have hrl:=hIt.lt;have hm3lt:=hm3.lt;have hqu:=hq10.tr hF Yht;refine rx ?_;refine s_nextM rfl hIt (fun h0=>?_) (fun a av left' u3 hl' hIt3 hf3 hs3=>?_)
  .have hk:=keys_done h0 hp;refine Yeo ?_;have hcu:=hc10.tr hF (fun x hx hm=>by have:=hc4lt x hx;simp at hm;omega);have hmu:=hm10.tr hF Yht;refine⟨q,[q,nb,np]++blks vc2,rfl,⟨nb,np,vr,vc2,m2,m3,rfl,rfl,nd_of (own_le1 hcu) (own_le1 hr) Yhn Yhn Yhn (fun x hx=>?_) (fun x hx=>?_),hqu,(hr.tr0 hF10).tr hF (fun x hx hm=>by have:=hrlt x hx;simp at hm;omega),hcu,hmu,hr3,hm3,hr4.congr (fun b=>?_),hok⟩,fun x hx=>?_,hF10.trans hF (fun x hx=>.inr (by simp at hx;omega))⟩
   .have h1:=hk4' x hx;have h2:=hc4lt x hx;refine⟨by omega,by omega,by omega,fun hm=>?_⟩;have:=hrlt x hm;omega
   .have:=hrlt x hx;exact⟨by omega,by omega,by omega⟩
   .rw [hk.mem_iff];exact hrp.keys
   .simp only[List.mem_append,List.mem_cons,List.not_mem_nil,or_false]at hx;rcases hx with(rfl|rfl|rfl)|hx
    .omega
    .omega
    .omega
    .have:=hk4' x hx;omega
  .have hm4:=hm3.tr hf3 Yht;have hqv:=hqu.tr hf3 Yht;have hll:=hl'.length_eq;simp only[List.length_cons]at hll;have hF3:Fr [rs,np] v3 u3:=hF.trans hf3 (fun x hx=>.inl Yip);refine Yfn ?_;refine s_allocN (l:=[zT,zI,zI,zT,zI,zI]) rfl (fun u4 bv hbv hv4 hf4 hs4=>?_);refine rx ?_;refine s_storeAggB (cs:=prV a) rfl rfl hv4 (prV_one1 a) rfl rfl (fun u5 hv5 hf5 hs5=>?_);replace hv5:Blk u5 bv (prV a) _:=hv5;have hF35:Fr [] u3 u5:=hf4.trans hf5 (fun x hx=>.inr Yhq);have hqw:=hqv.tr0 hF35;have hs35:=hF35.size;refine rx ?_;refine s_mapUpd (key:=prK) (val:=Value.bool) (a:=a) (v:=true) (hm4.tr0 hF35) rfl rfl rfl (fun u6 hm6 hf6 hs6=>?_);refine rx ?_;refine q_roundK (ys++[a],left',some (a,av),_) Yhl ⟨(hIt3.tr0 hF35).tr hf6 Yht Yht,hm6,hr4.put.congr (fun b=>by simp[or_comm]),keys_step hl' hp,(hF3.trans0 hF35).trans hf6 (fun x hx=>.inl Yip)⟩ Yhw
 .have hm3:=hm2.tr hf3 Yht;have hqv:=hqu.tr hf3 Yht;have hll:=hl'.length_eq;simp only[List.length_cons]at hll;obtain⟨hq1,hq2⟩:=left_step hl' hsub;obtain⟨hav,hc0⟩:=hmem _ hq1;simp only at hav hc0;subst hav;have hF3:Fr [rr,nb] w8 u3:=hF.trans hf3 (fun x hx=>.inl Yip);refine Yfn ?_;refine s_allocN (l:=[zT,zI,zI]) rfl (fun u4 bv hbv hv4 hf4 hs4=>?_);refine rx ?_;refine s_storeAggB (cs:=brV a) rfl rfl hv4 (brV_one1 a) rfl rfl (fun u5 hv5 hf5 hs5=>?_);replace hv5:Blk u5 bv [.string a.decl,iV a.at_,iV a.arm] _:=hv5;have hF35:Fr [] u3 u5:=hf4.trans hf5 (fun x hx=>.inr Yhq);have hqw:=hqv.tr0 hF35;have hs35:=hF35.size;refine rx ?_;refine s_mapUpd (key:=brK) (val:=Value.int .i64) (a:=a) (v:=(s.cnt a:Int)) (hm3.tr0 hF35) rfl rfl rfl (fun u6 hm6 hf6 hs6=>?_);refine rx ?_;refine q_roundK (xs++[a],left',some (a,(s.cnt a:Int)),_) Yhl ⟨(hIt3.tr0 hF35).tr hf6 Yht Yht,hm6,(hr2.put (b:=a) hc0).congr (fun b=>?_),keys_step hl' hp,hq2,(hF3.trans0 hF35).trans hf6 (fun x hx=>.inl Yip)⟩ Yhw;by_cases e:b=a
  .subst e;simp
  .simp [e]
end Go.Proofs.YtggmccicdhnkgaaGreat
