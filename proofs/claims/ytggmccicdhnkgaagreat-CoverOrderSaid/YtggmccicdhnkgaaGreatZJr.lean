/-
 Report of package cover.
-/
import Derived.Test.YtggmccicdhnkgaaGreatZJg
import Derived.Test.YtggmccicdhnkgaaGreatZJf
import Derived.Test.YtggmccicdhnkgaaGreatZCw
import Derived.Test.YtggmccicdhnkgaaGreatZPw
set_option linter.all false
namespace Go.Rf
open Go.RowKit
def propsD(ds:List De):List ByteArray:=(ds.filter (fun d=>decide (d.kind=3))).map De.name
def propN(ds:List De)(k:Int):ByteArray:=(propsD ds).getD (arnd k (propsD ds).length).toNat .empty
theorem propsD_snoc{ds:List De}{i:Nat}(hi:i<ds.length):propsD (ds.take (i+1))=propsD (ds.take i)++(if ds[i].kind=3 then[ds[i].name] else[]):=by
 unfold propsD;rw[List.take_succ_eq_append_getElem hi,List.filter_append,List.map_append]
 congr 1
 by_cases h:ds[i].kind=3<;>simp[h]
theorem propsD_len(ds:List De):(propsD ds).length<=ds.length:=by
 unfold propsD;rw[List.length_map];exact List.length_filter_le _ _
end Go.Rf
namespace Go.Proofs.YtggmccicdhnkgaaGreat
open Go.Proofs.Tryz
open Go.Rf Go.RowKit
attribute [local irreducible] Code.wp wpList Exit.then Exit.inBlock bodyPost A Calls execOp Addr.add
set_option maxHeartbeats 8000000 in
theorem propsC(ds:List De)(v0:Value)(w:World)(S:List Nat)(hl:ds.length<=1000000)(hd:DR w S (.l (ds.map deC)) v0):
 Calls prog 48 #[.agg ([v0]:List Value).toArray] w fun e w'=>∃v,e=.returned v/\Own w' 9 1 v (propsD ds).length ((propsD ds).map .string)/\(∀x∈blks v,w.heap.size<=x)/\Fr [] w w':=by
 have hll:(ds.map deC).length=ds.length:=List.length_map ..;obtain⟨ao,c,hv0,_⟩:=hd.slice;rw[hll]at hv0;subst hv0;refine enter func48 rfl ntmps48 rfl ?_;refine rx ?_;refine s_boxN (l:=[.slice ao ds.length c]) rfl rfl (fun w1 b1 hb1e hb1 hf1 hs1=>?_);refine rx ?_;refine c_loopK 5 [3,4] (σ:=Nat×Value) (fun t g u=>g 3=t.2/\g 4=iV (t.1:Nat)/\t.1<=ds.length/\Own u 9 1 t.2 (propsD (ds.take t.1)).length ((propsD (ds.take t.1)).map .string)/\(∀x∈blks t.2,w1.heap.size<=x)/\Fr [] w1 u) (fun t=>ds.length-t.1) (0,_) ⟨rfl,rfl,Nat.zero_le _,Own.nil _ _ _,by simp[blks,Value.ownBlock],Fr.refl _ _⟩ ?_;rintro⟨i,va⟩ g u ⟨g3,g4,hi,hown,hge,hF⟩;simp only at g3 g4 hi hown hge;rw[eq_upd g3,eq_upd g4];have hb1:=hb1.tr0 hF;have hFw:=hf1.trans0 hF;by_cases hlt:i<ds.length
 case neg=>
  rw[List.take_of_length_le Yhn]at hown;refine Yeo ?_;exact⟨va,rfl,hown,fun x hx=>by have:=hge x hx;omega,hFw⟩
 obtain⟨ad,cs,had,hr,hc⟩:=DR.at deC_len (hd.tr0 hFw) hlt;subst had;obtain⟨hk,hn⟩:=hr.kn;have hpl:=propsD_len (ds.take i);rw[List.length_take]at hpl;refine rx ?_;refine s_load rfl (hc 0 _ hk) ?_;by_cases h3:ds[i].kind=3
 .refine rx ?_;refine s_load rfl (hc 1 _ hn) ?_;refine rx ?_;refine s_build1 (v:=.string ds[i].name) rfl rfl (fun u2 ho2 hf2 hs2=>?_);refine rx ?_;refine s_append (hown.tr0 hf2) rfl ho2.src rfl rfl Yhu Yhv Yhn (fun v3 u3 ho3 hf3 hk3 _=>?_);have hsu:=hF.size;refine rx ?_;refine q_roundK (i+1,v3) Yhl ⟨rfl,rfl,hlt,?_,fun x hx=>?_,(hF.trans0 hf2).trans hf3 (fun x hx=>.inr (hge x hx))⟩ Yhw
  .simp only;rw[propsD_snoc hlt,if_pos h3,List.length_append,List.map_append];exact ho3
  .rcases hk3 x hx with h|h
   .exact hge x h
   .omega
 .refine rx ?_;refine q_roundK (i+1,va) Yhl ⟨rfl,rfl,hlt,?_,hge,hF⟩ Yhw;simp only;rw[propsD_snoc hlt,if_neg h3,List.append_nil];exact hown
set_option maxHeartbeats 8000000 in
theorem propC(ds:List De)(k:Int)(v0:Value)(w:World)(S:List Nat)(hk:InI64 k)(h0:0<(propsD ds).length)(hl:ds.length<=1000000)(hd:DR w S (.l (ds.map deC)) v0):
 Calls prog 12 #[.agg ([v0]:List Value).toArray,iV k] w fun e w'=>e=.returned (.string (propN ds k))/\Fr [] w w':=by
 have h1:=hd.one;refine enter func12 rfl ntmps12 rfl ?_;refine rx ?_;refine s_boxN (l:=[v0]) rfl rfl (fun w1 b1 hb1e hb1 hf1 hs1=>?_);refine rx ?_;refine s_c1 (propsC ds v0 w1 S hl (hd.tr0 hf1)) ?_;rintro v w2 ⟨hown,_,hf2⟩;have hpl:=propsD_len ds;obtain⟨ao,c,rfl⟩:=hown.slice;refine rx ?_;refine s_cE (around k (propsD ds).length w2 hk.1 hk.2 Yhn) ?_;rintro _ rfl;have hr:=arnd_range (a:=k) (m:=(propsD ds).length) Yhn;obtain⟨j,hj⟩:∃j:Nat,(j:Int)=arnd k (propsD ds).length:=⟨_,Int.toNat_of_nonneg hr.1⟩;have hjl:j<(propsD ds).length:=by omega
 obtain⟨ad,had,hcell⟩:=src_at hown.src (str_get hjl);have hpn:propN ds k=(propsD ds)[j]:=by unfold propN;rw[<-hj,Int.toNat_natCast,getD_at hjl]
 rw[hpn];refine rx ?_;refine s_index1 rfl rfl hj.symm hjl had ?_;refine s_load rfl hcell ?_;refine Yeo ?_;exact⟨rfl,hf1.trans0 hf2⟩
def NewR2(w:World)(ds:List De)(nm:ByteArray)(e:Ending)(w':World):Prop:=Fr [] w w'/\match fdD ds 3 nm with
 |none=>e=.returned (.tuple #[.pointer none,.int .i64 6])
 |some d=>∃p M R,e=.returned (.tuple #[.pointer (some ⟨p,0,none⟩),.int .i64 0])/\RcM w' p M R M ⟨nm,d.checks.length,d.classes.length,setL ltB (reachD ds nm)⟩ []/\∀x∈M++R,w.heap.size<=x
set_option maxHeartbeats 16000000 in
theorem refNewC(ds:List De)(nm:ByteArray)(v0:Value)(w:World)(S0:List Nat)(hsz:∀d∈ds,SzD d)(hl:ds.length<=50)(hd:DR w S0 (.l (ds.map deC)) v0):
 Calls prog 39 #[.agg ([v0]:List Value).toArray,.string nm] w (NewR2 w ds nm):=by
 have h01:=hd.one;refine enter func39 rfl ntmps39 rfl ?_;refine rx ?_;refine s_boxN (l:=[v0]) rfl rfl (fun w1 b2 hb2e hb2 hf1 hs1=>?_);have hd1:=hd.tr0 hf1;refine rx ?_;refine s_call (refDeclC ds 3 nm v0 w1 S0 hd1) rfl ?_;rintro en w2 hfd;obtain⟨cs,b,rfl,hlen,hone,hf2,hcase⟩:=fdX2 hfd;refine⟨_,rfl,?_⟩;have hb2:=hb2.tr0 hf2;have hF2:=hf1.trans0 hf2;refine rx ?_;refine s_allocN (l:=[zI,zT,zI,zS,zS,zI,zT,zS,zI,zT,zI,zS,zS,zS,zI,zI,zI,zT,zS,zS,zS,zI,zS,zS,zS,zS,zI,zT,zS,zI,zT,zI,zS,zS,zS,zI,zS,zS,zI,zT,zI,zS,zS,zS,zI]) rfl (fun w3 q hqe hq hf3 hs3=>?_);have hb2:=hb2.tr0 hf3;have hs2:=hF2.size;refine rx ?_;refine s_storeAggB (cs:=cs) rfl rfl hq hone rfl hlen (fun w4 hq4 hf4 hs4=>?_);have hb2:=hb2.tr hf4 (by have:=hb2e;have:=hf2.size;simp;omega);have hF4:Fr [] w w4:=(hF2.trans0 hf3).trans hf4 (fun x hx=>.inr Yhq);rcases hcase with⟨hn,rfl⟩|⟨d,hsd,rfl,hrd⟩
 .refine rx ?_;refine Yhd ?_;unfold NewR2;rw[hn];exact⟨hF4,rfl⟩
 obtain⟨⟨a23,c23,h23⟩,⟨a24,c24,h24⟩,hncl⟩:=RD.cks hrd;have hd4:=hd.tr0 hF4;have hs04:=hF4.size;obtain⟨rl,hrl⟩:=exq (setL ltB (reachD ds nm));refine rx ?_;refine d_begin (fun z=>Fr [] w4 z) Yhp rfl ?_;obtain⟨u0,hu0⟩:=exq w4.drew;rw[<-hu0];have hS0:Fr [] w4 u0:=hu0▸Fr.drew _ _;refine d_z2 0 1 hS0 ?_;refine d_tx 2 hS0 ?_ (hrun:=by(intro u hu;exact(r_load rfl (Blk.cell (hq4.tr0 hu) h23))));refine d_z2 3 4 hS0 ?_;refine d_tx 5 hS0 ?_ (hrun:=by(intro u hu;exact(r_load rfl (Blk.cell (hq4.tr0 hu) h24))));refine d_z2 6 7 hS0 ?_;refine d_z 8 hS0 ?_;refine Ygx ?_;refine s_c1 (refReachC ds nm v0 u0 S0 hsz hl (hd4.tr0 hS0)) ?_;rintro vr u1 ⟨hR,hf5⟩;have hRge:=hR.2;have hR:=hR.1;rw[<-hrl]at hR;obtain⟨aor,cr,rfl⟩:=hR.slice;have hRlt:=hR.lt;have hS1:=hS0.trans0 hf5;refine wpList_nil (q_held hS1 ?_);refine d_tx 10 hS1 ?_ (v:=.agg (([.string nm,iV (d.checks.length:Nat),iV (d.classes.length:Nat),.slice aor rl.length cr,zS])).toArray) (hrun:=by(intro u hu;exact r_build (([.string nm,iV (d.checks.length:Nat),iV (d.classes.length:Nat),.slice aor rl.length cr,zS])) Yik));refine d_one (i:=11) rfl Yhp ?_;refine s_boxN (l:=[.string nm,iV (d.checks.length:Nat),iV (d.classes.length:Nat),.slice aor rl.length cr,zS]) rfl rfl (fun u2 p hp hb6 hf6 hs6=>?_);have hS2:=hS1.trans0 hf6;refine wpList_nil (q_held hS2 ?_);refine d_one (i:=12) rfl Yhp ?_;refine rx ?_;refine q_held hS2 ?_;refine d_one (i:=13) rfl Yhp ?_;refine rx ?_;refine q_held hS2 ?_;refine Yev ?_;refine Yhd ?_;have hs5:=hS1.size;have hz0:=hS0.size;unfold NewR2;rw[hsd];refine⟨hF4.trans0 hS2,p,[p]++blks (zS),blks (.slice aor rl.length cr),rfl,⟨.slice aor rl.length cr,zS,[],rfl,rfl,?_,fun x hx=>hx,hb6,by simp only[<-hrl];exact hR.tr0 hf6,Own.nil _ _ _,.nil⟩,fun x hx=>?_⟩
 .rw [List.nodup_append];refine⟨by simp[blks,Value.ownBlock],own_le1 hR,fun x hx y hy e=>?_⟩;subst e;have:=hRlt x hy;simp[blks,Value.ownBlock]at hx;omega
 .rcases List.mem_append.1 hx with h|h
  .simp [blks,Value.ownBlock]at h;omega
  .have:=hRge x h;omega
theorem fd_prop{ds:List De}{k:Int}(h0:0<(propsD ds).length):∃d,fdD ds 3 (propN ds k)=some d/\d∈ds:=by
 have hr:=arnd_range (a:=k) (m:=(propsD ds).length) Yhn;obtain⟨j,hj⟩:∃j:Nat,(j:Int)=arnd k (propsD ds).length:=⟨_,Int.toNat_of_nonneg hr.1⟩;have hjl:j<(propsD ds).length:=by omega
 have hpn:propN ds k=(propsD ds)[j]:=by unfold propN;rw[<-hj,Int.toNat_natCast,getD_at hjl]
 have hm:propN ds k∈propsD ds:=by rw[hpn];exact List.getElem_mem hjl
 unfold propsD at hm;obtain⟨d,hd,hdn⟩:=List.mem_map.1 hm;obtain⟨hd1,hd2⟩:=List.mem_filter.1 hd;cases hf:fdD ds 3 (propN ds k)with
 |some x=>exact⟨x,rfl,(fdD_mem hf).1⟩
 |none=>
  unfold fdD at hf;have:=List.find?_eq_none.1 hf d hd1;simp only[decide_eq_true_eq]at this;exact absurd ⟨of_decide_eq_true hd2,hdn⟩ this
theorem MD.props{ds:List De}(h:MD ds):0<(propsD ds).length:=by
 unfold propsD;rw[List.length_map,<-List.countP_eq_length_filter];have:(ds.map De.kind).countP (fun k=>decide (k=3))=ds.countP (fun d=>decide (d.kind=3)):=by rw[List.countP_map];rfl
 rw[<-this,h.1]
 decide
def ppOf(ds:List De)(nm:ByteArray)(d:De):Pp:=⟨nm,d.checks.length,d.classes.length,setL ltB (reachD ds nm)⟩
def BegR(w:World)(ds:List De)(k:Int)(e:Ending)(w':World):Prop:=∃d p M R q N T,fdD ds 3 (propN ds k)=some d/\e=.returned (.tuple #[.pointer (some ⟨p,0,none⟩),.pointer (some ⟨q,0,none⟩),.bool true])/\
 CovM w' p M R (ppOf ds (propN ds k) d) (stOf d.classes.length [])/\RcM w' q N T N (ppOf ds (propN ds k) d) []/\(∀x∈M++R,w.heap.size<=x)/\(∀x∈N++T,w.heap.size<=x)/\(∀x∈N++T,x∉M++R)/\Fr [] w w'
set_option maxHeartbeats 8000000 in
theorem beginC(ds:List De)(k:Int)(v0:Value)(w:World)(S:List Nat)(hk:InI64 k)(hm:MD ds)(hd:DR w S (.l (ds.map deC)) v0):
 Calls prog 10 #[.agg ([v0]:List Value).toArray,iV k] w (BegR w ds k):=by
 have h1:=hd.one;have hlen:=hm.len;obtain⟨d,hfd,hdm⟩:=fd_prop (k:=k) hm.props;refine enter func10 rfl ntmps10 rfl ?_;refine rx ?_;refine s_boxN (l:=[v0]) rfl rfl (fun w1 b1 hb1e hb1 hf1 hs1=>?_);refine rx ?_;refine s_cE (propC ds k v0 w1 S hk hm.props Yhn (hd.tr0 hf1)) ?_;rintro w2 hf2;have hF2:=hf1.trans0 hf2;have hb1:=hb1.tr0 hf2;refine rx ?_;refine s_call (newC ds (propN ds k) v0 w2 S hm.sz Yhn (hd.tr0 hF2)) rfl ?_;rintro _ w3 ⟨hf3,hn⟩;rw[hfd]at hn;obtain⟨p,M,R,rfl,hC,hMR⟩:=hn;refine⟨_,rfl,?_⟩;have hF3:=hF2.trans0 hf3;have hb1:=hb1.tr0 hf3;refine rx ?_;refine s_call (refNewC ds (propN ds k) v0 w3 S hm.sz Yhn (hd.tr0 hF3)) rfl ?_;rintro _ w4 ⟨hf4,hn⟩;rw[hfd]at hn;obtain⟨q,N,T,rfl,hQ,hNT⟩:=hn;refine⟨_,rfl,?_⟩;have hs2:=hF2.size;have hs3:=hF3.size;refine Yfc ?_;exact⟨d,p,M,R,q,N,T,hfd,rfl,hC.tr0 hf4,hQ,fun x hx=>by have:=hMR x hx;omega,fun x hx=>by have:=hNT x hx;omega,fun x hx hm=>by have h1:=hNT x hx;have h2:=hC.lt x hm;omega,hF3.trans0 hf4⟩
end Go.Proofs.YtggmccicdhnkgaaGreat
namespace Go.Rf
open Go.RowKit
variable{af:Array Edge}{f:Env}{a r:Int}{k:IntKind}{d n t t2:Nat}{x y:Operand}{ps:String}{w:World}
theorem r_quoC{P:Program}{ty:TypeId}{gd:Option (Nat×Bool)}{b:Int}(hx:ev n f x=.int k a)(hy:ev n f y=.int k b)(h0:¬b=0)(hr:k.wrap (a.tdiv b)=r):
 (execOp (ev n f) ⟨some d,.binOp .quo t x y t2,ty,ps,af,gd⟩).run P w=.ok (.value (.int k r)) w:=by simp[execOp,eqGuard,binOp,Op.intDiv,hx,hy,h0,hr]
theorem r_remC{P:Program}{ty:TypeId}{gd:Option (Nat×Bool)}{b:Int}(hx:ev n f x=.int k a)(hy:ev n f y=.int k b)(h0:¬b=0)(hr:a.tmod b=r):
 (execOp (ev n f) ⟨some d,.binOp .rem t x y t2,ty,ps,af,gd⟩).run P w=.ok (.value (.int k r)) w:=by simp[execOp,eqGuard,binOp,Op.intDiv,hx,hy,h0,hr]
end Go.Rf
namespace Go.Proofs.YtggmccicdhnkgaaGreat
open Go.Proofs.Tryz
open Go.Rf Go.RowKit
variable{a at_:Int}{l:List Int}{m:Nat}{P:Pp}{w:World}
def sbr(P:Pp)(n:Int):Br:=if 0<P.reach.length/\0<n%17 then P.reach.getD (n/17%P.reach.length).toNat default else⟨bst [111,116,104,101,114],n/17%3,n/51%2⟩
def someB(P:Pp)(l:List Int)(at_:Int)(m:Nat):List Br:=(List.range m).map (fun(i:Nat)=>sbr P (pk l (at_+i+1) 1000))
def someCl(l:List Int)(at_:Int)(m:Nat):List Int:=((List.range m).filter (fun(i:Nat)=>decide (pk l (at_+i+7) 3=0))).map (fun(i:Nat)=>(i:Int))
def sKd(P:Pp)(k:Int):Int:=if 0<k/6%3/\0<P.checks then k/6%3 else 0
def sAt(P:Pp)(k:Int):Int:=if 0<k/6%3/\0<P.checks then k/18%P.checks else 0
def someR(P:Pp)(l:List Int)(at_:Int)(bad:Bool):Rn where
 kind:=if bad=true/\pk l at_ 1000000/100%5=1 then pk l at_ 1000000/500%6-1 else sKd P (pk l at_ 1000000)
 at_:=if bad=true/\pk l at_ 1000000/100%5=0 then sAt P (pk l at_ 1000000)+pk l at_ 1000000/500%5-2 else sAt P (pk l at_ 1000000)
 code:=if sKd P (pk l at_ 1000000)=2 then 13 else 0
 bs:=someB P l at_ (pk l at_ 1000000%6).toNat
 cl:=someCl l at_ P.ncls++(if bad=true/\pk l at_ 1000000/100%5=2 then[pk l at_ 1000000/500%4-1] else[])
theorem someB_succ:someB P l at_ (m+1)=someB P l at_ m++[sbr P (pk l (at_+m+1) 1000)]:=by
 unfold someB;rw[List.range_succ,List.map_append];rfl
theorem someB_len:(someB P l at_ m).length=m:=by simp[someB]
theorem someCl_succ:someCl l at_ (m+1)=someCl l at_ m++(if pk l (at_+m+7) 3=0 then[(m:Int)] else[]):=by
 unfold someCl;rw[List.range_succ,List.filter_append,List.map_append]
 congr 1
 by_cases h:pk l (at_+m+7) 3=0<;>simp[h]
theorem someCl_len:(someCl l at_ m).length<=m:=by
 unfold someCl;rw[List.length_map];have:=List.length_filter_le (fun(i:Nat)=>decide (pk l (at_+i+7) 3=0)) (List.range m);rw[List.length_range]at this;exact this
def ints(l:List Int):List Value:=l.map (Value.int .i64)
attribute [local irreducible] Code.wp wpList Exit.then Exit.inBlock bodyPost A Calls execOp Addr.add
def SmI(w:World)(b:Nat)(k a c:Int)(bs:List Br)(cl:List Int)(u:World):Prop:=∃vb vl,Blk u b [iV k,iV a,iV c,vb,vl] 41/\BO w 50 u bs vb/\Own u 3 1 vl cl.length (ints cl)/\(∀x∈blks vl,w.heap.size<=x/\x≠b/\x∉blks vb)/\b∉blks vb/\w.heap.size<=b/\Fr [] w u
theorem SmI.set{u u':World}{b:Nat}{k c k' a' c':Int}{bs:List Br}{cl:List Int}(h:SmI w b k a c bs cl u)(hf:Fr [b] u u')(hb:∀vb vl,Blk u b [iV k,iV a,iV c,vb,vl] 41->Blk u' b [iV k',iV a',iV c',vb,vl] 41):SmI w b k' a' c' bs cl u':=by
 obtain⟨vb,vl,h1,h2,h3,h4,h5,h6,h7⟩:=h;exact⟨vb,vl,hb _ _ h1,⟨h2.1.tr hf (fun x hx hm=>h5 Yia),h2.2⟩,h3.tr hf (fun x hx hm=>(h4 x hx).2.1 (List.mem_singleton.1 hm)),h4,h5,h6,h7.trans hf (fun x hx=>.inr (by rw[List.mem_singleton.1 hx];exact h6))⟩
set_option maxHeartbeats 32000000 in
theorem someC{q:Nat}{rs:List Rn}(x:Value)(l:List Int)(at_:Int)(bad:Bool)(w:World)(hQ:RcV w q P rs)(hx:Src w x l.length (l.map (.int .i64)))(hl:∀n∈l,InI64 n)(ha:0<=at_/\at_<=1000)(hp:P.checks<=1000000/\P.ncls<=1000000/\P.reach.length<=1000000):
 Calls prog 14 #[.pointer (some ⟨q,0,none⟩),x,iV at_,.bool bad] w fun e w'=>∃vb vl,e=.returned (.agg ([iV (someR P l at_ bad).kind,iV (someR P l at_ bad).at_,iV (someR P l at_ bad).code,vb,vl]:List Value).toArray)/\
  BO w 50 w' (someR P l at_ bad).bs vb/\Own w' 3 1 vl (someR P l at_ bad).cl.length (ints (someR P l at_ bad).cl)/\(∀x∈blks vl,w.heap.size<=x)/\Fr [] w w':=by
 obtain⟨vr,vs,hb,hr,_⟩:=hQ;have hpc:(P.checks:Int)<=1000000:=by omega
 have hpn:(P.ncls:Int)<=1000000:=by omega
 obtain⟨aor,cr,rfl,_⟩:=hr.slice;rw[List.length_map]at hr hb;obtain⟨aox,cx,rfl,_⟩:=id hx;obtain⟨k,hk⟩:=exq (pk l at_ 1000000);have hkr:=pk_range (l:=l) (i:=at_) (m:=1000000) Yhy;rw[<-hk]at hkr;refine enter func14 rfl ntmps14 rfl ?_;refine wp_seq ?_;refine c_region ?_;refine s_allocN (l:=[zI,zI,zI,zS,zS]) rfl (fun w1 b8 hb8 h8 hf1 hs1=>?_);refine wpList_nil ?_;refine q_then ?_
 (repeat refine wp_seq ?_)
 refine c_region ?_;refine rr ?_;refine s_cE (pick _ l at_ 1000000 w1 (hx.tr0 hf1) hl Yhy) ?_;rintro _ rfl;rw[<-hk];refine Yfa ?_
 (repeat refine wp_seq ?_)
 refine c_region ?_;refine rr ?_;refine s_build [zI,zI,zI,zS,zS] rfl ?_;refine rr ?_;refine s_allocN (l:=[zI,zI,zI,zS,zS]) rfl (fun w2 b10 hb10 h10 hf2 hs2=>?_);have h8w:=h8;have h8:=h8.tr0 hf2;refine rr ?_;refine s_storeAggB (cs:=[zI,zI,zI,zS,zS]) rfl rfl h10 Yhu rfl rfl (fun w3 h10 hf3 hs3=>?_);have h8:=h8.tr hf3 Yht;have hF3:Fr [] w1 w3:=hf2.trans hf3 (fun x hx=>.inr Yhq);have hI3:SmI w1 b10 0 0 0 [] [] w3:=⟨_,_,h10,BO.nil,Own.nil _ _ _,by simp[blks,Value.ownBlock],by simp[blks,Value.ownBlock],by omega,hF3⟩;clear h10;refine wpList_nil ?_;refine q_then ?_
 (repeat refine wp_seq ?_)
 refine c_region ?_;refine Yfa ?_
 (repeat refine wp_seq ?_)
 refine c_cutK 11 [] (fun g u=>SmI w1 b10 0 0 0 (someB P l at_ (k%6).toNat) [] u) ?_ ?_
 .refine rx ?_;refine c_loopK 12 [11] (σ:=Nat) (fun i g u=>g 11=iV (i:Nat)/\(i:Int)<=k%6/\SmI w1 b10 0 0 0 (someB P l at_ i) [] u) (fun i=>6-i) 0 ⟨rfl,by omega,hI3⟩ ?_;rintro i g u ⟨g11,hi,hI⟩;rw[eq_upd g11];by_cases hlt:(i:Int)<k%6
  case neg=>
   have he:i=(k%6).toNat:=by omega
   refine rx ?_;exact q_cutK Yhl (by rw[<-he];exact hI)
  obtain⟨vb,vl,h10,hB,hC,hCd,hbn,hwb,hF⟩:=hI;obtain⟨n,hn⟩:=exq (pk l (at_+i+1) 1000);have hnr:=pk_range (l:=l) (i:=at_+i+1) (m:=1000) Yhy;rw[<-hn]at hnr;have hFu:=hf1.trans0 hF;have hqu:=hb.tr0 hFu;have hsu:=hF.size;refine rx ?_;refine s_cE (pick _ l (at_+i+1) 1000 u (hx.tr0 hFu) hl Yhy) ?_;rintro _ rfl;rw[<-hn];have hBlt:=hB.1.lt;have hB1:=hB.1.one;have hq:=hb.lt;have hb10lt:=h10.lt;have hbl:=someB_len (P:=P) (l:=l) (at_:=at_) (m:=i);have fin:∀{br:Br} {v':Value} {u' u2:World},br=sbr P n->BO w1 50 u' (someB P l at_ i++[br]) v'->(∀x∈blks v',x∈blks vb\/u.heap.size<=x)->Fr (blks vb) u u'->Blk u2 b10 [zI,zI,zI,v',vl] 41->Fr [b10] u' u2->SmI w1 b10 0 0 0 (someB P l at_ (i+1)) [] u2:=fun{br v' u' u2} hbr hB' hk' hf1 hb2 hf2=>by
   have hn':b10∉blks v':=fun hm=>(hk' _ hm).elim hbn Yid
   refine⟨v',vl,hb2,?_,?_,fun x hx=>⟨(hCd x hx).1,(hCd x hx).2.1,fun hm=>?_⟩,hn',hwb,?_⟩
   .rw [someB_succ,<-hn,<-hbr];exact⟨hB'.1.tr hf2 (fun x hx hm=>hn' Yia),hB'.2⟩
   .exact (hC.tr hf1 (fun x hx hm=>(hCd x hx).2.2 hm)).tr hf2 (fun x hx hm=>(hCd x hx).2.1 (List.mem_singleton.1 hm))
   .rcases hk' x hm with h|h
    .exact (hCd x hx).2.2 h
    .have:=hC.lt x hx;omega
   .exact (hF.trans hf1 (fun x hx=>.inr (hB.2 x hx))).trans hf2 (fun x hx=>.inr Yir)
  obtain⟨aob,cb,rfl⟩:=hB.1.slice;rw[hbl]at h10 hB1 hBlt hbn hCd fin hB;by_cases c1:0<P.reach.length/\0<n%17
  .obtain ⟨j,hj⟩:∃j:Nat,(j:Int)=n/17%P.reach.length:=⟨_,Int.toNat_of_nonneg (Int.emod_nonneg _ Yhn)⟩;have hjl:j<P.reach.length:=by
    have:=Int.emod_lt_of_pos (n/17) (show(0:Int)<P.reach.length by omega);omega
   have hbr:P.reach[j]=sbr P n:=by
    unfold sbr;rw[if_pos c1,<-hj,Int.toNat_natCast,getD_at hjl]
   obtain⟨c11,c12⟩:=c1;obtain⟨adr,hadr,hcr⟩:=src_rows brV_l3 (DR.brs (hr.tr0 hFu)) hjl Yhy;obtain⟨adr0,hadr0,hcr0⟩:=src_rows brV_l3 (DR.brs hr) hjl Yhy;subst hadr;cases hadr0
   have hcr:Cells u (adr.add (j*3)) [.string P.reach[j].decl,iV P.reach[j].at_,iV P.reach[j].arm]:=hcr;have hcrlt:=cell_lt (cellH hcr0);refine rx ?_;refine u_begin 18 (fun z=>Fr (blks (Value.slice aob i cb)) u z) Yhp rfl ?_;obtain⟨u3,hu3⟩:=exq u.drew;rw[<-hu3];have hd3:Fr [] u u3:=hu3▸Fr.drew _ _;have hS:Fr (blks (Value.slice aob i cb)) u u3:=hd3.mono Yhs;have nq:q∉blks (Value.slice aob i cb):=fun hm=>by have:=hB.2 q hm;omega
   have nr:(adr.add (j*3)).block∉blks (Value.slice aob i cb):=fun hm=>by have:=hB.2 _ hm;omega
   ((refine u_tx 0 hS ?_))
   refine u_tx 1 hS ?_ (hrun:=(by intro u hu;exact(r_load rfl (Blk.cell (h10.tr hu hbn) rfl))))
   ((refine u_tx 2 hS ?_);(refine u_tx 3 hS ?_);(refine u_tx 4 hS ?_))
   refine u_tx 5 hS ?_ (hrun:=(by intro u hu;exact(r_load rfl (Blk.cell (hqu.tr hu nq) rfl))))
   ((refine u_tx 6 hS ?_))
   refine u_tx 7 hS ?_ (hrun:=(by intro u hu;exact(r_quoC rfl rfl Yhy (IntWalk.i64_quo _ _ Yhn))))
   ((refine u_tx 8 hS ?_);(refine u_tx 9 hS ?_);(refine u_tx 10 hS ?_))
   refine u_tx 11 hS ?_ (hrun:=(by intro u hu;exact(r_load rfl (Blk.cell (hqu.tr hu nq) rfl))))
   ((refine u_tx 12 hS ?_))
   refine u_tx 13 hS ?_ (hrun:=(by intro u hu;exact(r_remC rfl rfl Yhn (Int.tmod_eq_emod_of_nonneg Yhn))));rw[<-hj]
   ((refine u_tx 14 hS ?_))
   refine u_tx 15 hS ?_ (hrun:=(by intro u hu;exact(r_loadC rfl (hcr.tr hu nr) Yik)));refine u_one (i:=16) rfl Yhp ?_;refine s_rows1 (c1:=brV P.reach[j]) rfl rfl rfl (fun u4 q4 hq4 ho4 hf4 hs4=>?_);have hS4:=hS.trans0 hf4;refine wpList_nil (q_uh hS4 ?_);refine u_one (i:=17) rfl Yhp ?_;refine s_append ((hB.1.tr0 hd3).tr0 hf4) rfl ho4.src rfl rfl (brV_one1 _) Yhv Yhn (fun v5 u5 ho5 hf7 hk7 _=>?_);have hS5:=hS4.trans hf7 (fun x hx=>.inl hx);have hv51:=ho5.one;have hs3:=hd3.size;refine wpList_nil (q_uh hS5 ?_);refine u_one (i:=18) rfl Yhp ?_;refine s_fieldAddr rfl ?_;rw[add_lit];refine Ygp ?_;refine u_one (i:=19) rfl Yhp ?_
   ((with_reducible apply s_storeB);exact rfl;(conv=>lhs;whnf);exact hv51;exact(h10.tr hS5 hbn);exact rfl)
   intro u6 hb6 hf8 hs8;replace hb6:Blk u6 b10 [zI,zI,zI,v5,vl] 41:=hb6;refine Yeu ?_;exact Ydw
  .have hbr:(⟨bst [111,116,104,101,114],n/17%3,n/51%2⟩:Br)=sbr P n:=by
    unfold sbr;rw[if_neg c1]
   have tl:∀{u':World},u'=u->True:=fun _=>trivial
   clear tl;by_cases c11:0<P.reach.length
   .have c12:¬0<n%17:=fun h=>c1 ⟨c11,h⟩
    refine rx ?_;exact Yq
   .refine rx ?_;exact Yq
 intro g u hI;obtain⟨m6,hm6⟩:=exq ((k%6).toNat);rw[<-hm6]at hI
 (repeat refine wp_seq ?_)
 refine c_region ?_;refine Yfa ?_
 (repeat refine wp_seq ?_)
 refine c_cutK 11 [] (fun g u=>SmI w1 b10 0 0 0 (someB P l at_ m6) (someCl l at_ P.ncls) u) ?_ ?_
 .refine rx ?_;refine c_loopK 14 [13] (σ:=Nat) (fun i g u=>g 13=iV (i:Nat)/\i<=P.ncls/\SmI w1 b10 0 0 0 (someB P l at_ m6) (someCl l at_ i) u) (fun i=>P.ncls-i) 0 ⟨rfl,Nat.zero_le _,hI⟩ ?_;clear hI;rintro i g u ⟨g13,hi,hI⟩;rw[eq_upd g13];have hI0:=hI;obtain⟨vb,vl,h10,hB,hC,hCd,hbn,hwb,hF⟩:=hI;have hFu:=hf1.trans0 hF;have hqu:=hb.tr0 hFu;by_cases hlt:i<P.ncls
  case neg=>
   have he:i=P.ncls:=by omega
   refine rx ?_;exact q_cutK Yhl (by rw[<-he];exact hI0)
  refine rx ?_;refine s_cE (pick _ l (at_+i+7) 3 u (hx.tr0 hFu) hl Yhy) ?_;rintro _ rfl;have hcl:=someCl_len (l:=l) (at_:=at_) (m:=i);have hC1:=hC.one;have hb10lt:=h10.lt;by_cases hz:pk l (at_+i+7) 3=0
  .refine rx ?_;refine s_build1 (v:=iV (i:Nat)) rfl rfl (fun u4 ho4 hf4 hs4=>?_);refine rx ?_;refine s_append (hC.tr0 hf4) rfl ho4.src rfl rfl Yhu Yhv Yhn (fun v5 u5 ho5 hf5 hk5 _=>?_);have hf45:Fr (blks vl) u u5:=(hf4.mono Yhs).trans hf5 (fun x hx=>.inl hx);have hv51:=ho5.one;have hk5':∀x∈blks v5,x∈blks vl\/u.heap.size<=x:=fun x hx=>(hk5 x hx).imp id Yid
   have h10':=h10.tr hf45 (fun hm=>(hCd b10 hm).2.1 rfl);have hBlt:=hB.1.lt;have hsu:=hF.size;refine rx ?_
   ((with_reducible apply s_storeB);exact rfl;(conv=>lhs;whnf);exact hv51;exact h10';exact rfl)
   intro u6 hb6 hf6 hs6;replace hb6:Blk u6 b10 [zI,zI,zI,vb,v5] 41:=hb6;refine rx ?_;refine q_roundK (i+1) Yhl ⟨rfl,hlt,vb,v5,hb6,⟨(hB.1.tr hf45 (fun x hx hm=>(hCd x hm).2.2 hx)).tr hf6 (fun x hx hm=>hbn Yia),hB.2⟩,?_,fun x hx=>⟨?_,?_,fun hm=>?_⟩,hbn,hwb,(hF.trans hf45 (fun x hx=>.inr (hCd x hx).1)).trans hf6 (fun x hx=>.inr Yir)⟩ Yhn
   .rw [someCl_succ,if_pos hz];have:=ho5.tr hf6 (fun x hx hm=>by
     rw[List.mem_singleton.1 hm]at hx;rcases hk5' b10 hx with h|h
     .exact (hCd b10 h).2.1 rfl
     .omega)
    exact Ydj
   .rcases hk5' x hx with h|h
    .exact (hCd x h).1
    .omega
   .rcases hk5' x hx with h|h
    .exact (hCd x h).2.1
    .omega
   .rcases hk5' x hx with h|h
    .exact (hCd x h).2.2 hm
    .have:=hBlt x hm;omega
  .refine rx ?_;refine q_roundK (i+1) Yhl ⟨rfl,hlt,?_⟩ Yhn;rw[someCl_succ,if_neg hz,List.append_nil];exact hI0
 clear hI;intro g u hI;refine wp_seq ?_;refine c_cutK 11 [] (fun g u=>SmI w1 b10 (sKd P k) (sAt P k) (if sKd P k=2 then 13 else 0) (someB P l at_ m6) (someCl l at_ P.ncls) u) ?_ ?_
 .have hI0:=hI;obtain⟨vb,vl,h10,hB,hC,hCd,hbn,hwb,hF⟩:=hI;have hqu:=hb.tr0 (hf1.trans0 hF);have hB1:=hB.1.one;have hC1:=hC.one;by_cases c1:0<k/6%3
  case neg=>
   have e1:sKd P k=0:=by unfold sKd;rw[if_neg (fun h=>c1 h.1)]
   have e2:sAt P k=0:=by unfold sAt;rw[if_neg (fun h=>c1 h.1)]
   rw[e1,e2];refine rx ?_;exact Yhi
  by_cases c2:0<P.checks
  case neg=>
   have e1:sKd P k=0:=by unfold sKd;rw[if_neg (fun h=>c2 h.2)]
   have e2:sAt P k=0:=by unfold sAt;rw[if_neg (fun h=>c2 h.2)]
   rw[e1,e2];refine rx ?_;exact Yhi
  have e1:sKd P k=k/6%3:=by unfold sKd;rw[if_pos ⟨c1,c2⟩]
  have e2:sAt P k=k/18%P.checks:=by unfold sAt;rw[if_pos ⟨c1,c2⟩]
  rw[e1,e2];obtain⟨kd,hkd⟩:=exq (k/6%3);refine rx ?_;rw[<-hkd]at c1 ⊢;obtain⟨ca,hca⟩:=exq (k/18%(P.checks:Int));rw[<-hca];refine s_build [iV kd,iV ca,zI] rfl ?_;refine rx ?_;refine s_storeSubB (cs:=[iV kd,iV ca,zI]) rfl rfl h10 Yhu (Nat.le_of_ble_eq_true rfl) rfl (fun u6 hb6 hf6 hs6=>?_);replace hb6:Blk u6 b10 [iV kd,iV ca,zI,vb,vl] 41:=hb6;have hI1:SmI w1 b10 kd ca 0 (someB P l at_ m6) (someCl l at_ P.ncls) u6:=⟨vb,vl,hb6,⟨hB.1.tr hf6 (fun x hx hm=>hbn Yia),hB.2⟩,hC.tr hf6 (fun x hx hm=>(hCd x hx).2.1 (List.mem_singleton.1 hm)),hCd,hbn,hwb,hF.trans hf6 (fun x hx=>.inr Yir)⟩;by_cases c3:kd=2
  .rw [if_pos c3];refine rx ?_
   ((with_reducible apply s_storeB);exact rfl;(conv=>lhs;whnf);exact rfl;exact hb6;exact rfl)
   intro u7 hb7 hf7 hs7;refine rx ?_;refine q_cutK Yhl ⟨vb,vl,hb7,⟨(hB.1.tr hf6 (fun x hx hm=>hbn Yia)).tr hf7 (fun x hx hm=>hbn Yia),hB.2⟩,(hC.tr hf6 (fun x hx hm=>(hCd x hx).2.1 (List.mem_singleton.1 hm))).tr hf7 (fun x hx hm=>(hCd x hx).2.1 (List.mem_singleton.1 hm)),hCd,hbn,hwb,(hF.trans hf6 (fun x hx=>.inr Yir)).trans hf7 (fun x hx=>.inr Yir)⟩
  .rw [if_neg c3];refine rx ?_;exact q_cutK Yhl hI1
 clear hI;intro g u hI;obtain⟨cd,hcd⟩:∃c:Int,c=if sKd P k=2 then 13 else 0:=⟨_,rfl⟩
 rw[<-hcd]at hI;have hat:0<=sAt P k/\sAt P k<=1000000:=by
  unfold sAt
  split
  .rename_i h;have h1:=Int.emod_nonneg (k/18) (show(P.checks:Int)≠0 by omega);have h2:=Int.emod_lt_of_pos (k/18) (show(0:Int)<P.checks by omega);omega
  .omega
 refine wp_seq ?_;refine c_cutK 11 [] (fun g u=>SmI w1 b10 (sKd P k) (if bad=true/\k/100%5=0 then sAt P k+k/500%5-2 else sAt P k) cd (someB P l at_ m6) (someCl l at_ P.ncls) u) ?_ ?_
 .cases hbad:bad with
  |false=>
   rw[if_neg (fun h=>by cases h.1)];refine rx ?_;exact Yhj
  |true=>
  by_cases c1:k/100%5=0
  case neg=>
   rw[if_neg (fun h=>c1 h.2)];refine rx ?_;exact Yhj
  exact Yv
 clear hI;intro g u hI;obtain⟨at2,hat2⟩:∃c:Int,c=if bad=true/\k/100%5=0 then sAt P k+k/500%5-2 else sAt P k:=⟨_,rfl⟩
 rw[<-hat2]at hI;refine wp_seq ?_;refine c_cutK 11 [] (fun g u=>SmI w1 b10 (if bad=true/\k/100%5=1 then k/500%6-1 else sKd P k) at2 cd (someB P l at_ m6) (someCl l at_ P.ncls) u) ?_ ?_
 .cases hbad:bad with
  |false=>
   rw[if_neg (fun h=>by cases h.1)];refine rx ?_;exact Yhj
  |true=>
  by_cases c1:k/100%5=1
  case neg=>
   rw[if_neg (fun h=>c1 h.2)];refine rx ?_;exact Yhj
  exact Yv
 clear hI;intro g u hI;obtain⟨kd2,hkd2⟩:∃c:Int,c=if bad=true/\k/100%5=1 then k/500%6-1 else sKd P k:=⟨_,rfl⟩
 rw[<-hkd2]at hI;refine wp_seq ?_;refine c_cutK 11 [] (fun g u=>SmI w1 b10 kd2 at2 cd (someB P l at_ m6) (someCl l at_ P.ncls++(if bad=true/\k/100%5=2 then[k/500%4-1] else[])) u) ?_ ?_
 .cases hbad:bad with
  |false=>
   rw[if_neg (fun h=>by cases h.1),List.append_nil];refine rx ?_;exact Yhj
  |true=>
  by_cases c1:k/100%5=2
  case neg=>
   rw[if_neg (fun h=>c1 h.2),List.append_nil];refine rx ?_;exact Yhj
  rw[if_pos ⟨rfl,c1⟩];obtain⟨vb,vl,h10,hB,hC,hCd,hbn,hwb,hF⟩:=hI;have hB1:=hB.1.one;have hC1:=hC.one;have hcl:=someCl_len (l:=l) (at_:=at_) (m:=P.ncls);have hBlt:=hB.1.lt;have hsu:=hF.size;have hb10lt:=h10.lt;refine rx ?_;refine s_build1 (v:=iV (k/500%4-1)) rfl rfl (fun u4 ho4 hf4 hs4=>?_);refine rx ?_;refine s_append (hC.tr0 hf4) rfl ho4.src rfl rfl Yhu Yhv Yhn (fun v5 u5 ho5 hf5 hk5 _=>?_);have hf45:Fr (blks vl) u u5:=(hf4.mono Yhs).trans hf5 (fun x hx=>.inl hx);have hv51:=ho5.one;have hk5':∀x∈blks v5,x∈blks vl\/u.heap.size<=x:=fun x hx=>(hk5 x hx).imp id Yid
  have h10':=h10.tr hf45 (fun hm=>(hCd b10 hm).2.1 rfl);refine rx ?_
  ((with_reducible apply s_storeB);exact rfl;(conv=>lhs;whnf);exact hv51;exact h10';exact rfl)
  intro u6 hb6 hf6 hs6;replace hb6:Blk u6 b10 [iV kd2,iV at2,iV cd,vb,v5] 41:=hb6;refine rx ?_;refine q_cutK Yhl ⟨vb,v5,hb6,⟨(hB.1.tr hf45 (fun x hx hm=>(hCd x hm).2.2 hx)).tr hf6 (fun x hx hm=>hbn Yia),hB.2⟩,?_,fun x hx=>⟨?_,?_,fun hm=>?_⟩,hbn,hwb,(hF.trans hf45 (fun x hx=>.inr (hCd x hx).1)).trans hf6 (fun x hx=>.inr Yir)⟩
  .have:=ho5.tr hf6 (fun x hx hm=>by
    rw[List.mem_singleton.1 hm]at hx;rcases hk5' b10 hx with h|h
    .exact (hCd b10 h).2.1 rfl
    .omega)
   exact Ydj
  .rcases hk5' x hx with h|h
   .exact (hCd x h).1
   .omega
  .rcases hk5' x hx with h|h
   .exact (hCd x h).2.1
   .omega
  .rcases hk5' x hx with h|h
   .exact (hCd x h).2.2 hm
   .have:=hBlt x hm;omega
 clear hI;intro g u hI;have hR:someR P l at_ bad=⟨kd2,at2,cd,someB P l at_ m6,someCl l at_ P.ncls++(if bad=true/\k/100%5=2 then[k/500%4-1] else[])⟩:=by
  unfold someR;rw[<-hk,hkd2,hat2,hcd,hm6]
 rw[hR];obtain⟨vb,vl,h10,hB,hC,hCd,hbn,hwb,hF⟩:=hI;have h8u:=h8w.tr0 hF;have hB1:=hB.1.one;have hC1:=hC.one;refine rx ?_;refine s_storeAggB (cs:=[iV kd2,iV at2,iV cd,vb,vl]) rfl rfl h8u Yis rfl rfl (fun u6 hb6 hf6 hs6=>?_);refine rx ?_;refine retB rfl rfl hb6 rfl ⟨vb,vl,rfl,⟨hB.1.tr hf6 (fun x hx hm=>?_),fun x hx=>?_⟩,hC.tr hf6 (fun x hx hm=>?_),fun x hx=>?_,(hf1.trans0 hF).trans hf6 (fun x hx=>.inr Yhq)⟩
 .have:=hB.2 x hx;rw[List.mem_singleton.1 hm]at this;omega
 .have:=hB.2 x hx;omega
 .have:=(hCd x hx).1;rw[List.mem_singleton.1 hm]at this;omega
 .have:=(hCd x hx).1;omega
end Go.Proofs.YtggmccicdhnkgaaGreat
namespace Go.Rf
open Go.RowKit
theorem r_sliceA{P:Program}{n:Nat}{f:Env}{w:World}{d:Nat}{ty:TypeId}{ps:String}{af:Array Edge}{gd:Option (Nat×Bool)}{x:Operand}{t k e size b o:Nat}[R:ArrT P t k e size](hx:ev n f x=.pointer (some ⟨b,o,none⟩)):
 (execOp (ev n f) ⟨some d,.slice t x none none none,ty,ps,af,gd⟩).run P w=.ok (.value (.slice (some ⟨b,o,none⟩) k k)) w:=by
 obtain⟨i,hi,hs⟩:=R.inf;have e0:(⟨b,o,none⟩:Addr).add 0=⟨b,o,none⟩:=add0 _;simp[execOp,hx,Instr.sliceAt,Instr.sureAddr,run_underlying R.u,Instr.sliceBounds,sizeOf,typeInfo,hi,e0]
def ctV(cnt:Br->Nat)(b:Br):List Value:=brV b++[iV (cnt b:Nat)]
theorem ctV_one(cnt:Br->Nat)(b:Br):∀v∈ctV cnt b,v.oneCell'=true:=by simp[ctV,brV,Value.oneCell']
theorem srcBlk{w:World}{b t o m:Nat}{l ys:List Value}(h:Blk w b l t)(hl:∀j u,ys[j]?=some u->l[o+j]?=some u):Src w (.slice (some ⟨b,o,none⟩) m m) m ys:=by
 refine⟨some ⟨b,o,none⟩,m,rfl,Nat.le_refl _,fun h=>Yiw,fun ad e j u hj=>?_⟩;cases e
 rw[add_lit];exact h.cell (hl j u hj)
end Go.Rf
namespace Go.Proofs.YtggmccicdhnkgaaGreat
open Go.Proofs.Tryz
open Go.Rf Go.RowKit
attribute [local irreducible] Code.wp wpList Exit.then Exit.inBlock bodyPost A Calls execOp Addr.add
def RepR(w0 w:World)(P:Pp)(s:St)(cs:List Value):Prop:=∃vk vc vo,cs=[iV (s.runs:Nat),vk,iV (s.ps.length:Nat),vc,vo]/\
 Own w 52 4 vk s.ks.length (s.ks.flatMap (ctV s.cnt))/\Own w 3 1 vc s.cls.length (natsV s.cls)/\Own w 3 1 vo 3 (natsV [s.o 0,s.o 1,s.o 2])/\(∀x,x∈blks vk\/x∈blks vc\/x∈blks vo->w0.heap.size<=x)
set_option maxHeartbeats 32000000 in
theorem repC{p:Nat}{M R:List Nat}{P:Pp}{s:St}(w:World)(hC:CovM w p M R P s)(hn:s.cls.length<=1000000)(hk:s.ks.length<=1000000):
 Calls prog 17 #[.pointer (some ⟨p,0,none⟩)] w fun e w'=>∃cs,e=.returned (.agg cs.toArray)/\cs.length=5/\RepR w w' P s cs/\Fr [] w w':=by
 obtain⟨bb,pb,vr,vc,mb,mp,rfl,rfl,hnd,hb,hr,hc,hmb,hrb,hmp,hrp,hok⟩:=hC;obtain⟨aoc,cc,rfl⟩:=hc.slice;have hlp:mp.length=s.ps.length:=keys_len totP hmp.nd hok.pasc (fun a=>hrp.keys);have hlb:mb.length=s.ks.length:=keys_len totB hmb.nd hok.kasc (fun a=>hrb.keys.trans (hok.cnt a));refine enter func17 rfl ntmps17 rfl ?_;refine rx ?_;refine s_allocN (l:=[zI,zS,zI,zS,zS]) rfl (fun w1 b2 hb2 h2 hf1 hs1=>?_);have hb1:=hb.tr0 hf1;have hmp1:=hmp.tr0 hf1;refine rx ?_;refine c_cutK 3 [3] (fun g u=>∃b3 vc vo,g 3=.pointer (some ⟨b3,0,none⟩)/\Blk u b3 [iV (s.runs:Nat),zS,iV (s.ps.length:Nat),vc,vo] 47/\Own u 3 1 vc s.cls.length (natsV s.cls)/\Own u 3 1 vo 3 (natsV [s.o 0,s.o 1,s.o 2])/\w1.heap.size<=b3/\(∀x∈blks vc++blks vo,w1.heap.size<=x/\x≠b3)/\Fr [] w1 u) ?_ ?_
 . (refine d_begin (fun z=>Fr [] w1 z) Yhp rfl ?_)
   obtain⟨u,hu⟩:=exq w1.drew;rw[<-hu];have hS:Fr [] w1 u:=hu▸Fr.drew _ _;have hz:=hS.size;refine Yfy ?_;refine d_tx 8 hS ?_ (hrun:=by(intro u hu;exact(r_lenM rfl (hmp1.tr0 hu))));refine d_z4 10 11 12 13 hS ?_;refine d_z2 16 17 hS ?_;refine d_z 18 hS ?_;refine d_tx 19 hS ?_ (hrun:=by(intro u hu;exact(r_sliceA rfl)));refine d_threeC (i:=9) (j:=15) (k:=22) rfl rfl rfl Yhp ?_ ?_ ?_
   .obtain ⟨bA,hbA⟩:=exq u.heap.size;refine s_build0 (fun u hA hf hsA=>?_);rw[<-hbA]at hA ⊢;have hAi:In (blks (Value.slice (some ⟨bA,0,none⟩) 0 0)) bA u.heap.size:=fun x hx=>by simp[blks,Value.ownBlock]at hx;omega
    have hz:=hf.size;have hS:=hS.trans0 hf;clear hf;refine Yfz ?_;refine d_threeC (i:=14) (j:=15) (k:=22) rfl rfl rfl Yhp ?_ ?_ ?_
    .obtain ⟨n14,hn14⟩:=exq u.heap.size;refine s_append hA rfl ((hc.src.tr0 hf1).tr0 hS) rfl Ykf (natsV_one _) Yhv Yhn (fun vc1 u hC hf hkC _=>?_);rw[List.nil_append,Nat.zero_add]at hC;have hS:Fr [] w1 u:=hS.trans hf (fun x hx=>.inr (by have:=hAi x hx;omega));have hCi:∀x∈blks vc1,w1.heap.size<=x/\x<u.heap.size/\(x<n14->x∈blks (Value.slice (some ⟨bA,0,none⟩) 0 0)):=fun x hx=>⟨(hkC x hx).elim Yki Yid,hC.lt x hx,fun h1=>(hkC x hx).elim id Yid⟩
     have hz:=hf.size;clear hf;refine Yfz ?_;refine d_two (i:=15) (j:=22) rfl rfl Yhp ?_ ?_
     .obtain ⟨bE,hbE⟩:=exq u.heap.size;refine s_build0 (fun u hE hf hsE=>?_);rw[<-hbE]at hE ⊢;have hEi:In (blks (Value.slice (some ⟨bE,0,none⟩) 0 0)) bE u.heap.size:=fun x hx=>by simp[blks,Value.ownBlock]at hx;omega
      have hC:=hC.tr0 hf;have hz:=hf.size;have hS:=hS.trans0 hf;exact Ydm
     .obtain ⟨bB,hbB⟩:=exq u.heap.size;refine s_alloc (l:=[zI,zS,zI,zS,zS]) rfl (fun u hB hf hsB=>?_);rw[<-hbB]at hB ⊢;have hC:=hC.tr0 hf;have hz:=hf.size;have hS:=hS.trans0 hf;exact Yek
    .obtain ⟨bE,hbE⟩:=exq u.heap.size;refine s_build0 (fun u hE hf hsE=>?_);rw[<-hbE]at hE ⊢;have hEi:In (blks (Value.slice (some ⟨bE,0,none⟩) 0 0)) bE u.heap.size:=fun x hx=>by simp[blks,Value.ownBlock]at hx;omega
     have hA:=hA.tr0 hf;exact Yec
    .obtain ⟨bB,hbB⟩:=exq u.heap.size;refine s_alloc (l:=[zI,zS,zI,zS,zS]) rfl (fun u hB hf hsB=>?_);rw[<-hbB]at hB ⊢;have hA:=hA.tr0 hf;exact Yej
   .obtain ⟨bE,hbE⟩:=exq u.heap.size;refine s_build0 (fun u hE hf hsE=>?_);rw[<-hbE]at hE ⊢;have hEi:In (blks (Value.slice (some ⟨bE,0,none⟩) 0 0)) bE u.heap.size:=fun x hx=>by simp[blks,Value.ownBlock]at hx;omega
    have hz:=hf.size;have hS:=hS.trans0 hf;clear hf;refine Yfz ?_;refine d_two (i:=9) (j:=22) rfl rfl Yhp ?_ ?_
    .obtain ⟨bA,hbA⟩:=exq u.heap.size;refine s_build0 (fun u hA hf hsA=>?_);rw[<-hbA]at hA ⊢;have hAi:In (blks (Value.slice (some ⟨bA,0,none⟩) 0 0)) bA u.heap.size:=fun x hx=>by simp[blks,Value.ownBlock]at hx;omega
     have hE:=hE.tr0 hf;exact Yec
    .obtain ⟨bB,hbB⟩:=exq u.heap.size;refine s_alloc (l:=[zI,zS,zI,zS,zS]) rfl (fun u hB hf hsB=>?_);rw[<-hbB]at hB ⊢;have hE:=hE.tr0 hf;exact Yel
   .obtain ⟨bB,hbB⟩:=exq u.heap.size;refine s_alloc (l:=[zI,zS,zI,zS,zS]) rfl (fun u hB hf hsB=>?_);rw[<-hbB]at hB ⊢;have hz:=hf.size;have hS:=hS.trans0 hf;clear hf;refine Yfz ?_;refine d_two (i:=9) (j:=15) rfl rfl Yhp ?_ ?_
    .obtain ⟨bA,hbA⟩:=exq u.heap.size;refine s_build0 (fun u hA hf hsA=>?_);rw[<-hbA]at hA ⊢;have hAi:In (blks (Value.slice (some ⟨bA,0,none⟩) 0 0)) bA u.heap.size:=fun x hx=>by simp[blks,Value.ownBlock]at hx;omega
     have hB:=hB.tr0 hf;exact Yej
    .obtain ⟨bE,hbE⟩:=exq u.heap.size;refine s_build0 (fun u hE hf hsE=>?_);rw[<-hbE]at hE ⊢;have hEi:In (blks (Value.slice (some ⟨bE,0,none⟩) 0 0)) bE u.heap.size:=fun x hx=>by simp[blks,Value.ownBlock]at hx;omega
     have hB:=hB.tr0 hf;exact Yel
 rintro g w2 ⟨b3,vc,vo,g3,hb3,hcl,hou,hb3w,hvw,hF2⟩;rw[eq_upd g3];clear g3;have hFw:=hf1.trans0 hF2;have h2:=h2.tr0 hF2;have hbu:=hb.tr0 hFw;have hmu:=hmb.tr0 hFw;have hsw:=hFw.size;have hs12:=hF2.size;refine rx ?_;refine s_c1 (sortedBC mb bb w2 hmu Yhn) ?_;rintro vq w3 ⟨hBq,hf3⟩;rw[keys_set totB hok.kasc (fun a=>hrb.keys.trans (hok.cnt a))]at hBq;obtain⟨aoq,cq,rfl⟩:=hBq.1.slice;have hqge:=hBq.2;have hqlt:=hBq.1.lt;have hb3lt2:=hb3.lt;have hb3:=hb3.tr0 hf3;have h2:=h2.tr0 hf3;have hcl:=hcl.tr0 hf3;have hou:=hou.tr0 hf3;have hFw3:=hFw.trans0 hf3;have hbu:=hbu.tr0 hf3;have hmu:=hmu.tr0 hf3;have hs23:=hf3.size;have hclt:=hcl.lt;have holt:=hou.lt;have hb3lt:=hb3.lt;have hc1:=hcl.one;have ho1:=hou.one;refine rx ?_;refine c_loopK 34 [5] (σ:=Nat×Value) (fun t g u=>g 34=iV (t.1:Nat)/\t.1<=s.ks.length/\Blk u b3 [iV (s.runs:Nat),t.2,iV (s.ps.length:Nat),vc,vo] 47/\Own u 52 4 t.2 t.1 ((s.ks.take t.1).flatMap (ctV s.cnt))/\(∀x∈blks t.2,x=b3\/w3.heap.size<=x)/\b3∉blks t.2/\∃T,Fr T w3 u/\∀x∈T,x=b3\/w3.heap.size<=x) (fun t=>s.ks.length-t.1) (0,zS) ⟨rfl,Nat.zero_le _,hb3,Own.nil _ _ _,by simp[blks,Value.ownBlock],by simp[blks,Value.ownBlock],[],Fr.refl _ _,by simp⟩ ?_;clear hb3;rintro⟨i,vk⟩ g u ⟨g34,hi,hb3,hok4,hkb,hk3,T,hFT,hT⟩;simp only at g34 hi hb3 hok4 hkb hk3;rw[eq_upd g34];have hsu:=hFT.size;have hk1:=hok4.one;have hklt:=hok4.lt;have hTn:∀x,x<w3.heap.size->x≠b3->x∉T:=fun x h1 h2 hm=>(hT x hm).elim h2 Yid
 have hFwu:Fr [] w u:=hFw3.trans hFT (fun x hx=>.inr (by rcases hT x hx with h|h<;>omega));have hclu:=hcl.tr hFT (fun x hx=>hTn x (hclt x hx) (hvw x (List.mem_append_left _ hx)).2);have houu:=hou.tr hFT (fun x hx=>hTn x (holt x hx) (hvw x (List.mem_append_right _ hx)).2);by_cases hlt:i<s.ks.length
 case neg=>
  have h2:=h2.tr hFT (hTn b2 Yhn Yhn);refine rx ?_;refine s_storeAggB (cs:=[iV (s.runs:Nat),vk,iV (s.ps.length:Nat),vc,vo]) rfl rfl h2 Yis rfl rfl (fun u1 h2' hf5 hs5=>?_);refine rx ?_;rw[List.take_of_length_le Yhn]at hok4;obtain rfl:i=s.ks.length:=by omega
  have hne2:∀x∈blks vk,x∉[b2]:=fun x hx hm=>by rw[List.mem_singleton.1 hm]at hx;rcases hkb b2 hx with h|h<;>omega
  have hne3:∀x∈blks vc++blks vo,x∉[b2]:=fun x hx hm=>by have:=(hvw x hx).1;rw[List.mem_singleton.1 hm]at this;omega
  refine retB rfl rfl h2' rfl ?_;refine⟨_,rfl,rfl,⟨vk,vc,vo,rfl,hok4.tr hf5 hne2,hclu.tr hf5 (fun x hx=>hne3 x (List.mem_append_left _ hx)),houu.tr hf5 (fun x hx=>hne3 x (List.mem_append_right _ hx)),fun x hx=>?_⟩,hFwu.trans hf5 (fun x hx=>.inr Yhq)⟩;rcases hx with hx|hx|hx
  .rcases hkb x hx with h|h<;>omega
  .have:=(hvw x (List.mem_append_left _ hx)).1;omega
  .have:=(hvw x (List.mem_append_right _ hx)).1;omega
 obtain⟨adq,hadq,hcq⟩:=src_rows brV_l3 (hBq.1.src.tr hFT (fun ad n c e _=>by
  cases e
  have h1:=hqge ad.block Yic;have h2:=hqlt ad.block Yic;exact hTn _ h2 Yhn)) hlt Yhy
 subst hadq;have hcq:Cells u (adq.add (i*3)) [.string s.ks[i].decl,iV s.ks[i].at_,iV s.ks[i].arm]:=hcq;have hbp:p<w.heap.size:=hb.lt;have hbbl:bb<w.heap.size:=hmb.lt;have hbu:=hbu.tr hFT (hTn p Yhn Yhn);have hmu:=hmu.tr hFT (hTn bb Yhn Yhn);refine rx ?_;refine s_allocN (l:=[zT,zI,zI]) rfl (fun u1 b5 hb5 h5 hf5 hs5=>?_);refine rx ?_;refine s_storeAggB (cs:=brV s.ks[i]) rfl rfl h5 (brV_one1 _) rfl rfl (fun u2 h5 hf6 hs6=>?_);replace h5:Blk u2 b5 [.string s.ks[i].decl,iV s.ks[i].at_,iV s.ks[i].arm] _:=h5;have hF2:Fr [] u u2:=hf5.trans hf6 (fun x hx=>.inr Yhq);have hb3:=hb3.tr0 hF2;have hok4:=hok4.tr0 hF2;have hbu:=hbu.tr0 hF2;have hmu:=hmu.tr0 hF2;have hsu2:=hF2.size;obtain⟨aok,ck,rfl⟩:=hok4.slice;refine rx ?_;refine u_begin 12 (fun z=>Fr (blks (Value.slice aok i ck)) u2 z) Yhp rfl ?_;obtain⟨u3,hu3⟩:=exq u2.drew;rw[<-hu3];have hd3:Fr [] u2 u3:=hu3▸Fr.drew _ _;have hS:Fr (blks (Value.slice aok i ck)) u2 u3:=hd3.mono Yhs;have n3:b3∉blks (Value.slice aok i ck):=hk3;have n5:b5∉blks (Value.slice aok i ck):=fun hm=>by have:=hklt b5 hm;omega
 have np:p∉blks (Value.slice aok i ck):=fun hm=>by rcases hkb p hm with h|h<;>omega
 have nbb:bb∉blks (Value.slice aok i ck):=fun hm=>by rcases hkb bb hm with h|h<;>omega
 ((refine u_tx 0 hS ?_))
 refine u_tx 1 hS ?_ (hrun:=(by intro u hu;exact(r_load rfl (Blk.cell (hb3.tr hu n3) rfl))));refine u_tx 2 hS ?_ (hrun:=(by intro u hu;exact(r_loadC rfl (Cells.ofBlk (h5.tr hu n5)) Yik)))
 ((refine u_tx 3 hS ?_);(refine u_tx 4 hS ?_);(refine u_tx 5 hS ?_))
 refine u_tx 6 hS ?_ (hrun:=(by intro u hu;exact(r_load rfl (Blk.cell (hbu.tr hu np) rfl))));refine u_tx 7 hS ?_ (hrun:=(by intro u hu;exact(r_loadC rfl (Cells.ofBlk (h5.tr hu n5)) Yik)));refine u_tx 8 hS ?_ (hrun:=(by intro u hu;refine(r_cnt (P:=prog) (t:=122) (a:=s.ks[i]) ?_ ?_ (hmu.tr hu nbb) hrb);exact rfl;exact rfl));refine u_tx (v:=.agg ((ctV s.cnt s.ks[i])).toArray) 9 hS ?_ (hrun:=(by(intro u hu;exact r_build ((ctV s.cnt s.ks[i])) Yik)));refine Ygo ?_;refine s_rows1 (c1:=ctV s.cnt s.ks[i]) rfl rfl rfl (fun u4 q4 hq4 ho4 hf4 hs4=>?_);have hS4:=hS.trans0 hf4;refine wpList_nil (q_uh hS4 ?_);refine Ygq ?_;refine s_append ((hok4.tr0 hd3).tr0 hf4) rfl ho4.src rfl rfl (ctV_one _ _) Yhv Yhn (fun v5 u5 ho5 hf7 hk7 _=>?_);have hS5:=hS4.trans hf7 (fun x hx=>.inl hx);have hv51:=ho5.one;have hs3:=hd3.size;have hs5:=hf7.size;refine wpList_nil (q_uh hS5 ?_);refine u_one (i:=12) rfl Yhp ?_;refine s_fieldAddr rfl ?_;rw[add_lit];refine Ygp ?_;refine u_one (i:=13) rfl Yhp ?_
 ((with_reducible apply s_storeB);exact rfl;(conv=>lhs;whnf);exact hv51;exact(hb3.tr hS5 n3);exact rfl)
 intro u6 hb6 hf8 hs8;replace hb6:Blk u6 b3 [iV (s.runs:Nat),v5,iV (s.ps.length:Nat),vc,vo] _:=hb6;refine Yet ?_;have hk7':∀x∈blks v5,(x=b3\/w3.heap.size<=x)/\x≠b3:=fun x hx=>by
  rcases hk7 x hx with h|h
  .exact ⟨hkb x h,fun e=>hk3 (e▸h)⟩
  .exact ⟨.inr Yhn,by omega⟩
 refine q_roundK (i+1,v5) Yhl ⟨rfl,hlt,hb6,?_,fun x hx=>(hk7' x hx).1,fun hm=>(hk7' b3 hm).2 rfl,T++blks (Value.slice aok i ck)++[b3],?_,?_⟩ Yhw
 .simp only;rw[fm_take hlt];exact ho5.tr hf8 (fun x hx hm=>(hk7' x hx).2 (List.mem_singleton.1 hm))
 .have h1:Fr (T++blks (Value.slice aok i ck)++[b3]) w3 u:=hFT.mono (fun x hx=>.inl Yix);have h2:=(h1.trans0 hF2).trans hS5 (fun x hx=>.inl Yix);exact h2.trans hf8 (fun x hx=>.inl (by simp[List.mem_singleton.1 hx]))
 .intro x hx;simp only[List.mem_append,List.mem_singleton]at hx;rcases hx with(hx|hx)|hx
  .exact hT x hx
  .exact hkb x hx
  .exact .inl hx
end Go.Proofs.YtggmccicdhnkgaaGreat
