/-
 Fits and Add of the reference's cover.
-/
import Derived.Test.YtggmccicdhnkgaaGreatZMs
import Derived.Test.YtggmccicdhnkgaaGreatZJc
import Derived.Test.YtggmccicdhnkgaaGreatZCw
import Derived.Test.YtggmccicdhnkgaaGreatZPw
set_option linter.all false
namespace Go.Rf
open Go.RowKit
def propsD(ds:List De):List ByteArray:=(ds.filter (fun d=>decide (d.kind=3))).map De.name
def Xm(ds:List De)(k:Int):ByteArray:=(propsD ds).getD (Jbq k (propsD ds).length).toNat .empty
theorem Md{ds:List De}{i:Nat}(hi:i<ds.length):propsD (ds.take (i+1))=propsD (ds.take i)++(if ds[i].kind=3 then[ds[i].name] else[]):=by
 unfold propsD;rw[List.take_succ_eq_append_getElem hi,List.filter_append,List.map_append]
 congr 1
 by_cases h:ds[i].kind=3<;>simp[h]
theorem NV(ds:List De):(propsD ds).length<=ds.length:=by
 unfold propsD;rw[List.length_map];exact List.length_filter_le _ _
end Go.Rf
namespace Go.Proofs.YtggmccicdhnkgaaGreat
open Go.Proofs.Tryz
open Go.Rf Go.RowKit
attribute [local irreducible] Code.wp wpList Exit.then Exit.inBlock bodyPost A Calls execOp Addr.add
set_option maxHeartbeats 8000000 in
theorem JiS(ds:List De)(v0:Value)(w:World)(S:List Nat)(hl:ds.length<=1000000)(hd:DR w S (.l (ds.map deC)) v0):
 Calls prog 48 #[.agg ([v0]:List Value).toArray] w fun e w'=>∃v,e=.returned v/\Own w' 9 1 v (propsD ds).length ((propsD ds).map .string)/\(∀x∈blks v,w.heap.size<=x)/\Fr [] w w':=by
 have hll:(ds.map deC).length=ds.length:=List.length_map ..;obtain⟨ao,c,hv0,_⟩:=hd.slice;rw[hll]at hv0;subst hv0;refine enter func48 rfl ntmps48 rfl ?_;refine rx ?_;refine Ju (l:=[.slice ao ds.length c]) rfl rfl (fun w1 b1 hb1e hb1 hf1 hs1=>?_);refine rx ?_;refine Jh 5 [3,4] (σ:=Nat×Value) (fun t g u=>g 3=t.2/\g 4=iV (t.1:Nat)/\t.1<=ds.length/\Own u 9 1 t.2 (propsD (ds.take t.1)).length ((propsD (ds.take t.1)).map .string)/\(∀x∈blks t.2,w1.heap.size<=x)/\Fr [] w1 u) (fun t=>ds.length-t.1) (0,_) ⟨rfl,rfl,Nat.zero_le _,Own.nil _ _ _,by simp[blks,Value.ownBlock],Fr.refl _ _⟩ ?_;rintro⟨i,va⟩ g u ⟨g3,g4,hi,hown,hge,hF⟩;simp only at g3 g4 hi hown hge;rw[Ja g3,Ja g4];have hb1:=hb1.tr0 hF;have hFw:=hf1.Jb hF;by_cases hlt:i<ds.length
 case neg=>
  rw[List.take_of_length_le Yhn]at hown;refine Yeo ?_;exact⟨va,rfl,hown,fun x hx=>by have:=hge x hx;omega,hFw⟩
 obtain⟨ad,cs,had,hr,hc⟩:=DR.at KL (hd.tr0 hFw) hlt;subst had;obtain⟨hk,hn⟩:=hr.kn;have hpl:=NV (ds.take i);rw[List.length_take]at hpl;refine rx ?_;refine KW rfl (hc 0 _ hk) ?_;by_cases h3:ds[i].kind=3
 .refine rx ?_;refine KW rfl (hc 1 _ hn) ?_;refine rx ?_;refine QO (v:=.string ds[i].name) rfl rfl (fun u2 ho2 hf2 hs2=>?_);refine rx ?_;refine JC (hown.tr0 hf2) rfl ho2.src rfl rfl Yhu Yhv Yhn (fun v3 u3 ho3 hf3 hk3 _=>?_);have hsu:=hF.size;refine rx ?_;refine Jc (i+1,v3) Yhl ⟨rfl,rfl,hlt,?_,fun x hx=>?_,(hF.Jb hf2).trans hf3 (fun x hx=>.inr (hge x hx))⟩ Yhw
  .simp only;rw[Md hlt,if_pos h3,List.length_append,List.map_append];exact ho3
  .rcases hk3 x hx with h|h
   .exact hge x h
   .omega
 .refine rx ?_;refine Jc (i+1,va) Yhl ⟨rfl,rfl,hlt,?_,hge,hF⟩ Yhw;simp only;rw[Md hlt,if_neg h3,List.append_nil];exact hown
set_option maxHeartbeats 8000000 in
theorem Jj0(ds:List De)(k:Int)(v0:Value)(w:World)(S:List Nat)(hk:VE k)(h0:0<(propsD ds).length)(hl:ds.length<=1000000)(hd:DR w S (.l (ds.map deC)) v0):
 Calls prog 12 #[.agg ([v0]:List Value).toArray,iV k] w fun e w'=>e=.returned (.string (Xm ds k))/\Fr [] w w':=by
 have h1:=hd.one;refine enter func12 rfl ntmps12 rfl ?_;refine rx ?_;refine Ju (l:=[v0]) rfl rfl (fun w1 b1 hb1e hb1 hf1 hs1=>?_);refine rx ?_;refine Jl (JiS ds v0 w1 S hl (hd.tr0 hf1)) ?_;rintro v w2 ⟨hown,_,hf2⟩;have hpl:=NV ds;obtain⟨ao,c,rfl⟩:=hown.slice;refine rx ?_;refine Jg (around k (propsD ds).length w2 hk.1 hk.2 Yhn) ?_;rintro _ rfl;have hr:=BI (a:=k) (m:=(propsD ds).length) Yhn;obtain⟨j,hj⟩:∃j:Nat,(j:Int)=Jbq k (propsD ds).length:=⟨_,Int.toNat_of_nonneg hr.1⟩;have hjl:j<(propsD ds).length:=by omega
 obtain⟨ad,had,hcell⟩:=KO hown.src (JaI hjl);have hpn:Xm ds k=(propsD ds)[j]:=by unfold Xm;rw[<-hj,Int.toNat_natCast,getD_at hjl]
 rw[hpn];refine rx ?_;refine BZ rfl rfl hj.symm hjl had ?_;refine KW rfl hcell ?_;refine Yeo ?_;exact⟨rfl,hf1.Jb hf2⟩
def JgM(w:World)(ds:List De)(nm:ByteArray)(e:Ending)(w':World):Prop:=Fr [] w w'/\match fdD ds 3 nm with
 |none=>e=.returned (.tuple #[.pointer none,.int .i64 6])
 |some d=>∃p M R,e=.returned (.tuple #[.pointer (some ⟨p,0,none⟩),.int .i64 0])/\RcM w' p M R M ⟨nm,d.checks.length,d.classes.length,JM ltB (KX ds nm)⟩ []/\∀x∈M++R,w.heap.size<=x
set_option maxHeartbeats 16000000 in
theorem Jg5(ds:List De)(nm:ByteArray)(v0:Value)(w:World)(S0:List Nat)(hsz:∀d∈ds,SzD d)(hl:ds.length<=50)(hd:DR w S0 (.l (ds.map deC)) v0):
 Calls prog 39 #[.agg ([v0]:List Value).toArray,.string nm] w (JgM w ds nm):=by
 have h01:=hd.one;refine enter func39 rfl ntmps39 rfl ?_;refine rx ?_;refine Ju (l:=[v0]) rfl rfl (fun w1 b2 hb2e hb2 hf1 hs1=>?_);have hd1:=hd.tr0 hf1;refine rx ?_;refine s_call (NJ ds 3 nm v0 w1 S0 hd1) rfl ?_;rintro en w2 hfd;obtain⟨cs,b,rfl,hlen,hone,hf2,hcase⟩:=Jjf hfd;refine⟨_,rfl,?_⟩;have hb2:=hb2.tr0 hf2;have hF2:=hf1.Jb hf2;refine rx ?_;refine Jm (l:=[zI,zT,zI,zS,zS,zI,zT,zS,zI,zT,zI,zS,zS,zS,zI,zI,zI,zT,zS,zS,zS,zI,zS,zS,zS,zS,zI,zT,zS,zI,zT,zI,zS,zS,zS,zI,zS,zS,zI,zT,zI,zS,zS,zS,zI]) rfl (fun w3 q hqe hq hf3 hs3=>?_);have hb2:=hb2.tr0 hf3;have hs2:=hF2.size;refine rx ?_;refine Jd (cs:=cs) rfl rfl hq hone rfl hlen (fun w4 hq4 hf4 hs4=>?_);have hb2:=hb2.tr hf4 (by have:=hb2e;have:=hf2.size;simp;omega);have hF4:Fr [] w w4:=(hF2.Jb hf3).trans hf4 (fun x hx=>.inr Yhq);rcases hcase with⟨hn,rfl⟩|⟨d,hsd,rfl,hrd⟩
 .refine rx ?_;refine Yhd ?_;unfold JgM;rw[hn];exact⟨hF4,rfl⟩
 obtain⟨⟨a23,c23,h23⟩,⟨a24,c24,h24⟩,hncl⟩:=RD.cks hrd;have hd4:=hd.tr0 hF4;have hs04:=hF4.size;obtain⟨rl,hrl⟩:=exq (JM ltB (KX ds nm));refine rx ?_;refine JE (fun z=>Fr [] w4 z) Yhp rfl ?_;obtain⟨u0,hu0⟩:=exq w4.drew;rw[<-hu0];have hS0:Fr [] w4 u0:=hu0▸Fr.drew _ _;refine JX 0 1 hS0 ?_;refine Kw 2 hS0 ?_ (hrun:=by(intro u hu;exact(J7 rfl (Blk.cell (hq4.tr0 hu) h23))));refine JX 3 4 hS0 ?_;refine Kw 5 hS0 ?_ (hrun:=by(intro u hu;exact(J7 rfl (Blk.cell (hq4.tr0 hu) h24))));refine JX 6 7 hS0 ?_;refine d_z 8 hS0 ?_;refine Ygx ?_;refine Jl (Jeu ds nm v0 u0 S0 hsz hl (hd4.tr0 hS0)) ?_;rintro vr u1 ⟨hR,hf5⟩;have hRge:=hR.2;have hR:=hR.1;rw[<-hrl]at hR;obtain⟨aor,cr,rfl⟩:=hR.slice;have hRlt:=hR.lt;have hS1:=hS0.Jb hf5;refine wpList_nil (Jv hS1 ?_);refine Kw 10 hS1 ?_ (v:=.agg (([.string nm,iV (d.checks.length:Nat),iV (d.classes.length:Nat),.slice aor rl.length cr,zS])).toArray) (hrun:=by(intro u hu;exact QU (([.string nm,iV (d.checks.length:Nat),iV (d.classes.length:Nat),.slice aor rl.length cr,zS])) Yik));refine Ylp ?_;refine Ju (l:=[.string nm,iV (d.checks.length:Nat),iV (d.classes.length:Nat),.slice aor rl.length cr,zS]) rfl rfl (fun u2 p hp hb6 hf6 hs6=>?_);have hS2:=hS1.Jb hf6;refine Ylo ?_;refine JJ (i:=12) rfl Yhp ?_;refine rx ?_;refine Jv hS2 ?_;refine JJ (i:=13) rfl Yhp ?_;refine rx ?_;refine Jv hS2 ?_;refine Yev ?_;refine Yhd ?_;have hs5:=hS1.size;have hz0:=hS0.size;unfold JgM;rw[hsd];refine⟨hF4.Jb hS2,p,[p]++blks (zS),blks (.slice aor rl.length cr),rfl,⟨.slice aor rl.length cr,zS,[],rfl,rfl,?_,fun x hx=>hx,hb6,by simp only[<-hrl];exact hR.tr0 hf6,Own.nil _ _ _,.nil⟩,fun x hx=>?_⟩
 .rw [List.nodup_append];refine⟨by simp[blks,Value.ownBlock],JaW hR,fun x hx y hy e=>?_⟩;subst e;have:=hRlt x hy;simp[blks,Value.ownBlock]at hx;omega
 .rcases List.mem_append.1 hx with h|h
  .simp [blks,Value.ownBlock]at h;omega
  .have:=hRge x h;omega
theorem Jhy{ds:List De}{k:Int}(h0:0<(propsD ds).length):∃d,fdD ds 3 (Xm ds k)=some d/\d∈ds:=by
 have hr:=BI (a:=k) (m:=(propsD ds).length) Yhn;obtain⟨j,hj⟩:∃j:Nat,(j:Int)=Jbq k (propsD ds).length:=⟨_,Int.toNat_of_nonneg hr.1⟩;have hjl:j<(propsD ds).length:=by omega
 have hpn:Xm ds k=(propsD ds)[j]:=by unfold Xm;rw[<-hj,Int.toNat_natCast,getD_at hjl]
 have hm:Xm ds k∈propsD ds:=by rw[hpn];exact List.getElem_mem hjl
 unfold propsD at hm;obtain⟨d,hd,hdn⟩:=List.mem_map.1 hm;obtain⟨hd1,hd2⟩:=List.mem_filter.1 hd;cases hf:fdD ds 3 (Xm ds k)with
 |some x=>exact⟨x,rfl,(XT hf).1⟩
 |none=>
  unfold fdD at hf;have:=List.find?_eq_none.1 hf d hd1;simp only[decide_eq_true_eq]at this;exact absurd ⟨of_decide_eq_true hd2,hdn⟩ this
theorem MD.props{ds:List De}(h:MD ds):0<(propsD ds).length:=by
 unfold propsD;rw[List.length_map,<-List.countP_eq_length_filter];have:(ds.map De.kind).countP (fun k=>decide (k=3))=ds.countP (fun d=>decide (d.kind=3)):=by rw[List.countP_map];rfl
 rw[<-this,h.1]
 decide
def Jc6(ds:List De)(nm:ByteArray)(d:De):Pp:=⟨nm,d.checks.length,d.classes.length,JM ltB (KX ds nm)⟩
def Jk5(w:World)(ds:List De)(k:Int)(e:Ending)(w':World):Prop:=∃d p M R q N T,fdD ds 3 (Xm ds k)=some d/\e=.returned (.tuple #[.pointer (some ⟨p,0,none⟩),.pointer (some ⟨q,0,none⟩),.bool true])/\
 Wj w' p M R (Jc6 ds (Xm ds k) d) (J6 d.classes.length [])/\RcM w' q N T N (Jc6 ds (Xm ds k) d) []/\(∀x∈M++R,w.heap.size<=x)/\(∀x∈N++T,w.heap.size<=x)/\(∀x∈N++T,x∉M++R)/\Fr [] w w'
set_option maxHeartbeats 8000000 in
theorem Jjx(ds:List De)(k:Int)(v0:Value)(w:World)(S:List Nat)(hk:VE k)(hm:MD ds)(hd:DR w S (.l (ds.map deC)) v0):
 Calls prog 10 #[.agg ([v0]:List Value).toArray,iV k] w (Jk5 w ds k):=by
 have h1:=hd.one;have hlen:=hm.len;obtain⟨d,hfd,hdm⟩:=Jhy (k:=k) hm.props;refine enter func10 rfl ntmps10 rfl ?_;refine rx ?_;refine Ju (l:=[v0]) rfl rfl (fun w1 b1 hb1e hb1 hf1 hs1=>?_);refine rx ?_;refine Jg (Jj0 ds k v0 w1 S hk hm.props Yhn (hd.tr0 hf1)) ?_;rintro w2 hf2;have hF2:=hf1.Jb hf2;have hb1:=hb1.tr0 hf2;refine rx ?_;refine s_call (newC ds (Xm ds k) v0 w2 S hm.sz Yhn (hd.tr0 hF2)) rfl ?_;rintro _ w3 ⟨hf3,hn⟩;rw[hfd]at hn;obtain⟨p,M,R,rfl,hC,hMR⟩:=hn;refine⟨_,rfl,?_⟩;have hF3:=hF2.Jb hf3;have hb1:=hb1.tr0 hf3;refine rx ?_;refine s_call (Jg5 ds (Xm ds k) v0 w3 S hm.sz Yhn (hd.tr0 hF3)) rfl ?_;rintro _ w4 ⟨hf4,hn⟩;rw[hfd]at hn;obtain⟨q,N,T,rfl,hQ,hNT⟩:=hn;refine⟨_,rfl,?_⟩;have hs2:=hF2.size;have hs3:=hF3.size;refine Yfc ?_;exact⟨d,p,M,R,q,N,T,hfd,rfl,hC.tr0 hf4,hQ,fun x hx=>by have:=hMR x hx;omega,fun x hx=>by have:=hNT x hx;omega,fun x hx hm=>by have h1:=hNT x hx;have h2:=hC.lt x hm;omega,hF3.Jb hf4⟩
set_option maxHeartbeats 8000000 in
theorem Jdc(l:List Br)(b:Br)(v:Value)(w:World){S:List Nat}(hd:DR w S (.l (l.map brC)) v):
 Calls prog 19 #[v,.agg (brV b).toArray] w fun e w'=>e=.returned (.bool (decide (b∈l)))/\Fr [] w w':=by
 have hbd:=hd.bound;rw[List.length_map]at hbd;obtain⟨ao,c,rfl,_⟩:=hd.slice;rw[List.length_map]at hd ⊢;refine enter func19 rfl ntmps19 rfl ?_;refine rx ?_;refine Ju (l:=brV b) rfl rfl (fun w1 p hp hb1 hf1 hs1=>?_);replace hb1:Blk w1 p [.string b.decl,iV b.at_,iV b.arm] _:=hb1;refine rx ?_;refine Jh 6 [5] (σ:=Nat) (fun i g u=>g 5=iV (i:Nat)/\i<=l.length/\b∉l.take i/\Fr [] w1 u) (fun i=>l.length-i) 0 ⟨rfl,Nat.zero_le _,by simp,Fr.refl _ _⟩ ?_;rintro i g u ⟨g5,hi,hnm,hF⟩;rw[Ja g5];have hFw:=hf1.Jb hF;have hb1:=hb1.tr0 hF;by_cases hlt:i<l.length
 case neg=>
  rw[List.take_of_length_le Yhn]at hnm;refine Yeo ?_;exact⟨by rw[decide_eq_false hnm],hFw⟩
 obtain⟨ad,hade,hc⟩:=JZ QN (DR.brs (hd.tr0 hFw)) hlt Yhy;subst hade;have hc:Cells u (ad.add (i*3)) [.string l[i].decl,iV l[i].at_,iV l[i].arm]:=hc;refine Ylk ?_;obtain⟨u1,hu1⟩:=exq u.drew;rw[<-hu1];have hS:Fr [] u u1:=hu1▸Fr.drew _ _;refine Jj 0 1 2 3 hS ?_;refine d_z 4 hS ?_;by_cases he:l[i]=b
 . (apply XU (i:=5);exact rfl;kernel_rfl;kernel_rfl;kernel_rfl;(intro u hu;exact(Zc (a:=l[i]) (b:=b) rfl rfl (decide_eq_true he)));exact hS)
   refine Yfx ?_;refine Yeo ?_;exact⟨by rw[decide_eq_true (by rw[<-he];exact List.getElem_mem hlt)],hFw.Jb hS⟩
 . (apply XU (i:=5);exact rfl;kernel_rfl;kernel_rfl;kernel_rfl;(intro u hu;exact(Zc (a:=l[i]) (b:=b) rfl rfl (decide_eq_false he)));exact hS)
   refine Yev ?_;refine Jc (i+1) Yhl ⟨rfl,hlt,?_,hF.Jb hS⟩ Yhn;exact Ylf
end Go.Proofs.YtggmccicdhnkgaaGreat
namespace Go.Rf
open Go.RowKit
variable{i:Nat}{α:Type}
theorem LQ{p:α->Bool}{l:List α}(h:∀i (hi:i<l.length),p l[i]=false):l.any p=false:=by
 rw[List.any_eq_false];intro x hx;obtain⟨i,hi,rfl⟩:=List.getElem_of_mem hx;rw[h i hi];simp
theorem ZW{p:α->Bool}{l:List α}(hi:i<l.length)(h:p l[i]=true):l.any p=true:=by
 rw[List.any_eq_true];exact⟨l[i],List.getElem_mem hi,h⟩
theorem Zr{p:α->Bool}{l:List α}(hi:i<l.length):(l.take (i+1)).filter p=(l.take i).filter p++(if p l[i]=true then[l[i]] else[]):=by
 rw[List.take_succ_eq_append_getElem hi,List.filter_append]
 congr 1
 by_cases h:p l[i]=true<;>simp[h]
end Go.Rf
namespace Go.Proofs.YtggmccicdhnkgaaGreat
open Go.Proofs.Tryz
open Go.Rf Go.RowKit
variable{M R:List Nat}{p:Nat}{P:Pp}{s:St}
attribute [local irreducible] Code.wp wpList Exit.then Exit.inBlock bodyPost A Calls execOp Addr.add
set_option maxHeartbeats 16000000 in
theorem Jig(w:World)(hC:Wj w p M R P s)(hn:P.reach.length<=1000000):
 Calls prog 18 #[.pointer (some ⟨p,0,none⟩)] w fun e w'=>∃v,e=.returned v/\BO w 50 w' (Ur P s) v/\Fr [] w w':=by
 obtain⟨bb,pb,vr,vc,mb,mp,rfl,rfl,hnd,hb,hr,hc,hmb,hrb,hmp,hrp,hok⟩:=hC;obtain⟨aor,cr,rfl⟩:=hr.slice;refine enter func18 rfl ntmps18 rfl ?_;refine rx ?_;refine Jh 11 [3,5] (σ:=Nat×Value) (fun t g u=>g 3=t.2/\g 11=iV (t.1:Nat)/\t.1<=P.reach.length/\BO w 50 u ((P.reach.take t.1).filter (fun b=>decide (s.cnt b=0))) t.2/\Fr [] w u) (fun t=>P.reach.length-t.1) (0,_) ⟨rfl,rfl,Nat.zero_le _,BO.nil,Fr.refl _ _⟩ ?_;rintro⟨i,va⟩ g u ⟨g3,g11,hi,hB,hF⟩;simp only at g3 g11 hi hB;rw[Ja g3,Ja g11];have hsu:=hF.size;by_cases hlt:i<P.reach.length
 case neg=>
  rw[List.take_of_length_le Yhn]at hB;refine Yeo ?_;exact⟨va,rfl,hB,hF⟩
 obtain⟨ad,rfl,hc1⟩:=JZ QN (hr.src.tr0 hF) hlt Yhy;have hc1:Cells u (ad.add (i*3)) [.string P.reach[i].decl,iV P.reach[i].at_,iV P.reach[i].arm]:=hc1;have hbu:=hb.tr0 hF;have hmu:=hmb.tr0 hF;refine rx ?_;refine Jm (l:=[zT,zI,zI]) rfl (fun u1 b5 hb5 h5 hf1 hs1=>?_);refine rx ?_;refine Jd (cs:=brV P.reach[i]) rfl rfl h5 (QD _) rfl rfl (fun u2 h5 hf2 hs2=>?_);replace h5:Blk u2 b5 [.string P.reach[i].decl,iV P.reach[i].at_,iV P.reach[i].arm] _:=h5;have hF2:Fr [] u u2:=hf1.trans hf2 (fun x hx=>.inr Yhq);have hbu:=hbu.tr0 hF2;have hmu:=hmu.tr0 hF2;have hB2:=hB.tr0 hF2;have hs12:=hF2.size;have hml:((P.reach.take i).filter (fun b=>decide (s.cnt b=0))).length<=i:=by
  have:=List.length_filter_le (fun b=>decide (s.cnt b=0)) (P.reach.take i);rw[List.length_take]at this;omega
 refine rx ?_;refine JE (fun z=>Fr [] u2 z) Yhp rfl ?_;obtain⟨u3,hu3⟩:=exq u2.drew;rw[<-hu3];have hS:Fr [] u2 u3:=hu3▸Fr.drew _ _;refine Jj 0 1 2 3 hS ?_;refine d_z 4 hS ?_;refine Kw 5 hS ?_ (hrun:=by(intro u hu;refine(JdF (P:=prog) (t:=122) (a:=P.reach[i]) ?_ ?_ (hmu.tr0 hu) hrb);exact rfl;exact rfl));have h5:=h5.tr0 hS;have hF3:=(hF.Jb hF2).Jb hS;by_cases hz:s.cnt P.reach[i]=0
 . (refine d_z 6 hS ?_)
   refine Yev ?_;refine JQ (c1:=brV P.reach[i]) rfl rfl rfl (fun u4 q4 hq4 ho4 hf4 hs4=>?_);refine rx ?_;refine Bj (m:=1) (al:=[P.reach[i]]) ((hB2.tr0 hS).tr0 hf4) rfl rfl rfl (show Src u4 (.slice (some ⟨q4,0,none⟩) 1 1) 1 ([P.reach[i]].flatMap brV) from by simpa using ho4.src) Yhv Yhn (by have:=hF3.size;omega) (fun v5 u5 hB5 hfr5=>?_);refine rx ?_;refine Jc (i+1,v5) Yhl ⟨rfl,rfl,hlt,?_,hfr5 [] (hF3.Jb hf4)⟩ Yhw;simp only;rw[Zr hlt,if_pos (decide_eq_true hz)];exact hB5
 . (refine d_z 6 hS ?_)
   refine Yev ?_;refine Jc (i+1,va) Yhl ⟨rfl,rfl,hlt,?_,hF3⟩ Yhw;simp only;rw[Zr hlt,if_neg (by simpa using hz),List.append_nil];exact hB2.tr0 hS
set_option maxHeartbeats 16000000 in
theorem Jdd(r:Rn)(vb vl:Value)(w:World){S:List Nat}(hC:Wj w p M R P s)(hbr:DR w S (.l (r.bs.map brC)) vb)(hl:DR w S (.l (r.cl.map KI)) vl):
 Calls prog 16 #[.pointer (some ⟨p,0,none⟩),.agg ([iV r.kind,iV r.at_,iV r.code,vb,vl,zI]:List Value).toArray] w fun e w'=>e=.returned (.bool (Qd P r&&VB s r))/\Fr [] w w':=by
 have hC0:=hC;have h1b:=hbr.one;have h1l:=hl.one;obtain⟨bb,pb,vr,vc,mb,mp,rfl,rfl,hnd,hb,hr,hc,hmb,hrb,hmp,hrp,hok⟩:=hC;have hncls:=hok.ncls;obtain⟨aoc,cc,rfl⟩:=hc.slice;have hlbd:=hl.bound;have hbbd:=hbr.bound;obtain⟨aol,cl,rfl,_⟩:=hl.slice;obtain⟨aob,cb,rfl,_⟩:=hbr.slice;simp only[List.length_map]at hl hbr h1b h1l hlbd hbbd ⊢;refine enter func16 rfl ntmps16 rfl ?_;refine rx ?_;refine Ju (l:=[iV r.kind,iV r.at_,iV r.code,(.slice aob r.bs.length cb),(.slice aol r.cl.length cl),zI]) rfl rfl (fun w1 b3 hb3 h3 hf1 hs1=>?_);refine rx ?_;refine Jg (Jij r (.slice aob r.bs.length cb) (.slice aol r.cl.length cl) w1 (hC0.tr0 hf1) (hl.tr0 hf1) h1b) ?_;rintro w2 hf2;have hF2:=hf1.Jb hf2;cases hfit:Qd P r with
 |false=>
  refine Yeo ?_;exact⟨by simp,hF2⟩
 |true=>
 have hfit':=hfit;unfold Qd at hfit';rw[Bool.and_eq_true]at hfit';have hcls:=hfit'.2;have h3:=h3.tr0 hf2;have hb2:=hb.tr0 hF2;have hc2:=hc.tr0 hF2;refine rx ?_;refine Jh 16 [6] (σ:=Nat) (fun i g u=>g 16=iV (i:Nat)/\i<=r.cl.length/\(∀j (hj:j<r.cl.length),j<i->decide (s.cls.getD r.cl[j].toNat 0=0)=false)/\Fr [] w2 u) (fun i=>r.cl.length-i) 0 ⟨rfl,Nat.zero_le _,fun j hj h=>by omega,Fr.refl _ _⟩ ?_;rintro i g u ⟨g16,hi,hpre,hF⟩;rw[Ja g16];have hFu:=hF2.Jb hF;have h3:=h3.tr0 hF;have hbu:=hb2.tr0 hF;by_cases hlt:i<r.cl.length
 .obtain ⟨adl,hadl,hcell⟩:=KO (VP (hl.tr0 hFu)) (WS hlt);subst hadl;have hin:=Jdh hcls (List.getElem_mem hlt);obtain⟨j,hj⟩:∃j:Nat,(j:Int)=r.cl[i]:=⟨r.cl[i].toNat,Int.toNat_of_nonneg hin.1⟩;have hjl:j<s.cls.length:=by omega
  obtain⟨adc,hadc,hcc⟩:=KO (hc2.tr0 hF).src (V9 hjl);have hget:s.cls.getD r.cl[i].toNat 0=s.cls[j]:=by rw[<-hj,Int.toNat_natCast,getD_at hjl]
  refine Yfm ?_;refine rx ?_;refine BZ rfl rfl hj.symm hjl hadc ?_;refine KW rfl hcc ?_;by_cases hz:s.cls[j]=0
  .refine rx ?_;refine Yfw ?_;refine⟨?_,hFu⟩;unfold VB;rw[ZW hlt (decide_eq_true (by rw[hget];exact hz))];simp
  .refine rx ?_;refine Jc (i+1) Yhl ⟨rfl,hlt,fun k hk h=>?_,hF⟩ Yhn;by_cases e:k=i
   .subst e;exact decide_eq_false (by rw[hget];exact hz)
   .exact hpre k hk Yhn
 have hcl0:r.cl.any (fun x=>decide (s.cls.getD x.toNat 0=0))=false:=LQ (fun j hj=>hpre j hj Yhn);have hmu:=hmb.tr0 hFu;have hmpu:=hmp.tr0 hFu;clear hpre;refine rx ?_;clear hlt;refine Jh 32 [7,8] (σ:=Nat) (fun i g u'=>g 32=iV (i:Nat)/\i<=r.bs.length/\(∀j (hj:j<r.bs.length),j<i->decide (s.cnt r.bs[j]=0)=false/\∀h:j+1<r.bs.length,j+1<i->decide ((r.bs[j],r.bs[j+1])∈s.ps)=true)/\Fr [] u u') (fun i=>r.bs.length-i) 0 ⟨rfl,Nat.zero_le _,fun j hj h=>by omega,Fr.refl _ _⟩ ?_;rintro k g u1 ⟨g32,hk,hpre,hF1⟩;rw[Ja g32];have hFu1:=hFu.Jb hF1;have h3:=h3.tr0 hF1;have hbu:=hbu.tr0 hF1;by_cases hlt:k<r.bs.length
 case neg=>
  refine Yeo ?_;refine⟨?_,hFu1⟩;unfold VB;rw[hcl0,LQ (fun j hj=>(hpre j hj Yhn).1),LQ (fun j hj=>?_)]
  .simp
  .have hpl:=QI (l:=r.bs);have hj1:j+1<r.bs.length:=by omega
   have hg:=(List.getElem?_eq_some_iff.1 (Xb hj1)).2;rw[hg,(hpre j Yhn Yhn).2 hj1 Yhn];rfl
 obtain⟨ad,hade,hc1⟩:=JZ QN (DR.brs (hbr.tr0 hFu1)) hlt Yhy;subst hade;have hc1:Cells u1 (ad.add (k*3)) [.string r.bs[k].decl,iV r.bs[k].at_,iV r.bs[k].arm]:=hc1;have hmu:=hmu.tr0 hF1;have hmpu:=hmpu.tr0 hF1;refine rx ?_;refine Jm (l:=[zT,zI,zI]) rfl (fun u2 b8 hb8 h8 hf5 hs5=>?_);refine rx ?_;refine Jd (cs:=brV r.bs[k]) rfl rfl h8 (QD _) rfl rfl (fun u3 h8 hf6 hs6=>?_);replace h8:Blk u3 b8 [.string r.bs[k].decl,iV r.bs[k].at_,iV r.bs[k].arm] _:=h8;have hF3:Fr [] u1 u3:=hf5.trans hf6 (fun x hx=>.inr Yhq);have h3:=h3.tr0 hF3;have hbu:=hbu.tr0 hF3;have hmu:=hmu.tr0 hF3;have hmpu:=hmpu.tr0 hF3;refine rx ?_;refine JE (fun z=>Fr [] u3 z) Yhp rfl ?_;obtain⟨u4,hu4⟩:=exq u3.drew;rw[<-hu4];have hS:Fr [] u3 u4:=hu4▸Fr.drew _ _;have hF4:=(hFu1.Jb hF3).Jb hS;have hF4u:=(hF1.Jb hF3).Jb hS;refine Jj 0 1 2 3 hS ?_;refine d_z 4 hS ?_;refine Kw 5 hS ?_ (hrun:=by(intro u hu;refine(JdF (P:=prog) (t:=122) (a:=r.bs[k]) ?_ ?_ (hmu.tr0 hu) hrb);exact rfl;exact rfl));by_cases hz:s.cnt r.bs[k]=0
 . (refine Jj 6 7 8 9 hS ?_;refine Jj 10 11 12 13 hS ?_;refine Jj 14 15 16 17 hS ?_;refine Jj 18 19 20 21 hS ?_;refine Jj 22 23 24 25 hS ?_;refine d_z 26 hS ?_)
   refine Yfx ?_;refine Yeo ?_;refine⟨?_,hF4⟩;unfold VB;rw[ZW (p:=fun b=>decide (s.cnt b=0)) hlt (decide_eq_true hz)];simp
 by_cases hk0:k=0
 . (refine Jj 6 7 8 9 hS ?_;refine Jj 10 11 12 13 hS ?_;refine Jj 14 15 16 17 hS ?_;refine Jj 18 19 20 21 hS ?_;refine Jj 22 23 24 25 hS ?_;refine d_z 26 hS ?_)
   refine Yev ?_;refine Jc (k+1) Yhl ⟨rfl,hlt,fun j hj h=>⟨?_,fun h1 h2=>by omega⟩,hF4u⟩ Yhn;obtain rfl:j=k:=by omega
   exact decide_eq_false hz
 obtain⟨ad',hade,hc2⟩:=JZ QN (DR.brs (hbr.tr0 (hFu1.Jb hF3))) (show k-1<r.bs.length by omega) Yhy;cases hade
 have hc2:Cells u3 (ad.add ((k-1)*3)) [.string r.bs[k-1].decl,iV r.bs[k-1].at_,iV r.bs[k-1].arm]:=hc2;refine Jj 6 7 8 9 hS ?_;refine Jj 10 11 12 13 hS ?_;refine Jj 14 15 16 17 hS ?_;refine d_z 18 hS ?_;rw[show((k:Int)-1)=((k-1:Nat):Int) by omega];refine JX 19 20 hS ?_;refine d_z 21 hS ?_;refine Kz 22 hS ?_ (v:=.agg ((prV (r.bs[k-1],r.bs[k]))).toArray) (hrun:=by(intro u hu;exact NR ((prV (r.bs[k-1],r.bs[k]))) Yik));refine Kz 23 hS ?_ (hrun:=by(intro u hu;refine(JjY (P:=prog) (t:=123) (q:=(· ∈s.ps)) (a:=(r.bs[k-1],r.bs[k])) ?_ ?_ (hmpu.tr0 hu) hrp);exact rfl;exact rfl));have hkp:∃h:k-1<(Jy r.bs).length,(Jy r.bs)[k-1]=(r.bs[k-1],r.bs[k]):=by
  have hg:=Xb (l:=r.bs) (i:=k-1) Yhn;obtain⟨h1,h2⟩:=List.getElem?_eq_some_iff.1 hg;refine⟨h1,h2.trans ?_⟩;have:k-1+1=k:=by omega
  simp only[this]
 obtain⟨hkl,hkp⟩:=hkp;by_cases hin:(r.bs[k-1],r.bs[k])∈s.ps
 .rw [decide_eq_true hin];refine JX 24 25 hS ?_;refine d_z 26 hS ?_;refine Yev ?_;refine Jc (k+1) Yhl ⟨rfl,hlt,fun j hj h=>⟨?_,fun h1 h2=>?_⟩,hF4u⟩ Yhn
  .by_cases e:j=k
   .subst e;exact decide_eq_false hz
   .exact (hpre j hj Yhn).1
  .by_cases e:j+1=k
   .subst e;exact decide_eq_true (by simpa using hin)
   .exact (hpre j hj Yhn).2 h1 Yhn
 .rw [decide_eq_false hin];refine JX 24 25 hS ?_;refine d_z 26 hS ?_;refine Yfx ?_;refine Yeo ?_;refine⟨?_,hF4⟩;unfold VB;rw[ZW (p:=fun p=> !decide (p∈s.ps)) hkl (by rw[hkp,decide_eq_false hin];rfl)];simp
end Go.Proofs.YtggmccicdhnkgaaGreat
namespace Go.Proofs.YtggmccicdhnkgaaGreat
open Go.Proofs.Tryz
open Go.Rf Go.RowKit
attribute [local irreducible] Code.wp wpList Exit.then Exit.inBlock bodyPost A Calls execOp Addr.add
set_option maxHeartbeats 32000000 in
theorem JbL{q:Nat}{P:Pp}{rs:List Rn}(r:Rn)(vb vl:Value)(w:World){S:List Nat}(hQ:RcV w q P rs)(hl:DR w S (.l (r.cl.map KI)) vl)(h1b:vb.oneCell'=true):
 Calls prog 54 #[.pointer (some ⟨q,0,none⟩),.agg ([iV r.kind,iV r.at_,iV r.code,vb,vl]:List Value).toArray] w fun e w'=>e=.returned (.bool (Qd P r))/\Fr [] w w':=by
 obtain⟨vr,vs,hb,hrr,hss⟩:=hQ;have h1r:=hrr.one;have h1s:=hss.one;have hbd:=hl.bound;obtain⟨aol,cl,rfl,_⟩:=hl.slice;have h1l:=hl.one;simp only[List.length_map]at hl hbd h1l ⊢;refine enter func54 rfl ntmps54 rfl ?_;refine rx ?_;refine Ju (l:=[iV r.kind,iV r.at_,iV r.code,vb,(.slice aol r.cl.length cl)]) rfl rfl (fun w1 b3 hb3 h3 hf1 hs1=>?_);refine rx ?_;refine Jm (l:=[zI,zI,zI]) rfl (fun w2 b5 hb5 h5 hf2 hs2=>?_);refine rx ?_;refine Jd (cs:=[iV r.kind,iV r.at_,iV r.code]) rfl rfl h5 Yhu rfl rfl (fun w3 h5 hf3 hs3=>?_);have hF13:Fr [] w1 w3:=hf2.trans hf3 (fun x hx=>.inr Yhq);have h3:=h3.tr0 hF13;have hF3:=hf1.Jb hF13;have hb1:=hb.tr0 hF3;have hl3:=hl.tr0 hF3;clear hf1 hf2 hf3 hF13;refine rx ?_;refine KZ 7 [] (fun g u=>g 54=.bool (!Gt P.checks r)/\Fr [] w3 u) ?_ ?_
 .by_cases k1:r.kind<0
  . (refine JE (fun z=>Fr [] w3 z) Yhp rfl ?_)
    obtain⟨u,hu⟩:=exq w3.drew;rw[<-hu];have hS:Fr [] w3 u:=hu▸Fr.drew _ _;refine JX 0 1 hS ?_;refine Kw 2 hS ?_ (hrun:=by(intro u hu;exact(W9 rfl rfl (decide_eq_true Yhn))));refine Jj 3 4 5 6 hS ?_;refine Jj 7 8 9 10 hS ?_;refine Jj 11 12 13 14 hS ?_;refine Jj 15 16 17 18 hS ?_;refine Jj 19 20 21 22 hS ?_;refine Jj 23 24 25 26 hS ?_;refine Jj 27 28 29 30 hS ?_;refine Jj 31 32 33 34 hS ?_;refine Jj 35 36 37 38 hS ?_;refine Jj 39 40 41 42 hS ?_;refine JX 43 44 hS ?_;refine d_z 45 hS ?_;exact Ykt
  by_cases k2:2<r.kind
  . (refine JE (fun z=>Fr [] w3 z) Yhp rfl ?_)
    obtain⟨u,hu⟩:=exq w3.drew;rw[<-hu];have hS:Fr [] w3 u:=hu▸Fr.drew _ _;refine JX 0 1 hS ?_;refine Kw 2 hS ?_ (hrun:=by(intro u hu;exact(W9 rfl rfl (decide_eq_false Yhn))));refine JX 3 4 hS ?_;refine d_z 5 hS ?_;refine Kz 6 hS ?_ (hrun:=by(intro u hu;exact(Z8 rfl rfl (decide_eq_true Yhn))));refine Jj 7 8 9 10 hS ?_;refine Jj 11 12 13 14 hS ?_;refine Jj 15 16 17 18 hS ?_;refine Jj 19 20 21 22 hS ?_;refine Jj 23 24 25 26 hS ?_;refine Jj 27 28 29 30 hS ?_;refine Jj 31 32 33 34 hS ?_;refine Jj 35 36 37 38 hS ?_;refine Jj 39 40 41 42 hS ?_;refine JX 43 44 hS ?_;refine d_z 45 hS ?_;exact Ykt
  rcases(show r.kind=0\/r.kind=1\/r.kind=2 by omega)with hk|hk|hk
  . (refine JE (fun z=>Fr [] w3 z) Yhp rfl ?_)
    obtain⟨u,hu⟩:=exq w3.drew;rw[<-hu];have hS:Fr [] w3 u:=hu▸Fr.drew _ _;refine JX 0 1 hS ?_;refine Kw 2 hS ?_ (hrun:=by(intro u hu;exact(W9 rfl rfl (decide_eq_false Yhn))));refine JX 3 4 hS ?_;refine d_z 5 hS ?_;refine Kz 6 hS ?_ (hrun:=by(intro u hu;exact(Z8 rfl rfl (decide_eq_false Yhn))));refine Jj 7 8 9 10 hS ?_;refine Kz 11 hS ?_ (hrun:=by(intro u hu;exact(Zd rfl rfl (decide_eq_true Yhn))));refine JX 12 13 hS ?_;refine d_z 14 hS ?_;by_cases ha:r.at_=0
    . (apply V4 (i:=15);exact rfl;exact rfl;kernel_rfl;kernel_rfl;kernel_rfl;(intro u hu;exact(WZ rfl rfl (decide_eq_false Yhn)));exact hS)
      refine Jj 16 17 18 19 hS ?_;refine d_z 20 hS ?_;refine Kz 21 hS ?_ (hrun:=by(intro u hu;exact(WZ rfl rfl (decide_eq_false Yhn))));refine Jj 22 23 24 25 hS ?_;refine Jj 26 27 28 29 hS ?_;refine Jj 30 31 32 33 hS ?_;refine JX 34 35 hS ?_;refine d_z 36 hS ?_;exact Ylg
    . (apply V4 (i:=15);exact rfl;exact rfl;kernel_rfl;kernel_rfl;kernel_rfl;(intro u hu;exact(WZ rfl rfl (decide_eq_true Yhn)));exact hS)
      refine Jj 16 17 18 19 hS ?_;refine Jj 20 21 22 23 hS ?_;refine Jj 24 25 26 27 hS ?_;refine Jj 28 29 30 31 hS ?_;refine Jj 32 33 34 35 hS ?_;refine Jj 36 37 38 39 hS ?_;refine Jj 40 41 42 43 hS ?_;refine JX 44 45 hS ?_;exact Ykt
  . (refine JE (fun z=>Fr [] w3 z) Yhp rfl ?_)
    obtain⟨u,hu⟩:=exq w3.drew;rw[<-hu];have hS:Fr [] w3 u:=hu▸Fr.drew _ _;refine JX 0 1 hS ?_;refine Kw 2 hS ?_ (hrun:=by(intro u hu;exact(W9 rfl rfl (decide_eq_false Yhn))));refine JX 3 4 hS ?_;refine d_z 5 hS ?_;refine Kz 6 hS ?_ (hrun:=by(intro u hu;exact(Z8 rfl rfl (decide_eq_false Yhn))));refine Jj 7 8 9 10 hS ?_;refine Kz 11 hS ?_ (hrun:=by(intro u hu;exact(Zd rfl rfl (decide_eq_false Yhn))));refine Jj 12 13 14 15 hS ?_;refine Jj 16 17 18 19 hS ?_;refine d_z 20 hS ?_;refine Kz 21 hS ?_ (hrun:=by(intro u hu;exact(WZ rfl rfl (decide_eq_true Yhn))));refine JX 22 23 hS ?_;refine d_z 24 hS ?_;by_cases ha:r.at_<0
    . (apply V4 (i:=25);exact rfl;exact rfl;kernel_rfl;kernel_rfl;kernel_rfl;(intro u hu;exact(W9 rfl rfl (decide_eq_true Yhn)));exact hS)
      exact Ylh
    refine Kz 25 hS ?_ (hrun:=by(intro u hu;exact(W9 rfl rfl (decide_eq_false Yhn))));refine Jj 26 27 28 29 hS ?_;refine JX 30 31 hS ?_;refine d_z 32 hS ?_;by_cases hb4:(P.checks:Int)<=r.at_
    . (apply V4 (i:=33);exact rfl;exact rfl;kernel_rfl;kernel_rfl;kernel_rfl;(intro u hu;exact(Z9 rfl rfl (decide_eq_true Yhn)));exact hS)
      exact Ylj
    refine Kz 33 hS ?_ (hrun:=by(intro u hu;exact(Z9 rfl rfl (decide_eq_false Yhn))));refine JX 34 35 hS ?_;refine d_z 36 hS ?_;exact Ylg
  . (refine JE (fun z=>Fr [] w3 z) Yhp rfl ?_)
    obtain⟨u,hu⟩:=exq w3.drew;rw[<-hu];have hS:Fr [] w3 u:=hu▸Fr.drew _ _;refine JX 0 1 hS ?_;refine Kw 2 hS ?_ (hrun:=by(intro u hu;exact(W9 rfl rfl (decide_eq_false Yhn))));refine JX 3 4 hS ?_;refine d_z 5 hS ?_;refine Kz 6 hS ?_ (hrun:=by(intro u hu;exact(Z8 rfl rfl (decide_eq_false Yhn))));refine Jj 7 8 9 10 hS ?_;refine Kz 11 hS ?_ (hrun:=by(intro u hu;exact(Zd rfl rfl (decide_eq_false Yhn))));refine Jj 12 13 14 15 hS ?_;refine Jj 16 17 18 19 hS ?_;refine d_z 20 hS ?_;refine Kz 21 hS ?_ (hrun:=by(intro u hu;exact(WZ rfl rfl (decide_eq_true Yhn))));refine JX 22 23 hS ?_;refine d_z 24 hS ?_;by_cases ha:r.at_<0
    . (apply V4 (i:=25);exact rfl;exact rfl;kernel_rfl;kernel_rfl;kernel_rfl;(intro u hu;exact(W9 rfl rfl (decide_eq_true Yhn)));exact hS)
      exact Ylh
    refine Kz 25 hS ?_ (hrun:=by(intro u hu;exact(W9 rfl rfl (decide_eq_false Yhn))));refine Jj 26 27 28 29 hS ?_;refine JX 30 31 hS ?_;refine d_z 32 hS ?_;by_cases hb4:(P.checks:Int)<=r.at_
    . (apply V4 (i:=33);exact rfl;exact rfl;kernel_rfl;kernel_rfl;kernel_rfl;(intro u hu;exact(Z9 rfl rfl (decide_eq_true Yhn)));exact hS)
      exact Ylj
    refine Kz 33 hS ?_ (hrun:=by(intro u hu;exact(Z9 rfl rfl (decide_eq_false Yhn))));refine JX 34 35 hS ?_;refine d_z 36 hS ?_;refine JX 37 38 hS ?_;refine d_z 39 hS ?_;refine Kz 40 hS ?_ (hrun:=by(intro u hu;exact(Zd rfl rfl (decide_eq_true Yhn))));refine JX 41 42 hS ?_;by_cases hcode:r.code≠0
    . (apply V4 (i:=43);exact rfl;exact rfl;kernel_rfl;kernel_rfl;kernel_rfl;(intro u hu;exact(WZ rfl rfl (decide_eq_true Yhn)));exact hS)
      refine Kz 44 hS ?_ (hrun:=by(intro u hu;refine(XP (a:=true) (b:=true) underlying4 ?_ ?_ rfl);exact rfl;exact rfl));exact Yku
    . (apply V4 (i:=43);exact rfl;exact rfl;kernel_rfl;kernel_rfl;kernel_rfl;(intro u hu;exact(WZ rfl rfl (decide_eq_false Yhn)));exact hS)
      refine Kz 44 hS ?_ (hrun:=by(intro u hu;refine(XP (a:=true) (b:=false) underlying4 ?_ ?_ rfl);exact rfl;exact rfl));refine d_z 45 hS ?_;exact Ykt
 rintro g w4 ⟨g54,hf4⟩;have hF4:=hF3.Jb hf4;have h3:=h3.tr0 hf4;have hb1:=hb1.tr0 hf4;clear h5 hb;rw[Ja g54];cases hout:Gt P.checks r with
 |false=>
  refine Yeo ?_;exact⟨by unfold Qd;rw[hout];rfl,hF4⟩
 |true=>
 refine rx ?_;refine Jh 7 [6] (σ:=Nat) (fun i g u=>g 6=iV (i:Nat)/\i<=r.cl.length/\(∀j,j<i->Bf P.ncls r.cl j=true)/\Fr [] w4 u) (fun i=>r.cl.length-i) 0 ⟨rfl,Nat.zero_le _,fun j h=>by omega,Fr.refl _ _⟩ ?_;rintro i g u ⟨g6,hi,hpre,hF⟩;rw[Ja g6];have hFu:=hF4.Jb hF;have h3:=h3.tr0 hF;have hb1:=hb1.tr0 hF;by_cases hlt:i<r.cl.length
 case neg=>
  refine Yeo ?_;exact⟨by unfold Qd;rw[hout,UK (fun j hj=>hpre j Yhn)];rfl,hFu⟩
 obtain⟨adl,hadl,hcell0⟩:=KO (VP (hl.tr0 hFu)) (WS hlt);subst hadl;have hcell:∀{z:World},Fr [] u z->z.cell? (adl.add i)=some (iV r.cl[i]):=fun hf=>Vs ((VP (hl.tr0 hFu)).tr0 hf) (WS hlt)
 refine Ylk ?_;obtain⟨u1,hu1⟩:=exq u.drew;rw[<-hu1];have hS:Fr [] u u1:=hu1▸Fr.drew _ _;refine Jj 0 1 2 3 hS ?_;refine Kw 4 hS ?_ (hrun:=by(intro u hu;exact(J7 rfl Ylu)));by_cases c1:r.cl[i]<0
 . (apply XU (i:=5);exact rfl;kernel_rfl;kernel_rfl;kernel_rfl;(intro u hu;exact(W9 rfl rfl (decide_eq_true Yhn)));exact hS)
   refine Jj 6 7 8 9 hS ?_;refine Jj 10 11 12 13 hS ?_;refine Jj 14 15 16 17 hS ?_;refine Jj 18 19 20 21 hS ?_;refine Jj 22 23 24 25 hS ?_;refine Jj 26 27 28 29 hS ?_;refine Jj 30 31 32 33 hS ?_;refine JX 34 35 hS ?_;exact Ylc
 refine Kw 5 hS ?_ (hrun:=by(intro u hu;exact(W9 rfl rfl (decide_eq_false Yhn))));refine Jj 6 7 8 9 hS ?_;refine d_z 10 hS ?_;refine Kz 11 hS ?_ (hrun:=by(intro u hu;exact(J7 rfl Ylu)));refine Jj 12 13 14 15 hS ?_;by_cases c2:(P.ncls:Int)<=r.cl[i]
 . (apply V4 (i:=16);exact rfl;exact rfl;kernel_rfl;kernel_rfl;kernel_rfl;(intro u hu;exact(Z9 rfl rfl (decide_eq_true Yhn)));exact hS)
   refine Jj 17 18 19 20 hS ?_;refine Jj 21 22 23 24 hS ?_;refine Jj 25 26 27 28 hS ?_;refine Jj 29 30 31 32 hS ?_;refine JX 33 34 hS ?_;refine d_z 35 hS ?_;exact Ylc
 refine Kz 16 hS ?_ (hrun:=by(intro u hu;exact(Z9 rfl rfl (decide_eq_false Yhn))));refine JX 17 18 hS ?_;refine d_z 19 hS ?_;by_cases c3:i=0
 . (apply V4 (i:=20);exact rfl;exact rfl;kernel_rfl;kernel_rfl;kernel_rfl;(intro u hu;exact(Z8 rfl rfl (decide_eq_false Yhn)));exact hS)
   refine Jj 21 22 23 24 hS ?_;refine Jj 25 26 27 28 hS ?_;refine Jj 29 30 31 32 hS ?_;refine JX 33 34 hS ?_;refine d_z 35 hS ?_;exact Ykx
 have hcell1:∀{z:World},Fr [] u z->z.cell? (adl.add (i-1))=some (iV r.cl[i-1]):=fun hf=>Vs ((VP (hl.tr0 hFu)).tr0 hf) (WS Yhn)
 refine Kz 20 hS ?_ (hrun:=by(intro u hu;exact(Z8 rfl rfl (decide_eq_true Yhn))));refine Jj 21 22 23 24 hS ?_;refine d_z 25 hS ?_;refine Kz 26 hS ?_ (hrun:=by(intro u hu;exact(J7 rfl Ylu)));refine Jj 27 28 29 30 hS ?_;rw[show((i:Int)-1)=((i-1:Nat):Int) by omega];refine d_z 31 hS ?_;refine Kz 32 hS ?_ (hrun:=by(intro u hu;exact(J7 rfl (by rw[Nat.mul_one];exact hcell1 hu))));by_cases c4:r.cl[i]<=r.cl[i-1]
 . (apply V4 (i:=33);exact rfl;exact rfl;kernel_rfl;kernel_rfl;kernel_rfl;(intro u hu;exact(L9 rfl rfl (decide_eq_true Yhn)));exact hS)
   refine JX 34 35 hS ?_;refine Yfx ?_;refine Yeo ?_;exact⟨by unfold Qd;rw[hout,Jbb hlt (fun h=>by have:=h.2.2 Yhn;omega)];rfl,hFu.Jb hS⟩
 refine Kz 33 hS ?_ (hrun:=by(intro u hu;exact(L9 rfl rfl (decide_eq_false Yhn))));refine JX 34 35 hS ?_;exact Ykx
end Go.Proofs.YtggmccicdhnkgaaGreat
