/-
 From the readings of arguments to the walks' premises.
-/
import Derived.Test.YtggmccicdhnkgaaGreatYJy
import Derived.Test.YtggmccicdhnkgaaGreatYJp
import Derived.Test.YtggmccicdhnkgaaGreatYRf2
import Derived.OpenShut
import Derived.ShutString
import Derived.ChangeOld
set_option linter.all false
set_option maxHeartbeats 64000000
namespace Go.Rf
open Go.RowKit
theorem Jlj{w:World}{S:List Nat}:∀(r:Rn) (cs:List Value),RD w S (rnC r) cs->∀u∈cs,u.oneCell'=true:=fun r cs h=>by
 obtain⟨vb,vl,rfl,h1,h2⟩:=rnR h;have h1:=h1.one;have h2:=h2.one;intro u hu;simp only[SC,S9,CU]at hu;rcases hu with rfl|rfl|rfl|rfl|rfl
 .rfl
 .rfl
 .rfl
 .exact h1
 .exact h2
end Go.Rf
namespace Go.Proofs.YtggmccicdhnkgaaGreat
section
open Go.Proofs.Tryz
open Go.Rf Go.RowKit
theorem wrap_in(n:Int):VE (IntKind.i64.wrap n):=by
 rw[IntWalk.i64_left];unfold wrap64 VE;omega
def Jk9(P Q:Pp):Prop:=P.prop=Q.prop/\P.checks=Q.checks/\P.ncls=Q.ncls/\P.reach=Q.reach
instance(P Q:Pp):Decidable (Jk9 P Q):=by unfold Jk9;exact inferInstance
def mgE(P Q:Pp):Int:=if Jk9 P Q then 0 else 22
def rsM(P Q:Pp)(rs ts:List Rn):List Rn:=if Jk9 P Q then rs++ts else rs
theorem Jlr{p p2:Nat}{M R M2 R2:List Nat}{P Q:Pp}{rs ts:List Rn}(w:World)(hC:Wj w p M R P (J6 P.ncls rs))(hD:Wj w p2 M2 R2 Q (J6 Q.ncls ts))(hr:rs.length<=100)(ht:ts.length<=100)(h1:P.ncls<=16)(h2:Q.ncls<=16)(h3:P.checks<=16)(h4:Q.checks<=16)(h5:P.reach.length<=253000):
 Calls prog 28 #[.pointer (some ⟨p,0,none⟩),.pointer (some ⟨p2,0,none⟩)] w fun e w'=>e=.returned (iV (mgE P Q))/\Wj w' p M R P (J6 P.ncls (rsM P Q rs ts))/\Fr M w w':=by
 have l1:(J6 P.ncls rs).cls.length=P.ncls:=by simp[J6]
 have l2:(J6 Q.ncls ts).cls.length=Q.ncls:=by simp[J6]
 refine(Jls w hC hD Yhn Yhn (by show rs.length<=_;omega) (by show ts.length<=_;omega) Yhn Yhn Yhn).mono fun e u' hh=>?_
 rw[l1,l2]at hh;unfold mgE rsM
 split at hh
 .rename_i h;have hm:Jk9 P Q:=h;rw[Cb hm,Cb hm];rw[<-h.2.2.1,<-Jlc]at hh;exact hh
 .rename_i h;have hm:¬Jk9 P Q:=h;rw[SH hm,SH hm];exact⟨hh.1,hC.tr0 hh.2,hh.2.mono Yhs⟩
attribute [local irreducible] Code.wp wpList Exit.then Exit.inBlock bodyPost A Calls execOp Addr.add
theorem Jlk{p:Nat}(w:World):
 Calls prog 28 #[.pointer (some ⟨p,0,none⟩),.pointer none] w fun e w'=>e=.returned (iV 1)/\Fr [] w w':=by
 refine enter func28 rfl ntmps28 rfl ?_;refine rx ?_;refine JgY rfl rfl ?_;refine Yeo ?_;exact⟨rfl,Fr.refl _ _⟩
theorem Jlf{q q2:Nat}{N T S N2 T2 S2:List Nat}{P Q:Pp}{rs ts:List Rn}(w:World)(h:RcM w q N T S P rs)(k:RcM w q2 N2 T2 S2 Q ts)(hNS2:∀x∈N,x∈S2)(hr:rs.length<=100)(ht:ts.length<=100)(h5:P.reach.length<=253000)(h6:Q.reach.length<=253000):
 Calls prog 29 #[.pointer (some ⟨q,0,none⟩),.pointer (some ⟨q2,0,none⟩)] w fun e w'=>e=.returned (iV (mgE P Q))/\RcV w' q P (rsM P Q rs ts)/\Fr N w w':=by
 have hV:=h.v Yhn Yhn;have hV2:=k.v Yhn Yhn;have hNS:=RcM.NS h;obtain⟨vr,vs,xs,rfl,rfl,hnd,hMS,hb,hr1,hs,hw⟩:=h;obtain⟨nd1,nd2,nd3⟩:=Ji6 hnd;obtain⟨vr2,vs2,xs2,rfl,rfl,_,_,hb2,hr2,hs2,hw2⟩:=k;have o1:=hr1.one;have o2:=hr2.one;have o3:=hs.one;have o4:=hs2.one;obtain⟨aor,cr,rfl⟩:=hr1.slice;obtain⟨aor2,cr2,rfl⟩:=hr2.slice;have hR:∀{u:World},Fr [] w u->DR u [] (.l (P.reach.map brC)) (.slice aor P.reach.length cr):=fun hf=>JfS (hr1.tr0 hf) Yhn
 have hR2:∀{u:World},Fr [] w u->DR u [] (.l (Q.reach.map brC)) (.slice aor2 Q.reach.length cr2):=fun hf=>JfS (hr2.tr0 hf) Yhn
 refine enter func29 rfl ntmps29 rfl ?_;refine Yfs ?_;obtain⟨w1,hw1⟩:=exq w.drew;rw[<-hw1];have hS1:Fr [] w w1:=hw1▸Fr.drew _ _;refine Jj 0 1 2 3 hS1 ?_;refine Jj 4 5 6 7 hS1 ?_;by_cases c0:P.prop=Q.prop
 case neg=>
  refine Kw 8 hS1 ?_ (hrun:=by(intro u hu;exact(Jk7 (a:=P.prop) (b:=Q.prop) rfl rfl (SN c0))));refine Ylx ?_;refine Yeo ?_;have hno:¬Jk9 P Q:=fun h=>c0 h.1
  unfold mgE rsM;rw[SH hno,SH hno];exact Yma
 refine Kw 8 hS1 ?_ (hrun:=by(intro u hu;exact(Jk7 (a:=P.prop) (b:=Q.prop) rfl rfl (SG (fun h=>h c0)))));by_cases c1:P.checks=Q.checks
 case neg=>
  refine Ylx ?_;refine Yeo ?_;have hno:¬Jk9 P Q:=fun h=>c1 h.2.1
  unfold mgE rsM;rw[SH hno,SH hno];exact Yma
 by_cases c2:P.ncls=Q.ncls
 case neg=>
  refine Ylx ?_;refine Yeo ?_;have hno:¬Jk9 P Q:=fun h=>c2 h.2.2.1
  unfold mgE rsM;rw[SH hno,SH hno];exact Yma
 by_cases c3:P.reach.length=Q.reach.length
 case neg=>
  refine Ylx ?_;refine Yeo ?_;have hno:¬Jk9 P Q:=fun h=>c3 (by rw[h.2.2.2])
  unfold mgE rsM;rw[SH hno,SH hno];exact Yma
 refine Ylx ?_;have hb:=hb.tr0 hS1;have hb2:=hb2.tr0 hS1;refine rx ?_;refine Jh 7 [5] (σ:=Nat) (fun i g u=>g 5=iV (i:Nat)/\i<=P.reach.length/\(∀j (h1:j<P.reach.length) (h2:j<Q.reach.length),j<i->P.reach[j]=Q.reach[j])/\Fr [] w1 u) (fun i=>P.reach.length-i) 0 ⟨rfl,SL _,fun j h1 h2 h=>by omega,Fr.refl _ _⟩ ?_;rintro i g u ⟨g5,hi,hpre,hF⟩;rw[Ja g5];have hbu:=hb.tr0 hF;have hb2u:=hb2.tr0 hF;have hFw:=hS1.Jb hF;by_cases hlt:i<P.reach.length
 case pos=>
  have hlt2:i<Q.reach.length:=by omega
  obtain⟨ada,hada,hca⟩:=(hR hFw).br hlt;obtain⟨adb,hadb,hcb⟩:=(hR2 hFw).br hlt2;subst hada hadb;refine Ylk ?_;obtain⟨u1,hu1⟩:=exq u.drew;rw[<-hu1];have hS:Fr [] u u1:=hu1▸Fr.drew _ _;refine Jj 0 1 2 3 hS ?_;refine Jj 4 5 6 7 hS ?_;refine Jj 8 9 10 11 hS ?_;refine JX 12 13 hS ?_;by_cases he:P.reach[i]=Q.reach[i]
  . (apply XU (i:=14);exact rfl;kernel_rfl;kernel_rfl;kernel_rfl;(intro u hu;refine(JaP (a:=P.reach[i]) (b:=Q.reach[i]) ?_ ?_ (SG (fun h=>h he)));exact rfl;exact rfl);exact hS)
    exact Ylw
  . (apply XU (i:=14);exact rfl;kernel_rfl;kernel_rfl;kernel_rfl;(intro u hu;refine(JaP (a:=P.reach[i]) (b:=Q.reach[i]) ?_ ?_ (SN he));exact rfl;exact rfl);exact hS)
    refine Yfx ?_;refine Yeo ?_;have hno:¬Jk9 P Q:=fun h=>he (by have:=h.2.2.2;simp only[this])
    unfold mgE rsM;rw[SH hno,SH hno];exact⟨rfl,hV.tr0 (hFw.Jb hS),(hFw.Jb hS).mono Yhs⟩
 have hyes:Jk9 P Q:=⟨c0,c1,c2,Ew c3 (fun j h1 h2=>hpre j h1 h2 Yhn)⟩;have hsu:=hs.tr0 hFw;have hs2u:=hs2.tr0 hFw;have hlx:=hs.len;have hlx2:=hs2.len;have hx1:∀u∈xs,u.oneCell'=true:=Rws.mem1 (fun x cs h=>Jlj x cs h) hw;have hx2:∀u∈xs2,u.oneCell'=true:=Rws.mem1 (fun x cs h=>Jlj x cs h) hw2;obtain⟨aos,cs,rfl⟩:=hs.slice;obtain⟨aos2,cs2,rfl⟩:=hs2.slice;refine rx ?_;refine JC (Own.nil u 41 5) rfl hsu.src rfl hlx hx1 Yhv Yhn (fun v3 u3 ho3 hf3 hk3 _=>?_);have hf3:Fr [] u u3:=hf3.mono (fun x hx=>by simp[blks,Value.ownBlock]at hx);have hbu:=hbu.tr0 hf3;have hb2u:=hb2u.tr0 hf3;have hsz:=hFw.size;have h31:=ho3.one;obtain⟨ao3,c3',rfl⟩:=ho3.slice;refine rx ?_;refine JC ho3 rfl (hs2u.tr0 hf3).src rfl hlx2 hx2 Yhv Yhn (fun v4 u4 ho4 hf4 hk4 _=>?_);have hge3:∀x∈blks (Value.slice ao3 (0+rs.length) c3'),u.heap.size<=x:=fun x hx=>by
  rcases hk3 x hx with h|h
  .simp [blks,Value.ownBlock]at h
  .exact h
 have hsz3:=hf3.size;have hge4:∀x∈blks v4,u.heap.size<=x:=fun x hx=>by
  rcases hk4 x hx with h|h
  .exact hge3 x h
  .omega
 have hql:=hb.lt;have hql1:=hS1.size;have hqu:=hbu.lt;have hq0:q<u.heap.size:=(hb.tr0 hF).lt;have hF4:Fr [] w u4:=(hFw.Jb hf3).trans hf4 (fun x hx=>.inr (by have:=hge3 x hx;omega));have hb4:=hbu.tr hf4 (fun hm=>by have:=hge3 _ hm;omega);have h41:=ho4.one;refine rx ?_
 ((with_reducible apply Ji);exact rfl;(conv=>lhs;whnf);exact h41;exact hb4;exact rfl)
 intro u5 hb5 hf5 hs5;replace hb5:Blk u5 q [.string P.prop,iV (P.checks:Nat),iV (P.ncls:Nat),.slice aor P.reach.length cr,v4] _:=hb5;refine Yeo ?_;have hF5:Fr ([q]++blks (Value.slice aos rs.length cs)) w u5:=(hF4.mono (fun x hx=>by simp at hx)).trans hf5 (fun x hx=>.inl (SA _ hx));unfold mgE rsM;rw[Cb hyes,Cb hyes];refine⟨rfl,⟨_,v4,hb5,?_,?_⟩,hF5⟩
 .exact JfS (hr1.tr hF5 (fun x hx hm=>by
   rcases SE.1 hm with h|h
   .rw [Sv.1 h]at hx;exact nd2 hx
   .exact nd3 x h hx)) Yhn
 .have ho5:=ho4.tr hf5 (fun x hx hm=>by have:=hge4 x hx;rw[Sv.1 hm]at this;omega);have hN:∀x∈[q]++blks (Value.slice aos rs.length cs),x∈S2\/w.heap.size<=x:=fun x hx=>.inl (hNS2 x hx)
  have hN1:∀x∈[q]++blks (Value.slice aos rs.length cs),x∈S\/w.heap.size<=x:=fun x hx=>.inl (hMS x hx)
  refine DR.ofTyped (k:=5) (fun _=>rfl) (by rw[Sm];omega) ⟨([]++xs)++xs2,?_,fun ad n c e _ hm=>by simp at hm,?_⟩
  .rw [Sm];simpa using ho5.src
  .rw [CO];exact(hw.imp (fun r cs _ h=>(h.old hF5 hN1).mono Yhs)).app (hw2.imp (fun r cs _ h=>(h.old hF5 hN).mono Yhs))
end
section
open Go.Proofs.Tryz
open Go.Rf Go.RowKit
variable{M R:List Nat}{p:Nat}{P:Pp}{u:World}
theorem Jli{ms:List Int}{a:Int}{n:Nat}(hP:SmP P):∀r∈rsF P ms a n,(r.bs.length<=5/\∀b∈r.bs,BrK b)/\r.cl.length<=P.ncls+1:=fun r hr=>by
 obtain⟨j,_,rfl⟩:=Du.1 hr;exact⟨⟨Jfh,JgR hP⟩,Jfg⟩
theorem Bo.reS{q:Nat}{N T S S':List Nat}(h:Bo u p q M R N T S P [])(hM:∀x∈M,x∈S')(hN:∀x∈N,x∈S')(hS:∀x∈S',x<u.heap.size):Bo u p q M R N T S' P []:=⟨h.1,RcM.JkQ h.2.1 hN,hM,h.2.2.2.1,hS⟩
theorem Jlv{rs:List Rn}(hC:Wj u p M R P (J6 P.ncls rs))(hP:SmP P)(hr:SmR rs):
 Calls prog 27 #[.pointer (some ⟨p,0,none⟩)] u fun e u'=>∃v,e=.returned v/\Own u' 5 1 v (U0 P.prop (J6 P.ncls rs)).length ((U0 P.prop (J6 P.ncls rs)).map (.int .u8))/\Fr [] u u'/\(∀x∈blks v,u.heap.size<=x):=by
 have hok:StOk P (J6 P.ncls rs):=by obtain⟨_,_,_,_,_,_,_,_,_,_,_,_,_,_,_,_,h⟩:=hC;exact h
 have h0:=hP.ncls;have h1:=hok.ncls;have h2:=hr.ks (n:=P.ncls);have h3:=hr.1;have h4:=hP.prop;have h5:(J6 P.ncls rs).runs<=1000000:=by show rs.length<=_;omega
 exact JhG u hC Yhn Yhn Yhn h5 Yhn (fun b hb=>JcP (h2.2.2 b hb)) (Jjh hP hok h5 h2.1 h2.2.1 h2.2.2)
theorem Jlm{rs:List Rn}(hP:SmP P)(hr:SmR rs)(hok:StOk P (J6 P.ncls rs)):(U0 P.prop (J6 P.ncls rs)).length<=1000000000:=by
 have h2:=hr.ks (n:=P.ncls);have h3:=hr.1;exact Jjh hP hok (by show rs.length<=_;omega) h2.1 h2.2.1 h2.2.2
attribute [local irreducible] Code.wp wpList Exit.then Exit.inBlock bodyPost A Calls execOp Addr.add
theorem Jk8(x:Value)(l:List Int)(y:Value)(ms:List Int)(k:Int)(j:Int)(at_:Int)(by_:Int)(w:World)(hx:Src w x l.length (l.map (.int .i64)))(hl:∀n∈l,VE n)(hy:Src w y ms.length (ms.map (.int .i64)))(hms:∀n∈ms,VE n)(hk:VE k)(hj:VE j)(hat:VE at_)(hby:VE by_)(hxb:l.length*8<=140737488351232):
 Calls prog 5 #[x,y,iV k,iV j,iV at_,iV by_] w fun e w'=>e=.returned (.bool true)/\Fr [] w w':=by
 obtain⟨ax,cx,rfl,hxc,_⟩:=id hx;obtain⟨ay,cy,rfl,_⟩:=id hy;refine enter func5 rfl ntmps5 rfl ?_;refine rx ?_;refine JiH (Jhp _ l w hx hl) ?_;rintro ds v w1 ⟨hD,hf1,hm⟩;obtain⟨av,cv,rfl,_⟩:=hD.slice;refine rx ?_;refine Jm (l:=[zS]) rfl (fun w2 b13 hb13 h13 hf2 hs2=>?_);refine rx ?_;refine Jd (cs:=[.slice av (ds.map deC).length cv]) rfl rfl h13 Yhu rfl rfl (fun w3 h13 hf3 hs3=>?_);have hf13:Fr [] w1 w3:=hf2.trans hf3 (fun x hx=>.inr Yhq);have hD:=hD.tr0 hf13;have hD0:=hD;have hF3:=hf1.Jb hf13;refine rx ?_;refine Qr (fun w4 ho4 hf4 hs4=>?_);have h13:=h13.tr0 hf4;have hD:=hD.tr0 hf4;have hF4:=hF3.Jb hf4;refine rx ?_;refine JC ho4 rfl (hx.tr0 hF4) rfl Yhs (Jlg l) Yhv Yhn (fun v14 w5 ho5 hf5 hk5 _=>?_);have hs34:=hf4.size;have hF5:Fr [] w w5:=hF4.trans hf5 (fun x hx=>.inr (by simp[blks,Value.ownBlock]at hx;have:=hF3.size;omega));have h13lt:=h13.lt;have hk5':∀x∈blks v14,w3.heap.size<=x:=fun x hx=>by
  rcases hk5 x hx with h|h
  .simp [blks,Value.ownBlock]at h;omega
  .omega
 have hb0:∀{y:Nat},y<w3.heap.size->y∉blks (Value.slice (some ⟨w3.heap.size,0,none⟩) 0 0):=fun h hm=>by simp[blks,Value.ownBlock]at hm;omega
 have h13':=h13;have hlt13:b13<w3.heap.size:=by omega
 have h13:=h13.tr hf5 (hb0 hlt13);have hf15:Fr [] w3 w5:=hf4.trans hf5 (fun x hx=>.inr Ymb);have hv14:=ho5.one;rw[Di,CO]at ho5;obtain⟨ao14,c14,rfl⟩:=ho5.slice;have hs35:=hf15.size;refine Yfa ?_;refine wp_seq ?_;refine KZ 23 [15] (fun g u=>∃l':List Int,l'.length=l.length/\Own u 3 1 (.slice ao14 l.length c14) l.length (l'.map (.int .i64))/\(∀n∈l',VE n)/\Fr (blks (Value.slice ao14 l.length c14)) w5 u) ?_ ?_
 .by_cases hl0:0<l.length
  case neg=>
   refine rx ?_;exact JK Yhl ⟨l,rfl,ho5,hl,Fr.refl _ _⟩
  refine rx ?_;refine Jg (around at_ (l.length:Nat) w5 hat.1 hat.2 Yhn) ?_;rintro _ rfl;have hir:=BI (a:=at_) (m:=(l.length:Nat)) Yhn;obtain⟨i,hi⟩:∃i:Nat,(i:Int)=Jbq at_ (l.length:Nat):=⟨(Jbq at_ (l.length:Nat)).toNat,Et hir.1⟩;rw[<-hi]at hir ⊢;have hil:i<l.length:=by omega
  have hli:=hl _ (Cj hil);refine rx ?_;refine Kr 9 (fun z=>Fr [] w5 z) Yhp rfl ?_;obtain⟨u,hu0⟩:=exq w5.drew;rw[<-hu0];have hS:Fr [] w5 u:=hu0▸Fr.drew _ _;obtain⟨ad,had,_⟩:=KO ho5.src (WS hil);have hcell:∀{z:World},Fr [] w5 z->z.cell? (ad.add i)=some (iV l[i]):=fun hf=>by
   obtain⟨ad',h1,h2⟩:=KO (ho5.tr0 hf).src (WS hil);rw[had]at h1;obtain rfl:=Dl h1;exact h2
  subst had
  ((refine Jp 0 hS ?_);(refine Jp 1 hS ?_);(refine Jp 2 hS ?_);(refine Jp 3 hS ?_);(refine Jp 4 hS ?_))
  refine Jp 5 hS ?_ (hrun:=(by intro u hu;exact(J7 rfl Ylu)))
  ((refine Jp 6 hS ?_))
  refine Ygm ?_;refine Jg (around by_ 3 u hby.1 hby.2 Yhy) ?_;rintro _ rfl;refine Yhe ?_;refine Jp 8 hS ?_ (hrun:=(by intro u hu;exact(Jia rfl rfl rfl)));refine KH (i:=9) rfl Yhp ?_;refine BZ rfl rfl rfl hil rfl ?_;refine Ygp ?_;refine Ygo ?_;refine JcW (ho5.tr0 hS) rfl hil rfl rfl rfl (fun u2 ho2 hf2 hs2=>?_);refine Yeu ?_;refine JK Yhl ⟨l.set i (IntKind.i64.wrap (l[i]+Jbq by_ 3)),List.length_set,?_,fun n hn=>?_,(hS.mono Yhs).trans hf2 (fun x hx=>.inl hx)⟩
  .rw [List.map_set];exact ho2
  .rcases List.mem_or_eq_of_mem_set hn with h|h
   .exact hl n h
   .rw [h];exact wrap_in _
 rintro g u ⟨l',hl'n,ho',hl',hf'⟩;have nb14:∀{y:Nat},y<w3.heap.size->y∉blks (Value.slice ao14 l.length c14):=fun h hm=>by have:=hk5' _ hm;omega
 have h13u:=h13.tr hf' (nb14 hlt13);have hf3u:Fr [] w3 u:=hf15.trans hf' (fun x hx=>.inr (hk5' x hx));have hDu:=hD0.tr0 hf3u;have hFu:=hF3.Jb hf3u;clear hf' ho5 hv14 h13 h13';refine rx ?_;refine s_call (Jjx ds k _ u _ hk hm hDu) rfl ?_;rintro _ w6 ⟨d,p,M,R,q,N,T,hfd,rfl,hC,hQ,hMR,hNT,hdis,hf6⟩;refine⟨_,rfl,?_⟩;have hP:=Jix hm hfd;obtain⟨P,hPe⟩:=exq (Jc6 ds (Xm ds k) d);have hasc:Asc ltB P.reach:=by rw[hPe];exact QA Qu _
 have hPn:d.classes.length=P.ncls:=by rw[hPe];rfl
 rw[<-hPe]at hP hC hQ;clear hPe;have ho6:=ho'.tr0 hf6;have hF6:=hFu.Jb hf6;have hs6u:=hf6.size;have hlM:∀x∈M++R,x<w6.heap.size:=hC.lt;have hlN:∀x∈N++T,x<w6.heap.size:=hQ.lt;have hsu:=hFu.size;rw[<-hl'n]at ho6;refine rx ?_;refine JiH (Jhp _ l' w6 (by rw[hl'n];rw[hl'n]at ho6;exact ho6.src) hl') ?_;rintro ds2 v2 w7 ⟨hD2,hf7,hm2⟩;obtain⟨av2,cv2,rfl,_⟩:=hD2.slice;have hF7:=hF6.Jb hf7;refine rx ?_;refine s_call (Jjx ds2 j _ w7 _ hj hm2 hD2) rfl ?_;rintro _ w8 ⟨d2,p2,M2,R2,q2,N2,T2,hfd2,rfl,hC2,hQ2,hMR2,hNT2,hdis2,hf8⟩;refine⟨_,rfl,?_⟩;have hP2:=Jix hm2 hfd2;obtain⟨P2,hPe2⟩:=exq (Jc6 ds2 (Xm ds2 j) d2);have hPn2:d2.classes.length=P2.ncls:=by rw[hPe2];rfl
 rw[<-hPe2]at hP2 hC2 hQ2;clear hPe2;have hF8:=hF7.Jb hf8;have hf68:=hf7.Jb hf8;have hlM2:∀x∈M2++R2,x<w8.heap.size:=hC2.lt;have hlN2:∀x∈N2++T2,x<w8.heap.size:=hQ2.lt;have hs67:=hf7.size;have hs68:=hf68.size;have a1:∀x∈M++N,u.heap.size<=x/\x<w6.heap.size:=fun x hx=>by
  rcases SE.1 hx with h|h
  .exact ⟨hMR x (SA _ h),hlM x (SA _ h)⟩
  .exact ⟨hNT x (SA _ h),hlN x (SA _ h)⟩
 have a2:∀x∈M2++N2,w7.heap.size<=x/\x<w8.heap.size:=fun x hx=>by
  rcases SE.1 hx with h|h
  .exact ⟨hMR2 x (SA _ h),hlM2 x (SA _ h)⟩
  .exact ⟨hNT2 x (SA _ h),hlN2 x (SA _ h)⟩
 have hB1:=Bo.beg hPn (hC.tr0 hf68) (hQ.tr0 hf68) hdis (M2++N2) (fun x hx=>(a2 x hx).2);have hB2:=Bo.beg hPn2 hC2 hQ2 hdis2 (M++N) (fun x hx=>by have:=a1 x hx;omega);have e1:∀x∈M++R,u.heap.size<=x/\x<w6.heap.size:=fun x hx=>⟨hMR x hx,hlM x hx⟩
 have e2:∀x∈N++T,u.heap.size<=x/\x<w6.heap.size:=fun x hx=>⟨hNT x hx,hlN x hx⟩
 have e3:∀x∈M2++R2,w7.heap.size<=x:=fun x hx=>hMR2 x hx
 have e4:∀x∈N2++T2,w7.heap.size<=x:=fun x hx=>hNT2 x hx
 have hR2lt:∀x∈R2,x<w8.heap.size:=fun x hx=>hlM2 x (CJ _ hx)
 clear hC hQ hC2 hQ2 hD hD0 hDu hD2 ho6 ho' hMR hNT hMR2 hNT2 hlM hlN hdis hdis2 hx;have hp1:=hP.checks;have hp2:=hP.ncls;have hp3:=hP.reach;have hp4:=hP2.checks;have hp5:=hP2.ncls;have hp6:=hP2.reach;refine rx ?_;refine Jg (Jle _ ms 0 4 w w8 hB1 hP hF8 (fun x hx=>by have:=a1 x hx;omega) hy hms Yhn Yhn Yhs) ?_;rintro w9 ⟨N',S',hB1,hf9,hN',hS'⟩;rw[CO]at hB1;have hB2:=hB2.tr hf9 (fun x hx hm=>by have:=a1 x hm;have:=e3 x hx;omega) (fun x hx hm=>by have:=a1 x hm;have:=e4 x hx;omega) (fun x hx=>.inl (CJ _ hx));have hB2:=Bo.reS hB2 (S':=M2++N2++(M++N')) (fun x hx=>by simp[hx]) (fun x hx=>by simp[hx]) (fun x hx=>by
  have hs9:=hf9.size;rcases SE.1 hx with h|h
  .have:=a2 x h;omega
  .rcases SE.1 h with h|h
   .have:=a1 x (SA _ h);omega
   .exact hB1.2.1.lt x (SA _ h))
 have hF9:Fr [] w w9:=hF8.trans hf9 (fun x hx=>.inr (by have:=a1 x hx;omega));refine rx ?_;refine Jg (Jle _ ms 50 3 w w9 hB2 hP2 hF9 (fun x hx=>by have:=a2 x hx;omega) hy hms Yhn Yhn Yhs) ?_;rintro w10 ⟨N2',S2',hB2,hf10,hN2',hS2'⟩;rw[CO]at hB2;have hs9:=hf9.size;have hs10:=hf10.size;have hB1lt:∀x∈N',x<w9.heap.size:=fun x hx=>hB1.2.1.lt x (SA _ hx)
 have hR2N:∀x∈R2,x∉N':=fun x hx hm=>by
  have h1:=e3 x (CJ _ hx);have h2:=hR2lt x hx;rcases hN' x hm with h|h
  .have:=a1 x (CJ _ h);omega
  .omega
 have hN'o:∀x∈N',x∉M2++N2:=fun x hx hm=>by
  have:=a2 x hm;rcases hN' x hx with h|h
  .have:=a1 x (CJ _ h);omega
  .omega
 have hB1:=hB1.tr hf10 (fun x hx hm=>by have:=a2 x hm;have:=e1 x hx;omega) (fun x hx hm=>by
  rcases SE.1 hx with h|h
  .exact hN'o x h hm
  .have:=a2 x hm;have:=e2 x (CJ _ h);omega) (fun x hx=>.inl (hS' x (CJ _ hx)))
 have hF10:Fr [] w w10:=hF9.trans hf10 (fun x hx=>.inr (by have:=a2 x hx;omega));obtain⟨rs,hrs⟩:=exq (rsF P ms 0 4);obtain⟨ts,hts⟩:=exq (rsF P2 ms 50 3);have hrl:rs.length=4:=by rw[hrs,Jla]
 have htl:ts.length=3:=by rw[hts,Jla]
 have hrq:∀r∈rs,(r.bs.length<=5/\∀b∈r.bs,BrK b)/\r.cl.length<=17:=fun r hr=>by rw[hrs]at hr;have:=Jli hP r hr;exact⟨this.1,by omega⟩
 have htq:∀r∈ts,(r.bs.length<=5/\∀b∈r.bs,BrK b)/\r.cl.length<=17:=fun r hr=>by rw[hts]at hr;have:=Jli hP2 r hr;exact⟨this.1,by omega⟩
 rw[<-hrs]at hB1;rw[<-hts]at hB2;clear hrs hts;have htR:SmR ts:=⟨by omega,fun r hr=>(htq r hr).1⟩;have hok2:StOk P2 (J6 P2.ncls ts):=by obtain⟨_,_,_,_,_,_,_,_,_,_,_,_,_,_,_,_,h⟩:=hB2.1;exact h
 have hel:=Jlm hP2 htR hok2;refine rx ?_;refine Jl (Jlv hB2.1 hP2 htR) ?_;rintro vE w11 ⟨hE,hf11,hEg⟩;obtain⟨aoE,cE,rfl⟩:=hE.slice;have hB1:=hB1.tr0 hf11;have hB2:=hB2.tr0 hf11;have hF11:=hF10.Jb hf11;have hs11:=hf11.size;refine rx ?_;refine Jg (Jlr w11 hB1.1 hB2.1 Yhn Yhn Yhn Yhn Yhn Yhn Yhn) ?_;rintro w12 ⟨hC12,hf12⟩;have hQ12:=hB1.cov hf12;have m1:∀x∈M,u.heap.size<=x/\x<w6.heap.size:=fun x hx=>a1 x (SA _ hx)
 have hB2:=hB2.tr hf12 (fun x hx hm=>by have:=m1 x hm;have:=e3 x hx;omega) (fun x hx hm=>by
  have:=m1 x hm;rcases SE.1 hx with h|h
  .rcases hN2' x h with h|h
   .have:=a2 x (CJ _ h);omega
   .omega
  .have:=e4 x (CJ _ h);omega) (fun x hx=>.inl (hS2' x (CJ _ (SA _ hx))))
 have hE:=hE.tr hf12 (fun x hx hm=>by have:=m1 x hm;have:=hEg x hx;omega);have hF12:Fr [] w w12:=hF11.trans hf12 (fun x hx=>.inr (by have:=m1 x hx;omega));refine rx ?_;refine Jg (Jlf w12 hQ12 hB2.2.1 (fun x hx=>hS2' x Yix) Yhn Yhn Yhn Yhn) ?_;rintro w13 ⟨hQ13,hf13'⟩;have n1:∀x∈N',u.heap.size<=x/\x<w9.heap.size/\x∉M2++N2:=fun x hx=>⟨by
  rcases hN' x hx with h|h
  .have:=a1 x (CJ _ h);omega
  .omega,hB1lt x hx,hN'o x hx⟩
 have hs12:=hf12.size;have hC13:=hC12.tr hf13' (fun x hx hm=>hB1.2.2.2.1 x (SA _ hm) hx);have hC2:=hB2.1.tr hf13' (fun x hx hm=>by
  have h1:=n1 x hm;rcases SE.1 hx with h|h
  .exact h1.2.2 (SA _ h)
  .exact hR2N x h hm)
 have hE:=hE.tr hf13' (fun x hx hm=>by have:=(n1 x hm).2.1;have:=hEg x hx;omega);have hF13:Fr [] w w13:=hF12.trans hf13' (fun x hx=>.inr (by have:=n1 x hx;omega));obtain⟨mg,hmg⟩:=exq (mgE P P2);rw[<-hmg];obtain⟨us,hus⟩:=exq (rsM P P2 rs ts);rw[<-hus]at hC13 hQ13;have huq:us.length<=7/\∀r∈us,(r.bs.length<=5/\∀b∈r.bs,BrK b)/\r.cl.length<=17:=by
  rw[hus];unfold rsM
  split
  .refine ⟨by rw[Sm];omega,fun r hr=>?_⟩;rcases SE.1 hr with h|h
   .exact hrq r h
   .exact htq r h
  .exact ⟨by omega,hrq⟩
 clear hus hmg hB1 hB2;have huR:SmR us:=⟨by have:=huq.1;omega,fun r hr=>(huq.2 r hr).1⟩;have huc:∀r∈us,r.cl.length<=1000000:=fun r hr=>by have:=(huq.2 r hr).2;omega
 refine rx ?_;refine Jg (JjP w13 hC13 hQ13 hP huR huc hasc) ?_;rintro w14 hf14;have hC2:=hC2.tr0 hf14;have hE:=hE.tr0 hf14;have hF14:=hF13.Jb hf14;refine rx ?_;refine Jl (Jlv hC2 hP2 htR) ?_;rintro vG w15 ⟨hG,hf15',_⟩;obtain⟨aoG,cG,rfl⟩:=hG.slice;refine rx ?_;refine Jg (Jeo _ _ _ _ w15 (hE.tr0 hf15').src hG.src Yhn) ?_;rintro w16 hf16;rw[SN rfl];have hf316:=(hf14.Jb hf15').Jb hf16;have hF16:=hF13.Jb hf316;refine rx ?_;refine Jg (Jlk w16) ?_;rintro w16 hf16b;have hf316:=hf316.Jb hf16b;have hF16:=hF16.Jb hf16b;refine rx ?_;refine Jg (JjP w16 (hC13.tr0 hf316) (hQ13.tr0 hf316) hP huR huc hasc) ?_;rintro w17 hf17;refine rx ?_;refine Jg (Jjb w17) ?_;rintro w18 hf18;refine Yeo ?_;exact⟨rfl,(hF16.Jb hf17).Jb hf18⟩
end
section
open Go.Rf Go.RowKit
theorem wf_i64{n:Int}(h:(Lit.int .i64 n).wf=true):VE n:=by
 have: -9223372036854775808<=n/\n<=9223372036854775807:=by simpa[Lit.wf,IntKind.min,IntKind.max,IntKind.signed,IntKind.bits]using h
 exact this
theorem JbA{W:World}{k:IntKind}{x:Addr}{len cap:Nat}{zs:List Int}(hl:len<=cap)(hz:zs.length=cap)(hcell:∀i,i<zs.length->W.cell? (x.add i)=some (.int k (zs.getD i 0)))(hw:∀n∈zs,(Lit.int k n).wf=true):
 ∃xs:List Int,Src W (.slice (some x) len cap) xs.length (xs.map (.int k))/\∀n∈xs,(Lit.int k n).wf=true:=by
 have e:(zs.take len).length=len:=by simp;omega
 refine⟨zs.take len,⟨some x,cap,by rw[e],by rw[e];exact hl,fun h=>Yiw,?_⟩,fun n hn=>hw n (E5 hn)⟩;intro ad ha j u hu;simp only[Sj]at ha;subst ha;rw[ET]at hu;obtain⟨z,hz1,rfl⟩:=DK.1 hu;obtain⟨hj,hz2⟩:=Df.1 hz1;have hj2:j<zs.length:=by simp at hj;omega
 rw[hcell j hj2];rw[FU]at hz2;simp[List.getD,hj2,hz2]
end
end Go.Proofs.YtggmccicdhnkgaaGreat
