/-
 From the readings of arguments to the walks' premises.
-/
import Derived.Test.YtggmccicdhnkgaaGreatWJz
import Derived.Test.YtggmccicdhnkgaaGreatWMs
import Derived.Test.YtggmccicdhnkgaaGreatWJd
import Derived.Test.YtggmccicdhnkgaaGreatWJw
import Derived.Test.YtggmccicdhnkgaaGreatWQf
import Derived.Test.YtggmccicdhnkgaaGreatWRf1
import Derived.OpenShut
import Derived.ShutString
import Derived.ChangeOld
set_option linter.all false
set_option maxHeartbeats 64000000
namespace Go.Rf
open Go.RowKit
structure Hid (Q:Prop):Prop where
 o:Q
end Go.Rf
namespace Go.Proofs.YtggmccicdhnkgaaGreat
open Go.Proofs.Tryz
open Go.Rf Go.RowKit
section
def Jmf(w:World)(ds:List De)(nm:ByteArray)(bs:List Int)(e:Ending)(w':World):Prop:=Fr [] w w'/\match fdD ds 3 nm with
 |none=>e=.returned (.tuple #[.pointer none,.int .i64 6])
 |some d=>match JlX bs with
  |none=>e=.returned (.tuple #[.pointer none,.int .i64 2])
  |some (q,s)=>if q=nm/\s.cls.length=d.classes.length then∃p M R,e=.returned (.tuple #[.pointer (some ⟨p,0,none⟩),.int .i64 0])/\Wj w' p M R ⟨nm,d.checks.length,d.classes.length,JM ltB (KX ds nm)⟩ s/\(∀x∈M++R,w.heap.size<=x)
   else e=.returned (.tuple #[.pointer none,iV 22])
attribute [local irreducible] Code.wp wpList Exit.then Exit.inBlock bodyPost A Calls execOp Addr.add
theorem Jm4(ds:List De)(nm:ByteArray)(v0 x:Value)(bs:List Int)(w:World)(S0:List Nat)(hsz:∀d∈ds,SzD d)(hl:ds.length<=50)(hd:DR w S0 (.l (ds.map deC)) v0)(hx:Src w x bs.length (bs.map (.int .u8)))(hB:Bys bs)(hL:bs.length<=1000000000):
 Calls prog 36 #[.agg ([v0]:List Value).toArray,.string nm,x] w (Jmf w ds nm bs):=by
 have h01:=hd.one;obtain⟨aox,cx,rfl,_⟩:=id hx;refine enter func36 rfl ntmps36 rfl ?_;refine rx ?_;refine Ju (l:=[v0]) rfl rfl (fun w1 b3 hb3e hb3 hf1 hs1=>?_);refine rx ?_;refine s_call (newC ds nm v0 w1 S0 hsz hl (hd.tr0 hf1)) rfl ?_;rintro en w2 ⟨hf2,hnew⟩;have hF2:=hf1.Jb hf2;cases hfd:fdD ds 3 nm with
 |none=>
  rw[hfd]at hnew;simp only at hnew;subst hnew;refine⟨_,rfl,?_⟩;refine Ymt ?_;unfold Jmf;rw[hfd];exact⟨hF2,rfl⟩
 |some d=>
 rw[hfd]at hnew;simp only at hnew;obtain⟨p,M,R,rfl,hC,hMR⟩:=hnew;have hcl0:(J6 d.classes.length []).cls.length=d.classes.length:=by simp[J6]
 obtain⟨s0,hs0⟩:=exq (J6 d.classes.length []);obtain⟨rl,hrl⟩:=exq (JM ltB (KX ds nm));obtain⟨nc,hnc⟩:=exq d.classes.length;obtain⟨nk,hnk⟩:=exq d.checks.length;rw[<-hs0,<-hrl,<-hnc,<-hnk]at hC;rw[<-hs0,<-hnc]at hcl0;clear hs0;refine⟨_,rfl,?_⟩;refine rx ?_;refine JiH (Jnx _ bs w2 (hx.tr0 hF2) hB Yhn) ?_;rintro r v3 w3 ⟨hR3,hf3,hr3,hv3,hO3⟩;refine rx ?_;refine JF [.pointer (some ⟨r,0,none⟩),iV (bs.length:Nat),.bool false] rfl ?_;refine Ju (l:=[.pointer (some ⟨r,0,none⟩),iV (bs.length:Nat),.bool false]) rfl rfl (fun w4 dd hdd hb4 hf4 hs4=>?_);have hf24:=hf3.Jb hf4;have hF4:=hF2.Jb hf24;have hC4:=hC.tr0 hf24;have hrlt:=hR3.1.lt;have hI:∃B,IsC w4 dd r B v3 bs.length ⟨bs,0,false⟩:=by
  obtain⟨ao,c,rfl⟩:=hO3.slice;cases ao with
  |none=>exact⟨r,hb4,⟨hR3.1.tr0 hf4,hR3.2.1.tr0 hf4,hR3.2.2⟩,(fun ad n c e=>by cases e),by omega,by rw[hs4];omega⟩
  |some ad=>
   have:=hO3.lt ad.block Yic;exact⟨ad.block,hb4,⟨hR3.1.tr0 hf4,hR3.2.1.tr0 hf4,hR3.2.2⟩,(fun ad' n c' e=>by cases e;rfl),by omega,by rw[hs4];omega⟩
 obtain⟨B,hI⟩:=hI;refine rx ?_;refine s_call (JnH hI hL) rfl ?_;rintro _ w5 ⟨p2,bb,pb,vc,v5,rfl,hI5,hf5,hp2,hbb,hpb,hvc,hnd,hP,hO,hgo⟩;refine⟨_,rfl,?_⟩;have hs2:=hF2.size;have hs24:=hf24.size;have hs23:=hf3.size;have hF5:Fr [] w w5:=hF4.trans hf5 (fun x hx=>.inr (by simp at hx;omega));have hdI:=hI5.1;have hds:(d4 bs).2.bad=false->JlJ (d4 bs).2.bs (d4 bs).2.e=0->JlX bs=some ((d1 bs).1.prop,stC (d1 bs).1 (d2 bs).1 (d3 bs).1 (d4 bs).1):=fun h1 h2=>by unfold JlX;rw[SH (by simp[h1,h2])]
 have hdn:(d4 bs).2.bad=true\/JlJ (d4 bs).2.bs (d4 bs).2.e≠0->JlX bs=none:=fun h=>by unfold JlX;rw[Cb h]
 obtain⟨q4,e4⟩:=exq ((d4 bs).2);obtain⟨x1,e1⟩:=exq ((d1 bs).1);obtain⟨x2,e2⟩:=exq ((d2 bs).1);obtain⟨x3,e3⟩:=exq ((d3 bs).1);obtain⟨x4,e5⟩:=exq ((d4 bs).1);rw[<-e4]at hI5 hgo hds hdn;rw[<-e1]at hP hds;rw[<-e2]at hO hds;rw[<-e3,<-e5]at hgo hds;rw[<-e4]at hdI;clear e4 e1 e2 e3 e5;refine rx ?_;refine Jg (JnG r v5 _ _ w5 hI5.2.1) ?_;rintro _ rfl;obtain⟨re,hre⟩:=exq (JlJ q4.bs q4.e);rw[<-hre]at hds hdn ⊢;by_cases he:re=0
 case neg=>
  refine Ymt ?_;unfold Jmf;rw[hfd,hdn (.inr he)];exact⟨hF5,rfl⟩
 cases hbad:q4.bad with
 |true=>
  rw[hbad]at hdI;refine Ymt ?_;unfold Jmf;rw[hfd,hdn (.inl hbad)];exact⟨hF5,rfl⟩
 |false=>
 rw[hbad]at hdI;refine rx ?_;have hdec:=hds hbad he;have hdok:=JmL hB hdec;obtain⟨⟨mb,hMB,hRB⟩,mp,hMP,hRP⟩:=hgo hbad;replace hdec:=Hid.mk hdec;replace hdok:=Hid.mk hdok;replace hRB:=Hid.mk hRB;replace hRP:=Hid.mk hRP;clear hds hdn hgo;have hMlt:=hC.lt;have hof:∀x∈M++R,x∉[dd,r]:=fun x hx hm=>by
  have:=hMlt x hx;simp at hm;omega
 have hC5:=hC4.tr hf5 hof;obtain⟨bb0,pb0,vr,vc0,mb0,mp0,rfl,rfl,hnd0,hP0,hr0,hc0,_,_,_,_,_⟩:=hC5;have hvc1:=hO.one;obtain⟨aoc,cc,rfl⟩:=hO.slice;obtain⟨aoc0,cc0,rfl⟩:=hc0.slice;rw[hcl0]at hP0 hc0;have hp0lt:p<w2.heap.size:=hMlt p Yhs;have hpp:p2≠p:=by omega
 by_cases hq:x1.prop=nm
 case neg=>
  refine Ynd ?_;obtain⟨w6,hw6⟩:=exq w5.drew;rw[<-hw6];have hS:Fr [] w5 w6:=hw6▸Fr.drew _ _;refine Jj 0 1 2 3 hS ?_;refine Jj 4 5 6 7 hS ?_;refine Kw 8 hS ?_ (hrun:=by(intro u hu;exact(Jk7 (a:=x1.prop) (b:=nm) rfl rfl (SN hq))));refine Yng ?_;refine Yev ?_;refine Yhd ?_;unfold Jmf;rw[hfd,hdec.o];refine⟨hF5.Jb hS,?_⟩;show ite (x1.prop=nm/\x2.length=d.classes.length) _ _;rw[SH (fun h=>hq h.1)]
 by_cases hn:x2.length=nc
 case neg=>
  refine Ynd ?_;obtain⟨w6,hw6⟩:=exq w5.drew;rw[<-hw6];have hS:Fr [] w5 w6:=hw6▸Fr.drew _ _;refine Jj 0 1 2 3 hS ?_;refine Jj 4 5 6 7 hS ?_;refine Kw 8 hS ?_ (hrun:=by(intro u hu;exact(Jk7 (a:=x1.prop) (b:=nm) rfl rfl (SG (fun h=>h hq)))));refine Yng ?_;refine Yev ?_;refine Yhd ?_;unfold Jmf;rw[hfd,hdec.o];refine⟨hF5.Jb hS,?_⟩;show ite (x1.prop=nm/\x2.length=d.classes.length) _ _;rw[SH (fun h=>hn (h.2.trans hnc.symm))]
 refine Ynd ?_;obtain⟨w6,hw6⟩:=exq w5.drew;rw[<-hw6];have hS:Fr [] w5 w6:=hw6▸Fr.drew _ _;refine Jj 0 1 2 3 hS ?_;refine Jj 4 5 6 7 hS ?_;refine Kw 8 hS ?_ (hrun:=by(intro u hu;exact(Jk7 (a:=x1.prop) (b:=nm) rfl rfl (SG (fun h=>h hq)))));refine Yng ?_;refine Yfx ?_;have hF6:=hF5.Jb hS;have hP:=hP.tr0 hS;have hP0:=hP0.tr0 hS;have hO:=hO.tr0 hS;have hr0:=hr0.tr0 hS;have hMB:=hMB.tr0 hS;have hMP:=hMP.tr0 hS;have hr01:=hr0.one;obtain⟨aor,cr,rfl⟩:=hr0.slice;clear hS;have np2:∀y:Nat,y≠p2->y∉[p2]:=fun y h=>by simpa using h
 refine rx ?_;refine JE (fun z=>Fr [p2] w6 z) Yhp rfl ?_;obtain⟨w7,hw7⟩:=exq w6.drew;rw[<-hw7];have hd7:Fr [] w6 w7:=hw7▸Fr.drew _ _;have hS:Fr [p2] w6 w7:=hd7.mono Yhs;refine Jj 0 1 2 3 hS ?_;refine d_z 4 hS ?_;refine Kw 5 hS ?_ (hrun:=by(intro u hu;exact(J7 rfl (Blk.cell (hP0.tr hu (np2 _ (I7 hpp))) rfl))));refine JX 6 7 hS ?_;refine d_z 8 hS ?_;refine Kw 9 hS ?_ (hrun:=by(intro u hu;exact(J7 rfl (Blk.cell (hP0.tr hu (np2 _ (I7 hpp))) rfl))));refine JX 10 11 hS ?_;refine JJ (i:=12) rfl Yhp ?_
 ((with_reducible apply Ji);exact rfl;(conv=>lhs;whnf);exact rfl;exact(hP.tr0 hd7);exact rfl)
 intro w8 hb8 hf8 hs8;replace hb8:Blk w8 p2 [.string x1.prop,iV (nk:Nat),zS,iV (x1.runs:Nat),iV (x1.o0:Nat),iV (x1.o1:Nat),iV (x1.o2:Nat),.slice aoc x2.length cc,.map (some bb),.map (some pb)] _:=hb8;have hS:=hS.trans hf8 (fun x hx=>.inl hx);refine Yfz ?_;refine JX 13 14 hS ?_;refine JJ (i:=15) rfl Yhp ?_
 ((with_reducible apply Ji);exact rfl;(conv=>lhs;whnf);exact hr01;exact hb8;exact rfl)
 intro w9 hb9 hf9 hs9;replace hb9:Blk w9 p2 [.string x1.prop,iV (nk:Nat),.slice aor rl.length cr,iV (x1.runs:Nat),iV (x1.o0:Nat),iV (x1.o1:Nat),iV (x1.o2:Nat),.slice aoc x2.length cc,.map (some bb),.map (some pb)] _:=hb9;have hS:=hS.trans hf9 (fun x hx=>.inl hx);refine Yfz ?_;refine Yev ?_;refine Yhd ?_;unfold Jmf;rw[hfd,hdec.o];have hb2:∀x∈[p2,bb,pb]++blks (Value.slice aoc x2.length cc),w4.heap.size<=x:=fun x hx=>by
  rcases SE.1 hx with hx|hx
  .simp at hx;rcases hx with rfl|rfl|rfl<;>omega
  .exact hvc x hx
 have hRlt:∀x∈blks (Value.slice aor rl.length cr),x<w2.heap.size:=fun x hx=>hMlt x Yix
 have hRo:∀x∈blks (Value.slice aor rl.length cr),x∉[p2]:=fun x hx hm=>by
  have:=hRlt x hx;rw[Sv.1 hm]at this;omega
 have hnM:∀x∈blks (Value.slice aoc x2.length cc),x∉[p2]:=fun x hx hm=>(DW.1 hnd).2.2 p2 Yhs x hx (Sv.1 hm).symm
 have hn1:bb∉[p2]:=fun hm=>by
  have:=(DW.1 hnd).1;simp at this hm;exact this.1.1 hm.symm
 have hn2:pb∉[p2]:=fun hm=>by
  have:=(DW.1 hnd).1;simp at this hm;exact this.1.2 hm.symm
 refine⟨hF6.trans hS (fun x hx=>.inr Yhq),?_⟩;simp only;rw[Cb ⟨hq,hn.trans hnc⟩,<-hrl,<-hnk];subst hq;refine⟨p2,[p2,bb,pb]++blks (Value.slice aoc x2.length cc),blks (Value.slice aor rl.length cr),rfl,⟨bb,pb,_,_,mb,mp,rfl,rfl,DW.2 ⟨hnd,JaW hr0,fun x hx y hy e=>?_⟩,hb9,hr0.tr hS hRo,hO.tr hS hnM,hMB.tr hS hn1,hRB.o,hMP.tr hS hn2,hRP.o,?_⟩,fun x hx=>?_⟩
 .have h1:=hb2 x hx;have h2:=hRlt y hy;omega
 .have:=hdok.o.ok nk rl
  rwa [show(stC x1 x2 x3 x4).cls.length=d.classes.length from hn.trans hnc]at this
 .rcases SE.1 hx with hx|hx
  .have:=hb2 x hx;omega
  .have:=hMR x (CJ _ hx);omega
end
section
theorem JlQ{α:Type}{f:α->List Int}{l:List α}(h:∀x∈l,Bys (f x)):Bys (l.flatMap f):=fun b hb=>by
 obtain⟨x,hx,hb⟩:=DY.1 hb;exact h x hx b hb
theorem Jl9(b:Br):Bys (brE b):=((Jms (JmC _)).append (JlG _)).append (JlG _)
theorem JmJ(q:ByteArray)(s:St):Bys (U0 q s):=by
 unfold U0;exact(((((((((((Jms (JmC _)).append (JlG _)).append (JlG _)).append (JlG _)).append (JlG _)).append (JlG _)).append (JlQ (fun _ _=>JlG _))).append (JlG _)).append (JlQ (fun _ _=>(Jl9 _).append (JlG _)))).append (JlG _)).append (JlQ (fun _ _=>(Jl9 _).append (Jl9 _))))
theorem Jnp{P:Pp}{rs:List Rn}(hP:SmP P)(hr:SmR rs)(hok:StOk P (J6 P.ncls rs)):∃s',JlX (U0 P.prop (J6 P.ncls rs))=some (P.prop,s')/\Jnk s' (J6 P.ncls rs):=by
 have h2:=hr.ks (n:=P.ncls);have h1:=hok.ncls;have h3:=hP.prop;have h4:=hP.ncls;exact Jm5 hok Yhn (by show rs.length<=_;have:=hr.1;omega) (fun b hb=>by
  obtain⟨h5,h6,h7⟩:=JcP (h2.2.2 b hb);exact⟨by have:=(h2.2.2 b hb).1;omega,h6,h7⟩) Yhn Yhn Yhn
theorem Jlv{u:World}{p:Nat}{M R:List Nat}{P:Pp}{rs:List Rn}(hC:Wj u p M R P (J6 P.ncls rs))(hP:SmP P)(hr:SmR rs):
 Calls prog 27 #[.pointer (some ⟨p,0,none⟩)] u fun e u'=>∃v,e=.returned v/\Own u' 5 1 v (U0 P.prop (J6 P.ncls rs)).length ((U0 P.prop (J6 P.ncls rs)).map (.int .u8))/\Fr [] u u'/\(∀x∈blks v,u.heap.size<=x):=by
 have hok:StOk P (J6 P.ncls rs):=by obtain⟨_,_,_,_,_,_,_,_,_,_,_,_,_,_,_,_,h⟩:=hC;exact h
 have h0:=hP.ncls;have h1:=hok.ncls;have h2:=hr.ks (n:=P.ncls);have h3:=hr.1;have h4:=hP.prop;have h5:(J6 P.ncls rs).runs<=1000000:=by show rs.length<=_;omega
 exact JhG u hC Yhn Yhn Yhn h5 Yhn (fun b hb=>JcP (h2.2.2 b hb)) (Jjh hP hok h5 h2.1 h2.2.1 h2.2.2)
attribute [local irreducible] Code.wp wpList Exit.then Exit.inBlock bodyPost A Calls execOp Addr.add
end
section
attribute [local irreducible] Code.wp wpList Exit.then Exit.inBlock bodyPost A Calls execOp Addr.add
theorem JnJ{n:Nat}(h:n<=4611686018427387904):VE (n:Int):=⟨by omega,by omega⟩
theorem JnN(m:List (Br×Int))(b:Nat)(w:World)(hm:Mp brK (Value.int .i64) w b m)(hml:m.length<=100000000):
 Calls prog 52 #[.map (some b),.func (.func 53) #[] #[]] w fun e w'=>∃v,e=.returned v/\BO w 50 w' (JM ltB (m.map Prod.fst)) v/\Fr [] w w':=by
 exact Ymp
theorem JnM(m:List (Pr×Bool))(b:Nat)(w:World)(hm:Mp prK Value.bool w b m)(hml:m.length<=100000000):
 Calls prog 68 #[.map (some b),.func (.func 69) #[] #[]] w fun e w'=>∃v,e=.returned v/\PO w 128 w' (JM ltP (m.map Prod.fst)) v/\Fr [] w w':=by
 exact Ymd
theorem JnP{p:Nat}{M R:List Nat}{P:Pp}{s:St}(w:World)(hC:Wj w p M R P s)(hn:s.cls.length<=1000000)(hk:s.ks.length<=100000000)(hps:s.ps.length<=100000000)(hr0:s.runs<=1099511627776)(hpr:P.prop.size<=1000000)(hbr:∀b∈s.ks,BrE b)(hL:(U0 P.prop s).length<=1000000000):
 Calls prog 27 #[.pointer (some ⟨p,0,none⟩)] w fun e w'=>∃v,e=.returned v/\Own w' 5 1 v (U0 P.prop s).length ((U0 P.prop s).map (.int .u8))/\Fr [] w w'/\(∀x∈blks v,w.heap.size<=x):=by
 obtain⟨bb,pb,vr,vc,mb,mp,rfl,rfl,hnd,hb,hr,hc,hmb,hrb,hmp,hrp,hok⟩:=hC;obtain⟨aoc,cc,rfl⟩:=hc.slice;have hlp:mp.length=s.ps.length:=GI Qy hmp.nd hok.pasc (fun a=>hrp.keys);have hlb:mb.length=s.ks.length:=GI Qu hmb.nd hok.kasc (fun a=>hrb.keys.trans (hok.cnt a));have ho:=hok.o;simp only[U0,Sm]at hL;refine enter func27 rfl ntmps27 rfl ?_;refine rx ?_;refine Jm (l:=[zS]) rfl (fun w1 q hqe hq hf1 hs1=>?_);have hW:=KN.refl (bs:=[]) ⟨hq,Own.nil _ _ _⟩;have hb1:=hb.tr0 hf1;refine rx ?_;refine Jg (JeW P.prop hW Yhn Yhs) ?_;rintro u hW;have hb2:=hb.tr0 (wfr hf1 hqe hW);refine rx ?_;refine Jg (BL s.runs hW (JnJ Yhn) (by simp only[CO];omega)) ?_;rintro u2 hW;have hb3:=hb.tr0 (wfr hf1 hqe hW);refine rx ?_;clear hb1 hb2 hb3;refine Jh 26 [5] (σ:=Nat) (fun i g u=>g 26=iV (i:Nat)/\i<=3/\KN q w1 (zS) (raw (sb P.prop)++iv s.runs++([s.o 0,s.o 1,s.o 2].take i).flatMap (fun n=>iv (n:Nat))) u) (fun i=>3-i) 0 ⟨rfl,SL _,by simpa using hW⟩ ?_;clear hW;rintro i g u ⟨g26,hi,hW⟩;rw[Ja g26];have hbt:=XR (fun(n:Nat)=>iv (n:Nat)) [s.o 0,s.o 1,s.o 2] i;by_cases hlt:i<3
 case pos=>
  refine rx ?_;refine JcY (cs:=Vk [s.o 0,s.o 1,s.o 2]) (v:=iV ([s.o 0,s.o 1,s.o 2][i]:Nat)) rfl rfl hlt (V9 hlt) ?_;refine rx ?_;have hoi:[s.o 0,s.o 1,s.o 2][i]<=1099511627776:=by
   have:∀n∈[s.o 0,s.o 1,s.o 2],n<=1099511627776:=by simp;omega
   exact this _ (Cj _)
  refine Jg (BL _ hW (JnJ Yhn) Yni) ?_;rintro u2 hW;refine rx ?_;refine Jc (i+1) Yhl ⟨rfl,hlt,?_⟩ Yhn;rw[Wy _ hlt,<-List.append_assoc];exact hW
 rw[SQ Yht,show[s.o 0,s.o 1,s.o 2].flatMap (fun n=>iv (n:Nat))=iv (s.o 0)++(iv (s.o 1)++iv (s.o 2)) by simp,<-List.append_assoc,<-List.append_assoc]at hW;have hb1:=hb.tr0 (wfr hf1 hqe hW);clear hbt hi g26;refine rx ?_;refine Jg (BL s.cls.length hW (JnJ Yhn) Yim) ?_;rintro u2 hW;have hb2:=hb.tr0 (wfr hf1 hqe hW);refine rx ?_;clear hb1 hb2;obtain⟨B,hB⟩:=exq (raw (sb P.prop)++iv s.runs++iv (s.o 0)++iv (s.o 1)++iv (s.o 2)++iv s.cls.length);have hBL:B.length+(s.cls.flatMap (fun n=>iv (n:Nat))).length<=1000000000:=by rw[hB];simp only[Sm];omega
 rw[<-hB]at hW;refine Jh 43 [7] (σ:=Nat) (fun i g u=>g 43=iV (i:Nat)/\i<=s.cls.length/\KN q w1 (zS) (B++(s.cls.take i).flatMap (fun n=>iv (n:Nat))) u) (fun i=>s.cls.length-i) 0 ⟨rfl,SL _,by simpa using hW⟩ ?_;clear hW;rintro i g u ⟨g43,hi,hW⟩;rw[Ja g43];have hbt:=XR (fun(n:Nat)=>iv (n:Nat)) s.cls i;by_cases hlt:i<s.cls.length
 case pos=>
  obtain⟨ad,had,hcell⟩:=KO (hc.tr0 (wfr hf1 hqe hW)).src (V9 hlt);subst had;refine Yfm ?_;refine rx ?_;refine Jg (BL _ hW (JnJ (by have:=hok.ocls _ (Cj hlt);omega)) Yim) ?_;rintro u2 hW;refine rx ?_;refine Jc (i+1) Yhl ⟨rfl,hlt,?_⟩ Yhn;rw[Wy _ hlt,<-List.append_assoc];exact hW
 rw[SQ Yhn]at hW;have hFu:=wfr hf1 hqe hW;have hb1:=hb.tr0 hFu;have hmb1:=hmb.tr0 hFu;clear hbt g43;refine rx ?_;refine G7 rfl hmb1 ?_;rw[hlb];refine rx ?_;refine Jg (BL s.ks.length hW (JnJ Yhn) Yim) ?_;rintro u2 hW;have hFu2:=wfr hf1 hqe hW;have hb2:=hb.tr0 hFu2;have hmb2:=hmb.tr0 hFu2;refine rx ?_;refine Jl (JnN mb bb u2 hmb2 Yhn) ?_;rintro vq w3 ⟨hBq,hf3⟩;rw[Uw Qu hok.kasc (fun a=>hrb.keys.trans (hok.cnt a))]at hBq;obtain⟨aoq,cq,rfl⟩:=hBq.1.slice;obtain⟨v3,hv3,hV,hgo⟩:=hW.from hf3;have hFw3:=hFu2.Jb hf3;have hsw3:=hFw3.size;have hs23:=hf3.size;have hv30:∀x∈q::blks v3,x<u2.heap.size/\w.heap.size<=x:=fun x hx=>by
  have h1:=hv3 x hx;have:=hs1;refine⟨h1.1,?_⟩;rcases h1.2 with h|h|h
  .omega
  .simp [blks,Value.ownBlock]at h
  .omega
 have hQ:∀x∈blks (Value.slice aoq s.ks.length cq),x∉q::blks v3:=fun x hx hm=>by
  have h1:=hBq.2 x hx;have h2:=(hv30 x hm).1;omega
 have hF3:∀bs u,KN q w3 v3 bs u->Fr [] w u:=fun bs u h=>hFw3.trans h.fr (fun x hx=>.inr (hv30 x hx).2)
 clear hW;obtain⟨B2,hB2⟩:=exq (B++s.cls.flatMap (fun n=>iv (n:Nat))++iv s.ks.length);rw[<-hB2]at hV;have hBL2:B2.length+(s.ks.flatMap (fun b=>brE b++iv (s.cnt b))).length<=1000000000:=by rw[hB2,hB];simp only[Sm];omega
 refine rx ?_;refine Jh 62 [9] (σ:=Nat) (fun i g u=>g 62=iV (i:Nat)/\i<=s.ks.length/\KN q w3 v3 (B2++(s.ks.take i).flatMap (fun b=>brE b++iv (s.cnt b))) u) (fun i=>s.ks.length-i) 0 ⟨rfl,SL _,by simpa using hV⟩ ?_;clear hV;rintro i g u ⟨g62,hi,hV⟩;rw[Ja g62];have hbt:=XR (fun b=>brE b++iv (s.cnt b)) s.ks i;have hFu:=hF3 _ _ hV;by_cases hlt:i<s.ks.length
 case pos=>
  obtain⟨adq,hadq,hcq⟩:=JZ QN (hBq.1.tr hV.fr hQ).src hlt Yhy;subst hadq;have hcq:Cells u (adq.add (i*3)) [.string s.ks[i].decl,iV s.ks[i].at_,iV s.ks[i].arm]:=hcq;refine rx ?_;refine Jm (l:=[zT,zI,zI]) rfl (fun u1 b9 hb9 h9 hf5 hs5=>?_);refine rx ?_;refine Jd (cs:=brV s.ks[i]) rfl rfl h9 (QD _) rfl rfl (fun u2 h9 hf6 hs6=>?_);replace h9:Blk u2 b9 [.string s.ks[i].decl,iV s.ks[i].at_,iV s.ks[i].arm] _:=h9;have hF2:Fr [] u u2:=hf5.trans hf6 (fun x hx=>.inr Yhq);obtain⟨v4,hv4,hV4,hgo4⟩:=hV.from hF2;have hbB:=hbr _ (Cj hlt);have n9:b9∉q::blks v4:=fun hm=>by have:=(hv4 _ hm).1;omega
  have hFu2:=hFu.Jb hF2;refine rx ?_;refine Jg (Jio s.ks[i] hbB hV4 Yim) ?_;rintro u3 hV5;have hb5:=hb.tr0 hFu2;have hmb5:=hmb.tr0 hFu2;refine rx ?_;refine JE (fun z=>Fr (q::blks v4) u2 z) Yhp rfl ?_;obtain⟨u4,hu4⟩:=exq u3.drew;rw[<-hu4];have hd:Fr [] u3 u4:=hu4▸Fr.drew _ _;have hS:Fr (q::blks v4) u2 u4:=hV5.fr.Jb hd;have np:p∉q::blks v4:=fun hm=>by
   have h1:=hb.lt;have h2:=(hv4 p hm).2;rcases h2 with h|h|h
   .omega
   .have:=(hv30 p (CY _ h)).2;omega
   .omega
  have nb:bb∉q::blks v4:=fun hm=>by
   have h1:=hmb.lt;have h2:=(hv4 bb hm).2;rcases h2 with h|h|h
   .omega
   .have:=(hv30 bb (CY _ h)).2;omega
   .omega
  refine Ynb ?_;refine Kw 3 hS ?_ (hrun:=by(intro u hu;exact(J7 rfl (Blk.cell (hb5.tr hu np) rfl))));refine Kw 4 hS ?_ (hrun:=by(intro u hu;exact(Kv rfl (Cells.VO (h9.tr hu n9)) Yik)));refine Kw 5 hS ?_ (hrun:=by(intro u hu;refine(JdF (P:=prog) (t:=122) (a:=s.ks[i]) ?_ ?_ (hmb5.tr hu nb) hrb);exact rfl;exact rfl));refine JJ (i:=6) rfl Yhp ?_;have hV7:=hV5.next hd;have hbl:=GZ _ hbB;refine Jg (BL _ hV7 (JnJ (by have:=hok.ocnt s.ks[i];omega)) Yim) ?_;rintro u5 hV8;refine wpList_nil (Jv hV8.fr ?_);refine Yev ?_;refine Jc (i+1) Yhl ⟨rfl,hlt,?_⟩ Yhn;have:=hgo4 _ _ hV8;rw[Wy _ hlt];simpa only[List.append_assoc]using this
 rw[SQ Yhn]at hV;have hb1:=hb.tr0 hFu;have hmp1:=hmp.tr0 hFu;clear hbt g62;refine rx ?_;refine G7 rfl hmp1 ?_;rw[hlp];refine rx ?_;refine Jg (BL s.ps.length hV (JnJ Yhn) Yim) ?_;rintro u2 hV;have hFu2:=hF3 _ _ hV;have hb2:=hb.tr0 hFu2;have hmp2:=hmp.tr0 hFu2;refine rx ?_;refine Jl (JnM mp pb u2 hmp2 Yhn) ?_;exact Yme
end
end Go.Proofs.YtggmccicdhnkgaaGreat
namespace Go.Rf
section
variable{P:Program}{n:Nat}{f:Env}{w:World}{d:Nat}{ty:TypeId}{ps:String}{af:Array Edge}{gd:Option (Nat×Bool)}{x y:Operand}{t t2:Nat}
theorem JnL{a:Addr}[T:PtrT P t](hx:ev n f x=.pointer (some a))(hy:ev n f y=.pointer none):(execOp (ev n f) ⟨some d,.binOp .eql t x y t2,ty,ps,af,gd⟩).run P w=.ok (.value (.bool false)) w:=by
 obtain⟨e,hu⟩:=T.u;have:=Ja9 (P:=P) (w:=w) (a:=a) hu;simp[execOp,eqGuard,binOp,hx,hy,this]
theorem JnO[T:PtrT P t](hx:ev n f x=.pointer none)(hy:ev n f y=.pointer none):(execOp (ev n f) ⟨some d,.binOp .eql t x y t2,ty,ps,af,gd⟩).run P w=.ok (.value (.bool true)) w:=by
 obtain⟨e,hu⟩:=T.u;have:(Op.equal t (.pointer none) (.pointer none)).run P w=.ok true w:=Jdg 9999 hu;simp[execOp,eqGuard,binOp,hx,hy,this]
end
end Go.Rf
namespace Go.Proofs.YtggmccicdhnkgaaGreat
section
open Go.Proofs.Tryz
open Go.Rf Go.RowKit
variable{P:Pp}{s:St}
theorem JnW{ds:List De}{nm:ByteArray}{d:De}{B:List Int}{z2 z3:World}{en:Ending}(hfd:fdD ds 3 nm=some d)(hPe:P=Jc6 ds nm d)(hPp:nm=P.prop)(hdr:Jmf z2 ds nm B en z3):Fr [] z2 z3/\∃yv ev,en=.returned (.tuple #[yv,iV ev])/\((yv=.pointer none/\(ev=2\/ev=22))\/(ev=0/\∃p' M' R' s',yv=.pointer (some ⟨p',0,none⟩)/\Wj z3 p' M' R' P s'/\JlX B=some (P.prop,s'))):=by
 unfold Jmf at hdr;rw[hfd]at hdr;refine⟨hdr.1,?_⟩;have hdr:=hdr.2;generalize JlX B=o at hdr ⊢;subst hPe;cases o with
 |none=>exact⟨_,_,hdr,.inl ⟨rfl,.inl rfl⟩⟩
 |some qs=>
  simp only at hdr
  split at hdr
  .rename_i hcond;obtain⟨p',M',R',e1,hC',_⟩:=hdr;exact⟨_,_,e1,.inr ⟨rfl,p',M',R',qs.2,rfl,hC',CZ some (Prod.ext (hcond.1.trans hPp) rfl)⟩⟩
  .exact ⟨_,_,hdr,.inl ⟨rfl,.inr rfl⟩⟩
theorem JnU{s:DS}(h:Bys s.bs):VE (dI s).1:=by
 have:=(JlN (e:=s.e) h).1;unfold dI rdI back VE;simp only
 split<;>omega
theorem JnT{s:DS}(h:Bys s.bs):(dT s).1.size<=s.bs.length:=by
 have h1:=Jl0 (e:=s.e) h;have h2:=CZ List.length (JmA h1.2.2.1);rw[Xx]at h2;show(strOf _).size<=_;omega
theorem JnX{s:DS}(h:Bys s.bs)(hl:s.bs.length<=1000000000):BrE (dBr s).1:=by
 have h1:=Jmd s h;have h2:=Jmt _ h1.bys;exact⟨by have:=JnT h;show(dT s).1.size<=_;omega,show VE (dI (dT s).2).1 from JnU h1.bys,show VE (dI (dI (dT s).2).2).1 from JnU h2.bys⟩
theorem JnS{r:Nat}{ok:Option (Br×Nat)->Br×Nat->Bool}:∀(k:Nat) (last:Option (Br×Nat)) (s:DS),Bys s.bs->s.bs.length<=1000000000->∀x∈(JlA (dBc r) ok k last s).1,BrE x.1
 |0,last,s,_,_=>by simp[JlA]
 |k+1,last,s,hb,hl=>by
  rw[JlA]
  split
  .simp
  .intro n hn;have hk:=Jmn r s hb;rcases SC.1 hn with rfl|hn
   .exact JnX hb hl
   .exact JnS k (some (dBc r s).1) ⟨(dBc r s).2.bs,(dBc r s).2.e,(dBc r s).2.bad|| !ok last (dBc r s).1⟩ hk.bys (CG hk.len hl) n hn
theorem JnV{b:List Int}{q:ByteArray}(hb:Bys b)(hl:b.length<=1000000000)(h:JlX b=some (q,s)):∀x∈s.ks,BrE x:=by
 unfold JlX at h
 split at h
 .cases h
 have h1:=Dl h;have h3:stC (d1 b).1 (d2 b).1 (d3 b).1 (d4 b).1=s:=CZ Prod.snd h1;rw[<-h3];intro x hx;have hx:x∈(d3 b).1.map Prod.fst:=hx;obtain⟨y,hy,rfl⟩:=Du.1 hx;have k1:=Jl3 ⟨b,0,false⟩ hb;have k2:=Jly b.length _ k1.bys;have k3:=Jml (Jly (d1 b).1.runs) (Jlx b.length (d1 b).2).1 _ k2.bys;have k4:=Jly b.length _ k3.bys;refine JnS _ _ _ k4.bys ?_ y hy;have:=(((k1.trans k2).trans k3).trans k4).len;exact CG this hl
theorem JnY{u:World}{p:Nat}{M R:List Nat}{b:List Int}(hb:Bys b)(hl:b.length<=100000000)(h:JlX b=some (P.prop,s))(hC:Wj u p M R P s)(h1:P.prop.size<=100000)(h2:P.ncls<=16):
 Calls prog 27 #[.pointer (some ⟨p,0,none⟩)] u fun e u'=>∃v,e=.returned v/\Own u' 5 1 v b.length (b.map (.int .u8))/\Fr [] u u':=by
 have hd:=JmL hb h;have hE:=JnV hb Yhn h;have hok:StOk P s:=by obtain⟨_,_,_,_,_,_,_,_,_,_,_,_,_,_,_,_,h⟩:=hC;exact h
 have hcl:=hok.ncls;have henc:=hd.enc;have hr:=hd.runs;have hlen:=CZ List.length henc;have l2:s.ks.length<=(s.ks.flatMap (fun b=>brE b++iv (s.cnt b))).length:=JlP (fun x _=>by have:=Jnc x;rw[Sm];omega);have l3:s.ps.length<=(s.ps.flatMap (fun p=>brE p.1++brE p.2)).length:=JlP (fun x _=>by have:=Jnc x.1;rw[Sm];omega);have hle:s.ks.length<=b.length/\s.ps.length<=b.length:=by
  unfold U0 at hlen;simp only[Sm]at hlen;omega
 have hL:(U0 P.prop s).length<=1000000000:=by rw[henc];omega
 have hsp:JlC=1099511627776:=rfl;refine(JnP u hC Yhn Yhn Yhn Yhn Yhn hE hL).mono fun e u' ⟨v,h1,h2,h3,_⟩=>⟨v,h1,?_,h3⟩
 rw[henc]at h2;exact h2
theorem JnQ{rs:List Rn}(hP:SmP P)(hr:SmR rs)(hok:StOk P (J6 P.ncls rs))(hl:rs.length=3):(U0 P.prop (J6 P.ncls rs)).length<=50000000:=by
 have h2:=hr.ks (n:=P.ncls);have hv:∀n:Nat,n<=1000000000->(iv (n:Int)).length<=10:=fun n hn=>VA Yhn Yhn
 have h3:(J6 P.ncls rs).runs=3:=hl;have ho:=hok.o;have h0:=hv (J6 P.ncls rs).runs Yhn;have e0:=hv ((J6 P.ncls rs).o 0) Yhn;have e1:=hv ((J6 P.ncls rs).o 1) Yhn;have e2:=hv ((J6 P.ncls rs).o 2) Yhn;have hc:=hok.ncls;have hn:=hP.ncls;have e4:=hv (J6 P.ncls rs).cls.length Yhn;have e5:=hv (J6 P.ncls rs).ks.length Yhn;have e6:=hv (J6 P.ncls rs).ps.length Yhn;have e7:=Xw P.prop.size (by have:=hP.prop;omega);have e8:=hP.prop;have e9:((J6 P.ncls rs).cls.flatMap (fun n=>iv (n:Nat))).length<=(J6 P.ncls rs).cls.length*10:=WJ (fun n hn=>hv n (by have:=hok.ocls n hn;omega));have e10:((J6 P.ncls rs).ks.flatMap (fun b=>brE b++iv ((J6 P.ncls rs).cnt b))).length<=(J6 P.ncls rs).ks.length*100200:=WJ (fun b hm=>by
  have:=Jbm (h2.2.2 b hm);have:=hv ((J6 P.ncls rs).cnt b) (by have:=hok.ocnt b;omega);rw[Sm];omega)
 have e11:((J6 P.ncls rs).ps.flatMap (fun p=>brE p.1++brE p.2)).length<=(J6 P.ncls rs).ps.length*200200:=WJ (fun p hm=>by
  have h:=hok.pks p hm;have:=Jbm (h2.2.2 _ h.1);have:=Jbm (h2.2.2 _ h.2);rw[Sm];omega)
 have e12:(J6 P.ncls rs).ks.length*100200<=100*100200:=Em _ h2.1;have e13:(J6 P.ncls rs).ps.length*200200<=100*200200:=Em _ h2.2.1;simp only[U0,raw,Sm,Xx];omega
theorem JnR(q:ByteArray)(s:St):∃rest,U0 q s=txt q++(iv s.runs++rest):=⟨iv (s.o 0)++(iv (s.o 1)++(iv (s.o 2)++(iv s.cls.length++(s.cls.flatMap (fun n=>iv (n:Nat))++(iv s.ks.length++(s.ks.flatMap (fun b=>brE b++iv (s.cnt b))++(iv s.ps.length++s.ps.flatMap (fun p=>brE p.1++brE p.2)))))))),by unfold U0 txt;simp only[List.append_assoc]⟩
attribute [local irreducible] Code.wp wpList Exit.then Exit.inBlock bodyPost A Calls execOp Addr.add
theorem JnK(x:Value)(l:List Int)(y:Value)(ms:List Int)(k:Int)(j:Int)(at_:Int)(c:Int)(z0:Value)(rw_:List Int)(w:World)(hx:Src w x l.length (l.map (.int .i64)))(hl:∀n∈l,VE n)(hy:Src w y ms.length (ms.map (.int .i64)))(hms:∀n∈ms,VE n)(hk:VE k)(hj:VE j)(hat:VE at_)(hc:0<=c/\c<256)(hz:Src w z0 rw_.length (rw_.map (.int .u8)))(hzb:Bys rw_):
 Calls prog 7 #[x,y,iV k,iV j,iV at_,.int .u8 c,z0] w fun e w'=>e=.returned (.bool true)/\Fr [] w w':=by
 obtain⟨ax,cx,rfl,_⟩:=id hx;obtain⟨ay,cy,rfl,_⟩:=id hy;obtain⟨az,cz,rfl,_⟩:=id hz;refine enter func7 rfl ntmps7 rfl ?_;refine rx ?_;refine JiH (Jhp _ l w hx hl) ?_;rintro ds v w1 ⟨hD,hf1,hm⟩;obtain⟨av,cv,rfl,_⟩:=hD.slice;refine rx ?_;refine Jm (l:=[zS]) rfl (fun w2 b15 hb15 h15 hf2 hs2=>?_);refine rx ?_;refine Jd (cs:=[.slice av (ds.map deC).length cv]) rfl rfl h15 Yhu rfl rfl (fun w3 h15 hf3 hs3=>?_);have hf13:Fr [] w1 w3:=hf2.trans hf3 (fun x hx=>.inr Yhq);have hD:=hD.tr0 hf13;have hF3:=hf1.Jb hf13;have hlt15:=h15.lt;refine rx ?_;refine s_call (Jjx ds k _ w3 _ hk hm hD) rfl ?_;rintro _ w4 ⟨d,p,M,R,q,N,T,hfd,rfl,hC,hQ,hMR,hNT,hdis,hf4⟩;refine⟨_,rfl,?_⟩;have hP:=Jix hm hfd;obtain⟨nm,hnm⟩:=exq (Xm ds k);rw[<-hnm]at hfd hP hC hQ;obtain⟨P,hPe⟩:=exq (Jc6 ds nm d);have hPn:d.classes.length=P.ncls:=by rw[hPe];rfl
 have hPp:nm=P.prop:=by rw[hPe];rfl
 rw[<-hPe]at hP hC hQ;have hp0:=hP.prop;have hp1:=hP.checks;have hp2:=hP.ncls;have hp3:=hP.reach;have hB:=Bo.beg hPn hC hQ hdis [] Yhs;rw[Ce]at hB;have hF4:=hF3.Jb hf4;have h15:=h15.tr0 hf4;have a1:∀x∈M++N,w3.heap.size<=x:=fun x hx=>by
  rcases SE.1 hx with h|h
  .exact hMR x (SA _ h)
  .exact hNT x (SA _ h)
 have hs3':=hF3.size;clear hC hQ hMR hNT hdis;refine rx ?_;refine Jg (Jle _ ms 0 3 w w4 hB hP hF4 (fun x hx=>by have:=a1 x hx;omega) hy hms Yhn Yhn Yhs) ?_;rintro w5 ⟨N',S',hB,hf5,_,_⟩;rw[CO]at hB;have hF5:Fr [] w w5:=hF4.trans hf5 (fun x hx=>.inr (by have:=a1 x hx;omega));have hF35:Fr [] w3 w5:=hf4.trans hf5 (fun x hx=>.inr (a1 x hx));have h15:=h15.tr hf5 (fun hm=>by have:=a1 _ hm;omega);obtain⟨rs,hrs⟩:=exq (rsF P ms 0 3);have hrl:rs.length=3:=by rw[hrs,Jla]
 have hrR:SmR rs:=⟨by omega,fun r hr=>by
  rw[hrs]at hr;obtain⟨j,_,rfl⟩:=Du.1 hr;exact⟨Jfh,JgR hP⟩⟩
 rw[<-hrs]at hB;clear hrs;have hok:StOk P (J6 P.ncls rs):=by obtain⟨_,_,_,_,_,_,_,_,_,_,_,_,_,_,_,_,h⟩:=hB.1;exact h
 have hcl:=hok.ncls;have hel:=JnQ hP hrR hok hrl;obtain⟨s',hdec,heq⟩:=Jnp hP hrR hok;replace hdec:=Hid.mk hdec;obtain⟨rest,hrest⟩:=JnR P.prop (J6 P.ncls rs);have hruns:(J6 P.ncls rs).runs=3:=hrl;rw[hruns]at hrest;have hEb:=JmJ P.prop (J6 P.ncls rs);have hcls':s'.cls.length=d.classes.length:=by rw[heq.2.2.2.2.1,hcl,hPn]
 refine rx ?_;refine Jl (Jlv hB.1 hP hrR) ?_;rintro vE w6 ⟨hE,hf6,hEg⟩;obtain⟨E,hEe⟩:=exq (U0 P.prop (J6 P.ncls rs));rw[<-hEe]at hE hel hdec hrest hEb;clear hEe heq hB;have hE1:=hE.one;obtain⟨aoE,cE,rfl⟩:=hE.slice;have h15:=h15.tr0 hf6;have hF6:=hF5.Jb hf6;have hF36:=hF35.Jb hf6;have hElen:0<E.length:=by rw[hrest];unfold txt raw;have:=Jnj (sb P.prop).length;simp only[Sm];omega
 refine rx ?_;have hElt:=hE.lt;refine JiH (Jnx _ E w6 hE.src hEb Yhn) ?_;rintro r v7 w7 ⟨hR7,hf7,hr7,hv7,_⟩;have hE:=hE.tr0 hf7;have h15:=h15.tr0 hf7;have hF7:=hF6.Jb hf7;have hF37:=hF36.Jb hf7;have hs36:=hF36.size;have nr15:b15∉[r]:=by simp;omega
 have hs67:=hf7.size;have hdT:=Jnh (s:=P.prop) Yhn (iv ((3:Nat):Int)++rest);rw[<-hrest]at hdT;unfold dT at hdT;have t1:=CZ Prod.fst hdT;have t2:=CZ (fun z=>DS.bs z.2) hdT;have t3:=CZ (fun z=>DS.e z.2) hdT;simp only at t1 t2 t3;have hdi:=Jnn (n:=((3:Nat):Int)) Yhy Yhy rest;clear hdT hrest;refine rx ?_;refine JE (fun z=>Fr [r] w7 z) Yhp rfl ?_;obtain⟨w8,hw8⟩:=exq w7.drew;rw[<-hw8];have hd8:Fr [] w7 w8:=hw8▸Fr.drew _ _;have hS:Fr [r] w7 w8:=hd8.mono Yhs;refine JX 0 1 hS ?_;refine Kw 2 hS ?_ (hrun:=by(intro u hu;exact(Zd rfl rfl (SG Yhn))));refine JX 3 4 hS ?_;refine Kz 5 hS ?_ (hrun:=by(intro u hu;exact(JnL rfl rfl)));refine JX 6 7 hS ?_;refine d_z 8 hS ?_;refine Kz 10 hS ?_ (hrun:=by(intro u hu;exact(Kv rfl (Cells.VO (h15.tr hu nr15)) Yik)));refine d_z 11 hS ?_;refine Ygx ?_;refine rx ?_;have hR8:IsR w8 r v7 E 0:=⟨hR7.1.tr0 hd8,hR7.2.1.tr0 hd8,hR7.2.2⟩;refine Jg (Jnz r v7 E 0 w8 hR8 Yhn) ?_;rintro w9 hst;rw[t1];rw[t2,t3]at hst;obtain⟨v9,hR9,hf9,_⟩:=hst;have hS:=hS.trans hf9 (fun x hx=>.inl hx);refine Yfz ?_;have hG:∀{z:World},Fr [r] w7 z->Fr [] w3 z:=fun h=>hF37.trans h (fun x hx=>.inr Yhq)
 have hGw:∀{z:World},Fr [r] w7 z->Fr [] w z:=fun h=>hF7.trans h (fun x hx=>.inr Yhq)
 refine JJ (i:=12) rfl Yhp ?_;refine rx ?_;refine Jg (Jj0 ds k _ w9 _ hk hm.props Ynk (hD.tr0 (hG hS))) ?_;rintro w10 hf10;rw[<-hnm,hPp];have hS:=hS.Jb hf10;refine Yfz ?_;refine Kz 13 hS ?_ (hrun:=by(intro u hu;exact(Jk7 (a:=P.prop) (b:=P.prop) rfl rfl (SG (fun h=>h rfl)))));refine JX 14 15 hS ?_;refine d_z 16 hS ?_;refine JJ (i:=17) rfl Yhp ?_;refine rx ?_;refine Jg (JnF r v9 _ 0 w10 ⟨hR9.1.tr0 hf10,hR9.2.1.tr0 hf10,hR9.2.2⟩) ?_;rintro w11 hst;rw[hdi];obtain⟨v11,_,hf11,_⟩:=hst;have hS:=hS.trans hf11 (fun x hx=>.inl hx);refine Yfz ?_;refine JX 18 19 hS ?_;refine Yfx ?_;have hF3u:=hG hS;have hFu:=hGw hS;have hE:=hE.tr hS (fun x hx hm=>by have:=hElt x hx;rw[Sv.1 hm]at this;omega);have h15:=h15.tr hS nr15;clear hR7 hR8 hR9 hS hf9 hf10 hf11 hd8 hG hGw t1 t2 t3 hdi hv7 hr7;refine rx ?_;refine Jg (around at_ (E.length:Nat) w11 hat.1 hat.2 Yhn) ?_;rintro _ rfl;have hir:=BI (a:=at_) (m:=(E.length:Nat)) Yhn;obtain⟨i,hi⟩:∃i:Nat,(i:Int)=Jbq at_ (E.length:Nat):=⟨(Jbq at_ (E.length:Nat)).toNat,Et hir.1⟩;rw[<-hi]at hir ⊢;have hil:i<E.length:=by omega
 refine rx ?_;refine Qr (fun w12 ho12 hf12 hs12=>?_);refine rx ?_;refine JC ho12 rfl (hE.tr0 hf12).src rfl Yhs (Zp _ _) Yhv Yhn (fun v22 w13 ho22 hf13' hk22 _=>?_);have hsu:=hFu.size;have hf1113:Fr [] w11 w13:=hf12.trans hf13' (fun x hx=>.inr Ymb);rw[Di,CO]at ho22;have hv22:∀x∈blks v22,w11.heap.size<=x:=fun x hx=>by
  rcases hk22 x hx with h|h
  .simp [blks,Value.ownBlock]at h;omega
  .omega
 obtain⟨ao22,c22,rfl⟩:=ho22.slice;obtain⟨ad22,had22,_⟩:=KO (ho22.src) (show(E.map (Value.int .u8))[i]?=some (.int .u8 E[i]) by rw[ET,Dc hil];rfl);subst had22;refine rx ?_;refine JcW (j:=i*1) (u:=.int .u8 c) ho22 rfl Yhn rfl rfl rfl (fun w14 ho22 hf14 hs14=>?_);rw[Dq]at ho22;have hf1114:Fr [] w11 w14:=hf1113.trans hf14 (fun x hx=>.inr (hv22 x hx));rw[show((E.map (Value.int .u8)).set i (.int .u8 c))=(E.set i c).map (.int .u8) by rw[List.map_set]]at ho22;have hE:=hE.tr0 hf1114;have h15:=h15.tr0 hf1114;have hFu:=hFu.Jb hf1114;have hF3u:=hF3u.Jb hf1114;have hcapi:i<=cE:=by obtain⟨_,_,he,hle,_⟩:=hE.src;cases he;omega
 have hcb:Bys [c]:=fun b hb=>by rw[Sv.1 hb];exact hc
 clear hf1113 hf12 hf13' hf14 hk22 ho12 hf1114;refine Yfa ?_;refine wp_seq ?_;refine KZ 32 [23] (fun g z=>∃s2 s3 vL,g 23=vL/\Own z 64 1 vL 4 [.slice (some ad22) E.length c22,.slice aoE i cE,s2,s3]/\Src z s2 (rw_.take 40).length ((rw_.take 40).map (.int .u8))/\Src z s3 (E++[c]).length ((E++[c]).map (.int .u8))/\Fr [] w14 z) ?_ ?_
 . (refine JE (fun z=>Fr [] w14 z) Yhp rfl ?_)
   obtain⟨u,hu0⟩:=exq w14.drew;rw[<-hu0];have hS:Fr [] w14 u:=hu0▸Fr.drew _ _;have hS0:=hS.size;refine Ynb ?_;refine Kw 3 hS ?_ (hrun:=by(intro u hu;exact(Jam (k:=i) rfl rfl hcapi)));refine d_z 4 hS ?_;refine d_z 7 hS ?_;refine d_z 9 hS ?_;refine XJ (i:=5) (j:=6) (k:=10) rfl rfl rfl Yhp ?_ ?_ ?_
   .obtain ⟨n5,hn5⟩:=exq u.heap.size;refine Ynh ?_;rintro s2 u ⟨hA5,hf,hA5n⟩;rw[<-hn5]at hA5n;have hA51:=hA5.one;have hA5l:=hA5.lt;have hz5:=hf.size;have hS:=hS.Jb hf;clear hf;have hszS:=hS.size;refine Yfz ?_;refine Xt (i:=6) (j:=10) rfl rfl Yhp ?_ ?_
    .obtain ⟨n6,hn6⟩:=exq u.heap.size;refine Qr (fun u hA6 hf _=>?_);rw[<-hn6]at hA6 ⊢;have hz6:=hf.size;have hA5:=hA5.tr0 hf;have hS:=hS.Jb hf;clear hf;have hszS:=hS.size;refine Yfz ?_;refine Xt (i:=8) (j:=10) rfl rfl Yhp ?_ ?_
     .obtain ⟨n8,hn8⟩:=exq u.heap.size;exact Ymq
     .obtain ⟨n10,hn10⟩:=exq u.heap.size;refine J3 [.int .u8 c] rfl rfl rfl rfl (fun u hA10 hf _=>?_);rw[<-hn10]at hA10 ⊢;have hz10:=hf.size;have hA5:=hA5.tr0 hf;have hA6:=hA6.tr0 hf;exact Ymm
    .obtain ⟨n10,hn10⟩:=exq u.heap.size;refine J3 [.int .u8 c] rfl rfl rfl rfl (fun u hA10 hf _=>?_);rw[<-hn10]at hA10 ⊢;have hz10:=hf.size;have hA5:=hA5.tr0 hf;have hS:=hS.Jb hf;clear hf;have hszS:=hS.size;refine Yfz ?_;refine JJ (i:=6) rfl Yhp ?_
     .obtain ⟨n6,hn6⟩:=exq u.heap.size;refine Qr (fun u hA6 hf _=>?_);rw[<-hn6]at hA6 ⊢;have hz6:=hf.size;have hA5:=hA5.tr0 hf;have hA10:=hA10.tr0 hf;exact Ymm
   .obtain ⟨n6,hn6⟩:=exq u.heap.size;refine Qr (fun u hA6 hf _=>?_);rw[<-hn6]at hA6 ⊢;have hz6:=hf.size;have hS:=hS.Jb hf;clear hf;have hszS:=hS.size;refine Yfz ?_;refine Xt (i:=5) (j:=10) rfl rfl Yhp ?_ ?_
    .obtain ⟨n5,hn5⟩:=exq u.heap.size;refine Ynh ?_;rintro s2 u ⟨hA5,hf,hA5n⟩;rw[<-hn5]at hA5n;have hA51:=hA5.one;have hA5l:=hA5.lt;have hz5:=hf.size;have hA6:=hA6.tr0 hf;have hS:=hS.Jb hf;clear hf;have hszS:=hS.size;refine Yfz ?_;refine Xt (i:=8) (j:=10) rfl rfl Yhp ?_ ?_
     .obtain ⟨n8,hn8⟩:=exq u.heap.size;exact Ymq
     .obtain ⟨n10,hn10⟩:=exq u.heap.size;refine J3 [.int .u8 c] rfl rfl rfl rfl (fun u hA10 hf _=>?_);rw[<-hn10]at hA10 ⊢;have hz10:=hf.size;have hA6:=hA6.tr0 hf;have hA5:=hA5.tr0 hf;exact Ymm
    .obtain ⟨n10,hn10⟩:=exq u.heap.size;refine J3 [.int .u8 c] rfl rfl rfl rfl (fun u hA10 hf _=>?_);rw[<-hn10]at hA10 ⊢;have hz10:=hf.size;have hA6:=hA6.tr0 hf;have hS:=hS.Jb hf;clear hf;have hszS:=hS.size;refine Yfz ?_;refine JJ (i:=5) rfl Yhp ?_
     .obtain ⟨n5,hn5⟩:=exq u.heap.size;refine Ynh ?_;rintro s2 u ⟨hA5,hf,hA5n⟩;rw[<-hn5]at hA5n;have hA51:=hA5.one;have hA5l:=hA5.lt;have hz5:=hf.size;have hA6:=hA6.tr0 hf;have hA10:=hA10.tr0 hf;exact Ymn
   .obtain ⟨n10,hn10⟩:=exq u.heap.size;refine J3 [.int .u8 c] rfl rfl rfl rfl (fun u hA10 hf _=>?_);rw[<-hn10]at hA10 ⊢;have hz10:=hf.size;have hS:=hS.Jb hf;clear hf;have hszS:=hS.size;refine Yfz ?_;refine Xt (i:=5) (j:=6) rfl rfl Yhp ?_ ?_
    .obtain ⟨n5,hn5⟩:=exq u.heap.size;refine Ynh ?_;rintro s2 u ⟨hA5,hf,hA5n⟩;rw[<-hn5]at hA5n;have hA51:=hA5.one;have hA5l:=hA5.lt;have hz5:=hf.size;have hA10:=hA10.tr0 hf;have hS:=hS.Jb hf;clear hf;have hszS:=hS.size;refine Yfz ?_;refine JJ (i:=6) rfl Yhp ?_
     .obtain ⟨n6,hn6⟩:=exq u.heap.size;refine Qr (fun u hA6 hf _=>?_);rw[<-hn6]at hA6 ⊢;have hz6:=hf.size;have hA10:=hA10.tr0 hf;have hA5:=hA5.tr0 hf;exact Ymn
    .obtain ⟨n6,hn6⟩:=exq u.heap.size;refine Qr (fun u hA6 hf _=>?_);rw[<-hn6]at hA6 ⊢;have hz6:=hf.size;have hA10:=hA10.tr0 hf;have hS:=hS.Jb hf;clear hf;have hszS:=hS.size;refine Yfz ?_;refine JJ (i:=5) rfl Yhp ?_
     .obtain ⟨n5,hn5⟩:=exq u.heap.size;refine Ynh ?_;rintro s2 u ⟨hA5,hf,hA5n⟩;rw[<-hn5]at hA5n;have hA51:=hA5.one;have hA5l:=hA5.lt;have hz5:=hf.size;have hA10:=hA10.tr0 hf;have hA6:=hA6.tr0 hf;exact Ymn
 rintro g u ⟨s2,s3,vL,g23,hL,h2,h3,hfL⟩;rw[Ja g23];have h0:=ho22.src.tr0 hfL;have h1:=(hE.src.to (size:=1) (Iq hil)).tr0 hfL;rw[Dq]at h1;have hE:=hE.tr0 hfL;have h15:=h15.tr0 hfL;have hFu:=hFu.Jb hfL;have hF3u:=hF3u.Jb hfL;obtain⟨Ls,hLs⟩:∃Ls:List (List Int),Ls=[E.set i c,E.take i,rw_.take 40,E++[c]]:=⟨_,rfl⟩;obtain⟨Sl,hSl⟩:∃Sl:List Value,Sl=[.slice (some ad22) E.length c22,.slice aoE i cE,s2,s3]:=⟨_,rfl⟩;have hLl:Ls.length=4:=by rw[hLs];rfl
 have hSll:Sl.length=4:=by rw[hSl];rfl
 have hall:∀q (h:q<Ls.length) (h':q<Sl.length),Src u Sl[q] Ls[q].length (Ls[q].map (.int .u8))/\Bys Ls[q]/\Ls[q].length<=60000000:=fun q h h'=>by
  subst hLs hSl
  match q,h with
  |0,_=>exact⟨by simpa using h0,(fun b hb=>(List.mem_or_eq_of_mem_set hb).elim (hEb b) (fun e=>by rw[e];exact hc)),by simp;omega⟩
  |1,_=>exact⟨by simpa[C9,Hw (Iq hil),List.map_take]using h1,hEb.take i,by simp;omega⟩
  |2,_=>exact⟨h2,hzb.take 40,by simp;omega⟩
  |3,_=>exact⟨h3,hEb.append hcb,by simp;omega⟩
 rw[<-hSl]at hL;have hvL1:=hL.one;obtain⟨aoL,cL,rfl⟩:=hL.slice;clear h0 h1 h2 h3 ho22 hLs hSl hfL;refine rx ?_;refine Jh 32 [24,25,26] (σ:=Nat) (fun q g z=>g 24=iV (q:Nat)/\q<=4/\Fr [] u z) (fun q=>4-q) 0 ⟨rfl,SL _,Fr.refl _ _⟩ ?_;rintro q g z ⟨g24,hq4,hF⟩;rw[Ja g24];have hFz:=hFu.Jb hF;have hF3z:=hF3u.Jb hF;have h15z:=h15.tr0 hF;by_cases hlt:q<4
 case pos=>
  obtain⟨hsq,hbq,hlq⟩:=hall q Yhn Yhn;obtain⟨B,hBe⟩:=exq (Ls[q]);rw[<-hBe]at hsq hbq hlq;obtain⟨sq,hsqe⟩:=exq (Sl[q]);rw[<-hsqe]at hsq;obtain⟨adl,hadl,_⟩:=KO hL.src (show Sl[q]?=some sq by rw[hsqe];exact Dc Yhn);have hcell:∀{y:World},Fr [] z y->y.cell? (adl.add q)=some sq:=fun hf=>by
   obtain⟨a',e1,e2⟩:=KO ((hL.tr0 hF).tr0 hf).src (show Sl[q]?=some sq by rw[hsqe];exact Dc Yhn);rw[hadl]at e1;obtain rfl:=Dl e1;exact e2
  subst hadl;have hsq1:=hsq.one;obtain⟨aoq,cq,rfl,_⟩:=id hsq;refine rx ?_;refine JE (fun y=>Fr [] z y) Yhp rfl ?_;obtain⟨z1,hz1⟩:=exq z.drew;rw[<-hz1];have hS:Fr [] z z1:=hz1▸Fr.drew _ _;refine Ynb ?_;refine JX 4 5 hS ?_;refine d_z 6 hS ?_;refine Kw 7 hS ?_ (hrun:=by(intro u hu;exact(J7 rfl Ylu)));refine JJ (i:=3) rfl Yhp ?_;refine Jg (Jj0 ds k _ z1 _ hk hm.props Ynk (hD.tr0 (hF3z.Jb hS))) ?_;rintro z2 hf2;rw[<-hnm];have hS:=hS.Jb hf2;refine Yfz ?_;refine JJ (i:=8) rfl Yhp ?_;refine s_call (Jm4 ds nm _ _ B z2 _ hm.sz Ynk (hD.tr0 (hF3z.Jb hS)) ((hsq.tr0 hF).tr0 hS) hbq Yhn) rfl ?_;intro en z3 hdr;have hres:=JnW hfd hPe hPp hdr;obtain⟨hf3,yv,ev,rfl,hcase⟩:=hres;clear hdr;refine⟨_,rfl,?_⟩;have hS:=hS.Jb hf3;refine Yfz ?_;refine JX 9 10 hS ?_;refine d_z 11 hS ?_;refine Yne ?_;refine JJ (i:=13) rfl Yhp ?_;refine rx ?_;refine Jv hS ?_;refine Yfx ?_;have hFS:=hF.Jb hS;rcases hcase with⟨rfl,hev⟩|⟨rfl,p',M',R',s2',rfl,hC',hdc⟩
  .have hev':ev=2\/ev=22:=hev;rcases hev' with rfl|rfl
   all_goals
    refine rx ?_;refine JE (fun y=>Fr [] z3 y) Yhp rfl ?_;obtain⟨z4,hz4⟩:=exq z3.drew;rw[<-hz4];have hT:Fr [] z3 z4:=hz4▸Fr.drew _ _;refine d_z 0 hT ?_;refine Kw 1 hT ?_ (hrun:=by(intro u hu;exact(JnO rfl rfl)));refine JX 2 3 hT ?_;refine Kw 4 hT ?_ (hrun:=by(intro u hu;exact(XP (p:=false) underlying4 rfl rfl rfl)));refine Jj 5 6 7 8 hT ?_;refine Jj 9 10 11 12 hT ?_;refine Jj 13 14 15 16 hT ?_;refine Jj 17 18 19 20 hT ?_;refine Jj 21 22 23 24 hT ?_;refine Jj 25 26 27 28 hT ?_;refine JX 29 30 hT ?_;refine Yev ?_;refine Jc (q+1) Yhl ⟨rfl,hlt,hFS.Jb hT⟩ Yhn
  .replace hdc:=Hid.mk hdc;refine rx ?_;refine JE (fun y=>Fr [] z3 y) Yhp rfl ?_;obtain⟨z4,hz4⟩:=exq z3.drew;rw[<-hz4];have hT:Fr [] z3 z4:=hz4▸Fr.drew _ _;refine d_z 0 hT ?_;refine Kw 1 hT ?_ (hrun:=by(intro u hu;exact(JnL rfl rfl)));refine JX 2 3 hT ?_;refine Kw 4 hT ?_ (hrun:=by(intro u hu;exact(XP (p:=false) underlying4 rfl rfl rfl)));refine Jj 5 6 7 8 hT ?_;refine Jj 9 10 11 12 hT ?_;refine Jj 13 14 15 16 hT ?_;refine Jj 17 18 19 20 hT ?_;refine d_z 21 hT ?_;refine JX 23 24 hT ?_;refine d_z 25 hT ?_;refine Kz 26 hT ?_ (hrun:=by(intro u hu;exact(J7 rfl (by rw[Dq];exact hcell (hS.Jb hu)))));refine JJ (i:=22) rfl Yhp ?_;refine rx ?_;refine Jl (JnY hbq Yhn hdc.o (hC'.tr0 hT) hp0 hp2) ?_;rintro vG z5 ⟨hGo,hf5'⟩;have hT:=hT.Jb hf5';refine wpList_nil (Jv hT ?_);refine JJ (i:=27) rfl Yhp ?_;refine rx ?_;refine Jg (Jeo _ _ _ _ z5 hGo.src ((hsq.tr0 hFS).tr0 hT) Yhn) ?_;rintro z6 hf6';rw[SN rfl];have hT:=hT.Jb hf6';refine wpList_nil (Jv hT ?_);refine JX 28 29 hT ?_;refine d_z 30 hT ?_;refine Yev ?_;refine Jc (q+1) Yhl ⟨rfl,hlt,hFS.Jb hT⟩ Yhn
 have hEz:=hE.tr0 hF;clear hall hL hLl hSll g24 hq4;obtain⟨d',hfd',_⟩:=Jhy (k:=j) hm.props;obtain⟨nj,hnj⟩:=exq (Xm ds j);rw[<-hnj]at hfd';have hres:∀(w':World) (en:Ending),Jmf w' ds nj E en w'->True:=fun _ _ _=>trivial
 refine rx ?_;refine JE (fun y=>Fr [] z y) Yhp rfl ?_;obtain⟨z1,hz1⟩:=exq z.drew;rw[<-hz1];have hS:Fr [] z z1:=hz1▸Fr.drew _ _;refine Ynb ?_;refine d_z 4 hS ?_;refine JJ (i:=3) rfl Yhp ?_;refine Jg (Jj0 ds j _ z1 _ hj hm.props Ynk (hD.tr0 (hF3z.Jb hS))) ?_;rintro z2 hf2;rw[<-hnj];have hS:=hS.Jb hf2;refine Yfz ?_;refine Ync ?_;refine s_call (Jm4 ds nj _ _ E z2 _ hm.sz Ynk (hD.tr0 (hF3z.Jb hS)) (hEz.tr0 hS).src hEb Yhn) rfl ?_;intro en z3 hdr;have hres:Fr [] z2 z3/\∃yv ev,en=.returned (.tuple #[yv,iV ev])/\((nj≠nm/\yv=.pointer none/\ev=22)\/(nj=nm/\ev=0/\∃p',yv=.pointer (some ⟨p',0,none⟩))):=by
  unfold Jmf at hdr;rw[hfd',hdec.o]at hdr;refine⟨hdr.1,?_⟩;have hdr:=hdr.2;simp only at hdr;by_cases hjk:nj=nm
  .have hdd:d'=d:=by
    rw[hjk,hfd]at hfd';exact(Dl hfd').symm
   rw[Cb ⟨by rw[hjk,hPp],by rw[hdd];exact hcls'⟩]at hdr;obtain⟨p',M',R',e1,_,_⟩:=hdr;exact⟨_,_,e1,.inr ⟨hjk,rfl,p',rfl⟩⟩
  .rw [SH (fun h=>hjk (by rw[<-h.1,hPp]))]at hdr;exact⟨_,_,hdr,.inl ⟨hjk,rfl,rfl⟩⟩
 obtain⟨hf3,yv,ev,rfl,hcase⟩:=hres;clear hdr;refine⟨_,rfl,?_⟩;have hS:=hS.Jb hf3;refine Yfz ?_;refine JX 6 7 hS ?_;refine d_z 8 hS ?_;refine JJ (i:=9) rfl Yhp ?_;refine rx ?_;refine Jv hS ?_;refine JJ (i:=10) rfl Yhp ?_;refine rx ?_;refine Jv hS ?_;refine Yfx ?_;have hF3y:=hF3z.Jb hS;have h15y:=h15z.tr0 hS;refine rx ?_;refine s_call (Jm4 ds (bst Xe) _ _ E z3 _ hm.sz Ynk (hD.tr0 hF3y) (hEz.tr0 hS).src hEb Yhn) rfl ?_;intro en z4 hdr;unfold Jmf at hdr;rw[Jhz hm]at hdr;obtain⟨hf4',rfl⟩:=hdr;refine⟨_,rfl,?_⟩;have hS:=hS.Jb hf4';have hF3x:=hF3y.Jb hf4';have h15x:=h15y.tr0 hf4';refine rx ?_;refine JE (fun y=>Fr [] z4 y) Yhp rfl ?_;obtain⟨z5,hz5⟩:=exq z4.drew;rw[<-hz5];have hT:Fr [] z4 z5:=hz5▸Fr.drew _ _;refine JX 0 1 hT ?_;refine JX 3 4 hT ?_;refine JJ (i:=2) rfl Yhp ?_;refine Jg (Jj0 ds j _ z5 _ hj hm.props Ynk (hD.tr0 (hF3x.Jb hT))) ?_;rintro z6 hf6';rw[<-hnj];have hT:=hT.Jb hf6';refine wpList_nil (Jv hT ?_);refine Ync ?_;refine Jg (Jj0 ds k _ z6 _ hk hm.props Ynk (hD.tr0 (hF3x.Jb hT))) ?_;rintro z7 hf7';rw[<-hnm];have hT:=hT.Jb hf7';refine wpList_nil (Jv hT ?_);rcases hcase with⟨hjk,rfl,rfl⟩|⟨hjk,rfl,p',rfl⟩
 . (apply XU (i:=6);exact rfl;kernel_rfl;kernel_rfl;kernel_rfl;(intro u hu;exact(Jk7 (a:=nj) (b:=nm) rfl rfl (SN hjk)));exact hT)
   refine Yev ?_;refine JgY rfl rfl ?_;exact Ymh
 . (apply XU (i:=6);exact rfl;kernel_rfl;kernel_rfl;kernel_rfl;(intro u hu;exact(Jk7 (a:=nj) (b:=nm) rfl rfl (SG (fun h=>h hjk))));exact hT)
   refine Yfx ?_;exact Ymh
end
section
open Go.Rf Go.RowKit
variable{n:Int}
theorem wf_i64(h:(Lit.int .i64 n).wf=true):VE n:=by
 have: -9223372036854775808<=n/\n<=9223372036854775807:=by simpa[Lit.wf,IntKind.min,IntKind.max,IntKind.signed,IntKind.bits]using h
 exact this
theorem wf_u8(h:(Lit.int .u8 n).wf=true):0<=n/\n<256:=by
 have:0<=n/\n<=255:=by simpa[Lit.wf,IntKind.min,IntKind.max,IntKind.signed,IntKind.bits]using h
 omega
theorem JbA{W:World}{k:IntKind}{x:Addr}{len cap:Nat}{zs:List Int}(hl:len<=cap)(hz:zs.length=cap)(hcell:∀i,i<zs.length->W.cell? (x.add i)=some (.int k (zs.getD i 0)))(hw:∀n∈zs,(Lit.int k n).wf=true):
 ∃xs:List Int,Src W (.slice (some x) len cap) xs.length (xs.map (.int k))/\∀n∈xs,(Lit.int k n).wf=true:=by
 have e:(zs.take len).length=len:=by simp;omega
 refine⟨zs.take len,⟨some x,cap,by rw[e],by rw[e];exact hl,fun h=>Yiw,?_⟩,fun n hn=>hw n (E5 hn)⟩;intro ad ha j u hu;simp only[Sj]at ha;subst ha;rw[ET]at hu;obtain⟨z,hz1,rfl⟩:=Option.map_eq_some_iff.1 hu;obtain⟨hj,hz2⟩:=Df.1 hz1;have hj2:j<zs.length:=by simp at hj;omega
 rw[hcell j hj2];rw[FU]at hz2;simp[List.getD,hj2,hz2]
end
end Go.Proofs.YtggmccicdhnkgaaGreat
