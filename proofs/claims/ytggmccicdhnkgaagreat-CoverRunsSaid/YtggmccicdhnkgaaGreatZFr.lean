/-
 From the readings of arguments to the walks' premises.
-/
import Derived.Test.YtggmccicdhnkgaaGreatZJw
import Derived.Test.YtggmccicdhnkgaaGreatZMs
import Derived.Test.YtggmccicdhnkgaaGreatZRf2
import Derived.OpenShut
import Derived.ShutString
import Derived.ChangeOld
set_option linter.all false
namespace Go.Rf
open Go.RowKit
end Go.Rf
namespace Go.Proofs.YtggmccicdhnkgaaGreat
open Go.Proofs.Tryz
open Go.Rf Go.RowKit
variable{M N R S T:List Nat}{p q:Nat}{P:Pp}{u u':World}
attribute [local irreducible] Code.wp wpList Exit.then Exit.inBlock bodyPost A Calls execOp Addr.add
def Bo(u:World)(p q:Nat)(M R N T S:List Nat)(P:Pp)(rs:List Rn):Prop:=Wj u p M R P (J6 P.ncls rs)/\RcM u q N T S P rs/\(∀x∈M,x∈S)/\(∀x∈N++T,x∉M++R)/\(∀x∈S,x<u.heap.size)
theorem Bo.NS{rs:List Rn}(h:Bo u p q M R N T S P rs):∀x∈M++N,x∈S:=fun x hx=>by
 rcases List.mem_append.1 hx with hx|hx
 .exact h.2.2.1 x hx
 .obtain ⟨_,_,_,_,_,_,hNS,_⟩:=h.2.1;exact hNS x hx
theorem Bo.tr{V:List Nat}{rs:List Rn}(h:Bo u p q M R N T S P rs)(hf:Fr V u u')(h1:∀x∈M++R,x∉V)(h2:∀x∈N++T,x∉V)(h3:∀x∈V,x∈S\/u.heap.size<=x):Bo u' p q M R N T S P rs:=
 ⟨h.1.tr hf h1,h.2.1.tr hf h2 h3,h.2.2.1,h.2.2.2.1,fun x hx=>Nat.lt_of_lt_of_le (h.2.2.2.2 x hx) hf.size⟩
theorem Bo.tr0{rs:List Rn}(h:Bo u p q M R N T S P rs)(hf:Fr [] u u'):Bo u' p q M R N T S P rs:=h.tr hf Yhs Yhs Yhs
theorem Bo.cov{rs:List Rn}(h:Bo u p q M R N T S P rs)(hf:Fr M u u'):RcM u' q N T S P rs:=h.2.1.tr hf (fun x hx hm=>h.2.2.2.1 x hx (List.mem_append_left _ hm)) (fun x hx=>.inl (h.2.2.1 x hx))
theorem RcM.JkQ{S':List Nat}(h:RcM u q N T S P [])(hN:∀x∈N,x∈S'):RcM u q N T S' P []:=by
 obtain⟨vr,vs,xs,rfl,rfl,hnd,hMS,hb,hr,hs,hw⟩:=h;have hxs:xs=[]:=by cases hw;rfl
 subst hxs;exact⟨vr,vs,[],rfl,rfl,hnd,hN,hb,hr,hs,.nil⟩
theorem RcM.NS{rs:List Rn}(h:RcM u q N T S P rs):∀x∈N,x∈S:=by
 obtain⟨_,_,_,_,_,_,hNS,_⟩:=h;exact hNS
theorem Bo.beg{n:Nat}(hn:n=P.ncls)(hC:Wj u p M R P (J6 n []))(hQ:RcM u q N T S P [])(hd:∀x∈N++T,x∉M++R)(V:List Nat)(hV:∀x∈V,x<u.heap.size):Bo u p q M R N T (M++N++V) P []:=by
 subst hn;refine⟨hC,RcM.JkQ hQ (fun x hx=>by simp[hx]),fun x hx=>by simp[hx],hd,fun x hx=>?_⟩;simp only[List.mem_append]at hx;rcases hx with(hx|hx)|hx
 .exact hC.lt x (List.mem_append_left _ hx)
 .exact hQ.lt x (List.mem_append_left _ hx)
 .exact hV x hx
def rsN(P:Pp)(rs:List Rn)(r:Rn):List Rn:=if Qd P r=true then rs++[r] else rs
def stN(P:Pp)(s:St)(r:Rn):St:=if Qd P r=true then Qb s r else s
def JgJ(P:Pp)(r:Rn):Int:=if Qd P r=true then 0 else 1
theorem Jiu{rs:List Rn}{r:Rn}:stN P (J6 P.ncls rs) r=J6 P.ncls (rsN P rs r):=by
 unfold stN rsN
 split
 .rw [Jbz]
 .rfl
theorem addN{s:St}(r:Rn)(vb vl:Value)(w:World)(hC:Wj w p M R P s)(hMS:∀x∈M,x∈S)(hbr:DR w S (.l (r.bs.map brC)) vb)(hl:DR w S (.l (r.cl.map KI)) vl)(hrn:s.runs<=1000000)(hbl:r.bs.length<=1000000):
 Calls prog 15 #[.pointer (some ⟨p,0,none⟩),.agg ([iV r.kind,iV r.at_,iV r.code,vb,vl,zI]:List Value).toArray] w fun e w'=>e=.returned (iV (JgJ P r))/\Wj w' p M R P (stN P s r)/\Fr M w w':=by
 refine(Jkr r vb vl w hC hMS hbr hl hrn hbl).mono fun e u' hh=>?_
 unfold JgJ stN
 split at hh
 .rename_i h;rw[if_pos h,if_pos h];exact hh
 .rename_i h;rw[if_neg h,if_neg h];exact⟨hh.1,hC.tr0 hh.2,hh.2.mono Yhs⟩
theorem Jg7{rs:List Rn}(r:Rn)(vb vl:Value)(w:World)(h:RcM w q N T S P rs)(hbr:DR w S (.l (r.bs.map brC)) vb)(hl:DR w S (.l (r.cl.map KI)) vl)(hn:rs.length<=1000)(hrl:P.reach.length<=1000000):
 Calls prog 22 #[.pointer (some ⟨q,0,none⟩),.agg ([iV r.kind,iV r.at_,iV r.code,vb,vl]:List Value).toArray] w fun e w'=>e=.returned (iV (JgJ P r))/\(∃N',RcM w' q N' T (S++N') P (rsN P rs r)/\∀x∈N',x∈N\/w.heap.size<=x)/\Fr N w w':=by
 refine(Jg8 r vb vl w h hbr hl hn hrl).mono fun e u' hh=>?_
 unfold JgJ rsN
 split at hh
 .rename_i h;rw[if_pos h,if_pos h];exact hh
 .rename_i h';have hNS:=RcM.NS h;rw[if_neg h',if_neg h'];refine⟨hh.1,⟨N,(h.tr0 hh.2).mono (fun x hx=>List.mem_append_right _ hx) (fun x hx=>.inl ?_),fun x hx=>.inl hx⟩,hh.2.mono Yhs⟩;rcases List.mem_append.1 hx with hx|hx
  .exact hx
  .exact hNS x hx
theorem Bo.add{u1 u2:World}{N':List Nat}{rs:List Rn}{r:Rn}(h:Bo u p q M R N T S P rs)(hC:Wj u1 p M R P (stN P (J6 P.ncls rs) r))(hf1:Fr M u u1)(hQ:RcM u2 q N' T (S++N') P (rsN P rs r))(hN:∀x∈N',x∈N\/u1.heap.size<=x)(hf2:Fr N u1 u2):Bo u2 p q M R N' T (S++N') P (rsN P rs r):=by
 have hl:=hC.lt;refine⟨?_,hQ,fun x hx=>List.mem_append_left _ (h.2.2.1 x hx),fun x hx hm=>?_,fun x hx=>?_⟩
 .rw [<-Jiu];exact hC.tr hf2 (fun x hx hm=>h.2.2.2.1 x (List.mem_append_left _ hm) hx)
 .rcases List.mem_append.1 hx with hx|hx
  .rcases hN x hx with h1|h1
   .exact h.2.2.2.1 x (List.mem_append_left _ h1) hm
   .have:=hl x hm;omega
  .exact h.2.2.2.1 x (List.mem_append_right _ hx) hm
 .rcases List.mem_append.1 hx with hx|hx
  .have:=h.2.2.2.2 x hx;have:=hf1.size;have:=hf2.size;omega
  .exact hQ.lt x (List.mem_append_left _ hx)
theorem Bo.rv{rs:List Rn}(h:Bo u p q M R N T S P rs)(h1:P.reach.length<=1000000000000:=by omega)(h2:rs.length<=1000000000000:=by omega):RcV u q P rs:=h.2.1.v h1 h2
end Go.Proofs.YtggmccicdhnkgaaGreat
namespace Go.Rf
variable{n t:Nat}{P:Program}{w:World}
theorem Jdg(dd:Nat){e:Nat}(hu:P.underlying t=some (.pointer e)):(Op.equalIn (dd+1) t (.pointer none) (.pointer none)).run P w=.ok true w:=by
 simp[Op.equalIn,run_underlying hu]
theorem JgY{D:Dfs}{ops:Array Oper}{Q:Exit->Act->World->Prop}{rest:List Oper}{f:Env}{d:Nat}{ty:TypeId}{ps:String}{af:Array Edge}{x y:Operand}{t2:Nat}[T:PtrT P t](hx:ev n f x=.pointer none)(hy:ev n f y=.pointer none)(h:wpList P ops Q rest (A n (upd f d (.bool true))) w):
 wpList P ops Q (⟨some d,.binOp .eql t x y t2,ty,ps,af,none⟩::rest) (A n f) w:=by
 obtain⟨e,hu⟩:=T.u;have:(Op.equal t (.pointer none) (.pointer none)).run P w=.ok true w:=Jdg 9999 hu;exact JR (by simp[execOp,eqGuard,binOp,hx,hy,this]) h
end Go.Rf
namespace Go.Proofs.YtggmccicdhnkgaaGreat
open Go.Proofs.Tryz
open Go.Rf Go.RowKit
variable{n:Nat}
theorem Jhz{ds:List De}(hm:MD ds):fdD ds 3 (bst Xe)=none:=by
 cases h:fdD ds 3 (bst Xe)with
 |none=>rfl
 |some d=>
  obtain⟨hd,_,hn⟩:=XT h;have h2:=(hm.2.1 d hd).2;rw[hn]at h2;exact absurd h2 Yhy
def SmQ(n:Nat)(rs:List Rn):Prop:=rs.length<=n/\∀r∈rs,(r.bs.length<=5/\∀b∈r.bs,BrK b)/\r.cl.length<=17
theorem SmQ.next{P:Pp}{rs:List Rn}{r:Rn}(h:SmQ n rs)(h1:r.bs.length<=5)(h2:∀b∈r.bs,BrK b)(h3:r.cl.length<=17):SmQ (n+1) (rsN P rs r):=by
 unfold rsN
 split
 .refine ⟨by have:=h.1;simp;omega,fun x hx=>?_⟩;rcases List.mem_append.1 hx with hx|hx
  .exact h.2 x hx
  .rw [List.mem_singleton.1 hx];exact⟨⟨h1,h2⟩,h3⟩
 .exact ⟨by have:=h.1;omega,h.2⟩
theorem SmQ.r{rs:List Rn}(h:SmQ n rs)(hn:n<=20):SmR rs:=⟨Nat.le_trans h.1 hn,fun r hr=>(h.2 r hr).1⟩
attribute [local irreducible] Code.wp wpList Exit.then Exit.inBlock bodyPost A Calls execOp Addr.add
set_option maxHeartbeats 64000000 in
theorem UJ(x:Value)(l:List Int)(y:Value)(ms:List Int)(k:Int)(w:World)(hx:Src w x l.length (l.map (.int .i64)))(hl:∀n∈l,VE n)(hy:Src w y ms.length (ms.map (.int .i64)))(hms:∀n∈ms,VE n)(hk:VE k):
 Calls prog 4 #[x,y,iV k] w fun e w'=>e=.returned (.bool true)/\Fr [] w w':=by
 obtain⟨ax,cx,rfl,_⟩:=id hx;obtain⟨ay,cy,rfl,_⟩:=id hy;refine enter func4 rfl ntmps4 rfl ?_;refine rx ?_;refine JiH (Jhp _ l w hx hl) ?_;rintro ds v w1 ⟨hD,hf1,hm⟩;obtain⟨av,cv,rfl,_⟩:=hD.slice;refine rx ?_;refine Jm (l:=[zS]) rfl (fun w2 b7 hb7 h7 hf2 hs2=>?_);refine rx ?_;refine Jd (cs:=[.slice av (ds.map deC).length cv]) rfl rfl h7 Yhu rfl rfl (fun w3 h7 hf3 hs3=>?_);have hf13:Fr [] w1 w3:=hf2.trans hf3 (fun x hx=>.inr Yhq);have hD:=hD.tr0 hf13;have hF3:=hf1.Jb hf13;have hlt7:=h7.lt;refine rx ?_;refine s_call (Jjx ds k _ w3 _ hk hm hD) rfl ?_;rintro _ w4 ⟨d,p,M,R,q,N0,T,hfd,rfl,hC,hQ,hMR,hNT,hdis,hf4⟩;refine⟨_,rfl,?_⟩;have hP:=Jix hm hfd;obtain⟨P,hPe⟩:=exq (Jc6 ds (Xm ds k) d);have hasc:Asc ltB P.reach:=by rw[hPe];exact QA Qu _
 have hPn:d.classes.length=P.ncls:=by rw[hPe];rfl
 rw[<-hPe]at hP hC hQ;have hp1:=hP.checks;have hp2:=hP.ncls;have hp3:=hP.reach;have hB:=Bo.beg hPn hC hQ hdis [] Yhs;rw[List.append_nil]at hB;have hF4:=hF3.Jb hf4;have h7:=h7.tr0 hf4;have hMN3:∀x∈M++N0,w3.heap.size<=x:=fun x hx=>by
  rcases List.mem_append.1 hx with hx|hx
  .exact hMR x (List.mem_append_left _ hx)
  .exact hNT x (List.mem_append_left _ hx)
 have hs3':=hF3.size;have hs4':=hf4.size;clear hC hQ hPe hMR hNT hdis;refine rx ?_;refine Jh 12 [11] (σ:=Nat×List Nat×List Nat×List Rn) (fun t g u=>g 11=iV (t.1:Nat)/\t.1<=8/\Bo u p q M R t.2.1 T t.2.2.1 P t.2.2.2/\Fr (M++N0) w4 u/\(∀x∈t.2.1,x∈N0\/w4.heap.size<=x)/\SmQ t.1 t.2.2.2) (fun t=>8-t.1) (0,N0,M++N0,[]) ⟨rfl,Nat.zero_le _,hB,Fr.refl _ _,fun x hx=>.inl hx,⟨by simp,by simp⟩⟩ ?_;clear hB;rintro⟨i,N,S,rs⟩ g u ⟨g11,hi,hB,hF,hN,hq⟩;simp only at g11 hi hB hN hq;rw[Ja g11];have hF3u:Fr [] w3 u:=hf4.trans hF (fun x hx=>.inr (hMN3 x hx));have hFw:=hF3.Jb hF3u;by_cases hlt:i<8
 case neg=>
  have h7u:=h7.tr hF (fun hm=>by have:=hMN3 _ hm;omega);refine rx ?_;refine s_call (newC ds (bst Xe) _ u _ hm.sz (by have:=hm.len;omega) (hD.tr0 hF3u)) rfl ?_;intro _ u1 hn;unfold Jh0 at hn;rw[Jhz hm]at hn;obtain⟨hfn,rfl⟩:=hn;refine⟨_,rfl,?_⟩;refine rx ?_;refine JgY rfl rfl ?_;refine rx ?_;refine Jg (Jjb u1) ?_;rintro u2 hfl;refine Yeo ?_;exact⟨rfl,(hFw.Jb hfn).Jb hfl⟩
 have hyu:=hy.tr0 hFw;have hrl2:=hq.1;refine rx ?_;refine JiH (JjM _ ms (12*(i:Int)) true u hB.rv hyu hms Yhn Yhn) ?_;rintro vb vl u1 ⟨hBo,hCl,hln,hfu1⟩;have hrb:=Jfh (P:=P) (l:=ms) (at_:=12*(i:Int)) (b:=true);have hrc:=Jfg (P:=P) (l:=ms) (at_:=12*(i:Int)) (b:=true);have hrk:=JgR hP (l:=ms) (a:=12*(i:Int)) (bad:=true);obtain⟨r,hr⟩:=exq (XW P ms (12*(i:Int)) true);rw[<-hr]at hBo hCl hrb hrc hrk ⊢;obtain⟨aob,cb,rfl⟩:=hBo.1.slice;obtain⟨aol,cl,rfl⟩:=hCl.slice;refine rx ?_;refine Jm (l:=[zI,zI,zI,zS,zS]) rfl (fun u3 b12 hb12 h12 hfu3 hsu3=>?_);refine rx ?_;refine Jd (cs:=[iV r.kind,iV r.at_,iV r.code,.slice aob r.bs.length cb,.slice aol r.cl.length cl]) rfl rfl h12 Yhu rfl rfl (fun u4 h12 hfu4 hsu4=>?_);have hf14:Fr [] u1 u4:=hfu3.trans hfu4 (fun x hx=>.inr Yhq);have hf04:=hfu1.Jb hf14;have hBo:=hBo.tr0 hf14;have hCl:=hCl.tr0 hf14;have hsz1:=hfu1.size;have hBu:=hB;have hSl:=hB.2.2.2.2;have hB:=hB.tr0 hf04;have hMN:=hB.NS;have hMS:=hB.2.2.1;have hNS:=RcM.NS hB.2.1;have hbM:∀x∈blks (Value.slice aob r.bs.length cb),x∉S:=fun x hx hm=>by have h1:=hBo.2 x hx;have h2:=hSl x hm;omega
 have hlM:∀x∈blks (Value.slice aol r.cl.length cl),x∉S:=fun x hx hm=>by have h1:=hln x hx;have h2:=hSl x hm;omega
 have nS:b12∉S:=fun hm=>by have h2:=hSl _ hm;omega
 have n12:b12∉M++N:=fun hm=>nS (hMN _ hm)
 have dB:∀{z:World},Fr (M++N) u4 z->DR z S (.l (r.bs.map brC)) (.slice aob r.bs.length cb):=fun{z} hf=>ZO (hBo.1.tr hf (fun x hx hm=>hbM x hx (hMN x hm))) Yhn hbM
 have dL:∀{z:World},Fr (M++N) u4 z->DR z S (.l (r.cl.map KI)) (.slice aol r.cl.length cl):=fun{z} hf=>Jgd (hCl.tr hf (fun x hx hm=>hlM x hx (hMN x hm))) Yhn hlM
 refine rx ?_;refine JE (fun z=>Fr (M++N) u4 z) Yhp rfl ?_;obtain⟨u5,hu5⟩:=exq u4.drew;rw[<-hu5];have hd5:Fr [] u4 u5:=hu5▸Fr.drew _ _;have hS:Fr (M++N) u4 u5:=hd5.mono Yhs;have hcl:∀r∈rs,r.bs.length<=100/\r.cl.length<=1000000:=fun r hr=>by have h1:=(hq.2 r hr).1.1;have h2:=(hq.2 r hr).2;omega
 refine d_z 0 hS ?_;refine Kw 1 hS ?_ (hrun:=by(intro u hu;exact(Kv rfl (Cells.VO (h12.tr hu n12)) Yik)));refine d_z 4 hS ?_;refine Kw 5 hS ?_ (hrun:=by(intro u hu;exact(Kv rfl (Cells.VO (h12.tr hu n12)) Yik)));refine JJ (i:=2) rfl Yhp ?_;refine Jg (Jj6 r.kind r.at_ r.code (.slice aob r.bs.length cb) (.slice aol r.cl.length cl) _ rfl rfl) ?_;rintro u6 hfo;have hS:=hS.Jb hfo;refine Yfz ?_;have hB:=hB.tr0 (hd5.Jb hfo);refine JJ (i:=3) rfl Yhp ?_;refine Jg (Jdd r (.slice aob r.bs.length cb) (.slice aol r.cl.length cl) u6 hB.1 (dB hS) (dL hS)) ?_;rintro u7 hf7;have hS:=hS.Jb hf7;have hB:=hB.tr0 hf7;refine Yfz ?_;refine JJ (i:=6) rfl Yhp ?_;refine Jg (Jev r (.slice aob r.bs.length cb) (.slice aol r.cl.length cl) u7 hB.rv (dB hS) (dL hS) Yhn hcl Yhn) ?_;rintro u8 hf8;have hS:=hS.Jb hf8;have hB:=hB.tr0 hf8;refine Yfz ?_;obtain⟨fb,hfb⟩:=exq ((Qd P r&&VB (J6 P.ncls rs) r));rw[<-hfb];refine Kw 7 hS ?_ (hrun:=by(intro u hu;exact(XP (p:=false) underlying4 rfl rfl (by cases fb<;>rfl))));refine JX 8 9 hS ?_;refine Kz 10 hS ?_ (hrun:=by(intro u hu;exact(Kv rfl (Cells.VO (h12.tr hu n12)) Yik)));refine d_z 13 hS ?_;refine Kz 14 hS ?_ (hrun:=by(intro u hu;exact(Kv rfl (Cells.VO (h12.tr hu n12)) Yik)));refine Ylp ?_;refine rx ?_;refine Jg (Jj6 r.kind r.at_ r.code (.slice aob r.bs.length cb) (.slice aol r.cl.length cl) _ rfl rfl) ?_;rintro u9 hfo;have hS:=hS.Jb hfo;refine Yfz ?_;have hB:=hB.tr0 hfo;refine JJ (i:=12) rfl Yhp ?_;refine rx ?_;refine Jg (addN r (.slice aob r.bs.length cb) (.slice aol r.cl.length cl) u9 hB.1 hMS (dB hS) (dL hS) (by show rs.length<=1000000;omega) Yhn) ?_;rintro u10 ⟨hC10,hf10⟩;have hQ10:=hB.cov hf10;have hS:=hS.trans hf10 (fun x hx=>.inl (List.mem_append_left _ hx));refine Yfz ?_;refine JJ (i:=15) rfl Yhp ?_;refine rx ?_;refine Jg (Jg7 r (.slice aob r.bs.length cb) (.slice aol r.cl.length cl) u10 hQ10 (dB hS) (dL hS) Yhn Yhn) ?_;rintro u11 ⟨⟨N',hQ11,hN'⟩,hf11⟩;have hsz10:=hS.size;have hsz4:=hf04.size;have hszF:=hF.size;have hB11:=hB.add hC10 hf10 hQ11 hN' hf11;have hS:=hS.trans hf11 (fun x hx=>.inl (List.mem_append_right _ hx));refine Yfz ?_;have hqn:=hq.next (P:=P) hrb hrk Yhn;obtain⟨ae,hae⟩:=exq (JgJ P r);rw[<-hae];refine Jj 16 17 18 19 hS ?_;refine d_z 20 hS ?_;refine JJ (i:=21) rfl Yhp ?_;refine rx ?_;refine Jg (JjP u11 hB11.1 (hB11.rv (h2:=by have:=hqn.1;omega)) hP (hqn.r Yhn) (fun r hr=>by have:=(hqn.2 r hr).2;omega) hasc) ?_;rintro u12 hf12;have hS:=hS.Jb hf12;refine Yfz ?_;refine JX 22 23 hS ?_;refine Yev ?_;refine Jc (i+1,N',S++N',rsN P rs r) Yhl ⟨rfl,hlt,hB11.tr0 hf12,?_,fun x hx=>?_,hqn⟩ Yhw
 .refine (hF.Jb hf04).trans hS (fun x hx=>?_);rcases List.mem_append.1 hx with h|h
  .exact .inl (List.mem_append_left _ h)
  .exact (hN x h).imp (fun h=>List.mem_append_right _ h) id
 .rcases hN' x hx with h|h
  .exact hN x h
  .exact .inr Yhn
end Go.Proofs.YtggmccicdhnkgaaGreat
namespace Go.Proofs.YtggmccicdhnkgaaGreat
open Go.Rf Go.RowKit
theorem wf_i64{n:Int}(h:(Lit.int .i64 n).wf=true):VE n:=by
 have: -9223372036854775808<=n/\n<=9223372036854775807:=by simpa[Lit.wf,IntKind.min,IntKind.max,IntKind.signed,IntKind.bits]using h
 exact this
theorem JbA{W:World}{k:IntKind}{x:Addr}{len cap:Nat}{zs:List Int}(hl:len<=cap)(hz:zs.length=cap)(hcell:∀i,i<zs.length->W.cell? (x.add i)=some (.int k (zs.getD i 0)))(hw:∀n∈zs,(Lit.int k n).wf=true):
 ∃xs:List Int,Src W (.slice (some x) len cap) xs.length (xs.map (.int k))/\∀n∈xs,(Lit.int k n).wf=true:=by
 have e:(zs.take len).length=len:=by simp;omega
 refine⟨zs.take len,⟨some x,cap,by rw[e],by rw[e];exact hl,fun h=>Yiw,?_⟩,fun n hn=>hw n (List.mem_of_mem_take hn)⟩;intro ad ha j u hu;simp only[Option.some.injEq]at ha;subst ha;rw[List.getElem?_map]at hu;obtain⟨z,hz1,rfl⟩:=Option.map_eq_some_iff.1 hu;obtain⟨hj,hz2⟩:=List.getElem?_eq_some_iff.1 hz1;have hj2:j<zs.length:=by simp at hj;omega
 rw[hcell j hj2];rw[List.getElem_take]at hz2;simp[List.getD,hj2,hz2]
end Go.Proofs.YtggmccicdhnkgaaGreat
