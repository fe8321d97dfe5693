/-
 The plain law of encodings of covers:reading what was written,and one encoding.
-/
import Derived.Test.YtggmccicdhnkgaaGreatWJw
import Derived.Test.YtggmccicdhnkgaaGreatWMs
import Derived.Test.YtggmccicdhnkgaaGreatWQf
import Derived.Test.YtggmccicdhnkgaaGreatWCq
import Derived.Test.YtggmccicdhnkgaaGreatWMp
import Derived.Test.YtggmccicdhnkgaaGreatWRf1
set_option linter.all false
set_option maxHeartbeats 64000000
namespace Go.Rf
open Go.RowKit
end Go.Rf
namespace Go.Proofs.YtggmccicdhnkgaaGreat
open Go.Proofs.Tryz
open Go.Rf Go.RowKit
variable{a:Int}{ms:List Int}{M N R S T:List Nat}{n p q:Nat}{P:Pp}{u u':World}
attribute [local irreducible] Code.wp wpList Exit.then Exit.inBlock bodyPost A Calls execOp Addr.add
def Bo(u:World)(p q:Nat)(M R N T S:List Nat)(P:Pp)(rs:List Rn):Prop:=Wj u p M R P (J6 P.ncls rs)/\RcM u q N T S P rs/\(∀x∈M,x∈S)/\(∀x∈N++T,x∉M++R)/\(∀x∈S,x<u.heap.size)
theorem Bo.NS{rs:List Rn}(h:Bo u p q M R N T S P rs):∀x∈M++N,x∈S:=fun x hx=>by
 rcases SE.1 hx with hx|hx
 .exact h.2.2.1 x hx
 .obtain ⟨_,_,_,_,_,_,hNS,_⟩:=h.2.1;exact hNS x hx
theorem Bo.tr{V:List Nat}{rs:List Rn}(h:Bo u p q M R N T S P rs)(hf:Fr V u u')(h1:∀x∈M++R,x∉V)(h2:∀x∈N++T,x∉V)(h3:∀x∈V,x∈S\/u.heap.size<=x):Bo u' p q M R N T S P rs:=
 ⟨h.1.tr hf h1,h.2.1.tr hf h2 h3,h.2.2.1,h.2.2.2.1,fun x hx=>SV (h.2.2.2.2 x hx) hf.size⟩
theorem Bo.tr0{rs:List Rn}(h:Bo u p q M R N T S P rs)(hf:Fr [] u u'):Bo u' p q M R N T S P rs:=h.tr hf Yhs Yhs Yhs
theorem Bo.cov{rs:List Rn}(h:Bo u p q M R N T S P rs)(hf:Fr M u u'):RcM u' q N T S P rs:=h.2.1.tr hf (fun x hx hm=>h.2.2.2.1 x hx (SA _ hm)) (fun x hx=>.inl (h.2.2.1 x hx))
theorem RcM.JkQ{S':List Nat}(h:RcM u q N T S P [])(hN:∀x∈N,x∈S'):RcM u q N T S' P []:=by
 obtain⟨vr,vs,xs,rfl,rfl,hnd,hMS,hb,hr,hs,hw⟩:=h;have hxs:xs=[]:=by cases hw;rfl
 subst hxs;exact⟨vr,vs,[],rfl,rfl,hnd,hN,hb,hr,hs,.nil⟩
theorem RcM.NS{rs:List Rn}(h:RcM u q N T S P rs):∀x∈N,x∈S:=by
 obtain⟨_,_,_,_,_,_,hNS,_⟩:=h;exact hNS
theorem Bo.beg(hn:n=P.ncls)(hC:Wj u p M R P (J6 n []))(hQ:RcM u q N T S P [])(hd:∀x∈N++T,x∉M++R)(V:List Nat)(hV:∀x∈V,x<u.heap.size):Bo u p q M R N T (M++N++V) P []:=by
 subst hn;refine⟨hC,RcM.JkQ hQ (fun x hx=>by simp[hx]),fun x hx=>by simp[hx],hd,fun x hx=>?_⟩;simp only[SE]at hx;rcases hx with(hx|hx)|hx
 .exact hC.lt x (SA _ hx)
 .exact hQ.lt x (SA _ hx)
 .exact hV x hx
def rsN(P:Pp)(rs:List Rn)(r:Rn):List Rn:=if Qd P r=true then rs++[r] else rs
def stN(P:Pp)(s:St)(r:Rn):St:=if Qd P r=true then Qb s r else s
def JgJ(P:Pp)(r:Rn):Int:=if Qd P r=true then 0 else 1
theorem Jiu{rs:List Rn}{r:Rn}:stN P (J6 P.ncls rs) r=J6 P.ncls (rsN P rs r):=by
 unfold stN rsN
 split
 .rw [Jbz]
 .rfl
theorem addN{s:St}(r:Rn)(vb vl:Value)(w:World)(hC:Wj w p M R P s)(hMS:∀x∈M,x∈S)(hbr:DR w S (.l (r.bs.map brC)) vb)(hl:DR w S (.l (r.cl.map KI)) vl)(hrn:s.runs<=1000000)(hbl:r.bs.length<=1000000):
 Calls prog 15 #[.pointer (some ⟨p,0,none⟩),.agg ([iV r.kind,iV r.at_,iV r.code,vb,vl,zI]:List Value).toArray] w fun e w'=>e=.returned (iV (JgJ P r))/\Wj w' p M R P (stN P s r)/\Fr M w w':=by
 refine(Jkr r vb vl w hC hMS hbr hl hrn hbl).mono fun e u' hh=>?_
 unfold JgJ stN
 split at hh
 .rename_i h;rw[Cb h,Cb h];exact hh
 .rename_i h;rw[SH h,SH h];exact⟨hh.1,hC.tr0 hh.2,hh.2.mono Yhs⟩
theorem Jg7{rs:List Rn}(r:Rn)(vb vl:Value)(w:World)(h:RcM w q N T S P rs)(hbr:DR w S (.l (r.bs.map brC)) vb)(hl:DR w S (.l (r.cl.map KI)) vl)(hn:rs.length<=1000)(hrl:P.reach.length<=1000000):
 Calls prog 22 #[.pointer (some ⟨q,0,none⟩),.agg ([iV r.kind,iV r.at_,iV r.code,vb,vl]:List Value).toArray] w fun e w'=>e=.returned (iV (JgJ P r))/\(∃N',RcM w' q N' T (S++N') P (rsN P rs r)/\∀x∈N',x∈N\/w.heap.size<=x)/\Fr N w w':=by
 refine(Jg8 r vb vl w h hbr hl hn hrl).mono fun e u' hh=>?_
 unfold JgJ rsN
 split at hh
 .rename_i h;rw[Cb h,Cb h];exact hh
 .rename_i h';have hNS:=RcM.NS h;rw[SH h',SH h'];refine⟨hh.1,⟨N,(h.tr0 hh.2).mono (fun x hx=>CJ _ hx) (fun x hx=>.inl ?_),fun x hx=>.inl hx⟩,hh.2.mono Yhs⟩;rcases SE.1 hx with hx|hx
  .exact hx
  .exact hNS x hx
theorem Bo.add{u1 u2:World}{N':List Nat}{rs:List Rn}{r:Rn}(h:Bo u p q M R N T S P rs)(hC:Wj u1 p M R P (stN P (J6 P.ncls rs) r))(hf1:Fr M u u1)(hQ:RcM u2 q N' T (S++N') P (rsN P rs r))(hN:∀x∈N',x∈N\/u1.heap.size<=x)(hf2:Fr N u1 u2):Bo u2 p q M R N' T (S++N') P (rsN P rs r):=by
 have hl:=hC.lt;refine⟨?_,hQ,fun x hx=>SA _ (h.2.2.1 x hx),fun x hx hm=>?_,fun x hx=>?_⟩
 .rw [<-Jiu];exact hC.tr hf2 (fun x hx hm=>h.2.2.2.1 x (SA _ hm) hx)
 .rcases SE.1 hx with hx|hx
  .rcases hN x hx with h1|h1
   .exact h.2.2.2.1 x (SA _ h1) hm
   .have:=hl x hm;omega
  .exact h.2.2.2.1 x (CJ _ hx) hm
 .rcases SE.1 hx with hx|hx
  .have:=h.2.2.2.2 x hx;have:=hf1.size;have:=hf2.size;omega
  .exact hQ.lt x (SA _ hx)
theorem Bo.rv{rs:List Rn}(h:Bo u p q M R N T S P rs)(h1:P.reach.length<=1000000000000:=by omega)(h2:rs.length<=1000000000000:=by omega):RcV u q P rs:=h.2.1.v h1 h2
def rsF(P:Pp)(ms:List Int)(a:Int)(n:Nat):List Rn:=(List.range n).map (fun(j:Nat)=>XW P ms (a+12*(j:Int)) false)
theorem Jlh:rsF P ms a (n+1)=rsF P ms a n++[XW P ms (a+12*(n:Int)) false]:=by simp[rsF,Fv]
theorem Jla:(rsF P ms a n).length=n:=by simp[rsF]
theorem Jle{N0 S0:List Nat}{rs:List Rn}(y:Value)(ms:List Int)(a:Int)(n:Nat)(w0 w:World)(hB:Bo w p q M R N0 T S0 P rs)(hP:SmP P)(hw:Fr [] w0 w)(hMN0:∀x∈M++N0,w0.heap.size<=x)(hy:Src w0 y ms.length (ms.map (.int .i64)))(hms:∀n∈ms,VE n)(ha:0<=a/\a<=100)(hn:n<=10)(hrl:rs.length<=100):
 Calls prog 26 #[.pointer (some ⟨p,0,none⟩),.pointer (some ⟨q,0,none⟩),y,iV a,iV (n:Nat)] w fun e w'=>e=.returned (.bool true)/\∃N' S',Bo w' p q M R N' T S' P (rs++rsF P ms a n)/\Fr (M++N0) w w'/\(∀x∈N',x∈N0\/w.heap.size<=x)/\(∀x∈S0,x∈S'):=by
 obtain⟨aoy,cy,rfl,_⟩:=id hy;have hp1:=hP.checks;have hp2:=hP.ncls;have hp3:=hP.reach;refine enter func26 rfl ntmps26 rfl ?_;refine rx ?_;refine Jh 12 [11] (σ:=Nat×List Nat×List Nat) (fun t g u=>g 11=iV (t.1:Nat)/\t.1<=n/\Bo u p q M R t.2.1 T t.2.2 P (rs++rsF P ms a t.1)/\Fr (M++N0) w u/\(∀x∈t.2.1,x∈N0\/w.heap.size<=x)/\(∀x∈S0,x∈t.2.2)) (fun t=>n-t.1) (0,N0,S0) ⟨rfl,SL _,by simpa[rsF]using hB,Fr.refl _ _,fun x hx=>.inl hx,fun x hx=>hx⟩ ?_;clear hB;rintro⟨i,N,S⟩ g u ⟨g11,hi,hB,hF,hN,hSS⟩;simp only at g11 hi hB hN hSS;rw[Ja g11];by_cases hlt:i<n
 case neg=>
  obtain rfl:i=n:=by omega
  refine Yeo ?_;exact⟨rfl,N,S,hB,hF,hN,hSS⟩
 have hFw:Fr [] w0 u:=hw.trans hF (fun x hx=>.inr (hMN0 x hx));have hyu:=hy.tr0 hFw;have hrl2:(rs++rsF P ms a i).length<=200:=by rw[Sm,Jla];omega
 refine rx ?_;refine JiH (JjM _ ms (a+12*(i:Int)) false u hB.rv hyu hms Yhn Yhn) ?_;rintro vb vl u1 ⟨hBo,hCl,hln,hfu1⟩;have hrb:=Jfh (P:=P) (l:=ms) (at_:=a+12*(i:Int)) (b:=false);have hrc:=Jfg (P:=P) (l:=ms) (at_:=a+12*(i:Int)) (b:=false);have hrk:=JgR hP (l:=ms) (a:=a+12*(i:Int)) (bad:=false);obtain⟨r,hr⟩:=exq (XW P ms (a+12*(i:Int)) false);rw[<-hr]at hBo hCl hrb hrc hrk ⊢;obtain⟨aob,cb,rfl⟩:=hBo.1.slice;obtain⟨aol,cl,rfl⟩:=hCl.slice;refine rx ?_;refine Jm (l:=[zI,zI,zI,zS,zS]) rfl (fun u3 b12 hb12 h12 hfu3 hsu3=>?_);refine rx ?_;refine Jd (cs:=[iV r.kind,iV r.at_,iV r.code,.slice aob r.bs.length cb,.slice aol r.cl.length cl]) rfl rfl h12 Yhu rfl rfl (fun u4 h12 hfu4 hsu4=>?_);have hf14:Fr [] u1 u4:=hfu3.trans hfu4 (fun x hx=>.inr Yhq);have hf04:=hfu1.Jb hf14;have hBo:=hBo.tr0 hf14;have hCl:=hCl.tr0 hf14;have hsz1:=hfu1.size;have hBu:=hB;have hSl:=hB.2.2.2.2;have hB:=hB.tr0 hf04;have hMN:=hB.NS;have hMS:=hB.2.2.1;have hNS:=RcM.NS hB.2.1;have hbM:∀x∈blks (Value.slice aob r.bs.length cb),x∉S:=fun x hx hm=>by have h1:=hBo.2 x hx;have h2:=hSl x hm;omega
 have hlM:∀x∈blks (Value.slice aol r.cl.length cl),x∉S:=fun x hx hm=>by have h1:=hln x hx;have h2:=hSl x hm;omega
 have nS:b12∉S:=fun hm=>by have h2:=hSl _ hm;omega
 have n12:b12∉M++N:=fun hm=>nS (hMN _ hm)
 have dB:∀{z:World},Fr (M++N) u4 z->DR z S (.l (r.bs.map brC)) (.slice aob r.bs.length cb):=fun{z} hf=>ZO (hBo.1.tr hf (fun x hx hm=>hbM x hx (hMN x hm))) Yhn hbM
 have dL:∀{z:World},Fr (M++N) u4 z->DR z S (.l (r.cl.map KI)) (.slice aol r.cl.length cl):=fun{z} hf=>Jgd (hCl.tr hf (fun x hx hm=>hlM x hx (hMN x hm))) Yhn hlM
 have hfit:Qd P r=true:=hr▸Jld;refine rx ?_;refine JE (fun z=>Fr (M++N) u4 z) Yhp rfl ?_;obtain⟨u5,hu5⟩:=exq u4.drew;rw[<-hu5];have hd5:Fr [] u4 u5:=hu5▸Fr.drew _ _;have hS:Fr (M++N) u4 u5:=hd5.mono Yhs;refine d_z 0 hS ?_;refine Kw 1 hS ?_ (hrun:=by(intro u hu;exact(Kv rfl (Cells.VO (h12.tr hu n12)) Yik)));refine d_z 4 hS ?_;refine Kw 5 hS ?_ (hrun:=by(intro u hu;exact(Kv rfl (Cells.VO (h12.tr hu n12)) Yik)));refine JJ (i:=2) rfl Yhp ?_;refine Jg (Jj6 r.kind r.at_ r.code (.slice aob r.bs.length cb) (.slice aol r.cl.length cl) _ rfl rfl) ?_;rintro u6 hfo;have hS:=hS.Jb hfo;refine Yfz ?_;have hB:=hB.tr0 (hd5.Jb hfo);refine JJ (i:=3) rfl Yhp ?_;refine Jg (addN r (.slice aob r.bs.length cb) (.slice aol r.cl.length cl) u6 hB.1 hMS (dB hS) (dL hS) (by show(rs++rsF P ms a i).length<=1000000;omega) Yhn) ?_;rintro u7 ⟨hC7,hf7⟩;have hQ7:=hB.cov hf7;have hS:=hS.trans hf7 (fun x hx=>.inl (SA _ hx));refine Yfz ?_;refine JJ (i:=6) rfl Yhp ?_;refine Jg (Jg7 r (.slice aob r.bs.length cb) (.slice aol r.cl.length cl) u7 hQ7 (dB hS) (dL hS) Yhn Yhn) ?_;rintro u8 ⟨⟨N',hQ8,hN'⟩,hf8⟩;have hsz7:=hf7.size;have hsz6:=(hd5.Jb hfo).size;have hsz4:=hf04.size;have hszF:=hF.size;have hB8:=hB.add hC7 hf7 hQ8 hN' hf8;have hS:=hS.trans hf8 (fun x hx=>.inl (CJ _ hx));refine Yfz ?_;refine d_z 7 hS ?_;refine Yev ?_;refine Jc (i+1,N',S++N') Yhl ⟨rfl,hlt,?_,?_,fun x hx=>?_,fun x hx=>SA _ (hSS x hx)⟩ Yhw
 .simp only;rw[Jlh,<-hr,<-List.append_assoc];rw[show rsN P (rs++rsF P ms a i) r=(rs++rsF P ms a i)++[r] from Cb hfit]at hB8;exact hB8
 .refine (hF.Jb hf04).trans hS (fun x hx=>?_);rcases SE.1 hx with h|h
  .exact .inl (SA _ h)
  .exact (hN x h).imp (fun h=>CJ _ h) id
 .rcases hN' x hx with h|h
  .exact hN x h
  .exact .inr Yhn
end Go.Proofs.YtggmccicdhnkgaaGreat
namespace Go.Rf
variable{n t:Nat}{P:Program}{w:World}
theorem Jdg(dd:Nat){e:Nat}(hu:P.underlying t=some (.pointer e)):(Op.equalIn (dd+1) t (.pointer none) (.pointer none)).run P w=.ok true w:=by
 simp[Op.equalIn,run_underlying hu]
theorem JgY{D:Dfs}{ops:Array Oper}{Q:Exit->Act->World->Prop}{rest:List Oper}{f:Env}{d:Nat}{ty:TypeId}{ps:String}{af:Array Edge}{x y:Operand}{t2:Nat}[T:PtrT P t](hx:ev n f x=.pointer none)(hy:ev n f y=.pointer none)(h:wpList P ops Q rest (A n (upd f d (.bool true))) w):
 wpList P ops Q (⟨some d,.binOp .eql t x y t2,ty,ps,af,none⟩::rest) (A n f) w:=by
 obtain⟨e,hu⟩:=T.u;have:(Op.equal t (.pointer none) (.pointer none)).run P w=.ok true w:=Jdg 9999 hu;exact JR (by simp[execOp,eqGuard,binOp,hx,hy,this]) h
end Go.Rf
namespace Go.Proofs.YtggmccicdhnkgaaGreat
open Go.Rf Go.RowKit
variable{n:Nat}
theorem Jhz{ds:List De}(hm:MD ds):fdD ds 3 (bst Xe)=none:=by
 cases h:fdD ds 3 (bst Xe)with
 |none=>rfl
 |some d=>
  obtain⟨hd,_,hn⟩:=XT h;have h2:=(hm.2.1 d hd).2;rw[hn]at h2;exact absurd h2 Yhy
def SmQ(n:Nat)(rs:List Rn):Prop:=rs.length<=n/\∀r∈rs,(r.bs.length<=5/\∀b∈r.bs,BrK b)/\r.cl.length<=17
theorem SmQ.next{P:Pp}{rs:List Rn}{r:Rn}(h:SmQ n rs)(h1:r.bs.length<=5)(h2:∀b∈r.bs,BrK b)(h3:r.cl.length<=17):SmQ (n+1) (rsN P rs r):=by
 unfold rsN
 split
 .refine ⟨by have:=h.1;simp;omega,fun x hx=>?_⟩;rcases SE.1 hx with hx|hx
  .exact h.2 x hx
  .rw [Sv.1 hx];exact⟨⟨h1,h2⟩,h3⟩
 .exact ⟨by have:=h.1;omega,h.2⟩
theorem SmQ.r{rs:List Rn}(h:SmQ n rs)(hn:n<=20):SmR rs:=⟨CG h.1 hn,fun r hr=>(h.2 r hr).1⟩
attribute [local irreducible] Code.wp wpList Exit.then Exit.inBlock bodyPost A Calls execOp Addr.add
end Go.Proofs.YtggmccicdhnkgaaGreat
namespace Go.Rf
variable{e:Int}
theorem JmV{u:Nat}:zz (back u)=u:=by unfold zz back;split<;>split<;>omega
theorem Jmq:∀(bs:List Int) (i acc m:Nat) (l:List Int),rdL bs i acc=.ok (m,l)->i<=9->Bys bs->∃q,m=acc+q*128^i/\bs=uv q++l/\(0<i->q≠0)
 |[],i,acc,m,l,h,_,_=>by simp[rdL]at h
 |b::bs,i,acc,m,l,h,hi,hB=>by
  have hb:=hB b Yhs;unfold rdL at h
  split at h
  .cases h
  .rename_i hbad
   split at h
   .simp only[HY,Sz]at h;obtain⟨rfl,rfl⟩:=h;refine⟨(b%128).toNat,rfl,?_,by omega⟩;rw[Jdo Yhn,IB]
    congr 1
    omega
   .have h9:i≠9:=by omega
    obtain⟨q,h1,h2,h3⟩:=Jmq bs (i+1) _ m l h Yhn (fun x hx=>hB x Yix);have hq:=h3 Yhn;refine⟨(b%128).toNat+128*q,?_,?_,by omega⟩
    .rw [h1,Oa,Nat.add_mul,Nat.add_assoc]
     congr 2
     rw[Nat.mul_comm (128^i) 128,<-Nat.mul_assoc,Nat.mul_comm q 128]
    .rw [Je1 Yhn,CQ];have e1:((b%128).toNat+128*q)/128=q:=by omega
     rw[e1,<-h2]
     congr 1
     omega
theorem Jmp{bs:List Int}(hB:Bys bs)(h:(rdU bs 0).2.2=0):bs=uv (rdU bs 0).1++(rdU bs 0).2.1:=by
 unfold rdU at h ⊢;rw[SH Yhs]at h ⊢;cases hr:rdL bs 0 0 with
 |error x=>
  rw[hr]at h;have:=Jl1 bs 0 0 x hr;simp only at h;omega
 |ok r=>
  obtain⟨m,l⟩:=r;obtain⟨q,h1,h2,_⟩:=Jmq bs 0 0 m l hr Yhn hB;have:m=q:=by rw[h1];simp
  subst this;exact h2
theorem Jm1{bs:List Int}(hB:Bys bs)(h:(rdI bs 0).2.2=0):bs=iv (rdI bs 0).1++(rdI bs 0).2.1:=by
 unfold rdI at h ⊢;simp only[iv,JmV];exact Jmp hB h
theorem Jm0{bs:List Int}(hB:Bys bs)(h:(rdN bs 0).2.2=0):bs=uv (rdN bs 0).1++(rdN bs 0).2.1/\(rdN bs 0).1<=(rdN bs 0).2.1.length:=by
 unfold rdN at h ⊢
 split
 .rename_i he;rw[Cb he]at h;exact absurd h he
 .rename_i he;rw[SH he]at h
  split
  .rename_i h2;rw[Cb h2]at h;simp at h
  .exact ⟨Jmp hB Yhn,by simp only;omega⟩
theorem JmZ{bs:List Int}(hB:Bys bs)(h:(rdR bs 0).2.2=0):bs=raw (rdR bs 0).1++(rdR bs 0).2.1:=by
 obtain⟨h1,h2⟩:=Jm0 hB h;unfold rdR raw;simp only;rw[C9,Hw h2,List.append_assoc,List.take_append_drop];exact h1
theorem JlK{bs:List Int}(h:(rdU bs e).2.2=0):e=0:=by
 unfold rdU at h;by_cases he:e=0
 .exact he
 .rw [Cb he]at h;exact h
theorem Jmy{bs:List Int}(h:(rdI bs e).2.2=0):e=0:=JlK h
theorem Jmx{bs:List Int}(h:(rdN bs e).2.2=0):e=0:=by
 unfold rdN at h
 split at h
 .exact JlK h
 .rename_i h1;exact JlK (I9.1 h1)
theorem Jmw{bs:List Int}(h:(rdR bs e).2.2=0):e=0:=Jmx h
theorem Jmr{bs:List Int}(hB:Bys bs):Bys (rdI bs e).2.1/\(rdI bs e).2.1.length<=bs.length:=⟨JmX hB,(JlN hB).2.1⟩
theorem Jl0{bs:List Int}(hB:Bys bs):Bys (rdR bs e).2.1/\(rdR bs e).2.1.length<=bs.length/\Bys (rdR bs e).1/\(rdR bs e).1.length<=bs.length:=by
 obtain⟨h1,h2,⟨k,h3⟩,h4⟩:=JmF (e:=e) hB;have hb:Bys (rdN bs e).2.1:=by rw[h3];exact hB.drop k
 unfold rdR;refine⟨hb.drop _,?_,hb.take _,?_⟩
 .simp only[Dn];omega
 .simp only[C9];omega
theorem JmA{bs:List Int}(h:Bys bs):sb (strOf bs)=bs:=by
 unfold sb strOf;simp only[Io]
 conv=>rhs;rw[<-List.map_id bs]
 apply Oh;intro b hb;have:=h b hb;simp only[Function.comp,id];rw[UInt8.toNat_ofNat'];omega
theorem JmB(s:ByteArray):strOf (sb s)=s:=by
 unfold sb strOf;cases s with
 |mk d=>
  congr 1
  apply Oc.1;simp only[Io]
  conv=>rhs;rw[<-List.map_id d.toList]
  apply Oh;intro b _;simp
theorem JmC(s:ByteArray):Bys (sb s):=by
 intro b hb;unfold sb at hb;obtain⟨c,_,rfl⟩:=Du.1 hb;have:=c.toNat_lt;omega
end Go.Rf
namespace Go.Proofs.YtggmccicdhnkgaaGreat
open Go.Rf Go.RowKit
variable{s:St}{α β:Type}
def txt(s:ByteArray):List Int:=raw (sb s)
structure DS where
 bs:List Int
 e:Int
 bad:Bool
def dI(s:DS):Int×DS:=((rdI s.bs s.e).1,⟨(rdI s.bs s.e).2.1,(rdI s.bs s.e).2.2,s.bad⟩)
def dT(s:DS):ByteArray×DS:=(strOf (rdR s.bs s.e).1,⟨(rdR s.bs s.e).2.1,(rdR s.bs s.e).2.2,s.bad⟩)
def dGo{α:Type}(el:DS->α×DS):Nat->DS->List α×DS
 |0,s=>([],s)
 |k+1,s=>if s.bad=true then([],s) else((el s).1::(dGo el k (el s).2).1,(dGo el k (el s).2).2)
structure DK (s s':DS):Prop where
 bys:Bys s'.bs
 len:s'.bs.length<=s.bs.length
def Kp{α:Type}(el:DS->α×DS):Prop:=∀s,Bys s.bs->DK s (el s).2
theorem DK.refl{s:DS}(h:Bys s.bs):DK s s:=⟨h,SX _⟩
theorem DK.trans{a b c:DS}(h:DK a b)(k:DK b c):DK a c:=⟨k.bys,CG k.len h.len⟩
theorem Jmt:Kp dI:=fun s h=>⟨(Jmr h).1,(Jmr h).2⟩
theorem Jmd:Kp dT:=fun s h=>⟨(Jl0 h).1,(Jl0 h).2.1⟩
theorem Jml{el:DS->α×DS}(h:Kp el):∀k,Kp (dGo el k)
 |0=>fun s hs=>DK.refl hs
 |k+1=>fun s hs=>by
  rw[dGo]
  split
  .exact DK.refl hs
  .have h1:=h s hs;exact h1.trans (Jml h k _ h1.bys)
def One{α:Type}(el:DS->α×DS)(enc:α->List Int):Prop:=∀s,Bys s.bs->(el s).2.e=0->(el s).2.bad=false->s.e=0/\s.bad=false/\s.bs=enc (el s).1++(el s).2.bs
theorem Jmk:One dI iv:=fun s hs he hb=>by
 have h0:=Jmy he;obtain⟨bs,e,bad⟩:=s;simp only at h0 hs;subst h0;exact⟨rfl,hb,Jm1 hs he⟩
theorem JmM:One dT txt:=fun s hs he hb=>by
 have h0:=Jmw he;obtain⟨bs,e,bad⟩:=s;simp only at h0 hs;subst h0;refine⟨rfl,hb,?_⟩;have h1:=JmZ hs he;unfold txt;simp only[dT];rw[JmA (Jl0 hs).2.2.1];exact h1
theorem Jmu{el:DS->α×DS}{enc:α->List Int}(hk:Kp el)(h:One el enc):∀k s,Bys s.bs->(dGo el k s).2.e=0->(dGo el k s).2.bad=false->s.e=0/\s.bad=false/\s.bs=(dGo el k s).1.flatMap enc++(dGo el k s).2.bs/\(dGo el k s).1.length=k
 |0,s,hs,he,hb=>⟨he,hb,rfl,rfl⟩
 |k+1,s,hs,he,hb=>by
  rw[dGo]at he hb ⊢;by_cases hbad:s.bad=true
  .rw [Cb hbad]at hb;rw[hbad]at hb;cases hb
  .rw [SH hbad]at he hb ⊢;obtain⟨h1,h2,h3,h4⟩:=Jmu hk h k _ (hk s hs).bys he hb;obtain⟨h5,h6,h7⟩:=h s hs h1 h2;refine⟨h5,h6,?_,by simp only[SI,h4]⟩;simp only[CP,List.append_assoc];rw[<-h3];exact h7
def RT{α:Type}(el:DS->α×DS)(enc:α->List Int)(x:α):Prop:=∀rest,el ⟨enc x++rest,0,false⟩=(x,⟨rest,0,false⟩)
theorem JmP{n:Int}(h:VE n):RT dI iv n:=fun rest=>by
 unfold dI;simp only[Jnn h.1 h.2]
theorem Jnh{s:ByteArray}(h:s.size<=1000000000000):RT dT txt s:=fun rest=>by
 unfold dT txt;simp only[JmY (bs:=sb s) (by rw[Xx];omega),JmB]
theorem JmQ{el:DS->α×DS}{enc:α->List Int}:∀(l:List α) (rest:List Int),(∀x∈l,RT el enc x)->dGo el l.length ⟨l.flatMap enc++rest,0,false⟩=(l,⟨rest,0,false⟩)
 |[],rest,h=>rfl
 |x::l,rest,h=>by
  rw[SI,dGo,SH Yhs,CP,List.append_assoc,h x Yhs _];simp only;rw[JmQ l rest (fun y hy=>h y (by simp[hy]))]
theorem JmI(n:Int):0<(iv n).length:=Jnj _
theorem JlP{enc:α->List Int}{l:List α}(h:∀x∈l,0<(enc x).length):l.length<=(l.flatMap enc).length:=by
 induction l with
 |nil=>simp
 |cons x l ih=>
  simp only[CP,Sm,SI];have:=h x Yhs;have:=ih (fun y hy=>h y (by simp[hy]));omega
def Jlz(n:Nat):List Int:=iv (n:Int)
def Jlx(m:Nat)(s:DS):Nat×DS:=if(dI s).1<0\/(m:Int)<(dI s).1 then(0,⟨(dI s).2.bs,(dI s).2.e,true⟩) else((dI s).1.toNat,(dI s).2)
def dBr(s:DS):Br×DS:=(⟨(dT s).1,(dI (dT s).2).1,(dI (dI (dT s).2).2).1⟩,(dI (dI (dT s).2).2).2)
theorem Jly(m:Nat):Kp (Jlx m):=fun s hs=>by
 unfold Jlx;have:=Jmt s hs
 split
 .exact ⟨this.bys,this.len⟩
 .exact this
theorem JlH:Kp dBr:=fun s hs=>by
 have a:=Jmd s hs;have b:=Jmt _ a.bys;exact(a.trans b).trans (Jmt _ b.bys)
theorem JlI(m:Nat)(s:DS):(Jlx m s).1<=m:=by
 unfold Jlx
 split
 .exact SL _
 .simp only;omega
theorem JlB(m:Nat):One (Jlx m) Jlz:=fun s hs he hb=>by
 unfold Jlx at he hb ⊢
 split
 .rename_i h;rw[Cb h]at hb;cases hb
 .rename_i h;rw[SH h]at he hb;obtain⟨h1,h2,h3⟩:=Jmk s hs he hb;refine⟨h1,h2,?_⟩;unfold Jlz;simp only;rw[Et Yhn];exact h3
theorem Jl4:One dBr brE:=fun s hs he hb=>by
 have a:=Jmd s hs;have b:=Jmt _ a.bys;obtain⟨e3,b3,h3⟩:=Jmk _ b.bys he hb;obtain⟨e2,b2,h2⟩:=Jmk _ a.bys e3 b3;obtain⟨e1,b1,h1⟩:=JmM s hs e2 b2;refine⟨e1,b1,?_⟩;unfold brE;simp only[List.append_assoc];rw[h1,h2,h3];rfl
theorem JlF{m n:Nat}(h:n<=m)(hm:n<=9223372036854775807):RT (Jlx m) Jlz n:=fun rest=>by
 unfold Jlx Jlz;rw[JmP (show VE (n:Int) by unfold VE;omega) rest];simp only;rw[SH Yhn];rfl
theorem Jmm{b:Br}(h1:b.decl.size<=1000000000000)(h2:VE b.at_)(h3:VE b.arm):RT dBr brE b:=fun rest=>by
 have e1:=Jnh h1 (iv b.at_++(iv b.arm++rest));have e2:=JmP h2 (iv b.arm++rest);have e3:=JmP h3 rest;unfold txt at e1;unfold dBr brE;simp only[List.append_assoc,e1,e2,e3]
/-! ### increasing lists -/
def JlA{α:Type}(el:DS->α×DS)(ok:Option α->α->Bool):Nat->Option α->DS->List α×DS
 |0,_,s=>([],s)
 |k+1,last,s=>if s.bad=true then([],s) else
  ((el s).1::(JlA el ok k (some (el s).1) ⟨(el s).2.bs,(el s).2.e,(el s).2.bad|| !ok last (el s).1⟩).1,(JlA el ok k (some (el s).1) ⟨(el s).2.bs,(el s).2.e,(el s).2.bad|| !ok last (el s).1⟩).2)
def Chn{α:Type}(ok:Option α->α->Bool):Option α->List α->Prop
 |_,[]=>True
 |last,x::l=>ok last x=true/\Chn ok (some x) l
theorem Jl6{el:DS->α×DS}{ok:Option α->α->Bool}(h:Kp el):∀k last,Kp (JlA el ok k last)
 |0,last=>fun s hs=>DK.refl hs
 |k+1,last=>fun s hs=>by
  rw[JlA]
  split
  .exact DK.refl hs
  .have h1:=h s hs;have h2:DK s ⟨(el s).2.bs,(el s).2.e,(el s).2.bad|| !ok last (el s).1⟩:=⟨h1.bys,h1.len⟩;exact h2.trans (Jl6 h k _ _ h1.bys)
theorem JlU{el:DS->α×DS}{ok:Option α->α->Bool}{enc:α->List Int}(hk:Kp el)(h:One el enc):∀k last s,Bys s.bs->(JlA el ok k last s).2.e=0->(JlA el ok k last s).2.bad=false->s.e=0/\s.bad=false/\s.bs=(JlA el ok k last s).1.flatMap enc++(JlA el ok k last s).2.bs/\(JlA el ok k last s).1.length=k/\Chn ok last (JlA el ok k last s).1
 |0,last,s,hs,he,hb=>⟨he,hb,rfl,rfl,trivial⟩
 |k+1,last,s,hs,he,hb=>by
  rw[JlA]at he hb ⊢;by_cases hbad:s.bad=true
  .rw [Cb hbad]at hb;rw[hbad]at hb;cases hb
  .rw [SH hbad]at he hb ⊢;obtain⟨h1,h2,h3,h4,h4'⟩:=JlU hk h k (some (el s).1) ⟨(el s).2.bs,(el s).2.e,(el s).2.bad|| !ok last (el s).1⟩ (hk s hs).bys he hb;simp only[Cc,Oi]at h1 h2 h3;obtain⟨h5,h6,h7⟩:=h s hs h1 h2.1;refine⟨h5,h6,?_,by simp only[SI,h4],h2.2,h4'⟩;simp only[CP,List.append_assoc];rw[<-h3];exact h7
theorem Jl5{el:DS->α×DS}{ok:Option α->α->Bool}{enc:α->List Int}:∀(l:List α) (last:Option α) (rest:List Int),(∀x∈l,RT el enc x)->Chn ok last l->JlA el ok l.length last ⟨l.flatMap enc++rest,0,false⟩=(l,⟨rest,0,false⟩)
 |[],last,rest,h,_=>rfl
 |x::l,last,rest,h,hc=>by
  rw[SI,JlA,SH Yhs,CP,List.append_assoc,h x Yhs _];simp only[hc.1,Bool.not_true,Ii];rw[Jl5 l (some x) rest (fun y hy=>h y (by simp[hy])) hc.2]
theorem Jl8{ok:Option α->α->Bool}{c:α->Prop}(h:∀last x,ok last x=true->c x):∀{l:List α} {last:Option α},Chn ok last l->∀x∈l,c x
 |[],_,_=>by simp
 |y::l,last,hc=>fun x hx=>by
  rcases SC.1 hx with rfl|hx
  .exact h _ _ hc.1
  .exact Jl8 h hc.2 x hx
theorem Jl7{ok:Option α->α->Bool}{lt:β->β->Bool}(T:Tot lt){g:α->β}(h:∀y x,ok (some y) x=true->lt (g y) (g x)=true):∀{l:List α} {last:Option α},Chn ok last l->Asc lt (l.map g)/\∀y,last=some y->∀x∈l,lt (g y) (g x)=true
 |[],_,_=>⟨by simp[Asc],by simp⟩
 |y::l,last,hc=>by
  obtain⟨h1,h2⟩:=Jl7 T h hc.2;refine⟨?_,fun z hz x hx=>?_⟩
  .simp only[Asc,DL,EC];refine⟨fun b hb=>?_,h1⟩;obtain⟨x,hx,rfl⟩:=Du.1 hb;exact h2 y rfl x hx
  .subst hz;have h3:=h z y hc.1;rcases SC.1 hx with rfl|hx
   .exact h3
   .exact T.tr h3 (h2 y rfl x hx)
theorem Jmo{ok:Option α->α->Bool}{lt:β->β->Bool}{g:α->β}{c:α->Prop}(h:∀last x,c x->(∀y,last=some y->lt (g y) (g x)=true)->ok last x=true):∀{l:List α} {last:Option α},Asc lt (l.map g)->(∀y,last=some y->∀x∈l,lt (g y) (g x)=true)->(∀x∈l,c x)->Chn ok last l
 |[],_,_,_,_=>trivial
 |y::l,last,ha,hl,hc=>by
  simp only[Asc,DL,EC]at ha;refine⟨h _ _ (hc y Yhs) (fun z hz=>hl z hz y Yhs),Jmo h ha.2 (fun z hz x hx=>?_) (fun x hx=>hc x Yix)⟩;cases hz
  exact ha.1 _ (Du.2 ⟨x,hx,rfl⟩)
/-! ### covers -/
def lastB{α:Type}(lt:α->α->Bool):Option α->α->Bool
 |none,_=>true
 |some y,x=>lt y x
def okB(last:Option (Br×Nat))(x:Br×Nat):Bool:=decide (x.2≠0)&&lastB ltB (last.map Prod.fst) x.1
def hasB(l:List (Br×Nat))(b:Br):Bool:=decide ((getM l b).getD 0≠0)
def okP(l:List (Br×Nat))(last:Option Pr)(p:Pr):Bool:=hasB l p.1&&hasB l p.2&&lastB ltP last p
def dBc(runs:Nat)(s:DS):(Br×Nat)×DS:=(((dBr s).1,(Jlx runs (dBr s).2).1),(Jlx runs (dBr s).2).2)
def dPr(s:DS):Pr×DS:=(((dBr s).1,(dBr (dBr s).2).1),(dBr (dBr s).2).2)
def bcE(x:Br×Nat):List Int:=brE x.1++Jlz x.2
def prE(p:Pr):List Int:=brE p.1++brE p.2
structure Hd where
 prop:ByteArray
 runs:Nat
 o0:Nat
 o1:Nat
 o2:Nat
def JlC:Nat:=1099511627776
def dHd(s:DS):Hd×DS:=
 let p:=dT s;let r:=Jlx JlC p.2;let a:=Jlx r.1 r.2;let b:=Jlx r.1 a.2;let c:=Jlx r.1 b.2
 (⟨p.1,r.1,a.1,b.1,c.1⟩,⟨c.2.bs,c.2.e,c.2.bad||decide (a.1+b.1+c.1≠r.1)⟩)
def hdE(h:Hd):List Int:=txt h.prop++(Jlz h.runs++(Jlz h.o0++(Jlz h.o1++Jlz h.o2)))
def JlY(m runs:Nat)(s:DS):List Nat×DS:=dGo (Jlx runs) (Jlx m s).1 (Jlx m s).2
def JlT(m runs:Nat)(s:DS):List (Br×Nat)×DS:=JlA (dBc runs) okB (Jlx m s).1 none (Jlx m s).2
def JlS(m:Nat)(l:List (Br×Nat))(s:DS):List Pr×DS:=JlA dPr (okP l) (Jlx m s).1 none (Jlx m s).2
def stC(h:Hd)(c:List Nat)(r:List (Br×Nat))(p:List Pr):St:=⟨h.runs,fun k=>if k=0 then h.o0 else if k=1 then h.o1 else if k=2 then h.o2 else 0,c,fun b=>(getM r b).getD 0,r.map Prod.fst,p⟩
def d1(b:List Int):Hd×DS:=dHd ⟨b,0,false⟩
def d2(b:List Int):List Nat×DS:=JlY b.length (d1 b).1.runs (d1 b).2
def d3(b:List Int):List (Br×Nat)×DS:=JlT b.length (d1 b).1.runs (d2 b).2
def d4(b:List Int):List Pr×DS:=JlS b.length (d3 b).1 (d3 b).2
def JlX(b:List Int):Option (ByteArray×St):=if(d4 b).2.bad=true\/JlJ (d4 b).2.bs (d4 b).2.e≠0 then none else some ((d1 b).1.prop,stC (d1 b).1 (d2 b).1 (d3 b).1 (d4 b).1)
theorem Jmn(r:Nat):Kp (dBc r):=fun s hs=>(JlH s hs).trans (Jly r _ (JlH s hs).bys)
theorem Jnq:Kp dPr:=fun s hs=>(JlH s hs).trans (JlH _ (JlH s hs).bys)
theorem Jna(r:Nat):One (dBc r) bcE:=fun s hs he hb=>by
 obtain⟨h1,h2,h3⟩:=JlB r _ (JlH s hs).bys he hb;obtain⟨h4,h5,h6⟩:=Jl4 s hs h1 h2;refine⟨h4,h5,?_⟩;unfold bcE;rw[h6,h3,List.append_assoc];rfl
theorem Jm7:One dPr prE:=fun s hs he hb=>by
 obtain⟨h1,h2,h3⟩:=Jl4 _ (JlH s hs).bys he hb;obtain⟨h4,h5,h6⟩:=Jl4 s hs h1 h2;refine⟨h4,h5,?_⟩;unfold prE;rw[h6,h3,List.append_assoc];rfl
theorem Jl3:Kp dHd:=fun s hs=>by
 have a:=Jmd s hs;have b:=Jly JlC _ a.bys;have c:=Jly (Jlx JlC (dT s).2).1 _ b.bys;have d:=Jly (Jlx JlC (dT s).2).1 _ c.bys;have e:=Jly (Jlx JlC (dT s).2).1 _ d.bys;have:=(((a.trans b).trans c).trans d).trans e;exact⟨this.bys,this.len⟩
theorem Jm8:∀s,Bys s.bs->(dHd s).2.e=0->(dHd s).2.bad=false->s.e=0/\s.bad=false/\s.bs=hdE (dHd s).1++(dHd s).2.bs/\(dHd s).1.o0+(dHd s).1.o1+(dHd s).1.o2=(dHd s).1.runs/\(dHd s).1.runs<=JlC:=fun s hs he hb=>by
 have a:=Jmd s hs;have b:=Jly JlC _ a.bys;have c:=Jly (Jlx JlC (dT s).2).1 _ b.bys;have d:=Jly (Jlx JlC (dT s).2).1 _ c.bys;simp only[dHd,Cc,decide_eq_false_iff_not,I9]at he hb;obtain⟨e5,b5,h5⟩:=JlB _ _ d.bys he hb.1;obtain⟨e4,b4,h4⟩:=JlB _ _ c.bys e5 b5;obtain⟨e3,b3,h3⟩:=JlB _ _ b.bys e4 b4;obtain⟨e2,b2,h2⟩:=JlB _ _ a.bys e3 b3;obtain⟨e1,b1,h1⟩:=JmM s hs e2 b2;refine⟨e1,b1,?_,hb.2,JlI _ _⟩;simp only[hdE,dHd,List.append_assoc];rw[h1,h2,h3,h4,h5]
theorem JmR(m r:Nat):∀s,Bys s.bs->(JlY m r s).2.e=0->(JlY m r s).2.bad=false->s.e=0/\s.bad=false/\s.bs=Jlz (JlY m r s).1.length++((JlY m r s).1.flatMap Jlz++(JlY m r s).2.bs):=fun s hs he hb=>by
 obtain⟨h1,h2,h3,h4⟩:=Jmu (Jly r) (JlB r) _ _ (Jly m s hs).bys he hb;obtain⟨h5,h6,h7⟩:=JlB m s hs h1 h2;refine⟨h5,h6,?_⟩;unfold JlY;rw[h4,<-h3];exact h7
theorem JmS(m r:Nat):∀s,Bys s.bs->(JlT m r s).2.e=0->(JlT m r s).2.bad=false->s.e=0/\s.bad=false/\s.bs=Jlz (JlT m r s).1.length++((JlT m r s).1.flatMap bcE++(JlT m r s).2.bs)/\Chn okB none (JlT m r s).1:=fun s hs he hb=>by
 obtain⟨h1,h2,h3,h4,h4'⟩:=JlU (Jmn r) (Jna r) _ _ _ (Jly m s hs).bys he hb;obtain⟨h5,h6,h7⟩:=JlB m s hs h1 h2;refine⟨h5,h6,?_,h4'⟩;unfold JlT;rw[h4,<-h3];exact h7
theorem JmN(m:Nat)(l:List (Br×Nat)):∀s,Bys s.bs->(JlS m l s).2.e=0->(JlS m l s).2.bad=false->s.e=0/\s.bad=false/\s.bs=Jlz (JlS m l s).1.length++((JlS m l s).1.flatMap prE++(JlS m l s).2.bs)/\Chn (okP l) none (JlS m l s).1:=fun s hs he hb=>by
 obtain⟨h1,h2,h3,h4,h4'⟩:=JlU Jnq Jm7 _ _ _ (Jly m s hs).bys he hb;obtain⟨h5,h6,h7⟩:=JlB m s hs h1 h2;refine⟨h5,h6,?_,h4'⟩;unfold JlS;rw[h4,<-h3];exact h7
theorem Jmc{ks:List Br}{cnt:Br->Nat}{b:Br}:(getM (ks.map (fun x=>(x,cnt x))) b).getD 0=if b∈ks then cnt b else 0:=by
 induction ks with
 |nil=>rfl
 |cons k ks ih=>
  simp only[DL,getM,SC];by_cases h:b=k
  .subst h;simp
  .rw [SH h,ih];simp[h]
theorem JmT{r:Nat}:∀(k:Nat) (s:DS),∀n∈(dGo (Jlx r) k s).1,n<=r
 |0,s=>by simp[dGo]
 |k+1,s=>by
  rw[dGo]
  split
  .simp
  .intro n hn;rcases SC.1 hn with rfl|hn
   .exact JlI _ _
   .exact JmT k _ n hn
theorem JmU{r:Nat}{ok:Option (Br×Nat)->Br×Nat->Bool}:∀(k:Nat) (last:Option (Br×Nat)) (s:DS),∀x∈(JlA (dBc r) ok k last s).1,x.2<=r
 |0,last,s=>by simp[JlA]
 |k+1,last,s=>by
  rw[JlA]
  split
  .simp
  .intro n hn;rcases SC.1 hn with rfl|hn
   .exact JlI _ _
   .exact JmU k _ _ n hn
theorem JlM{last:Option (Br×Nat)}{x:Br×Nat}:okB last x=true↔x.2≠0/\∀y,last=some y->ltB y.1 x.1=true:=by
 unfold okB;rw[CV,Eb];cases last with
 |none=>simp[lastB]
 |some y=>simp[lastB]
theorem Jl2{l:List (Br×Nat)}{last:Option Pr}{x:Pr}:okP l last x=true↔(hasB l x.1=true/\hasB l x.2=true)/\∀y,last=some y->ltP y x=true:=by
 unfold okP;rw[CV,CV];cases last with
 |none=>simp[lastB]
 |some y=>simp[lastB]
theorem JnI{l:List (Br×Nat)}(h:Chn okB none l):Asc ltB (l.map Prod.fst)/\∀x∈l,x.2≠0:=
 ⟨(Jl7 Qu (g:=Prod.fst) (fun y x h=>(JlM.1 h).2 y rfl) h).1,Jl8 (c:=fun x:Br×Nat=>x.2≠0) (fun _ _ h=>(JlM.1 h).1) h⟩
theorem JlO{l:List (Br×Nat)}(hn:(l.map Prod.fst).Nodup)(h0:∀x∈l,x.2≠0){b:Br}:hasB l b=true↔b∈l.map Prod.fst:=by
 unfold hasB;rw[Eb];cases hg:getM l b with
 |none=>simp only[Option.getD_none,ne_eq,Ob,false_iff];exact getM_none.1 hg
 |some v=>
  have hm:=(Jll hn).1 hg;have:=h0 _ hm;simp only[E8,ne_eq];exact⟨fun _=>Du.2 ⟨_,hm,rfl⟩,fun _=>this⟩
structure DecOk (b:List Int) (q:ByteArray) (s:St):Prop where
 enc:U0 q s=b
 ok:∀c l,StOk ⟨q,c,s.cls.length,l⟩ s
 runs:s.runs<=JlC
theorem WI{bs:List Int}{e:Int}(h:JlJ bs e=0):e=0/\bs=[]:=by
 unfold JlJ at h
 split at h
 .rename_i h3;exact absurd h h3
 .rename_i h3;refine⟨I9.1 h3,?_⟩
  split at h
  .cases h
  .exact Dj Yhn
theorem JlR{f g:α->List β}:∀{l:List α},(∀x∈l,f x=g x)->l.flatMap f=l.flatMap g
 |[],_=>rfl
 |a::l,h=>by rw[CP,CP,h a Yhs,JlR (fun x hx=>h x Yix)]
theorem JmK{b b1 b2 b3:List Int}{H:Hd}{C:List Nat}{R:List (Br×Nat)}{Q:List Pr}(h1:b=hdE H++b1)(ho:H.o0+H.o1+H.o2=H.runs)(hr:H.runs<=JlC)
 (h2:b1=Jlz C.length++(C.flatMap Jlz++b2)) (hc:∀n∈C,n<=H.runs)
 (h3:b2=Jlz R.length++(R.flatMap bcE++b3)) (c3:Chn okB none R) (hc3:∀x∈R,x.2<=H.runs)
 (h4:b3=Jlz Q.length++Q.flatMap prE) (c4:Chn (okP R) none Q):DecOk b H.prop (stC H C R Q):=by
 have hB:=JnI c3;have hnd:=Asc.nd Qu hB.1;have hP:Asc ltP (Q.map id):=(Jl7 Qy (g:=id) (fun y x h=>(Jl2.1 h).2 y rfl) c4).1;rw[List.map_id]at hP;have hPk:∀x∈Q,hasB R x.1=true/\hasB R x.2=true:=Jl8 (c:=fun x:Pr=>hasB R x.1=true/\hasB R x.2=true) (fun _ _ h=>(Jl2.1 h).1) c4;have hcnt:∀x∈R,(getM R x.1).getD 0=x.2:=fun x hx=>by
  rw[(Jll hnd).2 (show(x.1,x.2)∈R from hx)];rfl
 have hks:∀x,(getM R x).getD 0≠0↔x∈R.map Prod.fst:=fun x=>by
  rw[<-JlO hnd hB.2];unfold hasB;rw[Eb]
 have hle:∀x,(getM R x).getD 0<=H.runs:=fun x=>by
  cases hg:getM R x with
  |none=>exact SL _
  |some v=>exact hc3 (x,v) ((Jll hnd).1 hg)
 refine⟨?_,fun c l=>⟨rfl,hks,hB.1,hP,fun p hp=>?_,ho,hc,hle⟩,hr⟩
 .have e5:R.flatMap bcE=(R.map Prod.fst).flatMap (fun x=>brE x++iv (((getM R x).getD 0:Nat):Int)):=by
   rw[List.flatMap_map];refine JlR (fun x hx=>?_);rw[hcnt x hx];rfl
  unfold U0 stC;simp only[List.append_assoc,Sr];rw[<-e5,h1,h2,h3,h4];unfold hdE txt Jlz;simp only[List.append_assoc];rfl
 .obtain ⟨h5,h6⟩:=hPk p hp;exact⟨(JlO hnd hB.2).1 h5,(JlO hnd hB.2).1 h6⟩
theorem Jm6{b:List Int}{X1:Hd×DS}{X2:List Nat×DS}{X3:List (Br×Nat)×DS}{X4:List Pr×DS}(hb:Bys b)(e1:X1=dHd ⟨b,0,false⟩)(e2:X2=JlY b.length X1.1.runs X1.2)(e3:X3=JlT b.length X1.1.runs X2.2)(e4:X4=JlS b.length X3.1 X3.2)(hbad:X4.2.bad=false)(he:X4.2.e=0)(hnil:X4.2.bs=[]):DecOk b X1.1.prop (stC X1.1 X2.1 X3.1 X4.1):=by
 have k1:DK ⟨b,0,false⟩ X1.2:=by rw[e1];exact Jl3 _ hb
 have k2:DK X1.2 X2.2:=by
  rw[e2];have:=Jly b.length _ k1.bys;exact this.trans (Jml (Jly _) _ _ this.bys)
 have k3:DK X2.2 X3.2:=by
  rw[e3];have:=Jly b.length _ k2.bys;exact this.trans (Jl6 (Jmn _) _ _ _ this.bys)
 have x4:=JmN b.length X3.1 X3.2 k3.bys (e4▸he) (e4▸hbad);rw[<-e4]at x4;have x3:=JmS b.length X1.1.runs X2.2 k2.bys (e3▸x4.1) (e3▸x4.2.1);rw[<-e3]at x3;have x2:=JmR b.length X1.1.runs X1.2 k1.bys (e2▸x3.1) (e2▸x3.2.1);rw[<-e2]at x2;have x1:=Jm8 ⟨b,0,false⟩ hb (e1▸x2.1) (e1▸x2.2.1);rw[<-e1]at x1;have h4:=x4.2.2.1;rw[hnil,Ce]at h4;have l2:∀n∈X2.1,n<=X1.1.runs:=by rw[e2];exact JmT _ _
 have l3:∀x∈X3.1,x.2<=X1.1.runs:=by rw[e3];exact JmU _ _ _
 exact JmK x1.2.2.1 x1.2.2.2.1 x1.2.2.2.2 x2.2.2 l2 x3.2.2.1 x3.2.2.2 l3 h4 x4.2.2.2
theorem JmL{b:List Int}{q:ByteArray}(hb:Bys b)(h:JlX b=some (q,s)):DecOk b q s:=by
 unfold JlX at h;by_cases hn:(d4 b).2.bad=true\/JlJ (d4 b).2.bs (d4 b).2.e≠0
 .rw [Cb hn]at h;cases h
 rw[SH hn]at h;have hbad:(d4 b).2.bad=false:=by cases hx:(d4 b).2.bad with
  |false=>rfl
  |true=>exact absurd (.inl hx) hn
 have hend:JlJ (d4 b).2.bs (d4 b).2.e=0:=I9.1 (fun hx=>hn (.inr hx));obtain⟨he,hnil⟩:=WI hend;have h1:=Dl h;have h2:(d1 b).1.prop=q:=CZ Prod.fst h1;have h3:stC (d1 b).1 (d2 b).1 (d3 b).1 (d4 b).1=s:=CZ Prod.snd h1;rw[<-h2,<-h3];exact Jm6 hb rfl rfl rfl rfl hbad he hnil
def Jnk(s t:St):Prop:=s.runs=t.runs/\s.o 0=t.o 0/\s.o 1=t.o 1/\s.o 2=t.o 2/\s.cls=t.cls/\s.cnt=t.cnt/\s.ks=t.ks/\s.ps=t.ps
theorem Jma(n:Nat):0<(Jlz n).length:=JmI _
theorem Jnc(b:Br):0<(brE b).length:=by unfold brE;have:=JmI b.arm;simp only[Sm];omega
theorem Jm5{P:Pp}(hok:StOk P s)(hp:P.prop.size<=1000000)(hr:s.runs<=1000000000)(hk:∀b∈s.ks,b.decl.size<=1000000/\VE b.at_/\VE b.arm)(hl1:s.cls.length<=1000000000)(hl2:s.ks.length<=1000000000)(hl3:s.ps.length<=1000000000):∃s',JlX (U0 P.prop s)=some (P.prop,s')/\Jnk s' s:=by
 obtain⟨b,hb⟩:=exq (U0 P.prop s);rw[<-hb];have ho:=hok.o;have hm:(fun p=>brE p.1++brE p.2)=prE:=rfl;have e5:s.ks.flatMap (fun x=>brE x++iv (s.cnt x:Nat))=(s.ks.map (fun x=>(x,s.cnt x))).flatMap bcE:=by rw[List.flatMap_map];rfl
 have hb':b=hdE ⟨P.prop,s.runs,s.o 0,s.o 1,s.o 2⟩++(Jlz s.cls.length++(s.cls.flatMap Jlz++(Jlz s.ks.length++((s.ks.map (fun x=>(x,s.cnt x))).flatMap bcE++(Jlz s.ps.length++s.ps.flatMap prE))))):=by
  rw[hb,<-e5];unfold U0 hdE txt;simp only[List.append_assoc];rfl
 have l1:s.cls.length<=(s.cls.flatMap Jlz).length:=JlP (fun x _=>Jma x);have l2:s.ks.length<=((s.ks.map (fun x=>(x,s.cnt x))).flatMap bcE).length:=by
  have:=JlP (enc:=bcE) (l:=s.ks.map (fun x=>(x,s.cnt x))) (fun x _=>by unfold bcE;rw[Sm];have:=Jma x.2;omega);rw[Sr]at this;exact this
 have l3:s.ps.length<=(s.ps.flatMap prE).length:=JlP (fun x _=>by unfold prE;rw[Sm];have:=Jnc x.2;omega);have hlen:=CZ List.length hb';simp only[Sm]at hlen;have f1:d1 b=(⟨P.prop,s.runs,s.o 0,s.o 1,s.o 2⟩,⟨Jlz s.cls.length++(s.cls.flatMap Jlz++(Jlz s.ks.length++((s.ks.map (fun x=>(x,s.cnt x))).flatMap bcE++(Jlz s.ps.length++s.ps.flatMap prE)))),0,false⟩):=by
  unfold d1 dHd;rw[hb'];unfold hdE;simp only[List.append_assoc];rw[Jnh Yhn];simp only;rw[JlF (m:=JlC) (by unfold JlC;omega) Yhn];simp only;rw[JlF Yhn Yhn];simp only;rw[JlF Yhn Yhn];simp only;rw[JlF Yhn Yhn];simp only[ho,ne_eq,Ob,decide_false,Bool.or_self]
 have f2:d2 b=(s.cls,⟨Jlz s.ks.length++((s.ks.map (fun x=>(x,s.cnt x))).flatMap bcE++(Jlz s.ps.length++s.ps.flatMap prE)),0,false⟩):=by
  unfold d2 JlY;rw[f1];simp only;rw[JlF Yhn Yhn];simp only;rw[JmQ s.cls _ (fun x hx=>JlF (hok.ocls x hx) (by have:=hok.ocls x hx;omega))]
 have hch:Chn okB none (s.ks.map (fun x=>(x,s.cnt x))):=by
  refine Jmo (lt:=ltB) (g:=Prod.fst) (c:=fun x=>x.2≠0) (fun last x h1 h2=>JlM.2 ⟨h1,h2⟩) (by rw[Io];simpa[EU]using hok.kasc) Yhs (fun x hx=>?_);obtain⟨y,hy,rfl⟩:=Du.1 hx;exact(hok.cnt y).2 hy
 have f3:d3 b=(s.ks.map (fun x=>(x,s.cnt x)),⟨Jlz s.ps.length++s.ps.flatMap prE,0,false⟩):=by
  unfold d3 JlT;rw[f2,f1];simp only;rw[JlF Yhn Yhn];have:=Jl5 (el:=dBc s.runs) (enc:=bcE) (ok:=okB) (s.ks.map (fun x=>(x,s.cnt x))) none (Jlz s.ps.length++s.ps.flatMap prE) (fun x hx rest=>by
   obtain⟨y,hy,rfl⟩:=Du.1 hx;have hky:=hk y hy;unfold dBc bcE;simp only[List.append_assoc];rw[Jmm Yhn hky.2.1 hky.2.2];simp only;rw[JlF (hok.ocnt y) (by have:=hok.ocnt y;omega)]) hch
  rw[Sr]at this;exact this
 have hnd:((s.ks.map (fun x=>(x,s.cnt x))).map Prod.fst).Nodup:=by
  rw[Io];have:=Asc.nd Qu hok.kasc;simpa[EU]using this
 have f4:d4 b=(s.ps,⟨[],0,false⟩):=by
  unfold d4 JlS;rw[f3];simp only;rw[JlF Yhn Yhn];have hh:∀x∈s.ks,hasB (s.ks.map (fun x=>(x,s.cnt x))) x=true:=fun x hx=>by
   unfold hasB;rw[Jmc,Cb hx,Eb];exact(hok.cnt x).2 hx
  have:=Jl5 (el:=dPr) (enc:=prE) (ok:=okP (s.ks.map (fun x=>(x,s.cnt x)))) s.ps none [] (fun x hx rest=>by
   have hx1:=hk _ (hok.pks x hx).1;have hx2:=hk _ (hok.pks x hx).2;unfold dPr prE;simp only[List.append_assoc];rw[Jmm Yhn hx1.2.1 hx1.2.2];simp only;rw[Jmm Yhn hx2.2.1 hx2.2.2]) (Jmo (lt:=ltP) (g:=id) (c:=fun x=>hasB (s.ks.map (fun x=>(x,s.cnt x))) x.1=true/\hasB (s.ks.map (fun x=>(x,s.cnt x))) x.2=true) (fun last x h1 h2=>Jl2.2 ⟨h1,h2⟩) (by rw[List.map_id];exact hok.pasc) Yhs (fun x hx=>⟨hh _ (hok.pks x hx).1,hh _ (hok.pks x hx).2⟩))
  rw[Ce]at this;exact this
 unfold JlX;rw[f4,SH (by simp[JlJ]),f1,f2,f3];refine⟨_,rfl,rfl,rfl,rfl,rfl,rfl,?_,?_,rfl⟩
 .funext x
  show(getM (s.ks.map (fun x=>(x,s.cnt x))) x).getD 0=s.cnt x;rw[Jmc]
  split
  .rfl
  .rename_i h;apply Eq.symm;apply DZ;exact fun h1=>h ((hok.cnt x).1 h1)
 .show (s.ks.map (fun x=>(x,s.cnt x))).map Prod.fst=s.ks;rw[Io];exact List.map_id _
end Go.Proofs.YtggmccicdhnkgaaGreat
