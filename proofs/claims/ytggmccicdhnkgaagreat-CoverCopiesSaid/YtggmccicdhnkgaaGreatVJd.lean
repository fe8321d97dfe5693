/-
 The plain law of encodings of covers:reading what was written,and one encoding.
-/
import Derived.Test.YtggmccicdhnkgaaGreatVQe
import Derived.Test.YtggmccicdhnkgaaGreatVCq
import Derived.Test.YtggmccicdhnkgaaGreatVFd
import Derived.Test.YtggmccicdhnkgaaGreatVWr
set_option linter.all false
set_option maxHeartbeats 64000000
namespace Go.Rf
variable{e:Int}
theorem JmV{u:Nat}:zz (back u)=u:=by unfold zz back;split<;>split<;>omega
theorem Jmq:∀(bs:List Int) (i acc m:Nat) (l:List Int),nC bs i acc=.ok (m,l)->i<=9->fT bs->∃q,m=acc+q*128^i/\bs=uv q++l/\(0<i->q≠0)
 |[],i,acc,m,l,h,_,_=>by simp[nC]at h
 |b::bs,i,acc,m,l,h,hi,hB=>by
  have hb:=hB b ap;unfold nC at h
  split at h
  .cases h
  .rename_i fQ
   split at h
   .simp only[HY,Sz]at h;obtain⟨rfl,rfl⟩:=h;refine⟨(b%128).toNat,rfl,?_,by omega⟩;rw[P2 ab,IB]
    congr 1
    omega
   .have h9:i≠9:=by omega
    obtain⟨q,h1,h2,h3⟩:=Jmq bs (i+1) _ m l h ab (fun x hx=>hB x lA);have hq:=h3 ab;refine⟨(b%128).toNat+128*q,?_,?_,by omega⟩
    .rw [h1,Oa,Nat.add_mul,Nat.add_assoc]
     congr 2
     rw[Nat.mul_comm (128^i) 128,<-Nat.mul_assoc,Nat.mul_comm q 128]
    .rw [YR ab,CQ];have e1:((b%128).toNat+128*q)/128=q:=by omega
     rw[e1,<-h2]
     congr 1
     omega
theorem Jmp{bs:List Int}(hB:fT bs)(h:(j2 bs 0).2.2=0):bs=uv (j2 bs 0).1++(j2 bs 0).2.1:=by
 unfold j2 at h ⊢;rw[SH ap]at h ⊢;cases hr:nC bs 0 0 with
 |error x=>
  rw[hr]at h;have:=Jl1 bs 0 0 x hr;simp only at h;omega
 |ok r=>
  obtain⟨m,l⟩:=r;obtain⟨q,h1,h2,_⟩:=Jmq bs 0 0 m l hr ab hB;have:m=q:=by rw[h1];simp
  subst this;exact h2
theorem Jm1{bs:List Int}(hB:fT bs)(h:(qC bs 0).2.2=0):bs=iv (qC bs 0).1++(qC bs 0).2.1:=by
 unfold qC at h ⊢;simp only[iv,JmV];exact Jmp hB h
theorem Jm0{bs:List Int}(hB:fT bs)(h:(lf bs 0).2.2=0):bs=uv (lf bs 0).1++(lf bs 0).2.1/\(lf bs 0).1<=(lf bs 0).2.1.length:=by
 unfold lf at h ⊢
 split
 .rename_i he;rw[Cb he]at h;exact absurd h he
 .rename_i he;rw[SH he]at h
  split
  .rename_i h2;rw[Cb h2]at h;simp at h
  .exact ⟨Jmp hB ab,by simp only;omega⟩
theorem JmZ{bs:List Int}(hB:fT bs)(h:(pu bs 0).2.2=0):bs=raw (pu bs 0).1++(pu bs 0).2.1:=by
 obtain⟨h1,h2⟩:=Jm0 hB h;unfold pu raw;simp only;rw[C9,Hw h2,List.append_assoc,List.take_append_drop];exact h1
theorem JlK{bs:List Int}(h:(j2 bs e).2.2=0):e=0:=by
 unfold j2 at h;by_cases he:e=0
 .exact he
 .rw [Cb he]at h;exact h
theorem Jmy{bs:List Int}(h:(qC bs e).2.2=0):e=0:=JlK h
theorem Jmx{bs:List Int}(h:(lf bs e).2.2=0):e=0:=by
 unfold lf at h
 split at h
 .exact JlK h
 .rename_i h1;exact JlK (I9.1 h1)
theorem Jmw{bs:List Int}(h:(pu bs e).2.2=0):e=0:=Jmx h
theorem Jmr{bs:List Int}(hB:fT bs):fT (qC bs e).2.1/\(qC bs e).2.1.length<=bs.length:=⟨JmX hB,(JlN hB).2.1⟩
theorem Jl0{bs:List Int}(hB:fT bs):fT (pu bs e).2.1/\(pu bs e).2.1.length<=bs.length/\fT (pu bs e).1/\(pu bs e).1.length<=bs.length:=by
 obtain⟨h1,h2,⟨k,h3⟩,h4⟩:=JmF (e:=e) hB;have hb:fT (lf bs e).2.1:=by rw[h3];exact hB.drop k
 unfold pu;refine⟨hb.drop _,?_,hb.take _,?_⟩
 .simp only[Dn];omega
 .simp only[C9];omega
theorem JmA{bs:List Int}(h:fT bs):sb (strOf bs)=bs:=by
 unfold sb strOf;simp only[Io]
 conv=>rhs;rw[<-List.map_id bs]
 apply Oh;intro b hb;have:=h b hb;simp only[Function.comp,id];rw[UInt8.toNat_ofNat'];omega
theorem JmB(s:ByteArray):strOf (sb s)=s:=by
 unfold sb strOf;cases s with
 |mk d=>
  congr 1
  apply Oc.1;simp only[Io]
  conv=>rhs;rw[<-List.map_id d.toList]
  apply Oh;intro b _;simp
theorem JmC(s:ByteArray):fT (sb s):=by
 intro b hb;unfold sb at hb;obtain⟨c,_,rfl⟩:=Du.1 hb;have:=c.toNat_lt;omega
end Go.Rf
namespace Go.Proofs.YtggmccicdhnkgaaGreat
open Go.Rf Go.RowKit
variable{s:St}{α β:Type}
def Pv(s:ByteArray):List Int:=raw (sb s)
structure DS where
 bs:List Int
 e:Int
 bad:Bool
def dI(s:DS):Int×DS:=((qC s.bs s.e).1,⟨(qC s.bs s.e).2.1,(qC s.bs s.e).2.2,s.bad⟩)
def dT(s:DS):ByteArray×DS:=(strOf (pu s.bs s.e).1,⟨(pu s.bs s.e).2.1,(pu s.bs s.e).2.2,s.bad⟩)
def lJ{α:Type}(el:DS->α×DS):Nat->DS->List α×DS
 |0,s=>([],s)
 |k+1,s=>if s.bad=true then([],s) else((el s).1::(lJ el k (el s).2).1,(lJ el k (el s).2).2)
structure DK (s s':DS):Prop where
 bys:fT s'.bs
 len:s'.bs.length<=s.bs.length
def Kp{α:Type}(el:DS->α×DS):Prop:=∀s,fT s.bs->DK s (el s).2
theorem DK.refl{s:DS}(h:fT s.bs):DK s s:=⟨h,SX _⟩
theorem DK.trans{a b c:DS}(h:DK a b)(k:DK b c):DK a c:=⟨k.bys,CG k.len h.len⟩
theorem Jmt:Kp dI:=fun s h=>⟨(Jmr h).1,(Jmr h).2⟩
theorem Jmd:Kp dT:=fun s h=>⟨(Jl0 h).1,(Jl0 h).2.1⟩
theorem Jml{el:DS->α×DS}(h:Kp el):∀k,Kp (lJ el k)
 |0=>fun s hs=>DK.refl hs
 |k+1=>fun s hs=>by
  rw[lJ]
  split
  .exact DK.refl hs
  .have h1:=h s hs;exact h1.trans (Jml h k _ h1.bys)
def One{α:Type}(el:DS->α×DS)(enc:α->List Int):Prop:=∀s,fT s.bs->(el s).2.e=0->(el s).2.bad=false->s.e=0/\s.bad=false/\s.bs=enc (el s).1++(el s).2.bs
theorem Jmk:One dI iv:=fun s hs he hb=>by
 have h0:=Jmy he;obtain⟨bs,e,bad⟩:=s;simp only at h0 hs;subst h0;exact⟨rfl,hb,Jm1 hs he⟩
theorem JmM:One dT Pv:=fun s hs he hb=>by
 have h0:=Jmw he;obtain⟨bs,e,bad⟩:=s;simp only at h0 hs;subst h0;refine⟨rfl,hb,?_⟩;have h1:=JmZ hs he;unfold Pv;simp only[dT];rw[JmA (Jl0 hs).2.2.1];exact h1
theorem Jmu{el:DS->α×DS}{enc:α->List Int}(hk:Kp el)(h:One el enc):∀k s,fT s.bs->(lJ el k s).2.e=0->(lJ el k s).2.bad=false->s.e=0/\s.bad=false/\s.bs=(lJ el k s).1.flatMap enc++(lJ el k s).2.bs/\(lJ el k s).1.length=k
 |0,s,hs,he,hb=>⟨he,hb,rfl,rfl⟩
 |k+1,s,hs,he,hb=>by
  rw[lJ]at he hb ⊢;by_cases fQ:s.bad=true
  .rw [Cb fQ]at hb;rw[fQ]at hb;cases hb
  .rw [SH fQ]at he hb ⊢;obtain⟨h1,h2,h3,h4⟩:=Jmu hk h k _ (hk s hs).bys he hb;obtain⟨h5,h6,h7⟩:=h s hs h1 h2;refine⟨h5,h6,?_,by simp only[SI,h4]⟩;simp only[CP,List.append_assoc];rw[<-h3];exact h7
def RT{α:Type}(el:DS->α×DS)(enc:α->List Int)(x:α):Prop:=∀rest,el ⟨enc x++rest,0,false⟩=(x,⟨rest,0,false⟩)
theorem JmP{n:Int}(h:VE n):RT dI iv n:=fun rest=>by
 unfold dI;simp only[Jnn h.1 h.2]
theorem Jnh{s:ByteArray}(h:s.size<=1000000000000):RT dT Pv s:=fun rest=>by
 unfold dT Pv;simp only[JmY (bs:=sb s) (by rw[Xx];omega),JmB]
theorem JmQ{el:DS->α×DS}{enc:α->List Int}:∀(l:List α) (rest:List Int),(∀x∈l,RT el enc x)->lJ el l.length ⟨l.flatMap enc++rest,0,false⟩=(l,⟨rest,0,false⟩)
 |[],rest,h=>rfl
 |x::l,rest,h=>by
  rw[SI,lJ,SH ap,CP,List.append_assoc,h x ap _];simp only;rw[JmQ l rest (fun y hy=>h y (by simp[hy]))]
theorem JmI(n:Int):0<(iv n).length:=Jnj _
theorem JlP{enc:α->List Int}{l:List α}(h:∀x∈l,0<(enc x).length):l.length<=(l.flatMap enc).length:=by
 induction l with
 |nil=>simp
 |cons x l ih=>
  simp only[CP,Sm,SI];have:=h x ap;have:=ih (fun y hy=>h y (by simp[hy]));omega
def ke(n:Nat):List Int:=iv (n:Int)
def fo(m:Nat)(s:DS):Nat×DS:=if(dI s).1<0\/(m:Int)<(dI s).1 then(0,⟨(dI s).2.bs,(dI s).2.e,true⟩) else((dI s).1.toNat,(dI s).2)
def oy(s:DS):Br×DS:=(⟨(dT s).1,(dI (dT s).2).1,(dI (dI (dT s).2).2).1⟩,(dI (dI (dT s).2).2).2)
theorem ny(m:Nat):Kp (fo m):=fun s hs=>by
 unfold fo;have:=Jmt s hs
 split
 .exact ⟨this.bys,this.len⟩
 .exact this
theorem wc:Kp oy:=fun s hs=>by
 have a:=Jmd s hs;have b:=Jmt _ a.bys;exact(a.trans b).trans (Jmt _ b.bys)
theorem Pw(m:Nat)(s:DS):(fo m s).1<=m:=by
 unfold fo
 split
 .exact SL _
 .simp only;omega
theorem yH(m:Nat):One (fo m) ke:=fun s hs he hb=>by
 unfold fo at he hb ⊢
 split
 .rename_i h;rw[Cb h]at hb;cases hb
 .rename_i h;rw[SH h]at he hb;obtain⟨h1,h2,h3⟩:=Jmk s hs he hb;refine⟨h1,h2,?_⟩;unfold ke;simp only;rw[Et ab];exact h3
theorem Jl4:One oy fZ:=fun s hs he hb=>by
 have a:=Jmd s hs;have b:=Jmt _ a.bys;obtain⟨e3,b3,h3⟩:=Jmk _ b.bys he hb;obtain⟨e2,b2,h2⟩:=Jmk _ a.bys e3 b3;obtain⟨e1,b1,h1⟩:=JmM s hs e2 b2;refine⟨e1,b1,?_⟩;unfold fZ;simp only[List.append_assoc];rw[h1,h2,h3];rfl
theorem yI{m n:Nat}(h:n<=m)(hm:n<=9223372036854775807):RT (fo m) ke n:=fun rest=>by
 unfold fo ke;rw[JmP (show VE (n:Int) by unfold VE;omega) rest];simp only;rw[SH ab];rfl
theorem Jmm{b:Br}(h1:b.decl.size<=1000000000000)(h2:VE b.at_)(h3:VE b.arm):RT oy fZ b:=fun rest=>by
 have e1:=Jnh h1 (iv b.at_++(iv b.arm++rest));have e2:=JmP h2 (iv b.arm++rest);have e3:=JmP h3 rest;unfold Pv at e1;unfold oy fZ;simp only[List.append_assoc,e1,e2,e3]
/-! ### increasing lists -/
def kf{α:Type}(el:DS->α×DS)(ok:Option α->α->Bool):Nat->Option α->DS->List α×DS
 |0,_,s=>([],s)
 |k+1,last,s=>if s.bad=true then([],s) else
  ((el s).1::(kf el ok k (some (el s).1) ⟨(el s).2.bs,(el s).2.e,(el s).2.bad|| !ok last (el s).1⟩).1,(kf el ok k (some (el s).1) ⟨(el s).2.bs,(el s).2.e,(el s).2.bad|| !ok last (el s).1⟩).2)
def ue{α:Type}(ok:Option α->α->Bool):Option α->List α->Prop
 |_,[]=>True
 |last,x::l=>ok last x=true/\ue ok (some x) l
theorem Jl6{el:DS->α×DS}{ok:Option α->α->Bool}(h:Kp el):∀k last,Kp (kf el ok k last)
 |0,last=>fun s hs=>DK.refl hs
 |k+1,last=>fun s hs=>by
  rw[kf]
  split
  .exact DK.refl hs
  .have h1:=h s hs;have h2:DK s ⟨(el s).2.bs,(el s).2.e,(el s).2.bad|| !ok last (el s).1⟩:=⟨h1.bys,h1.len⟩;exact h2.trans (Jl6 h k _ _ h1.bys)
theorem JlU{el:DS->α×DS}{ok:Option α->α->Bool}{enc:α->List Int}(hk:Kp el)(h:One el enc):∀k last s,fT s.bs->(kf el ok k last s).2.e=0->(kf el ok k last s).2.bad=false->s.e=0/\s.bad=false/\s.bs=(kf el ok k last s).1.flatMap enc++(kf el ok k last s).2.bs/\(kf el ok k last s).1.length=k/\ue ok last (kf el ok k last s).1
 |0,last,s,hs,he,hb=>⟨he,hb,rfl,rfl,trivial⟩
 |k+1,last,s,hs,he,hb=>by
  rw[kf]at he hb ⊢;by_cases fQ:s.bad=true
  .rw [Cb fQ]at hb;rw[fQ]at hb;cases hb
  .rw [SH fQ]at he hb ⊢;obtain⟨h1,h2,h3,h4,uH⟩:=JlU hk h k (some (el s).1) ⟨(el s).2.bs,(el s).2.e,(el s).2.bad|| !ok last (el s).1⟩ (hk s hs).bys he hb;simp only[Cc,Oi]at h1 h2 h3;obtain⟨h5,h6,h7⟩:=h s hs h1 h2.1;refine⟨h5,h6,?_,by simp only[SI,h4],h2.2,uH⟩;simp only[CP,List.append_assoc];rw[<-h3];exact h7
theorem Jl5{el:DS->α×DS}{ok:Option α->α->Bool}{enc:α->List Int}:∀(l:List α) (last:Option α) (rest:List Int),(∀x∈l,RT el enc x)->ue ok last l->kf el ok l.length last ⟨l.flatMap enc++rest,0,false⟩=(l,⟨rest,0,false⟩)
 |[],last,rest,h,_=>rfl
 |x::l,last,rest,h,hc=>by
  rw[SI,kf,SH ap,CP,List.append_assoc,h x ap _];simp only[hc.1,Bool.not_true,Ii];rw[Jl5 l (some x) rest (fun y hy=>h y (by simp[hy])) hc.2]
theorem Jl8{ok:Option α->α->Bool}{c:α->Prop}(h:∀last x,ok last x=true->c x):∀{l:List α} {last:Option α},ue ok last l->∀x∈l,c x
 |[],_,_=>by simp
 |y::l,last,hc=>fun x hx=>by
  rcases SC.1 hx with rfl|hx
  .exact h _ _ hc.1
  .exact Jl8 h hc.2 x hx
theorem Jl7{ok:Option α->α->Bool}{lt:β->β->Bool}(T:Tot lt){g:α->β}(h:∀y x,ok (some y) x=true->lt (g y) (g x)=true):∀{l:List α} {last:Option α},ue ok last l->gR lt (l.map g)/\∀y,last=some y->∀x∈l,lt (g y) (g x)=true
 |[],_,_=>⟨by simp[gR],by simp⟩
 |y::l,last,hc=>by
  obtain⟨h1,h2⟩:=Jl7 T h hc.2;refine⟨?_,fun z hz x hx=>?_⟩
  .simp only[gR,DL,EC];refine⟨fun b hb=>?_,h1⟩;obtain⟨x,hx,rfl⟩:=Du.1 hb;exact h2 y rfl x hx
  .subst hz;have h3:=h z y hc.1;rcases SC.1 hx with rfl|hx
   .exact h3
   .exact T.tr h3 (h2 y rfl x hx)
theorem Jmo{ok:Option α->α->Bool}{lt:β->β->Bool}{g:α->β}{c:α->Prop}(h:∀last x,c x->(∀y,last=some y->lt (g y) (g x)=true)->ok last x=true):∀{l:List α} {last:Option α},gR lt (l.map g)->(∀y,last=some y->∀x∈l,lt (g y) (g x)=true)->(∀x∈l,c x)->ue ok last l
 |[],_,_,_,_=>trivial
 |y::l,last,ha,hl,hc=>by
  simp only[gR,DL,EC]at ha;refine⟨h _ _ (hc y ap) (fun z hz=>hl z hz y ap),Jmo h ha.2 (fun z hz x hx=>?_) (fun x hx=>hc x lA)⟩;cases hz
  exact ha.1 _ (Du.2 ⟨x,hx,rfl⟩)
/-! ### ic9 -/
def kT{α:Type}(lt:α->α->Bool):Option α->α->Bool
 |none,_=>true
 |some y,x=>lt y x
def okB(last:Option (Br×Nat))(x:Br×Nat):Bool:=decide (x.2≠0)&&kT eO (last.map Prod.fst) x.1
def hasB(l:List (Br×Nat))(b:Br):Bool:=decide ((getM l b).getD 0≠0)
def qD(l:List (Br×Nat))(last:Option Pr)(p:Pr):Bool:=hasB l p.1&&hasB l p.2&&kT eC last p
def xB(runs:Nat)(s:DS):(Br×Nat)×DS:=(((oy s).1,(fo runs (oy s).2).1),(fo runs (oy s).2).2)
def yJ(s:DS):Pr×DS:=(((oy s).1,(oy (oy s).2).1),(oy (oy s).2).2)
def so(x:Br×Nat):List Int:=fZ x.1++ke x.2
def sq(p:Pr):List Int:=fZ p.1++fZ p.2
structure Hd where
 prop:ByteArray
 runs:Nat
 o0:Nat
 o1:Nat
 o2:Nat
def pv:Nat:=1099511627776
def rz(s:DS):Hd×DS:=
 let p:=dT s;let r:=fo pv p.2;let a:=fo r.1 r.2;let b:=fo r.1 a.2;let c:=fo r.1 b.2
 (⟨p.1,r.1,a.1,b.1,c.1⟩,⟨c.2.bs,c.2.e,c.2.bad||decide (a.1+b.1+c.1≠r.1)⟩)
def il(h:Hd):List Int:=Pv h.prop++(ke h.runs++(ke h.o0++(ke h.o1++ke h.o2)))
def xC(m runs:Nat)(s:DS):List Nat×DS:=lJ (fo runs) (fo m s).1 (fo m s).2
def we(m runs:Nat)(s:DS):List (Br×Nat)×DS:=kf (xB runs) okB (fo m s).1 none (fo m s).2
def wg(m:Nat)(l:List (Br×Nat))(s:DS):List Pr×DS:=kf yJ (qD l) (fo m s).1 none (fo m s).2
def Re(h:Hd)(c:List Nat)(r:List (Br×Nat))(p:List Pr):St:=⟨h.runs,fun k=>if k=0 then h.o0 else if k=1 then h.o1 else if k=2 then h.o2 else 0,c,fun b=>(getM r b).getD 0,r.map Prod.fst,p⟩
def d1(b:List Int):Hd×DS:=rz ⟨b,0,false⟩
def d2(b:List Int):List Nat×DS:=xC b.length (d1 b).1.runs (d1 b).2
def d3(b:List Int):List (Br×Nat)×DS:=we b.length (d1 b).1.runs (d2 b).2
def d4(b:List Int):List Pr×DS:=wg b.length (d3 b).1 (d3 b).2
def xr(b:List Int):Option (ByteArray×St):=if(d4 b).2.bad=true\/th (d4 b).2.bs (d4 b).2.e≠0 then none else some ((d1 b).1.prop,Re (d1 b).1 (d2 b).1 (d3 b).1 (d4 b).1)
theorem Jmn(r:Nat):Kp (xB r):=fun s hs=>(wc s hs).trans (ny r _ (wc s hs).bys)
theorem Jnq:Kp yJ:=fun s hs=>(wc s hs).trans (wc _ (wc s hs).bys)
theorem Jna(r:Nat):One (xB r) so:=fun s hs he hb=>by
 obtain⟨h1,h2,h3⟩:=yH r _ (wc s hs).bys he hb;obtain⟨h4,h5,h6⟩:=Jl4 s hs h1 h2;refine⟨h4,h5,?_⟩;unfold so;rw[h6,h3,List.append_assoc];rfl
theorem Jm7:One yJ sq:=fun s hs he hb=>by
 obtain⟨h1,h2,h3⟩:=Jl4 _ (wc s hs).bys he hb;obtain⟨h4,h5,h6⟩:=Jl4 s hs h1 h2;refine⟨h4,h5,?_⟩;unfold sq;rw[h6,h3,List.append_assoc];rfl
theorem Jl3:Kp rz:=fun s hs=>by
 have a:=Jmd s hs;have b:=ny pv _ a.bys;have c:=ny (fo pv (dT s).2).1 _ b.bys;have d:=ny (fo pv (dT s).2).1 _ c.bys;have e:=ny (fo pv (dT s).2).1 _ d.bys;have:=(((a.trans b).trans c).trans d).trans e;exact⟨this.bys,this.len⟩
theorem Jm8:∀s,fT s.bs->(rz s).2.e=0->(rz s).2.bad=false->s.e=0/\s.bad=false/\s.bs=il (rz s).1++(rz s).2.bs/\(rz s).1.o0+(rz s).1.o1+(rz s).1.o2=(rz s).1.runs/\(rz s).1.runs<=pv:=fun s hs he hb=>by
 have a:=Jmd s hs;have b:=ny pv _ a.bys;have c:=ny (fo pv (dT s).2).1 _ b.bys;have d:=ny (fo pv (dT s).2).1 _ c.bys;simp only[rz,Cc,decide_eq_false_iff_not,I9]at he hb;obtain⟨e5,b5,h5⟩:=yH _ _ d.bys he hb.1;obtain⟨e4,b4,h4⟩:=yH _ _ c.bys e5 b5;obtain⟨e3,b3,h3⟩:=yH _ _ b.bys e4 b4;obtain⟨e2,b2,h2⟩:=yH _ _ a.bys e3 b3;obtain⟨e1,b1,h1⟩:=JmM s hs e2 b2;refine⟨e1,b1,?_,hb.2,Pw _ _⟩;simp only[il,rz,List.append_assoc];rw[h1,h2,h3,h4,h5]
theorem JmR(m r:Nat):∀s,fT s.bs->(xC m r s).2.e=0->(xC m r s).2.bad=false->s.e=0/\s.bad=false/\s.bs=ke (xC m r s).1.length++((xC m r s).1.flatMap ke++(xC m r s).2.bs):=fun s hs he hb=>by
 obtain⟨h1,h2,h3,h4⟩:=Jmu (ny r) (yH r) _ _ (ny m s hs).bys he hb;obtain⟨h5,h6,h7⟩:=yH m s hs h1 h2;refine⟨h5,h6,?_⟩;unfold xC;rw[h4,<-h3];exact h7
theorem JmS(m r:Nat):∀s,fT s.bs->(we m r s).2.e=0->(we m r s).2.bad=false->s.e=0/\s.bad=false/\s.bs=ke (we m r s).1.length++((we m r s).1.flatMap so++(we m r s).2.bs)/\ue okB none (we m r s).1:=fun s hs he hb=>by
 obtain⟨h1,h2,h3,h4,uH⟩:=JlU (Jmn r) (Jna r) _ _ _ (ny m s hs).bys he hb;obtain⟨h5,h6,h7⟩:=yH m s hs h1 h2;refine⟨h5,h6,?_,uH⟩;unfold we;rw[h4,<-h3];exact h7
theorem JmN(m:Nat)(l:List (Br×Nat)):∀s,fT s.bs->(wg m l s).2.e=0->(wg m l s).2.bad=false->s.e=0/\s.bad=false/\s.bs=ke (wg m l s).1.length++((wg m l s).1.flatMap sq++(wg m l s).2.bs)/\ue (qD l) none (wg m l s).1:=fun s hs he hb=>by
 obtain⟨h1,h2,h3,h4,uH⟩:=JlU Jnq Jm7 _ _ _ (ny m s hs).bys he hb;obtain⟨h5,h6,h7⟩:=yH m s hs h1 h2;refine⟨h5,h6,?_,uH⟩;unfold wg;rw[h4,<-h3];exact h7
theorem Jmc{ks:List Br}{cnt:Br->Nat}{b:Br}:(getM (ks.map (fun x=>(x,cnt x))) b).getD 0=if b∈ks then cnt b else 0:=by
 induction ks with
 |nil=>rfl
 |cons k ks ih=>
  simp only[DL,getM,SC];by_cases h:b=k
  .subst h;simp
  .rw [SH h,ih];simp[h]
theorem JmT{r:Nat}:∀(k:Nat) (s:DS),∀n∈(lJ (fo r) k s).1,n<=r
 |0,s=>by simp[lJ]
 |k+1,s=>by
  rw[lJ]
  split
  .simp
  .intro n hn;rcases SC.1 hn with rfl|hn
   .exact Pw _ _
   .exact JmT k _ n hn
theorem JmU{r:Nat}{ok:Option (Br×Nat)->Br×Nat->Bool}:∀(k:Nat) (last:Option (Br×Nat)) (s:DS),∀x∈(kf (xB r) ok k last s).1,x.2<=r
 |0,last,s=>by simp[kf]
 |k+1,last,s=>by
  rw[kf]
  split
  .simp
  .intro n hn;rcases SC.1 hn with rfl|hn
   .exact Pw _ _
   .exact JmU k _ _ n hn
theorem JlM{last:Option (Br×Nat)}{x:Br×Nat}:okB last x=true↔x.2≠0/\∀y,last=some y->eO y.1 x.1=true:=by
 unfold okB;rw[CV,Eb];cases last with
 |none=>simp[kT]
 |some y=>simp[kT]
theorem Jl2{l:List (Br×Nat)}{last:Option Pr}{x:Pr}:qD l last x=true↔(hasB l x.1=true/\hasB l x.2=true)/\∀y,last=some y->eC y x=true:=by
 unfold qD;rw[CV,CV];cases last with
 |none=>simp[kT]
 |some y=>simp[kT]
theorem JnI{l:List (Br×Nat)}(h:ue okB none l):gR eO (l.map Prod.fst)/\∀x∈l,x.2≠0:=
 ⟨(Jl7 Qu (g:=Prod.fst) (fun y x h=>(JlM.1 h).2 y rfl) h).1,Jl8 (c:=fun x:Br×Nat=>x.2≠0) (fun _ _ h=>(JlM.1 h).1) h⟩
theorem JlO{l:List (Br×Nat)}(hn:(l.map Prod.fst).Nodup)(h0:∀x∈l,x.2≠0){b:Br}:hasB l b=true↔b∈l.map Prod.fst:=by
 unfold hasB;rw[Eb];cases hg:getM l b with
 |none=>simp only[Option.getD_none,ne_eq,Ob,false_iff];exact getM_none.1 hg
 |some v=>
  have hm:=(Jll hn).1 hg;have:=h0 _ hm;simp only[E8,ne_eq];exact⟨fun _=>Du.2 ⟨_,hm,rfl⟩,fun _=>this⟩
structure DecOk (b:List Int) (q:ByteArray) (s:St):Prop where
 enc:U0 q s=b
 ok:∀c l,StOk ⟨q,c,s.cls.length,l⟩ s
 runs:s.runs<=pv
theorem WI{bs:List Int}{e:Int}(h:th bs e=0):e=0/\bs=[]:=by
 unfold th at h
 split at h
 .rename_i h3;exact absurd h h3
 .rename_i h3;refine⟨I9.1 h3,?_⟩
  split at h
  .cases h
  .exact Dj ab
theorem JlR{f g:α->List β}:∀{l:List α},(∀x∈l,f x=g x)->l.flatMap f=l.flatMap g
 |[],_=>rfl
 |a::l,h=>by rw[CP,CP,h a ap,JlR (fun x hx=>h x lA)]
theorem JmK{b b1 b2 b3:List Int}{H:Hd}{C:List Nat}{R:List (Br×Nat)}{Q:List Pr}(h1:b=il H++b1)(ho:H.o0+H.o1+H.o2=H.runs)(hr:H.runs<=pv)
 (h2:b1=ke C.length++(C.flatMap ke++b2)) (hc:∀n∈C,n<=H.runs)
 (h3:b2=ke R.length++(R.flatMap so++b3)) (c3:ue okB none R) (oN:∀x∈R,x.2<=H.runs)
 (h4:b3=ke Q.length++Q.flatMap sq) (c4:ue (qD R) none Q):DecOk b H.prop (Re H C R Q):=by
 have hB:=JnI c3;have iJ:=gR.nd Qu hB.1;have hP:gR eC (Q.map id):=(Jl7 Qy (g:=id) (fun y x h=>(Jl2.1 h).2 y rfl) c4).1;rw[List.map_id]at hP;have hPk:∀x∈Q,hasB R x.1=true/\hasB R x.2=true:=Jl8 (c:=fun x:Pr=>hasB R x.1=true/\hasB R x.2=true) (fun _ _ h=>(Jl2.1 h).1) c4;have RA:∀x∈R,(getM R x.1).getD 0=x.2:=fun x hx=>by
  rw[(Jll iJ).2 (show(x.1,x.2)∈R from hx)];rfl
 have Ay:∀x,(getM R x).getD 0≠0↔x∈R.map Prod.fst:=fun x=>by
  rw[<-JlO iJ hB.2];unfold hasB;rw[Eb]
 have hle:∀x,(getM R x).getD 0<=H.runs:=fun x=>by
  cases hg:getM R x with
  |none=>exact SL _
  |some v=>exact oN (x,v) ((Jll iJ).1 hg)
 refine⟨?_,fun c l=>⟨rfl,Ay,hB.1,hP,fun p hp=>?_,ho,hc,hle⟩,hr⟩
 .have e5:R.flatMap so=(R.map Prod.fst).flatMap (fun x=>fZ x++iv (((getM R x).getD 0:Nat):Int)):=by
   rw[List.flatMap_map];refine JlR (fun x hx=>?_);rw[RA x hx];rfl
  unfold U0 Re;simp only[List.append_assoc,Sr];rw[<-e5,h1,h2,h3,h4];unfold il Pv ke;simp only[List.append_assoc];rfl
 .obtain ⟨h5,h6⟩:=hPk p hp;exact⟨(JlO iJ hB.2).1 h5,(JlO iJ hB.2).1 h6⟩
theorem Jm6{b:List Int}{X1:Hd×DS}{X2:List Nat×DS}{X3:List (Br×Nat)×DS}{X4:List Pr×DS}(hb:fT b)(e1:X1=rz ⟨b,0,false⟩)(e2:X2=xC b.length X1.1.runs X1.2)(e3:X3=we b.length X1.1.runs X2.2)(e4:X4=wg b.length X3.1 X3.2)(fQ:X4.2.bad=false)(he:X4.2.e=0)(yK:X4.2.bs=[]):DecOk b X1.1.prop (Re X1.1 X2.1 X3.1 X4.1):=by
 have k1:DK ⟨b,0,false⟩ X1.2:=by rw[e1];exact Jl3 _ hb
 have k2:DK X1.2 X2.2:=by
  rw[e2];have:=ny b.length _ k1.bys;exact this.trans (Jml (ny _) _ _ this.bys)
 have k3:DK X2.2 X3.2:=by
  rw[e3];have:=ny b.length _ k2.bys;exact this.trans (Jl6 (Jmn _) _ _ _ this.bys)
 have x4:=JmN b.length X3.1 X3.2 k3.bys (e4▸he) (e4▸fQ);rw[<-e4]at x4;have x3:=JmS b.length X1.1.runs X2.2 k2.bys (e3▸x4.1) (e3▸x4.2.1);rw[<-e3]at x3;have x2:=JmR b.length X1.1.runs X1.2 k1.bys (e2▸x3.1) (e2▸x3.2.1);rw[<-e2]at x2;have x1:=Jm8 ⟨b,0,false⟩ hb (e1▸x2.1) (e1▸x2.2.1);rw[<-e1]at x1;have h4:=x4.2.2.1;rw[yK,Ce]at h4;have l2:∀n∈X2.1,n<=X1.1.runs:=by rw[e2];exact JmT _ _
 have l3:∀x∈X3.1,x.2<=X1.1.runs:=by rw[e3];exact JmU _ _ _
 exact JmK x1.2.2.1 x1.2.2.2.1 x1.2.2.2.2 x2.2.2 l2 x3.2.2.1 x3.2.2.2 l3 h4 x4.2.2.2
theorem JmL{b:List Int}{q:ByteArray}(hb:fT b)(h:xr b=some (q,s)):DecOk b q s:=by
 unfold xr at h;by_cases hn:(d4 b).2.bad=true\/th (d4 b).2.bs (d4 b).2.e≠0
 .rw [Cb hn]at h;cases h
 rw[SH hn]at h;have fQ:(d4 b).2.bad=false:=by cases hx:(d4 b).2.bad with
  |false=>rfl
  |true=>exact absurd (.inl hx) hn
 have ida:th (d4 b).2.bs (d4 b).2.e=0:=I9.1 (fun hx=>hn (.inr hx));obtain⟨he,yK⟩:=WI ida;have h1:=Dl h;have h2:(d1 b).1.prop=q:=CZ Prod.fst h1;have h3:Re (d1 b).1 (d2 b).1 (d3 b).1 (d4 b).1=s:=CZ Prod.snd h1;rw[<-h2,<-h3];exact Jm6 hb rfl rfl rfl rfl fQ he yK
def Jnk(s t:St):Prop:=s.runs=t.runs/\s.o 0=t.o 0/\s.o 1=t.o 1/\s.o 2=t.o 2/\s.cls=t.cls/\s.cnt=t.cnt/\s.ks=t.ks/\s.ps=t.ps
theorem Jma(n:Nat):0<(ke n).length:=JmI _
theorem Jnc(b:Br):0<(fZ b).length:=by unfold fZ;have:=JmI b.arm;simp only[Sm];omega
theorem Jm5{P:Pp}(eU:StOk P s)(hp:P.prop.size<=1000000)(hr:s.runs<=1000000000)(hk:∀b∈s.ks,b.decl.size<=1000000/\VE b.at_/\VE b.arm)(fJ:s.cls.length<=1000000000)(gH:s.ks.length<=1000000000)(Az:s.ps.length<=1000000000):∃s',xr (U0 P.prop s)=some (P.prop,s')/\Jnk s' s:=by
 obtain⟨b,hb⟩:=aP (U0 P.prop s);rw[<-hb];have ho:=eU.o;have hm:(fun p=>fZ p.1++fZ p.2)=sq:=rfl;have e5:s.ks.flatMap (fun x=>fZ x++iv (s.cnt x:Nat))=(s.ks.map (fun x=>(x,s.cnt x))).flatMap so:=by rw[List.flatMap_map];rfl
 have sd:b=il ⟨P.prop,s.runs,s.o 0,s.o 1,s.o 2⟩++(ke s.cls.length++(s.cls.flatMap ke++(ke s.ks.length++((s.ks.map (fun x=>(x,s.cnt x))).flatMap so++(ke s.ps.length++s.ps.flatMap sq))))):=by
  rw[hb,<-e5];unfold U0 il Pv;simp only[List.append_assoc];rfl
 have l1:s.cls.length<=(s.cls.flatMap ke).length:=JlP (fun x _=>Jma x);have l2:s.ks.length<=((s.ks.map (fun x=>(x,s.cnt x))).flatMap so).length:=by
  have:=JlP (enc:=so) (l:=s.ks.map (fun x=>(x,s.cnt x))) (fun x _=>by unfold so;rw[Sm];have:=Jma x.2;omega);rw[Sr]at this;exact this
 have l3:s.ps.length<=(s.ps.flatMap sq).length:=JlP (fun x _=>by unfold sq;rw[Sm];have:=Jnc x.2;omega);have hlen:=CZ List.length sd;simp only[Sm]at hlen;have f1:d1 b=(⟨P.prop,s.runs,s.o 0,s.o 1,s.o 2⟩,⟨ke s.cls.length++(s.cls.flatMap ke++(ke s.ks.length++((s.ks.map (fun x=>(x,s.cnt x))).flatMap so++(ke s.ps.length++s.ps.flatMap sq)))),0,false⟩):=by
  unfold d1 rz;rw[sd];unfold il;simp only[List.append_assoc];rw[Jnh ab];simp only;rw[yI (m:=pv) (by unfold pv;omega) ab];simp only;rw[yI ab ab];simp only;rw[yI ab ab];simp only;rw[yI ab ab];simp only[ho,ne_eq,Ob,decide_false,Bool.or_self]
 have f2:d2 b=(s.cls,⟨ke s.ks.length++((s.ks.map (fun x=>(x,s.cnt x))).flatMap so++(ke s.ps.length++s.ps.flatMap sq)),0,false⟩):=by
  unfold d2 xC;rw[f1];simp only;rw[yI ab ab];simp only;rw[JmQ s.cls _ (fun x hx=>yI (eU.ocls x hx) (by have:=eU.ocls x hx;omega))]
 have hch:ue okB none (s.ks.map (fun x=>(x,s.cnt x))):=by
  refine Jmo (lt:=eO) (g:=Prod.fst) (c:=fun x=>x.2≠0) (fun last x h1 h2=>JlM.2 ⟨h1,h2⟩) (by rw[Io];simpa[EU]using eU.kasc) ap (fun x hx=>?_);obtain⟨y,hy,rfl⟩:=Du.1 hx;exact(eU.cnt y).2 hy
 have f3:d3 b=(s.ks.map (fun x=>(x,s.cnt x)),⟨ke s.ps.length++s.ps.flatMap sq,0,false⟩):=by
  unfold d3 we;rw[f2,f1];simp only;rw[yI ab ab];have:=Jl5 (el:=xB s.runs) (enc:=so) (ok:=okB) (s.ks.map (fun x=>(x,s.cnt x))) none (ke s.ps.length++s.ps.flatMap sq) (fun x hx rest=>by
   obtain⟨y,hy,rfl⟩:=Du.1 hx;have hky:=hk y hy;unfold xB so;simp only[List.append_assoc];rw[Jmm ab hky.2.1 hky.2.2];simp only;rw[yI (eU.ocnt y) (by have:=eU.ocnt y;omega)]) hch
  rw[Sr]at this;exact this
 have iJ:((s.ks.map (fun x=>(x,s.cnt x))).map Prod.fst).Nodup:=by
  rw[Io];have:=gR.nd Qu eU.kasc;simpa[EU]using this
 have f4:d4 b=(s.ps,⟨[],0,false⟩):=by
  unfold d4 wg;rw[f3];simp only;rw[yI ab ab];have hh:∀x∈s.ks,hasB (s.ks.map (fun x=>(x,s.cnt x))) x=true:=fun x hx=>by
   unfold hasB;rw[Jmc,Cb hx,Eb];exact(eU.cnt x).2 hx
  have:=Jl5 (el:=yJ) (enc:=sq) (ok:=qD (s.ks.map (fun x=>(x,s.cnt x)))) s.ps none [] (fun x hx rest=>by
   have a7:=hk _ (eU.pks x hx).1;have bW:=hk _ (eU.pks x hx).2;unfold yJ sq;simp only[List.append_assoc];rw[Jmm ab a7.2.1 a7.2.2];simp only;rw[Jmm ab bW.2.1 bW.2.2]) (Jmo (lt:=eC) (g:=id) (c:=fun x=>hasB (s.ks.map (fun x=>(x,s.cnt x))) x.1=true/\hasB (s.ks.map (fun x=>(x,s.cnt x))) x.2=true) (fun last x h1 h2=>Jl2.2 ⟨h1,h2⟩) (by rw[List.map_id];exact eU.pasc) ap (fun x hx=>⟨hh _ (eU.pks x hx).1,hh _ (eU.pks x hx).2⟩))
  rw[Ce]at this;exact this
 unfold xr;rw[f4,SH (by simp[th]),f1,f2,f3];refine⟨_,rfl,rfl,rfl,rfl,rfl,rfl,?_,?_,rfl⟩
 .funext x
  show(getM (s.ks.map (fun x=>(x,s.cnt x))) x).getD 0=s.cnt x;rw[Jmc]
  split
  .rfl
  .rename_i h;apply Eq.symm;apply DZ;exact fun h1=>h ((eU.cnt x).1 h1)
 .show (s.ks.map (fun x=>(x,s.cnt x))).map Prod.fst=s.ks;rw[Io];exact List.map_id _
end Go.Proofs.YtggmccicdhnkgaaGreat
