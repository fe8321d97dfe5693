/-
 Comparing:package cmp,branch.Compare,the reference's Compare.
-/
import Derived.Test.YtggmccicdhnkgaaGreatVCg
import Derived.Test.YtggmccicdhnkgaaGreatVWr
import Derived.Test.YtggmccicdhnkgaaGreatVFd
import Derived.Laws.StructEq
import Derived.ChangeKeysEq
import Derived.Maps.RangeRun
import Derived.Test.YtggmccicdhnkgaaGreatVQj
import Derived.Test.YtggmccicdhnkgaaGreatVQk
set_option linter.all false
set_option maxHeartbeats 64000000
namespace Go.Rf
section
open Go.RowKit
def VY(a b:Int):Int:=if a<b then -1 else if b<a then 1 else 0
def XK(a b:ByteArray):Int:=if Op.bytesLess a.toList b.toList=true then -1 else if a=b then 0 else 1
theorem JdZ{a b:Int}:VY a b<0↔a<b:=by unfold VY;split<;>(try split)<;>omega
theorem Xv{a b:Int}:VY a b=0↔a=b:=by unfold VY;split<;>(try split)<;>omega
theorem LP:∀l:List UInt8,Op.bytesLess l l=false
 |[]=>rfl
 |a::l=>by simp[Op.bytesLess,LP l]
theorem Jbo{a b:UInt8}{x y:List UInt8}:Op.bytesLess (a::x) (b::y)=true↔a<b\/a=b/\Op.bytesLess x y=true:=by simp[Op.bytesLess]
theorem Jir(a b:UInt8):a<b\/a=b\/b<a:=by
 rcases Nat.lt_trichotomy a.toNat b.toNat with h|h|h
 .exact .inl (F9.2 h)
 .exact .inr (.inl (UInt8.toNat_inj.1 h))
 .exact .inr (.inr (F9.2 h))
theorem JjH{a b c:UInt8}(h:a<b)(k:b<c):a<c:=by rw[F9]at*;omega
theorem Jin:∀{l m k:List UInt8},Op.bytesLess l m=true->Op.bytesLess m k=true->Op.bytesLess l k=true
 |l,m,[],h,h'=>by cases m<;>simp[Op.bytesLess]at h'
 |l,[],c::k,h,h'=>by cases l<;>simp[Op.bytesLess]at h
 |[],b::m,c::k,h,h'=>by simp[Op.bytesLess]
 |a::l,b::m,c::k,h,h'=>by
  rw[Jbo]at h h' ⊢;rcases h with h|⟨rfl,h⟩
  .rcases h' with h'|⟨rfl,h'⟩
   .exact .inl (JjH h h')
   .exact .inl h
  .rcases h' with h'|⟨rfl,h'⟩
   .exact .inl h'
   .exact .inr ⟨rfl,Jin h h'⟩
theorem JgH:∀l m:List UInt8,Op.bytesLess l m=true\/l=m\/Op.bytesLess m l=true
 |[],[]=>.inr (.inl rfl)
 |[],b::m=>.inl (by simp[Op.bytesLess])
 |a::l,[]=>.inr (.inr (by simp[Op.bytesLess]))
 |a::l,b::m=>by
  rw[Jbo,Jbo];rcases Jir a b with h|rfl|h
  .exact .inl (.inl h)
  .rcases JgH l m with h|rfl|h
   .exact .inl (.inr ⟨rfl,h⟩)
   .exact .inr (.inl rfl)
   .exact .inr (.inr (.inr ⟨rfl,h⟩))
  .exact .inr (.inr (.inl h))
theorem JhO{a b:ByteArray}:XK a b<0↔Op.bytesLess a.toList b.toList=true:=by
 unfold XK
 split
 .simp [*]
 .split
  .rename_i h;subst h;simp[LP]
  .simp [*]
theorem ZT{a b:ByteArray}:XK a b=0↔a=b:=by
 unfold XK
 split
 .rename_i h;refine⟨fun h=>by omega,fun e=>?_⟩;subst e;rw[LP]at h;cases h
 .split<;>simp[*]
structure Tot {α:Type} (lt:α->α->Bool):Prop where
 irr:∀a,lt a a=false
 tr:∀{a b c},lt a b=true->lt b c=true->lt a c=true
 tri:∀a b,lt a b=true\/a=b\/lt b a=true
theorem Tot.asym{α:Type}{lt:α->α->Bool}(T:Tot lt){a b:α}(h:lt a b=true):lt b a=false:=by
 cases hb:lt b a
 .rfl
 .have:=T.tr h hb;rw[T.irr]at this;cases this
theorem Tot.eq{α:Type}{lt:α->α->Bool}(T:Tot lt){a b:α}(h:lt a b=false)(k:lt b a=false):a=b:=by
 rcases T.tri a b with h1|h1|h1
 .rw [h]at h1;cases h1
 .exact h1
 .rw [k]at h1;cases h1
section
variable{α:Type}[DecidableEq α](lt:α->α->Bool)
def gQ(x:α):List α->List α
 |[]=>[x]
 |y::l=>if lt y x=true then y::gQ x l else if y=x then y::l else x::y::l
def JM(l:List α):List α:=l.foldl (fun s x=>gQ lt x s) []
variable{lt}
def gR(lt:α->α->Bool)(l:List α):Prop:=l.Pairwise (fun a b=>lt a b=true)
theorem Ja4{x y:α}:∀{l:List α},y∈gQ lt x l↔y=x\/y∈l
 |[]=>by simp[gQ]
 |z::l=>by
  rw[gQ]
  split
  .rw [SC,Ja4,SC];constructor
   .rintro (h|h|h)<;>simp[h]
   .rintro (h|h|h)<;>simp[h]
  .split
   .rename_i h;subst h;simp
   .simp
theorem Ja6(T:Tot lt){x:α}:∀(k:Nat) (l:List α),k<=l.length->(∀i (h:i<l.length),i<k->lt l[i] x=true)->(∀h:k<l.length,lt l[k] x=false)->gQ lt x l=if l[k]?=some x then l else l.take k++x::l.drop k
 |0,[],_,_,_=>by simp[gQ]
 |k+1,[],h,_,_=>by simp at h
 |0,y::l,_,_,h2=>by
  have h3:lt y x=false:=h2 ap;rw[gQ,h3];by_cases e:y=x<;>simp[e]
 |k+1,y::l,hk,h1,h2=>by
  have h3:lt y x=true:=h1 0 ap ab;rw[gQ,Cb h3,Ja6 T k l (by simpa using hk) (fun i hi Γ=>h1 (i+1) tY ab) (fun h=>h2 mE)];simp only[DX,DT,Fb]
  split<;>rfl
theorem gR.ins(T:Tot lt){x:α}:∀{l:List α},gR lt l->gR lt (gQ lt x l)
 |[],_=>by simp[gQ,gR]
 |y::l,h=>by
  unfold gR at h;rw[EC]at h;rw[gQ]
  split
  .rename_i hy;unfold gR;rw[EC];refine⟨fun z hz=>?_,gR.ins T h.2⟩;rcases Ja4.1 hz with rfl|hz
   .exact hy
   .exact h.1 z hz
  .rename_i hy
   split
   .exact EC.2 h
   .rename_i iz;have hxy:lt x y=true:=by
     rcases T.tri x y with e|e|e
     .exact e
     .exact absurd e.symm iz
     .exact absurd e hy
    unfold gR;rw[EC];refine⟨fun z hz=>?_,EC.2 h⟩;rcases SC.1 hz with rfl|hz
    .exact hxy
    .exact T.tr hxy (h.1 z hz)
theorem ZR(T:Tot lt):∀{l s:List α},gR lt s->gR lt (l.foldl (fun s x=>gQ lt x s) s)/\∀y,y∈l.foldl (fun s x=>gQ lt x s) s↔y∈s\/y∈l
 |[],s,h=>⟨h,by simp⟩
 |x::l,s,h=>by
  have ih:=ZR T (l:=l) (h.ins T (x:=x));refine⟨ih.1,fun y=>?_⟩;rw[Dz,ih.2,Ja4,SC];constructor
  .rintro ((h|h)|h)<;>simp[h]
  .rintro (h|h|h)<;>simp[h]
theorem QA(T:Tot lt)(l:List α):gR lt (JM lt l):=(ZR T (l:=l) (s:=[]) (by simp[gR])).1
theorem KF(T:Tot lt){l:List α}{y:α}:y∈JM lt l↔y∈l:=by
 rw[JM,(ZR T (l:=l) (s:=[]) (by simp[gR])).2];simp
theorem gR.nd(T:Tot lt){l:List α}(h:gR lt l):l.Nodup:=h.imp (fun{a b} kZ e=>by subst e;rw[T.irr]at kZ;cases kZ)
theorem gR.ext(T:Tot lt):∀{l m:List α},gR lt l->gR lt m->(∀y,y∈l↔y∈m)->l=m
 |[],[],_,_,_=>rfl
 |[],y::m,_,_,h=>by have:=(h y).2 ap;simp at this
 |x::l,[],_,_,h=>by have:=(h x).1 ap;simp at this
 |x::l,y::m,hl,hm,h=>by
  unfold gR at hl hm;rw[EC]at hl hm;have e:x=y:=by
   rcases SC.1 ((h x).1 ap)with e|e
   .exact e
   .rcases SC.1 ((h y).2 ap)with e'|e'
    .exact e'.symm
    .have h1:=hm.1 x e;rw[T.asym (hl.1 y e')]at h1;cases h1
  subst e
  congr 1
  refine gR.ext T hl.2 hm.2 (fun z=>?_);have hz:=h z;have zx:x∉l:=fun hm=>by have:=hl.1 x hm;rw[T.irr]at this;cases this
  have hxm:x∉m:=fun hm'=>by have:=hm.1 x hm';rw[T.irr]at this;cases this
  constructor
  .intro hh;rcases SC.1 (hz.1 (by simp[hh]))with e|e
   .subst e;exact absurd hh zx
   .exact e
  .intro hh;rcases SC.1 (hz.2 (by simp[hh]))with e|e
   .subst e;exact absurd hh hxm
   .exact e
theorem BP(T:Tot lt){l m:List α}(h:gR lt m)(hm:∀y,y∈m↔y∈l):JM lt l=m:=gR.ext T (QA T l) h (fun y=>by rw[KF T,hm])
theorem V6(T:Tot lt){l m:List α}(h:∀y,y∈l↔y∈m):JM lt l=JM lt m:=BP T (QA T m) (fun y=>by rw[KF T,h])
theorem BQ(T:Tot lt){l m:List α}:JM lt (l++m)=m.foldl (fun s x=>gQ lt x s) (JM lt l):=by rw[JM,List.foldl_append];rfl
theorem Ja5{x:α}:∀{l:List α},(gQ lt x l).length<=l.length+1
 |[]=>by simp[gQ]
 |y::l=>by
  rw[gQ]
  split
  .have:=Ja5 (x:=x) (l:=l);simp;omega
  .split<;>simp
theorem Bd:∀{l s:List α},(l.foldl (fun s x=>gQ lt x s) s).length<=s.length+l.length
 |[],s=>by simp
 |x::l,s=>by
  have:=@Bd l (gQ lt x s);have:=@Ja5 _ _ lt x s;simp only[Dz,SI];omega
theorem KQ{l:List α}:(JM lt l).length<=l.length:=by have:=Bd (lt:=lt) (l:=l) (s:=[]);simpa[JM]using this
theorem V5(T:Tot lt){l m:List α}(hn:l.Nodup)(hp:∀y,y∈l↔y∈m):l.mergeSort (fun x y=> !lt y x)=JM lt m:=by
 symm
 refine BP T ?_ (fun y=>by rw[(H6 l _).mem_iff,hp]);have h1:(l.mergeSort (fun x y=> !lt y x)).Pairwise (fun a b=>(!lt b a)=true):=List.pairwise_mergeSort (le:=fun x y=> !lt y x) (fun a b c kZ a8=>by
  simp only[ES]at kZ a8 ⊢;cases zF:lt c a
  .rfl
  .rcases T.tri a b with h|h|h
   .have:=T.tr zF h;rw[a8]at this;cases this
   .subst h;rw[a8]at zF;cases zF
   .rw [kZ]at h;cases h) (fun a b=>by
  cases kZ:lt b a
  .simp
  .simp [T.asym kZ]) l
 have h2:(l.mergeSort (fun x y=> !lt y x)).Nodup:=(H6 l _).nodup_iff.2 hn;unfold gR;have h3:=h1.and h2;exact h3.imp (fun{a b} kZ=>by
  rcases T.tri a b with h|h|h
  .exact h
  .exact absurd h kZ.2
  .simp [h]at kZ)
end
/-! ### pP -/
def Qe(a b:Br):Int:=if XK a.decl b.decl≠0 then XK a.decl b.decl else if VY a.at_ b.at_≠0 then VY a.at_ b.at_ else VY a.arm b.arm
def eO(a b:Br):Bool:=decide (Qe a b<0)
theorem WT{a b:Br}:Qe a b=0↔a=b:=by
 unfold Qe;constructor
 .intro h
  split at h
  .rename_i h1;exact absurd h h1
  .rename_i h1
   split at h
   .rename_i h2;exact absurd h h2
   .rename_i h2;simp only[ne_eq,I9]at h1 h2;cases a;cases b
    simp only at h h1 h2;rw[ZT.1 h1,Xv.1 h2,Xv.1 h]
 .rintro rfl;have e1:XK a.decl a.decl=0:=ZT.2 rfl;have e2:VY a.at_ a.at_=0:=Xv.2 rfl;have e3:VY a.arm a.arm=0:=Xv.2 rfl;simp[e1,e2,e3]
theorem Nb{a b:Br}:eO a b=true↔Op.bytesLess a.decl.toList b.decl.toList=true\/a.decl=b.decl/\(a.at_<b.at_\/a.at_=b.at_/\a.arm<b.arm):=by
 unfold eO Qe;rw[Eb];by_cases h1:XK a.decl b.decl=0
 .have e:=ZT.1 h1;rw[SH (by simp[h1]),e,LP];by_cases h2:VY a.at_ b.at_=0
  .rw [SH (by simp[h2]),JdZ];have:=Xv.1 h2;simp[this]
  .rw [Cb h2,JdZ];have h3:¬a.at_=b.at_:=fun e=>h2 (Xv.2 e)
   simp[h3]
 .rw [Cb h1,JhO];have h3:¬a.decl=b.decl:=fun e=>h1 (ZT.2 e)
  simp[h3]
theorem Qu:Tot eO where
 irr a:=by
  cases h:eO a a
  .rfl
  .rw [Nb,LP]at h;rcases h with h|⟨_,h|⟨_,h⟩⟩
   .cases h
   .omega
   .omega
 tr {a b c} h k:=by
  rw[Nb]at h k ⊢;rcases h with h|⟨e,h⟩
  .rcases k with k|⟨e',k⟩
   .exact .inl (Jin h k)
   .rw [<-e'];exact .inl h
  .rcases k with k|⟨e',k⟩
   .rw [e];exact .inl k
   .exact .inr ⟨e.trans e',by omega⟩
 tri a b:=by
  rw[Nb,Nb];rcases JgH a.decl.toList b.decl.toList with h|h|h
  .exact .inl (.inl h)
  .have e:a.decl=b.decl:=toList_inj.1 h;rcases Int.lt_trichotomy a.at_ b.at_ with h1|h1|h1
   .exact .inl (.inr ⟨e,.inl h1⟩)
   .rcases Int.lt_trichotomy a.arm b.arm with h2|h2|h2
    .exact .inl (.inr ⟨e,.inr ⟨h1,h2⟩⟩)
    .refine .inr (.inl ?_);cases a;cases b
     simp only at e h1 h2;rw[e,h1,h2]
    .exact .inr (.inr (.inr ⟨e.symm,.inr ⟨h1.symm,h2⟩⟩))
   .exact .inr (.inr (.inr ⟨e.symm,.inl h1⟩))
  .exact .inr (.inr (.inl h))
theorem Jd0{a b:Br}:Qe a b<=0↔eO b a=false:=by
 have h1:eO a b=true↔Qe a b<0:=by unfold eO;rw[Eb]
 have h2:=WT (a:=a) (b:=b);cases h:eO b a with
 |true=>
  have h3:=Qu.asym h;have:¬Qe a b<0:=fun e=>by rw[h1.2 e]at h3;cases h3
  have:¬Qe a b=0:=fun e=>by rw[h2.1 e,Qu.irr]at h;cases h
  simp;omega
 |false=>
  simp only[iff_true];rcases Qu.tri a b with h3|h3|h3
  .have:=h1.1 h3;omega
  .have:=h2.2 h3;omega
  .rw [h]at h3;cases h3
abbrev Pr:=Br×Br
def XB(a b:Pr):Int:=if Qe a.1 b.1≠0 then Qe a.1 b.1 else Qe a.2 b.2
def eC(a b:Pr):Bool:=decide (XB a b<0)
theorem Na{a b:Pr}:eC a b=true↔eO a.1 b.1=true\/a.1=b.1/\eO a.2 b.2=true:=by
 have hb:∀{a b:Br},eO a b=true↔Qe a b<0:=by intro a b;unfold eO;rw[Eb]
 unfold eC XB;rw[Eb];by_cases h1:Qe a.1 b.1=0
 .have e:=WT.1 h1;rw[SH (by simp[h1]),hb,hb,e];have:Qe b.1 b.1=0:=WT.2 rfl;simp[this]
 .rw [Cb h1,hb,hb];have h3:¬a.1=b.1:=fun e=>h1 (WT.2 e)
  simp[h3]
theorem Qy:Tot eC where
 irr a:=by
  cases h:eC a a
  .rfl
  .rw [Na,Qu.irr,Qu.irr]at h;rcases h with h|⟨_,h⟩<;>cases h
 tr {a b c} h k:=by
  rw[Na]at h k ⊢;rcases h with h|⟨e,h⟩
  .rcases k with k|⟨e',k⟩
   .exact .inl (Qu.tr h k)
   .rw [<-e'];exact .inl h
  .rcases k with k|⟨e',k⟩
   .rw [e];exact .inl k
   .exact .inr ⟨e.trans e',Qu.tr h k⟩
 tri a b:=by
  rw[Na,Na];rcases Qu.tri a.1 b.1 with h|h|h
  .exact .inl (.inl h)
  .rcases Qu.tri a.2 b.2 with h1|h1|h1
   .exact .inl (.inr ⟨h,h1⟩)
   .exact .inr (.inl (Prod.ext h h1))
   .exact .inr (.inr (.inr ⟨h.symm,h1⟩))
  .exact .inr (.inr (.inl h))
def fK(p:Pr):List Value:=dH p.1++dH p.2
def Jy:List Br->List Pr
 |a::b::l=>(a,b)::Jy (b::l)
 |_=>[]
end
section
variable{l:List Int}{i j n:Nat}{α:Type}
structure Rn where
 kind:Int
 at_:Int
 code:Int
 bs:List Br
 cl:List Int
structure Pp where
 prop:ByteArray
 checks:Nat
 ncls:Nat
 reach:List Br
structure St where
 runs:Nat
 o:Nat->Nat
 cls:List Nat
 cnt:Br->Nat
 ks:List Br
 ps:List Pr
def Bf(n:Nat)(l:List Int)(i:Nat):Bool:=decide (0<=l.getD i 0/\l.getD i 0<n/\(0<i->l.getD (i-1) 0<l.getD i 0))
def WB(n:Nat)(l:List Int):Bool:=(List.range l.length).all (Bf n l)
def Gt(checks:Nat)(r:Rn):Bool:=decide (0<=r.kind/\r.kind<=2/\(r.kind=0->r.at_=0)/\(r.kind≠0->0<=r.at_/\r.at_<checks)/\(r.kind=2↔r.code≠0))
def Qd(P:Pp)(r:Rn):Bool:=Gt P.checks r&&WB P.ncls r.cl
theorem UK(h:∀j,j<l.length->Bf n l j=true):WB n l=true:=by
 unfold WB;rw[Ir];intro x hx;exact h x (FT.1 hx)
theorem UL(h:WB n l=true)(hj:j<l.length):Bf n l j=true:=by
 unfold WB at h;rw[Ir]at h;exact h j (FT.2 hj)
theorem Jcp(hj:j<l.length)(h:Bf n l j=false):WB n l=false:=by
 cases hc:WB n l with
 |false=>rfl
 |true=>rw[UL hc hj]at h;cases h
theorem ff{l:List α}{d:α}(h:i<l.length):l.getD i d=l[i]:=by
 rw[Ig,Dc h];rfl
theorem JhQ(h:WB n l=true):∀{i j:Nat} (Ts:i<j) (hj:j<l.length),l[i]<l[j]:=by
 intro i j Ts
 induction j with
 |zero=>omega
 |succ j ih=>
  intro hj;have h1:=UL h hj;unfold Bf at h1;have h2:=DJ h1;have h3:=h2.2.2 ab;rw[ff hj,show j+1-1=j by omega,ff ab]at h3;rcases DF i j with h4|h4
  .have:=ih h4 ab;omega
  .obtain rfl:i=j:=by omega
   exact h3
theorem Jdh(h:WB n l=true){x:Int}(hx:x∈l):0<=x/\x<n:=by
 obtain⟨i,hi,rfl⟩:=Eu hx;have h2:=DJ (UL h hi);rw[ff hi]at h2;exact⟨h2.1,h2.2.1⟩
theorem Jjm(h:WB n l=true)(hi:i<l.length):l[i]∉l.take i:=by
 intro hm;obtain⟨j,hj,e⟩:=Eu hm;rw[C9]at hj;rw[FU]at e;have:=JhQ h (i:=j) (j:=i) ab hi;omega
def k8(b:Bool):Nat:=if b then 1 else 0
def J6(ncls:Nat)(rs:List Rn):St where
 runs:=rs.length
 o k:=rs.countP (fun r=>decide (r.kind=(k:Int)))
 cls:=(List.range ncls).map (fun(i:Nat)=>rs.countP (fun r=>decide ((i:Int)∈r.cl)))
 cnt b:=rs.countP (fun r=>decide (b∈r.bs))
 ks:=JM eO (rs.flatMap (·.bs))
 ps:=JM eC (rs.flatMap (fun r=>Jy r.bs))
def Qb(s:St)(r:Rn):St where
 runs:=s.runs+1
 o k:=s.o k+k8 (decide (r.kind=(k:Int)))
 cls:=s.cls.mapIdx (fun(i:Nat) n=>n+k8 (decide ((i:Int)∈r.cl)))
 cnt b:=s.cnt b+k8 (decide (b∈r.bs))
 ks:=JM eO (s.ks++r.bs)
 ps:=JM eC (s.ps++Jy r.bs)
theorem Xu{p:α->Bool}{l:List α}{a:α}:(l++[a]).countP p=l.countP p+k8 (p a):=by
 rw[FN,List.countP_singleton];rfl
theorem Jbz(n:Nat)(rs:List Rn)(r:Rn):J6 n (rs++[r])=Qb (J6 n rs) r:=by
 unfold J6 Qb
 congr 1
 .rw [Sm];rfl
 .funext k;exact Xu
 .apply Ew
  .simp
  .intro i h1 h2;simp only[F7,IY,Fe];exact Xu
 .funext b;exact Xu
 .refine V6 Qu (fun y=>?_);rw[SE,KF Qu,List.flatMap_append,SE];simp
 .refine V6 Qy (fun y=>?_);rw[SE,KF Qy,List.flatMap_append,SE];simp
theorem Nv{rs:List Rn}{b:Br}:(J6 n rs).cnt b≠0↔b∈(J6 n rs).ks:=by
 show List.countP _ _≠0↔b∈JM eO _;rw[KF Qu,DY];constructor
 .intro h;obtain⟨r,hr,hb⟩:=IK.1 (Nat.pos_of_ne_zero h);exact⟨r,hr,DJ hb⟩
 .rintro ⟨r,hr,hb⟩ h0;exact Nat.ne_of_gt (IK.2 ⟨r,hr,SN hb⟩) h0
theorem QS{p:Pr}:∀{l:List Br},p∈Jy l->p.1∈l/\p.2∈l
 |[],h=>by simp[Jy]at h
 |[a],h=>by simp[Jy]at h
 |a::b::l,h=>by
  rw[Jy,SC]at h;rcases h with rfl|h
  .simp
  .have:=QS h;exact⟨CY _ this.1,CY _ this.2⟩
structure StOk (P:Pp) (s:St):Prop where
 ncls:s.cls.length=P.ncls
 cnt:∀b,s.cnt b≠0↔b∈s.ks
 kasc:gR eO s.ks
 pasc:gR eC s.ps
 pks:∀p∈s.ps,p.1∈s.ks/\p.2∈s.ks
 o:s.o 0+s.o 1+s.o 2=s.runs
 ocls:∀n∈s.cls,n<=s.runs
 ocnt:∀b,s.cnt b<=s.runs
theorem StOk.mono{P:Pp}{s:St}(h:StOk P s)(r:Rn)(hr:Qd P r=true):StOk P (Qb s r):=by
 unfold Qd Gt at hr;rw[CV]at hr;have ho:=DJ hr.1;refine⟨?_,fun b=>?_,QA Qu _,QA Qy _,fun p hp=>?_,?_,fun n hn=>?_,fun b=>?_⟩
 .simp only[Qb,IZ];exact h.ncls
 .simp only[Qb,KF Qu,SE,k8];by_cases hb:b∈r.bs
  .simp [hb]
  .simp [hb,<-h.cnt b]
 .simp only[Qb,KF Qu,KF Qy,SE]at hp ⊢;rcases hp with hp|hp
  .exact ⟨.inl (h.pks p hp).1,.inl (h.pks p hp).2⟩
  .exact ⟨.inr (QS hp).1,.inr (QS hp).2⟩
 .have:=h.o;simp only[Qb,k8,Eb];have h3:r.kind=0\/r.kind=1\/r.kind=2:=by omega
  rcases h3 with e|e|e<;>simp[e]<;>omega
 .simp only[Qb]at hn ⊢;obtain⟨i,hi,rfl⟩:=Eu hn;rw[Fe];rw[IZ]at hi;have:=h.ocls s.cls[i] (Cj _);unfold k8
  split<;>omega
 .have:=h.ocnt b;simp only[Qb,k8]
  split<;>omega
theorem JgP(P:Pp):∀(rs:List Rn),(∀r∈rs,Qd P r=true)->StOk P (J6 P.ncls rs):=by
 intro rs
 induction hl:rs.length generalizing rs with
 |zero=>
  intro _;have:rs=[]:=Dj hl;subst this;refine⟨by simp[J6],fun b=>Nv,QA Qu _,QA Qy _,fun p hp=>by simp[J6,JM]at hp,rfl,fun n hn=>?_,fun b=>by simp[J6]⟩;simp only[J6,List.countP_nil,Du]at hn;obtain⟨_,_,rfl⟩:=hn;exact SL _
 |succ k ih=>
  intro h;have iz:rs≠[]:=fun e=>by subst e;cases hl
  have e:=List.dropLast_concat_getLast iz;rw[<-e,Jbz];refine StOk.mono (ih rs.dropLast (by rw[List.length_dropLast,hl];rfl) (fun r hr=>h r (List.dropLast_subset _ hr))) _ (h _ (List.getLast_mem iz))
def VB(s:St)(r:Rn):Bool:=r.cl.any (fun x=>decide (s.cls.getD x.toNat 0=0))||r.bs.any (fun b=>decide (s.cnt b=0))||(Jy r.bs).any (fun p=> !decide (p∈s.ps))
def Ur(P:Pp)(s:St):List Br:=P.reach.filter (fun b=>decide (s.cnt b=0))
def fZ(b:Br):List Int:=raw (sb b.decl)++iv b.at_++iv b.arm
def U0(prop:ByteArray)(s:St):List Int:=
 raw (sb prop)++iv s.runs++iv (s.o 0)++iv (s.o 1)++iv (s.o 2)++iv s.cls.length++s.cls.flatMap (fun n=>iv (n:Nat))++iv s.ks.length++s.ks.flatMap (fun b=>fZ b++iv (s.cnt b))++iv s.ps.length++s.ps.flatMap (fun p=>fZ p.1++fZ p.2)
end
section
open Go.RowKit
class BrT (P:Program) (t:Nat):Prop where
 u:∃f0 f1 f2:Field,P.underlying t=some (.struct #[f0,f1,f2])/\(f0.name≠ "_"/\f1.name≠ "_"/\f2.name≠ "_")/\(f0.offset=0/\f1.offset=1/\f2.offset=2)/\P.underlying f0.type=some .string/\P.underlying f1.type=some (.int .i64)/\P.underlying f2.type=some (.int .i64)
 held:P.stoodInHeld t=false
 grd:P.eqGuardType P.depth t=false
class BpT (P:Program) (t:Nat):Prop where
 u:∃e,P.underlying t=some (.array 2 e)/\BrT P e/\(∃i,P.info? e=some i)/\P.cellsOf e=3
 grd:P.eqGuardType P.depth t=false
def gg(b:Br):Value:=.agg (dH b).toArray
def iC(p:Pr):Value:=.agg (fK p).toArray
section
variable{P:Program}{t:Nat}{w:World}
theorem JdU(a b:Int):(a==b)=decide (a=b):=by by_cases h:a=b<;>simp[h]
theorem WW{t:Nat}{d:TypeDesc}(ht:P.underlying t=some d)(hd:JgI d=false){cs:Array Value}{j:Nat}{v:Value}(h:cs[j]?=some v):(part t cs j).run P w=.ok v w:=by
 have:(isAgg t).run P w=.ok false w:=by
  unfold isAgg;simp only[Sem.run_bind,run_underlying ht,Result.andThen_ok];cases d<;>simp_all [JgI]
 simp[part,this,h]
theorem UE[B:BrT P t](dd:Nat)(a b:Br):(Op.equalIn (dd+2) t (gg a) (gg b)).run P w=.ok (decide (a=b)) w:=by
 obtain⟨f0,f1,f2,hu,⟨n0,n1,n2⟩,⟨o0,o1,o2⟩,t0,t1,t2⟩:=B.u;have hf:P.fieldsOf t=#[f0,f1,f2]:=by simp[Program.fieldsOf,hu]
 unfold gg;rw[run_equalIn_struct w (dd+1) t _ _ (by rw[hf];exact hu) B.held,hf];obtain⟨ad,aa,am⟩:=a;obtain⟨bd,ba,bm⟩:=b;have p0:∀(c:Br),(part f0.type (dH c).toArray f0.offset).run P w=.ok (.string c.decl) w:=fun c=>by rw[o0];exact WW t0 rfl rfl
 have p1:∀(c:Br),(part f1.type (dH c).toArray f1.offset).run P w=.ok (iV c.at_) w:=fun c=>by rw[o1];exact WW t1 rfl rfl
 have p2:∀(c:Br),(part f2.type (dH c).toArray f2.offset).run P w=.ok (iV c.arm) w:=fun c=>by rw[o2];exact WW t2 rfl rfl
 have q0:(Op.equalIn (dd+1) f0.type (.string ad) (.string bd)).run P w=.ok (decide (ad=bd)) w:=by
  rw[Op.equalIn];simp only[Sem.run_bind,run_underlying t0,Result.andThen_ok,Sem.run_pure,LM]
 have q1:(Op.equalIn (dd+1) f1.type (iV aa) (iV ba)).run P w=.ok (decide (aa=ba)) w:=by
  rw[Op.equalIn];simp only[Sem.run_bind,run_underlying t1,Result.andThen_ok,CX,Sem.run_pure,JdU]
 have q2:(Op.equalIn (dd+1) f2.type (iV am) (iV bm)).run P w=.ok (decide (am=bm)) w:=by
  rw[Op.equalIn];simp only[Sem.run_bind,run_underlying t2,Result.andThen_ok,CX,Sem.run_pure,JdU]
 have hp:∀(x y:ByteArray) (c d c' d':Int),((⟨x,c,d⟩:Br)=⟨y,c',d'⟩)=(x=y/\c=c'/\d=d'):=by intros;simp
 simp only[hp];show(Op.eqFields (dd+1) _ _ [f0,f1,f2]).run P w=_;rw[Op.eqFields,Cb n0];simp only[Sem.run_bind];rw[p0,Result.andThen_ok,p0,Result.andThen_ok,q0,Result.andThen_ok];by_cases e0:ad=bd
 case neg=>simp[e0]
 rw[SH (by simp[e0]),Op.eqFields,Cb n1];simp only[Sem.run_bind];rw[p1,Result.andThen_ok,p1,Result.andThen_ok,q1,Result.andThen_ok];by_cases e1:aa=ba
 case neg=>simp[e1]
 rw[SH (by simp[e1]),Op.eqFields,Cb n2];simp only[Sem.run_bind];rw[p2,Result.andThen_ok,p2,Result.andThen_ok,q2,Result.andThen_ok];by_cases e2:am=bm
 case neg=>simp[e2]
 rw[SH (by simp[e2]),Op.eqFields];simp[e0,e1,e2]
theorem Jgz[B:BrT P t](e:Bool)(dd:Nat)(a:Br):(Instr.checkKey e (dd+2) t (gg a)).run P w=.ok () w:=by
 obtain⟨f0,f1,f2,hu,⟨n0,n1,n2⟩,⟨o0,o1,o2⟩,t0,t1,t2⟩:=B.u;have p0:(part f0.type (dH a).toArray f0.offset).run P w=.ok (.string a.decl) w:=by rw[o0];exact WW t0 rfl rfl
 have p1:(part f1.type (dH a).toArray f1.offset).run P w=.ok (iV a.at_) w:=by rw[o1];exact WW t1 rfl rfl
 have p2:(part f2.type (dH a).toArray f2.offset).run P w=.ok (iV a.arm) w:=by rw[o2];exact WW t2 rfl rfl
 have q0:(Instr.checkKey e (dd+1) f0.type (.string a.decl)).run P w=.ok () w:=by
  rw[Instr.checkKey];simp only[Sem.run_bind,run_underlying t0,Result.andThen_ok,Sem.run_pure]
 have q1:(Instr.checkKey e (dd+1) f1.type (iV a.at_)).run P w=.ok () w:=by
  rw[Instr.checkKey];simp only[Sem.run_bind,run_underlying t1,Result.andThen_ok,Sem.run_pure]
 have q2:(Instr.checkKey e (dd+1) f2.type (iV a.arm)).run P w=.ok () w:=by
  rw[Instr.checkKey];simp only[Sem.run_bind,run_underlying t2,Result.andThen_ok,Sem.run_pure]
 rw[gg,Instr.checkKey];simp only[Sem.run_bind,run_underlying hu,Result.andThen_ok];rw[<-Array.forIn_toList];simp only[List.forIn_cons,List.forIn_nil,n0,n1,n2,ne_eq,not_false_eq_true,CX,Sem.run_bind,p0,p1,p2,q0,q1,q2,Result.andThen_ok,Sem.run_pure]
theorem JgT(a:Br)(dd:Nat):Instr.sameBits (dd+2) (gg a) (gg a)=true:=by
 have e:(a.decl==a.decl)=true:=(MapKept.bytes_beq _ _).2 rfl;simp[gg,dH,Instr.sameBits,e]
instance ieZ{P:Program}{k:Nat}[B:BrT P k]:KeyT P k gg where
 now:=by
  obtain⟨f0,f1,f2,hu,_⟩:=B.u;exact⟨_,hu,.inr fun a b=>rfl⟩
 eqv:=fun a b w=>UE 9998 a b
 chk:=fun e a w=>Jgz e 9998 a
 same:=fun a=>JgT a 9998
theorem WV{i:TypeInfo}[B:BrT P t](hs:P.info? t=some i)(h3:P.cellsOf t=3)(p:Pr):(part t (fK p).toArray 0).run P w=.ok (gg p.1) w/\(part t (fK p).toArray 3).run P w=.ok (gg p.2) w:=by
 obtain⟨f0,f1,f2,hu,_⟩:=B.u;have:(isAgg t).run P w=.ok true w:=by
  unfold isAgg;simp only[Sem.run_bind,run_underlying hu,Result.andThen_ok];rfl
 have hz:(Go.sizeOf t).run P w=.ok 3 w:=by rw[run_sizeOf w hs,h3]
 constructor
 .unfold part;simp only[Sem.run_bind,this,Result.andThen_ok,CX,hz,Sem.run_pure];rfl
 .unfold part;simp only[Sem.run_bind,this,Result.andThen_ok,CX,hz,Sem.run_pure];rfl
theorem Jgn[B:BpT P t](dd:Nat)(a b:Pr):(Op.equalIn (dd+3) t (iC a) (iC b)).run P w=.ok (decide (a=b)) w:=by
 obtain⟨e,hu,hb,⟨i,hi⟩,h3⟩:=B.u;unfold iC;rw[run_equalIn_array w (dd+2) _ _ hu hi,h3];have r2:List.range 2=[0,1]:=rfl;rw[r2,Op.eqItems];simp only[Sem.run_bind];rw[D8,(WV hi h3 a).1,Result.andThen_ok,(WV hi h3 b).1,Result.andThen_ok,UE,Result.andThen_ok];by_cases h1:a.1=b.1
 case neg=>simp[h1,Ip]
 rw[SH (by simp[h1]),Op.eqItems];simp only[Sem.run_bind];rw[Ez,(WV hi h3 a).2,Result.andThen_ok,(WV hi h3 b).2,Result.andThen_ok,UE,Result.andThen_ok];by_cases h2:a.2=b.2
 case neg=>simp[h2,Ip]
 rw[SH (by simp[h2]),Op.eqItems];simp[h1,h2,Ip]
theorem Jjs[B:BpT P t](e:Bool)(dd:Nat)(a:Pr):(Instr.checkKey e (dd+3) t (iC a)).run P w=.ok () w:=by
 obtain⟨el,hu,hb,⟨i,hi⟩,h3⟩:=B.u;have hz:(Go.sizeOf el).run P w=.ok 3 w:=by rw[run_sizeOf w hi,h3]
 rw[iC,Instr.checkKey];simp only[Sem.run_bind,run_underlying hu,Result.andThen_ok];simp only[Std.Legacy.Range.forIn_eq_forIn_range',Std.Legacy.Range.size,EJ,Nat.add_one_sub_one,Nat.div_one];have:List.range' 0 2=[0,1]:=rfl;rw[this];simp only[List.forIn_cons,List.forIn_nil,Sem.run_bind,hz,Result.andThen_ok,Sem.run_pure,D8,Ez,(WV hi h3 a).1,(WV hi h3 a).2,Jgz]
theorem JgS(a:Pr)(dd:Nat):Instr.sameBits (dd+2) (iC a) (iC a)=true:=by
 have e:(a.1.decl==a.1.decl)=true:=(MapKept.bytes_beq _ _).2 rfl;have e':(a.2.decl==a.2.decl)=true:=(MapKept.bytes_beq _ _).2 rfl;simp[iC,fK,dH,Instr.sameBits,e,e']
instance ie0{P:Program}{k:Nat}[B:BpT P k]:KeyT P k iC where
 now:=by
  obtain⟨e,hu,_⟩:=B.u;exact⟨_,hu,.inr fun a b=>rfl⟩
 eqv:=fun a b w=>Jgn 9997 a b
 chk:=fun e a w=>Jjs e 9997 a
 same:=fun a=>JgS a 9998
/-! ### iby of pP -/
variable{D:Dfs}{Q:Exit->Act->World->Prop}{ops:Array Oper}{rest:List Oper}{n:Nat}{f:Env}{d:Nat}{ty:TypeId}{ps:String}{af:Array Edge}{gd:Option (Nat×Bool)}{x y:Operand}{t2:Nat}
theorem Zc[B:BrT P t]{a b:Br}{p:Bool}(hx:ev n f x=.agg (dH a).toArray)(hy:ev n f y=.agg (dH b).toArray)(hp:decide (a=b)=p):(execOp (ev n f) ⟨some d,.binOp .eql t x y t2,ty,ps,af,gd⟩).run P w=.ok (.value (.bool p)) w:=by
 have:=UE (P:=P) (t:=t) (w:=w) 9998 a b;rw[hp]at this;have h2:(Op.equal t (.agg (dH a).toArray) (.agg (dH b).toArray)).run P w=.ok p w:=this;simp[execOp,eqGuard,binOp,hx,hy,h2,B.grd]
theorem JiE[B:BrT P t]{a b:Br}(hx:ev n f x=.agg (dH a).toArray)(hy:ev n f y=.agg (dH b).toArray)(ht:a=b->wpList P ops Q rest (A n (bz f d (.bool true))) w)(hf:¬a=b->wpList P ops Q rest (A n (bz f d (.bool false))) w):
 wpList P ops Q (⟨some d,.binOp .eql t x y t2,ty,ps,af,none⟩::rest) (A n f) w:=by
 by_cases h:a=b
 .exact JR (Zc hx hy (SN h)) (ht h)
 .exact JR (Zc hx hy (SG h)) (hf h)
theorem JfG[B:BpT P t]{a b:Pr}{p:Bool}(hx:ev n f x=.agg (fK a).toArray)(hy:ev n f y=.agg (fK b).toArray)(hp:decide (a=b)=p):(execOp (ev n f) ⟨some d,.binOp .eql t x y t2,ty,ps,af,gd⟩).run P w=.ok (.value (.bool p)) w:=by
 have:=Jgn (P:=P) (t:=t) (w:=w) 9997 a b;rw[hp]at this;have h2:(Op.equal t (.agg (fK a).toArray) (.agg (fK b).toArray)).run P w=.ok p w:=this;simp[execOp,eqGuard,binOp,hx,hy,h2,B.grd]
end
end
section
open Go.RowKit
variable{γ:Type}
section
variable{α β:Type}{key:α->Value}{val:β->Value}{w w':World}{b r:Nat}{m left:List (α×β)}
def Jjg(key:α->Value)(val:β->Value)(p:(α×β)×Nat):MapEntry:=⟨key p.1.1,val p.1.2,p.2⟩
theorem Zu:∀{m:List (α×β)} {ns:List Nat},dG key val m ns=(m.zip ns).map (Jjg key val)
 |[],ns=>by cases ns<;>rfl
 |p::m,[]=>rfl
 |p::m,n::ns=>by rw[dG,Zu];rfl
theorem JaB:∀{m:List (α×β)} {ns:List Nat},ns.length=m.length->(m.zip ns).map Prod.snd=ns
 |[],[],_=>rfl
 |[],n::ns,h=>by simp at h
 |p::m,[],h=>by simp at h
 |p::m,n::ns,h=>by simp only[List.zip_cons_cons,DL];rw[JaB mE]
def nu(key:α->Value)(val:β->Value)(w:World)(b r:Nat)(m left:List (α×β))(eS:Option (α×β)):Prop:=
 ∃(ns:List Nat) (clock since:Nat) (seen:Array Nat) (c0:Nat),ns.length=m.length/\w.heap[b]?=some (.map (dG key val m ns).toArray clock)/\(m.map Prod.fst).Nodup/\ns.Nodup/\(∀n∈ns,n<clock)/\
  w.heap[r]?=some (.mapIter (some b) since seen c0)/\(∀n∈ns,n<since)/\since<=c0/\since<=clock/\left=((m.zip ns).filter (fun p=> !seen.contains p.2)).map Prod.fst/\
  (∀p,eS=some p->∃(n0:Nat) (wL:Array Nat),seen=wL.push n0/\(p,n0)∈m.zip ns/\c0=clock)
variable{eS:Option (α×β)}
theorem nu.mp(h:nu key val w b r m left eS):Mp key val w b m:=by
 obtain⟨ns,clock,since,seen,c0,h1,h2,h3,h4,h5,_⟩:=h;exact⟨ns,clock,h1,h2,h3,h4,h5⟩
theorem nu.lt(h:nu key val w b r m left eS):r<w.heap.size:=by
 obtain⟨ns,clock,since,seen,c0,h1,h2,h3,h4,h5,h6,_⟩:=h;exact(DI.1 h6).1
theorem nu.ne(h:nu key val w b r m left eS):b≠r:=by
 obtain⟨ns,clock,since,seen,c0,h1,h2,h3,h4,h5,h6,_⟩:=h;intro e;subst e;rw[h2]at h6;cases h6
theorem nu.tr{S:List Nat}(h:nu key val w b r m left eS)(hf:Fr S w w')(hb:b∉S)(hr:r∉S):nu key val w' b r m left eS:=by
 have hl:=h.mp.lt;have gH:=h.lt;obtain⟨ns,clock,since,seen,c0,h1,h2,h3,h4,h5,h6,h7⟩:=h;exact⟨ns,clock,since,seen,c0,h1,by rw[hf.block b hl hb];exact h2,h3,h4,h5,by rw[hf.block r gH hr];exact h6,h7⟩
theorem nu.tr0(h:nu key val w b r m left eS)(hf:Fr [] w w'):nu key val w' b r m left eS:=h.tr hf ap ap
theorem X4{p:γ->Bool}:∀{l:List γ},(∀x∈l,p x=true)->l.filter p=l:=fun h=>List.filter_eq_self.2 h
theorem Jap{f:γ->Nat}{x:γ}:∀{l:List γ},(l.map f).Nodup->x∈l->l.Perm (x::l.filter (fun y=> !(f y==f x)))
 |[],_,h=>by simp at h
 |y::l,hn,h=>by
  simp only[DL,EF]at hn;rcases SC.1 h with rfl|h
  .have:l.filter (fun y=> !(f y==f x))=l:=X4 (fun z hz=>by
    have:¬f z=f x:=fun e=>hn.1 (e▸Fg hz)
    simp[this])
   rw[EH,SH ap,this]
  .have iz:¬f y=f x:=fun e=>hn.1 (e▸Fg h)
   rw[EH,Cb (by simp[iz])];exact((Jap hn.2 h).cons y).trans (List.Perm.swap ..)
section
variable{P:Program}{ops:Array Oper}{Q:Exit->Act->World->Prop}{rest:List Oper}{n:Nat}{f:Env}{D:Dfs}
variable{d:Nat}{d':Option Nat}{ty:TypeId}{ps:String}{af:Array Edge}{gd:Option (Nat×Bool)}{x y z:Operand}{t k e:Nat}
theorem BR[T:MapT P t k e](hx:ev n f x=.map (some b))(hm:Mp key val w b m)
 (h:∀w',nu key val w' b w.heap.size m m none->Fr [] w w'->w'.heap.size=w.heap.size+1->wpList P ops Q rest (A n (bz f d (.pointer (some ⟨w.heap.size,0,none⟩)))) w'):
 wpList P ops Q (⟨some d,.range t x,ty,ps,af,none⟩::rest) (A n f) w:=by
 have aC:=hm.lt;obtain⟨ns,clock,h1,h2,h3,h4,h5⟩:=hm;have hr:=run_range_map (P:=P) w t k e b _ clock T.u h2;refine JR (w':=w.alloc (.mapIter (some b) clock #[] clock)) (v:=.pointer (some ⟨w.heap.size,0,none⟩)) ?_ (h _ ⟨ns,clock,clock,#[],clock,h1,((MapKept.heap_alloc w _).2 b aC).trans h2,h3,h4,h5,(MapKept.heap_alloc w _).1,h5,SX _,SX _,?_,by simp⟩ (Fr.alloc _ _ _) ap)
 .simp [execOp,hx,hr]
 .rw [X4 ap];exact(List.map_fst_zip (Nat.le_of_eq h1.symm)).symm
theorem Θ(hx:ev n f x=.pointer (some ⟨r,0,none⟩))(hm:nu key val w b r m left eS)
 (he:left=[]->wpList P ops Q rest (A n (bz f d (.tuple #[.bool false]))) w)
 (h:∀a v gN w',left.Perm ((a,v)::gN)->nu key val w' b r m gN (some (a,v))->Fr [r] w w'->w'.heap.size=w.heap.size->wpList P ops Q rest (A n (bz f d (.tuple #[.bool true,key a,val v]))) w'):
 wpList P ops Q (⟨some d,.next x false,ty,ps,af,none⟩::rest) (A n f) w:=by
 have iz:=hm.ne;obtain⟨ns,clock,since,seen,c0,h1,h2,h3,h4,h5,h6,h7,h8,h9,rfl,_⟩:=hm;have hz:=JaB h1;have ibz:∀x∈(dG key val m ns).toArray.toList,x.born<since:=fun x hx=>by
  rw[EL,Zu]at hx;obtain⟨p,hp,rfl⟩:=Du.1 hx;exact h7 _ (by rw[<-hz];exact Fg hp)
 have PZ:(leftOf (dG key val m ns).toArray seen).toList=((m.zip ns).filter (fun p=> !seen.contains p.2)).map (Jjg key val):=by
  simp only[leftOf,Array.toList_filter,EL,Zu,List.filter_map];rfl
 rcases run_next_at (P:=P) w ty r b since c0 seen _ clock h6 h2 ibz h8 with⟨h0,aw⟩|⟨en,hen,w1,qS,aw⟩
 .refine JR (w':=w) (v:=.tuple #[.bool false]) (by simp[execOp,hx,aw]) (he ?_);have:(leftOf (dG key val m ns).toArray seen).toList.length=0:=by simpa using h0
  rw[PZ,Sr]at this;rw[Dj this];rfl
 .rw [PZ]at hen;obtain⟨⟨⟨a,v⟩,n0⟩,hp,rfl⟩:=Du.1 hen;have hpz:=(Fp.1 hp).1;have eN:w1.heap[r]?=some (.mapIter (some b) since seen c0):=by rcases qS with rfl|rfl<;>exact h6
  have bJ:w1.heap[b]?=some (.map (dG key val m ns).toArray clock):=by rcases qS with rfl|rfl<;>exact h2
  have wG:=MapKept.heap_set (o':=.mapIter (some b) since (seen.push n0) clock) eN;have dN:=(wG.2 b iz).trans bJ;have fv:Fr [r] w (ChangeMaps.setBlock w1 r (.mapIter (some b) since (seen.push n0) clock)):=by
   rcases qS with rfl|rfl<;>exact⟨rfl,rfl,rfl,by simp[ChangeMaps.setBlock],fun i _ hi=>wG.2 i (fun e1=>hi (by rw[e1];simp)),by first|exact SX _|exact Nat.le_succ _⟩
  have fA:(ChangeMaps.setBlock w1 r (.mapIter (some b) since (seen.push n0) clock)).heap.size=w.heap.size:=by rcases qS with rfl|rfl<;>simp[ChangeMaps.setBlock]
  refine JR (w':=ChangeMaps.setBlock w1 r (.mapIter (some b) since (seen.push n0) clock)) (v:=.tuple #[.bool true,key a,val v]) (by simp only[execOp,hx,Sem.run_bind];rw[aw];rfl) (h a v (((m.zip ns).filter (fun p=> !(seen.push n0).contains p.2)).map Prod.fst) _ ?_ ⟨ns,clock,since,seen.push n0,clock,h1,dN,h3,h4,h5,wG.1,h7,h9,h9,rfl,fun p hp=>?_⟩ fv fA)
  .have ez:((m.zip ns).filter (fun p=> !seen.contains p.2)).Perm (((a,v),n0)::((m.zip ns).filter (fun p=> !seen.contains p.2)).filter (fun y=> !(y.2==n0))):=by
    refine Jap (f:=Prod.snd) ?_ hp;refine List.Nodup.sublist ((List.filter_sublist (l:=m.zip ns)).map _) ?_;rw[hz];exact h4
   have jH:(m.zip ns).filter (fun p=> !(seen.push n0).contains p.2)=((m.zip ns).filter (fun p=> !seen.contains p.2)).filter (fun y=> !(y.2==n0)):=by
    rw[List.filter_filter];refine List.filter_congr (fun p _=>?_);rw[contains_push];cases seen.contains p.2<;>cases(p.2==n0)<;>rfl
   rw[jH];have:=ez.map Prod.fst;simpa using this
  .cases hp
   exact⟨n0,seen,rfl,hpz,rfl⟩
theorem JbH{a:α}{v:β}(hx:ev n f x=.pointer (some ⟨r,0,none⟩))(hm:nu key val w b r m left (some (a,v)))
 (h:wpList P ops Q rest (A n (bz f d (.tuple #[key a,val v]))) w):
 wpList P ops Q (⟨some d,.entry x,ty,ps,af,none⟩::rest) (A n f) w:=by
 obtain⟨ns,clock,since,seen,c0,h1,h2,h3,h4,h5,h6,h7,h8,h9,_,ez⟩:=hm;obtain⟨n0,wL,rfl,hpz,rfl⟩:=ez _ rfl;have hz:=JaB h1;have he:(⟨key a,val v,n0⟩:MapEntry)∈(dG key val m ns).toArray.toList:=by
  rw[EL,Zu];exact Du.2 ⟨_,hpz,rfl⟩
 have hn:((dG key val m ns).toArray.toList.map (·.born)).Nodup:=by
  rw[EL,Zu,Io];have:(MapEntry.born∘Jjg key val)=Prod.snd:=rfl;rw[this,hz];exact h4
 have hr:=run_entry_at (P:=P) w r b since wL _ c0 _ h6 h2 he hn;exact JR (by simp only[execOp,hx,Sem.run_bind];rw[hr];rfl) h
end
end
end
section
open Go.RowKit
theorem Jgf{P:Program}{t:Nat}(h:(P.info? t).isSome=true):∃i,P.info? t=some i:=Option.isSome_iff_exists.1 h
theorem Jd6{w:World}{a:Addr}{v:Value}{l:List Value}(h:Cells w a (v::l)):w.cell? a=some v:=by
 exact Ydb
def tZ:List Int->Int
 |[]=>0
 |x::l=>if x≠0 then x else tZ l
theorem JfV{l:List Int}{i:Nat}(hi:i<l.length):tZ (l.drop i)=if l[i]≠0 then l[i] else tZ (l.drop (i+1)):=by
 rw[Dh hi,tZ]
end
end Go.Rf
namespace Go.Proofs.YtggmccicdhnkgaaGreat
open Go.Proofs.Tryz
open Go.Rf Go.RowKit
attribute [local irreducible] Code.wp wpList Exit.then Exit.inBlock bodyPost A Calls execOp Addr.add
instance:BrT prog 50:=⟨⟨_,_,_,underlying50,by decide,by decide,by kernel_rfl,by kernel_rfl,by kernel_rfl⟩,by kernel_rfl,by kernel_rfl⟩
instance:BpT prog 128:=⟨⟨_,underlying128,inferInstance,Jgf az,by kernel_rfl⟩,by kernel_rfl⟩
theorem Jj9(a:ByteArray)(w:World):Calls prog 155 #[.string a] w fun e w'=>e=.returned (.bool false)/\w'=w:=by
 refine enter func155 rfl ntmps155 rfl ?_;have e0:a=a:=rfl;exact yi
theorem Jkl(a b:ByteArray)(w:World):Calls prog 99 #[.string a,.string b] w fun e w'=>e=.returned (iV (XK a b))/\w'=w:=by
 refine enter func99 rfl ntmps99 rfl ?_;refine rx ?_;refine Jg (Jj9 a w) ?_;rintro _ rfl;refine rx ?_;refine Jg (Jj9 b _) ?_;rintro _ rfl;refine rx ?_;refine WG rfl rfl (fun h=>?_) (fun h=>?_)
 .refine rx ?_;refine gZ ?_;exact⟨by unfold XK;rw[Cb h],rfl⟩
 .refine rx ?_;refine WY rfl rfl (fun h2=>?_) (fun h2=>?_)
  .refine rx ?_;refine gZ ?_;exact⟨by unfold XK;rw[SH h,SH (fun e=>h2 (.inr e))],rfl⟩
  .refine rx ?_;refine gZ ?_;exact⟨by unfold XK;rw[SH h,Cb (h2.resolve_left h)],rfl⟩
theorem Jka(a:Int)(w:World):Calls prog 156 #[iV a] w fun e w'=>e=.returned (.bool false)/\w'=w:=by
 refine enter func156 rfl ntmps156 rfl ?_;have e0:a=a:=rfl;exact yi
theorem Jil(a b:Int)(w:World):Calls prog 100 #[iV a,iV b] w fun e w'=>e=.returned (iV (VY a b))/\w'=w:=by
 refine enter func100 rfl ntmps100 rfl ?_;refine rx ?_;refine Jg (Jka a w) ?_;rintro _ rfl;refine rx ?_;refine Jg (Jka b _) ?_;rintro _ rfl;by_cases h:a<b
 .refine rx ?_;refine gZ ?_;exact⟨by unfold VY;rw[Cb h],rfl⟩
 by_cases h2:b<a
 .refine rx ?_;refine gZ ?_;exact⟨by unfold VY;rw[SH h,Cb h2],rfl⟩
 .refine rx ?_;refine gZ ?_;exact⟨by unfold VY;rw[SH h,SH h2],rfl⟩
theorem orC(l:List Int)(v:Value)(w:World)(S:List Nat)(hd:DR w S (.l (l.map KI)) v):
 Calls prog 97 #[v] w fun e w'=>e=.returned (iV (tZ l))/\w'=w:=by
 have dx:=hd.bound;have hl:(l.map KI).length=l.length:=Sr ..;obtain⟨ao,c,rfl,_⟩:=hd.slice;rw[hl]at hd dx ⊢;refine enter func97 rfl ntmps97 rfl ?_;refine rx ?_;refine Jh 4 [] (σ:=Nat) (fun i g u=>g 6=.slice ao l.length c/\g 7=iV l.length/\g 8=iV i/\i<=l.length/\tZ (l.drop i)=tZ l/\u=w) (fun i=>l.length-i) 0 ⟨rfl,rfl,rfl,SL _,rfl,rfl⟩ ?_;rintro i g u ⟨g6,g7,g8,hi,he,rfl⟩;rw[Ja g6,Ja g7,Ja g8];by_cases aC:i<l.length
 case neg=>
  refine bM ?_;refine⟨?_,rfl⟩;rw[<-he,Ci ab];rfl
 obtain⟨ad,cs,rfl,hr,hc⟩:=DR.at Zq hd aC;obtain⟨_,rfl,h0⟩:=RD.JI (x:=iV l[i]) hr;obtain rfl:=h0.inv0;rw[JfV aC]at he;refine rx ?_;refine KW rfl (Jd6 hc) ?_;by_cases h:l[i]=0
 .refine rx ?_;rw[SH (fun hn=>hn h)]at he;exact Jc (i+1) a6 ⟨rfl,rfl,rfl,aC,he,rfl⟩ ab
 .refine rx ?_;rw[Cb h]at he;refine gZ ?_;exact⟨by rw[<-he],rfl⟩
theorem Jgs{w:World}{e:Nat}{v:Value}{l:List Int}(ho:bx w e 1 v l.length (l.map (Value.int .i64)))(h:l.length<=1000000):DR w [] (.l (l.map KI)) v:=by
 refine GR (e:=e) (k:=1) (by rw[Sr];exact ho) ?_ (by simp[Zq]) (by rw[Sr];omega) ap;clear ho h
 induction l with
 |nil=>exact .nil
 |cons a l ih=>exact .cons (cs:=[.int .i64 a]) (.cons (.c rfl) .nil) ih
theorem Jgw(a b:Br)(w:World):Calls prog 53 #[.agg (dH a).toArray,.agg (dH b).toArray] w fun e w'=>e=.returned (iV (Qe a b))/\Fr [] w w':=by
 refine enter func53 rfl ntmps53 rfl ?_;refine rx ?_;refine Ju (l:=dH a) rfl rfl (fun w1 p hp h1 aj bh=>?_);replace h1:aG w1 p [.string a.decl,iV a.at_,iV a.arm] _:=h1;refine rx ?_;refine Ju (l:=dH b) rfl rfl (fun w2 q hq h2 aq cz=>?_);replace h2:aG w2 q [.string b.decl,iV b.at_,iV b.arm] _:=h2;have h1:=h1.tr0 aq;have aS:=aj.Jb aq;refine rx ?_;refine JiE (a:=a) (b:=b) rfl rfl (fun h=>?_) (fun h=>?_)
 .refine rx ?_;refine gZ ?_;exact⟨by rw[WT.2 h],aS⟩
 refine rx ?_;refine JE (fun z=>Fr [] w2 z) az rfl ?_;obtain⟨u,hu⟩:=aP w2.drew;rw[<-hu];have hS:Fr [] w2 u:=hu▸Fr.drew _ _;refine Jj 0 1 2 3 hS ?_;refine Jj 5 6 7 8 hS ?_;refine Jj 10 11 12 13 hS ?_;refine zw ?_;refine Jg (Jkl a.decl b.decl u) ?_;rintro _ rfl;refine ft ?_;refine TC ?_;refine Jg (Jil a.at_ b.at_ _) ?_;rintro _ rfl;refine ft ?_;refine JJ (i:=14) rfl az ?_;refine Jg (Jil a.arm b.arm _) ?_;rintro _ rfl;refine ft ?_;refine JJ (i:=15) rfl az ?_;refine J3 [iV (XK a.decl b.decl),iV (VY a.at_ b.at_),iV (VY a.arm b.arm)] rfl rfl rfl rfl (fun u2 ho aF dO=>?_);have fq:=hS.Jb aF;refine yj ?_;refine JJ (i:=16) rfl az ?_;refine Jg (orC [XK a.decl b.decl,VY a.at_ b.at_,VY a.arm b.arm] _ u2 [] (Jgs ho ap)) ?_;rintro _ rfl;refine yj ?_;refine JJ (i:=17) rfl az ?_;refine rx ?_;refine Jv fq ?_;refine gK ?_;refine bM ?_;refine⟨?_,aS.Jb fq⟩;unfold Qe;by_cases e1:XK a.decl b.decl=0
 .by_cases e2:VY a.at_ b.at_=0
  .by_cases e3:VY a.arm b.arm=0<;>simp[tZ,e1,e2,e3]
  .simp [tZ,e1,e2]
 .simp [tZ,e1]
theorem Δ(p:Bool)(w:World):Calls prog 158 #[.bool p] w fun e w'=>e=.returned (iV (if p=true then -1 else 1))/\w'=w:=by
 refine enter func158 rfl ntmps158 rfl ?_;cases p
 .refine rx ?_;exact Yeb
 .refine rx ?_;exact Yeb
theorem Za(a b:Br)(w:World):Calls prog 103 #[.agg (dH a).toArray,.agg (dH b).toArray] w fun e w'=>e=.returned (iV (Qe a b))/\Fr [] w w':=by
 refine enter func103 rfl ntmps103 rfl ?_;refine rx ?_;refine Ju (l:=dH a) rfl rfl (fun w1 p hp h1 aj bh=>?_);replace h1:aG w1 p [.string a.decl,iV a.at_,iV a.arm] _:=h1;refine rx ?_;refine Ju (l:=dH b) rfl rfl (fun w2 q hq h2 aq cz=>?_);replace h2:aG w2 q [.string b.decl,iV b.at_,iV b.arm] _:=h2;have h1:=h1.tr0 aq;have aS:=aj.Jb aq;by_cases e1:a.decl=b.decl
 case neg=>
  have e1':¬XK a.decl b.decl=0:=fun h=>e1 (ZT.1 h)
  refine rx ?_;refine WG rfl rfl (fun h=>?_) (fun h=>?_)<;>(refine rx ?_;refine Jg (Δ _ _) ?_;rintro _ rfl;refine rx ?_;(apply TF;exact rfl;(conv=>lhs;whnf));refine⟨?_,aS⟩;have hb:Qe a b=XK a.decl b.decl:=(by unfold Qe;rw[Cb e1']);rw[hb];simp[XK,h,e1])
 have c1:XK a.decl b.decl=0:=ZT.2 e1;by_cases e2:a.at_=b.at_
 case neg=>
  have e2':¬VY a.at_ b.at_=0:=fun h=>e2 (Xv.1 h)
  by_cases h:a.at_<b.at_
  .refine rx ?_;refine Jg (Δ _ _) ?_;rintro _ rfl;refine bM ?_;refine⟨?_,aS⟩;have hb:Qe a b= -1:=by
    unfold Qe;rw[SH (fun h=>h c1),Cb e2'];simp[VY,h]
   rw[hb];rfl
  .refine rx ?_;refine Jg (Δ _ _) ?_;rintro _ rfl;refine bM ?_;refine⟨?_,aS⟩;have hb:Qe a b=1:=by
    unfold Qe;rw[SH (fun h=>h c1),Cb e2'];have h':b.at_<a.at_:=by omega
    simp[VY,h,h']
   rw[hb];rfl
 have c2:VY a.at_ b.at_=0:=Xv.2 e2;by_cases e3:a.arm=b.arm
 case neg=>
  by_cases h:a.arm<b.arm
  .refine rx ?_;refine Jg (Δ _ _) ?_;rintro _ rfl;refine bM ?_;refine⟨?_,aS⟩;have hb:Qe a b= -1:=by
    unfold Qe;rw[SH (fun h=>h c1),SH (fun h=>h c2)];simp[VY,h]
   rw[hb];rfl
  .refine rx ?_;refine Jg (Δ _ _) ?_;rintro _ rfl;refine bM ?_;refine⟨?_,aS⟩;have hb:Qe a b=1:=by
    unfold Qe;rw[SH (fun h=>h c1),SH (fun h=>h c2)];have h':b.arm<a.arm:=by omega
    simp[VY,h,h']
   rw[hb];rfl
 refine bM ?_;refine⟨?_,aS⟩;have hb:Qe a b=0:=by
  unfold Qe;rw[SH (fun h=>h c1),SH (fun h=>h c2)];simp[VY,e3]
 rw[hb]
end Go.Proofs.YtggmccicdhnkgaaGreat
