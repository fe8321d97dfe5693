/-
 Declarations one behind the other make a module within the limits.
-/
import Derived.Test.YtggmccicdhnkgaaGreatVPe
set_option linter.all false
namespace Go.Rf
open Go.RowKit
section
variable{o t:Bs}{nm:ByteArray}{at_ n p:Int}{a its x:List It}{F d:Nat}{α:Type}
inductive EI (V:List (List It)):Bool->Nat->List It->Prop
 |up {b:Bool} {d:Nat} {a:List It}:EI V b d a->EI V b (d+1) a
 |num {d:Nat} {t:Bs}:t∈[[48],[49],[50],[51],[52],[53],[54],[55],[56],[57]]->EI V false d [.tk t]
 |var {d:Nat} {v:List It}:v∈V->EI V false d v
 |add {d:Nat} {o:Bs} {a b:List It}:o=[43]\/o=[45]->EI V false d a->EI V false d b->EI V false (d+1) (.tk [40]::(a++(.bl 32::.tk o::.bl 32::(b++[.tk [41]]))))
 |mul {d:Nat} {t:Bs} {a:List It}:t∈[[48],[49],[50],[51],[52],[53],[54],[55],[56],[57]]->EI V false d a->EI V false (d+1) (a++[.bl 32,.tk [42],.bl 32,.tk t])
 |mm {d:Nat} {m:Bs} {a b:List It}:m=[109,97,120]\/m=[109,105,110]->EI V false d a->EI V false d b->EI V false (d+1) (.tk m::.tk [40]::(a++(.tk [44]::.bl 32::(b++[.tk [41]]))))
 |ite {d:Nat} {c a b:List It}:EI V true d c->EI V false d a->EI V false d b->EI V false (d+1) (.tk [40]::.tk [105,102]::.bl 32::(c++(.bl 32::.tk [116,104,101,110]::.bl 32::(a++(.bl 32::.tk [101,108,115,101]::.bl 32::(b++[.tk [41]]))))))
 |lt {d:Nat} {a b:List It}:EI V false d a->EI V false d b->EI V false (d+1) (.tk [40]::.tk [108,101,116]::.bl 32::.tk [119]::.bl 32::.tk [61]::.bl 32::(a++(.bl 32::.tk [105,110]::.bl 32::.tk [119]::.bl 32::.tk [43]::.bl 32::(b++[.tk [41]]))))
 |cmp {d:Nat} {o:Bs} {a b:List It}:o=[60]\/o=[60,61]\/o=[61,61]\/o=[33,61]->EI V false d a->EI V false d b->EI V true d (.tk [40]::(a++(.bl 32::.tk o::.bl 32::(b++[.tk [41]]))))
 |log {d:Nat} {o:Bs} {a b:List It}:o=[97,110,100]\/o=[111,114]->EI V true d a->EI V true d b->EI V true (d+1) (.tk [40]::(a++(.bl 32::.tk o::.bl 32::(b++[.tk [41]]))))
 |neg {d:Nat} {a:List It}:EI V true d a->EI V true (d+1) (.tk [110,111,116]::.bl 32::a)
/-! ### tokens at tE head -/
theorem JeF(p:Int)(t:Bs):(JY p t).text=t:=by cases t<;>rfl
theorem Ux{k:Bs}{r:List Tk}:bg k (JY p t::r)=(t==k):=by simp only[bg,JeF]
theorem XD{r:List Tk}:JB t (JY p t::r)=some r:=by unfold JB;rw[Ux];simp
structure Cl6 (r:List Tk):Prop where
 o4:JW 4 r=none
 o5:JW 5 r=none
 o6:JW 6 r=none
 par:bg [40] r=false
structure ClA (r:List Tk):Prop where
 c6:Cl6 r
 o1:JW 1 r=none
 o2:JW 2 r=none
theorem Ua{k:Nat}{r:List Tk}:JW k (JY p t::r)=(VN k).find? fun o=>t==o:=by unfold JW;simp only[Ux]
theorem Jgy{r:List Tk}(h4:((VN 4).find? fun o=>t==o)=none)(h5:((VN 5).find? fun o=>t==o)=none)(h6:((VN 6).find? fun o=>t==o)=none)(hp:(t==[40])=false):Cl6 (JY p t::r):=
 ⟨by rw[Ua];exact h4,by rw[Ua];exact h5,by rw[Ua];exact h6,by rw[Ux];exact hp⟩
theorem BH{r:List Tk}(h:((((VN 4).find? fun o=>t==o).isNone&&((VN 5).find? fun o=>t==o).isNone)&&((((VN 6).find? fun o=>t==o).isNone&&((VN 1).find? fun o=>t==o).isNone)&&(((VN 2).find? fun o=>t==o).isNone&& !(t==[40]))))=true):ClA (JY p t::r):=by
 simp only[CV,Option.isNone_iff_eq_none,ES]at h;exact⟨Jgy h.1.1 h.1.2 h.2.1.1 h.2.2.2,by rw[Ua];exact h.2.1.2,by rw[Ua];exact h.2.2.1⟩
/-! ### levels -/
section
variable{n:Int}{r r1 r2 R:List Tk}{e e2:Ex}{F G:Nat}
theorem Ko{f:Nat}(h:F+1<=f):∃g,f=g+1/\F<=g:=⟨f-1,by omega,by omega⟩
theorem up5(hF:1<=F)(h:∀f,F<=f->VD n f r=some (e,r1))(ho:JW 5 r1=none):∀f,F+1<=f->VL n f r=some (e,r1):=fun f hf=>by
 obtain⟨g,rfl,hg⟩:=Ko hf;obtain⟨g',rfl,_⟩:=Ko (F:=0) (f:=g) ab;rw[VL,h _ hg];simp only[CS,Zi,ho]
theorem up4(h:∀f,F<=f->VL n f r=some (e,r1))(ho:JW 4 r1=none):∀f,F+1<=f->Xo n f r=some (e,r1):=fun f hf=>by
 obtain⟨g,rfl,hg⟩:=Ko hf;rw[Xo,h _ hg];simp only[CS,ho]
theorem up3(h:∀f,F<=f->Xo n f r=some (e,r1))(hn:bg [110,111,116] r=false):∀f,F+1<=f->Q7 n f r=some (e,r1):=fun f hf=>by
 obtain⟨g,rfl,hg⟩:=Ko hf;rw[Q7,hn,h _ hg];rfl
theorem up2(hF:1<=F)(h:∀f,F<=f->Q7 n f r=some (e,r1))(ho:JW 2 r1=none):∀f,F+1<=f->VZ n f r=some (e,r1):=fun f hf=>by
 obtain⟨g,rfl,hg⟩:=Ko hf;obtain⟨g',rfl,_⟩:=Ko (F:=0) (f:=g) ab;rw[VZ,h _ hg];simp only[CS,Zj,ho]
theorem up1(hF:1<=F)(h:∀f,F<=f->VZ n f r=some (e,r1))(ho:JW 1 r1=none):∀f,F+1<=f->Xp n f r=some (e,r1):=fun f hf=>by
 obtain⟨g,rfl,hg⟩:=Ko hf;obtain⟨g',rfl,_⟩:=Ko (F:=0) (f:=g) ab;rw[Xp,h _ hg];simp only[CS,Zk,ho]
theorem upX(h:∀f,F<=f->Xp n f r=some (e,r1))(hh:bg [105,102] r=false/\bg [108,101,116] r=false/\bg [109,97,116,99,104] r=false):∀f,F+1<=f->J5 n f r=some (e,r1):=fun f hf=>by
 obtain⟨g,rfl,hg⟩:=Ko hf;rw[J5,hh.1,hh.2.1,hh.2.2,h _ hg];rfl
theorem upA(hF:1<=F)(h:∀f,F<=f->Q7 n f r=some (e,r1))(ho:JW 1 r1=none/\JW 2 r1=none)(hh:bg [105,102] r=false/\bg [108,101,116] r=false/\bg [109,97,116,99,104] r=false):∀f,F+3<=f->J5 n f r=some (e,r1):=
 upX (F:=F+2) (up1 (F:=F+1) ab (up2 hF h ho.2) ho.1) hh
theorem JjG(hF:1<=F)(h:∀f,F<=f->VD n f r=some (e,r1))(ho:Cl6 r1)(hn:bg [110,111,116] r=false):∀f,F+3<=f->Q7 n f r=some (e,r1):=
 up3 (F:=F+2) (up4 (F:=F+1) (up5 hF h ho.o5) ho.o4) hn
theorem JkY(hF:1<=F)(h:∀f,F<=f->VD n f r=some (e,r1))(ho:JW 5 r1=some o)(h2:∀f,F<=f->VD n f r1.tail=some (e2,r2))(gu:JW 5 r2=none):∀f,F+3<=f->VL n f r=some (⟨9,aA o,0,[],[],[e,e2],bj n r⟩,r2):=fun f hf=>by
 obtain⟨g,rfl,hg⟩:=Ko (F:=F+2) hf;rw[VL,h _ ab];obtain⟨g',rfl,hg'⟩:=Ko (F:=F+1) hg;simp only[CS,Zi,ho];rw[h2 _ ab];obtain⟨g2,rfl,_⟩:=Ko (F:=F) hg';simp only[CS,Zi,gu]
theorem JkZ(h:∀f,F<=f->VL n f r=some (e,r1))(ho:JW 4 r1=some o)(h2:∀f,F<=f->VL n f r1.tail=some (e2,r2)):∀f,F+1<=f->Xo n f r=some (⟨9,aA o,0,[],[],[e,e2],bj n r⟩,r2):=fun f hf=>by
 obtain⟨g,rfl,hg⟩:=Ko hf;rw[Xo,h _ ab];simp only[CS,ho];rw[h2 _ ab];rfl
theorem Jk0(hF:1<=F)(h:∀f,F<=f->Q7 n f r=some (e,r1))(ho:JW 2 r1=some o)(h2:∀f,F<=f->Q7 n f r1.tail=some (e2,r2))(gu:JW 2 r2=none):∀f,F+3<=f->VZ n f r=some (⟨9,aA o,0,[],[],[e,e2],bj n r⟩,r2):=fun f hf=>by
 obtain⟨g,rfl,hg⟩:=Ko (F:=F+2) hf;rw[VZ,h _ ab];obtain⟨g',rfl,hg'⟩:=Ko (F:=F+1) hg;simp only[CS,Zj,ho];rw[h2 _ ab];obtain⟨g2,rfl,_⟩:=Ko (F:=F) hg';simp only[CS,Zj,gu]
theorem Jk1(hF:1<=F)(h:∀f,F<=f->VZ n f r=some (e,r1))(ho:JW 1 r1=some o)(h2:∀f,F<=f->VZ n f r1.tail=some (e2,r2))(gu:JW 1 r2=none):∀f,F+3<=f->Xp n f r=some (⟨9,aA o,0,[],[],[e,e2],bj n r⟩,r2):=fun f hf=>by
 obtain⟨g,rfl,hg⟩:=Ko (F:=F+2) hf;rw[Xp,h _ ab];obtain⟨g',rfl,hg'⟩:=Ko (F:=F+1) hg;simp only[CS,Zk,ho];rw[h2 _ ab];obtain⟨g2,rfl,_⟩:=Ko (F:=F) hg';simp only[CS,Zk,gu]
theorem Jic{q:Int}(h:∀f,F<=f->J5 n f R=some (e,JY q [41]::r1)):∀f,F+1<=f->Vj n f (JY p [40]::R)=some (e,r1):=fun f hf=>by
 obtain⟨g,rfl,hg⟩:=Ko hf;rw[Vj];have e1:bg [45] (JY p [40]::R)=false:=rfl;have e2:bg [116,114,117,101] (JY p [40]::R)=false:=rfl;have e3:bg [102,97,108,115,101] (JY p [40]::R)=false:=rfl;have e4:bg [40] (JY p [40]::R)=true:=rfl;rw[e1,e2,e3,e4];simp only[SS,CW,CX,H8];rw[h _ hg];simp only[CS,XD]
end
/-! ### integers -/
def bF(d:Nat):Nat:=60*d+20
def bD(d:Nat):Nat:=4*d+3
def PI(d:Nat)(its:List It):Prop:=∀(p n:Int),∃(e:Ex) (k:Nat) (a:Int),k<=d+1/\jc e<=bD d/\Wh e=false/\∀f,bF d<=f->∀rest,bg [40] rest=false->VD n (f+k) (JA p its++rest)=X0 n f a e rest
def PB(d:Nat)(its:List It):Prop:=∀(p n:Int),∃(e:Ex),jc e<=bD d+1/\Wh e=false/\∀f,bF d+45<=f->∀rest,Cl6 rest->Q7 n f (JA p its++rest)=some (e,rest)
def nw:List Bs:=[[105,102],[108,101,116],[109,97,116,99,104],[41],[110,111,116],[93],[45],[116,114,117,101],[102,97,108,115,101]]
def jJ(its:List It):Prop:=∃t r,its=.tk t::r/\∀k∈nw,(t==k)=false
def za(its:List It):Prop:=∃t r,its=.tk t::r/\(t==[105,102])=false/\(t==[108,101,116])=false/\(t==[109,97,116,99,104])=false
theorem jJ.is(h:jJ its)(p:Int)(rest:List Tk):∀k∈nw,bg k (JA p its++rest)=false:=fun k hk=>by
 obtain⟨t,r,rfl,h⟩:=h;simp only[JA,CQ,Ux];exact h k hk
theorem jJ.app(h:jJ its)(x:List It):jJ (its++x):=by
 obtain⟨t,r,rfl,h⟩:=h;exact⟨t,r++x,rfl,h⟩
theorem za.is(h:za its)(p:Int)(rest:List Tk):bg [105,102] (JA p its++rest)=false/\bg [108,101,116] (JA p its++rest)=false/\bg [109,97,116,99,104] (JA p its++rest)=false:=by
 obtain⟨t,r,rfl,h⟩:=h;simp only[JA,CQ,Ux];exact h
theorem jJ.b(h:jJ its):za its:=by
 obtain⟨t,r,rfl,h⟩:=h;exact⟨t,r,rfl,h _ (by simp[nw]),h _ (by simp[nw]),h _ (by simp[nw])⟩
theorem Vp{r:List It}(h:(nw.all fun k=> !(t==k))=true):jJ (.tk t::r):=⟨t,r,rfl,fun k hk=>by
 have:=Ir.1 h k hk;simpa using this⟩
theorem Jgg(h:t∈[[48],[49],[50],[51],[52],[53],[54],[55],[56],[57]]):jJ [.tk t]:=by
 simp only[SC,S9,CU]at h;rcases h with rfl|rfl|rfl|rfl|rfl|rfl|rfl|rfl|rfl|rfl
 all_goals exact Vp rfl
theorem EI.hd{V:List (List It)}(hV:∀v∈V,jJ v){b:Bool}(h:EI V b d a):(b=false->jJ a)/\za a:=by
 induction h with
 |up _ ih=>exact ih
 |num h=>exact⟨fun _=>Jgg h,(Jgg h).b⟩
 |var h=>exact⟨fun _=>hV _ h,(hV _ h).b⟩
 |add _ _ _ _ _=>exact⟨fun _=>Vp rfl,(Vp rfl:jJ _).b⟩
 |mul _ _ ih=>exact⟨fun _=>(ih.1 rfl).app _,((ih.1 rfl).app _).b⟩
 |mm h _ _ _ _=>
  rcases h with rfl|rfl
  .exact ⟨fun _=>Vp rfl,(Vp rfl:jJ _).b⟩
  .exact ⟨fun _=>Vp rfl,(Vp rfl:jJ _).b⟩
 |ite _ _ _ _ _ _=>exact⟨fun _=>Vp rfl,(Vp rfl:jJ _).b⟩
 |lt _ _ _ _=>exact⟨fun _=>Vp rfl,(Vp rfl:jJ _).b⟩
 |cmp _ _ _ _ _=>exact⟨fun h=>mi,(Vp rfl:jJ (.tk [40]::_)).b⟩
 |log _ _ _ _ _=>exact⟨fun h=>mi,(Vp rfl:jJ (.tk [40]::_)).b⟩
 |neg _ _=>exact⟨fun h=>mi,⟨_,_,rfl,rfl,rfl,rfl⟩⟩
theorem PI.six(h:PI d its)(p n:Int):∃e,jc e<=bD d/\Wh e=false/\∀f,bF d+d+2<=f->∀rest,JW 6 rest=none->bg [40] rest=false->VD n f (JA p its++rest)=some (e,rest):=by
 obtain⟨e,k,a,hk,hd,hl,h⟩:=h p n;refine⟨e,hd,hl,fun f hf rest ho hp=>?_⟩;obtain⟨g,rfl⟩:∃g,f=g+k:=⟨f-k,by omega⟩;rw[h g ab rest hp];obtain⟨g',rfl,_⟩:=Ko (F:=0) (f:=g) (by have:bF d=60*d+20:=rfl;omega);simp only[X0,ho]
theorem PI.five(h:PI d its)(p n:Int):∃e,jc e<=bD d/\Wh e=false/\∀f,bF d+d+3<=f->∀rest,JW 5 rest=none->JW 6 rest=none->bg [40] rest=false->VL n f (JA p its++rest)=some (e,rest):=by
 obtain⟨e,hd,hl,h⟩:=h.six p n;exact⟨e,hd,hl,fun f hf rest h5 h6 hp=>up5 (F:=bF d+d+2) ab (fun f hf=>h f hf rest h6 hp) h5 f hf⟩
theorem PI.exp(h:PI d its)(hh:jJ its)(p n:Int):∃e,jc e<=bD d/\Wh e=false/\∀f,bF d+d+8<=f->∀rest,ClA rest->J5 n f (JA p its++rest)=some (e,rest):=by
 obtain⟨e,hd,hl,h⟩:=h.six p n;exact⟨e,hd,hl,fun f hf rest hr=>upA (F:=bF d+d+5) ab (JjG (F:=bF d+d+2) ab (fun f hf=>h f hf rest hr.c6.o6 hr.c6.par) hr.c6 (hh.is p rest _ (by simp[nw]))) ⟨hr.o1,hr.o2⟩ (hh.b.is p rest) f hf⟩
theorem PB.exp(h:PB d its)(hh:za its)(p n:Int):∃e,jc e<=bD d+1/\Wh e=false/\∀f,bF d+48<=f->∀rest,ClA rest->J5 n f (JA p its++rest)=some (e,rest):=by
 obtain⟨e,hd,hl,h⟩:=h p n;exact⟨e,hd,hl,fun f hf rest hr=>upA (F:=bF d+45) ab (fun f hf=>h f hf rest hr.c6) ⟨hr.o1,hr.o2⟩ (hh.is p rest) f hf⟩
theorem PI.up(h:PI d its):PI (d+1) its:=fun p n=>by
 obtain⟨e,k,a,hk,hd,hl,h⟩:=h p n;exact⟨e,k,a,by omega,by unfold bD at*;omega,hl,fun f hf rest hr=>h f (by unfold bF at*;omega) rest hr⟩
theorem PB.up(h:PB d its):PB (d+1) its:=fun p n=>by
 obtain⟨e,hd,hl,h⟩:=h p n;exact⟨e,by unfold bD at*;omega,hl,fun f hf rest hr=>h f (by unfold bF at*;omega) rest hr⟩
theorem PI.JbX(h:∀(p n:Int),∃e,jc e<=bD d/\Wh e=false/\∀f,bF d<=f->∀rest,bg [40] rest=false->Vj n f (JA p its++rest)=some (e,rest)):PI d its:=fun p n=>by
 obtain⟨e,hd,hl,h⟩:=h p n;by_cases hz:JA p its=[]
 .exfalso
  have:=h (bF d) (SX _) [] rfl;rw[hz]at this;have hb:bF d=60*d+19+1:=rfl;rw[hb]at this;simp only[Ce,Vj,bg,Bc,Vr,SS,CW,Option.bind_none]at this;cases this
 obtain⟨t,r,hr⟩:=List.exists_cons_of_ne_nil hz;refine⟨e,1,t.at_,by omega,hd,hl,fun f hf rest P1=>?_⟩;rw[VD,h f hf rest P1];simp only[CS];rw[hr];rfl
theorem Ky(p:Int)(t:Bs)(r:List It):JA p (.tk t::r)=JY p t::JA (p+t.length) r:=rfl
theorem Qz(p:Int)(b:UInt8)(r:List It):JA p (.bl b::r)=JA (p+1) r:=rfl
theorem MO(p:Int):JA p []=[]:=rfl
theorem Zt{k:Int}{ns:List ByteArray}{bs:List (List ByteArray)}{ks:List Ex}{m:Nat}(h:∀e∈ks,jc e<=m):jc ⟨k,nm,n,ns,bs,ks,at_⟩<=m+1:=by
 simp only[jc];have:=JhB h;omega
theorem Jf9{ks:List Ex}(h:∀e∈ks,Wh e=false):Wh ⟨9,nm,n,[],[],ks,at_⟩=false:=by
 simp only[Wh,Gy h,Ut];rfl
theorem two{P:α->Prop}{a b:α}(ha:P a)(hb:P b):∀x∈[a,b],P x:=fun x hx=>by
 simp only[SC,S9,CU]at hx;rcases hx with rfl|rfl<;>assumption
theorem three{P:α->Prop}{a b c:α}(ha:P a)(hb:P b)(hc:P c):∀x∈[a,b,c],P x:=fun x hx=>by
 simp only[SC,S9,CU]at hx;rcases hx with rfl|rfl|rfl<;>assumption
theorem JkF(h:t∈[[48],[49],[50],[51],[52],[53],[54],[55],[56],[57]]):PI d [.tk t]:=by
 refine PI.JbX fun p n=>⟨⟨0,aA [],(JY p t).n,[],[],[],p⟩,Yji,rfl,fun f hf rest _=>?_⟩
 obtain⟨g,rfl,_⟩:=Ko (F:=0) (f:=f) (by unfold bF at hf;omega);simp only[SC,S9,CU]at h;rcases h with rfl|rfl|rfl|rfl|rfl|rfl|rfl|rfl|rfl|rfl
 all_goals rfl
theorem Jbp(n:Int)(a:List Tk)(x:Tk)(r:List Tk):bj n (a++(x::r))=bj n (a++[x]):=by cases a<;>rfl
theorem Jkh(hd:d<=10){b:List It}(ho:o=[43]\/o=[45])(ha:PI d a)(hb:PI d b)(p9:jJ a)(p n:Int):∃e,jc e<=bD d+1/\Wh e=false/\∀f,bF d+22<=f->∀rest,ClA rest->J5 n f (JA p (a++(.bl 32::.tk o::.bl 32::b))++rest)=some (e,rest):=by
 obtain⟨e,d1,l1,h1⟩:=ha.six p n;obtain⟨q,hq⟩:∃q:Int,q=p+(bN a).length+1:=⟨_,rfl⟩;obtain⟨e2,d2,l2,h2⟩:=hb.six (q+o.length+1) n;refine⟨⟨9,aA o,0,[],[],[e,e2],bj n (JA p a++[JY q o])⟩,Zt (two d1 d2),Jf9 (two l1 l2),fun f hf rest hc=>?_⟩;have ht:JA p (a++(.bl 32::.tk o::.bl 32::b))++rest=JA p a++(JY q o::(JA (q+o.length+1) b++rest)):=by
  rw[Qa,Qz,Ky,Qz,hq];simp only[CQ,List.append_assoc]
 rw[ht];have pt:JW 5 (JY q o::(JA (q+o.length+1) b++rest))=some o:=by rcases ho with rfl|rfl<;>rfl
 have h6o:JW 6 (JY q o::(JA (q+o.length+1) b++rest))=none:=by rcases ho with rfl|rfl<;>rfl
 have hpo:bg [40] (JY q o::(JA (q+o.length+1) b++rest))=false:=by rcases ho with rfl|rfl<;>rfl
 have b5:=JkY (n:=n) (F:=bF d+d+2) ab (fun f hf=>h1 f hf _ h6o hpo) pt (fun f hf=>h2 f hf _ hc.c6.o6 hc.c6.par) hc.c6.o5;rw[Jbp]at b5;exact upA (F:=bF d+d+7) ab (up3 (F:=bF d+d+6) (up4 b5 hc.c6.o4) (p9.is p _ _ (by simp[nw]))) ⟨hc.o1,hc.o2⟩ (p9.b.is p _) f ab
theorem Jbc(q:Int)(r:List Tk):ClA (JY q [41]::r):=BH rfl
theorem PI.par(hF:F+1<=bF d)(h:∀(p n:Int),∃e,jc e<=bD d/\Wh e=false/\∀f,F<=f->∀rest,ClA rest->J5 n f (JA p x++rest)=some (e,rest)):PI d (.tk [40]::(x++[.tk [41]])):=by
 refine PI.JbX fun p n=>?_
 obtain⟨e,d1,l1,h1⟩:=h (p+1) n;refine⟨e,d1,l1,fun f hf rest hr=>?_⟩;have ht:JA p (.tk [40]::(x++[.tk [41]]))++rest=JY p [40]::(JA (p+1) x++(JY (p+1+(bN x).length) [41]::rest)):=by
  rw[Ky,Qa,Ky,MO];simp only[CQ,List.append_assoc,CO];rfl
 rw[ht];exact Jic (F:=F) (fun f hf=>h1 f hf _ (Jbc _ _)) f ab
theorem JkM(hd:d<=10){b:List It}(ho:o=[43]\/o=[45])(ha:PI d a)(hb:PI d b)(p9:jJ a):PI (d+1) (.tk [40]::(a++(.bl 32::.tk o::.bl 32::(b++[.tk [41]])))):=by
 have:=PI.par (d:=d+1) (F:=bF d+22) (x:=a++(.bl 32::.tk o::.bl 32::b)) AN (fun p n=>by
  obtain⟨e,h1,h2,h3⟩:=Jkh hd ho ha hb p9 p n;exact⟨e,by unfold bD at*;omega,h2,h3⟩)
 simpa using this
theorem JkH(ht:t∈[[48],[49],[50],[51],[52],[53],[54],[55],[56],[57]])(ha:PI d a):PI (d+1) (a++[.bl 32,.tk [42],.bl 32,.tk t]):=fun p n=>by
 obtain⟨e,k,x,hk,d1,l1,h1⟩:=ha p n;obtain⟨q,hq⟩:∃q:Int,q=p+(bN a).length+1:=⟨_,rfl⟩;refine⟨⟨9,aA [42],0,[],[],[e,⟨0,aA [],(JY (q+2) t).n,[],[],[],q+2⟩],x⟩,k+1,x,by omega,?_,Jf9 (two l1 rfl),fun f hf rest hr=>?_⟩
 .refine CG (Zt (m:=bD d) (two d1 Yji)) AS
 have he:JA p (a++[.bl 32,.tk [42],.bl 32,.tk t])++rest=JA p a++(JY q [42]::JY (q+2) t::rest):=by
  rw[Qa,Qz,Ky,Qz,Ky,MO,hq];simp only[CQ,List.append_assoc,CO];rw[show p+(bN a).length+1+(([42]:Bs).length:Int)+1=p+(bN a).length+1+2 by simp;omega]
 rw[he,show f+(k+1)=(f+1)+k by omega,h1 (f+1) (by unfold bF at*;omega) _ rfl];obtain⟨g,rfl,_⟩:=Ko (F:=0) (f:=f) (by unfold bF at hf;omega);have lh:JW 6 (JY q [42]::JY (q+2) t::rest)=some [42]:=rfl;rw[X0,lh];simp only[H8];have hn:Vj n (g+1) (JY (q+2) t::rest)=some (⟨0,aA [],(JY (q+2) t).n,[],[],[],q+2⟩,rest):=by
  simp only[SC,S9,CU]at ht;rcases ht with rfl|rfl|rfl|rfl|rfl|rfl|rfl|rfl|rfl|rfl
  all_goals rfl
 rw[hn];rfl
theorem pMm(hd:d<=10){m:Bs}{b:List It}(hm:m=[109,97,120]\/m=[109,105,110])(ha:PI d a)(hb:PI d b)(p9:jJ a)(hhb:jJ b):PI (d+1) (.tk m::.tk [40]::(a++(.tk [44]::.bl 32::(b++[.tk [41]])))):=by
 refine PI.JbX fun p n=>?_
 obtain⟨e,d1,l1,h1⟩:=ha.exp p9 (p+m.length+1) n;obtain⟨q,hq⟩:∃q:Int,q=p+m.length+1+(bN a).length:=⟨_,rfl⟩;obtain⟨e2,d2,l2,h2⟩:=hb.exp hhb (q+2) n;refine⟨⟨3,aA m,0,[],[],[e,e2],p⟩,CG (Zt (two d1 d2)) AS,?_,fun f hf rest hr=>?_⟩
 .simp only[Wh,Gy (two l1 l2),Ut];rfl
 have ht:JA p (.tk m::.tk [40]::(a++(.tk [44]::.bl 32::(b++[.tk [41]]))))++rest=JY p m::JY (p+m.length) [40]::(JA (p+m.length+1) a++(JY q [44]::(JA (q+2) b++(JY (q+2+(bN b).length) [41]::rest)))):=by
  rw[Ky,Ky,Qa,Ky,Qz,Qa,Ky,MO,hq];simp only[CQ,List.append_assoc,CO];rw[show p+m.length+(([40]:Bs).length:Int)=p+m.length+1 by simp,show p+m.length+1+(bN a).length+(([44]:Bs).length:Int)+1=p+m.length+1+(bN a).length+2 by simp;omega]
 rw[ht];obtain⟨R,hR⟩:=aP (JY (q+2+(bN b).length) [41]::rest);have id9:ClA R:=by rw[hR];exact Jbc _ _
 have iea:ClA (JY q [44]::(JA (q+2) b++R)):=BH rfl;have hnp:bg [41] (JA (p+m.length+1) a++(JY q [44]::(JA (q+2) b++R)))=false:=p9.is _ _ _ (by simp[nw]);rw[<-hR];obtain⟨g,rfl⟩:∃g,f=g+5:=⟨f-5,by unfold bF at hf;omega⟩;have hg:bF d+d+8<=g:=by unfold bF at*;omega
 have hE:Q8 n (g+4) [41] (JA (p+m.length+1) a++(JY q [44]::(JA (q+2) b++R)))=some ([e,e2],rest):=by
  rw[Q8,hnp];simp only[SS,CW];rw[Zm,h1 _ ab _ iea];have hc:bg [44] (JY q [44]::(JA (q+2) b++R))=true:=rfl;simp only[CS,hc,CX,H8];rw[Zm,h2 _ ab _ id9];have fO:bg [44] R=false:=by rw[hR];rfl
  simp only[CS,fO,SS,CW];rw[hR,XD];rfl
 have hpo:Vj n (g+4+1) (JY p m::JY (p+m.length) [40]::(JA (p+m.length+1) a++(JY q [44]::(JA (q+2) b++R))))=(Q8 n (g+4) [41] (JA (p+m.length+1) a++(JY q [44]::(JA (q+2) b++R)))).bind fun x=>some (⟨3,aA m,0,[],[],x.1,p⟩,x.2):=by
  rcases hm with rfl|rfl<;>rfl
 rw[hpo,hE];rfl
theorem JkJ(hd:d<=10){c b:List It}(hc:PB d c)(ha:PI d a)(hb:PI d b)(hhc:za c)(p9:jJ a)(hhb:jJ b):PI (d+1) (.tk [40]::.tk [105,102]::.bl 32::(c++(.bl 32::.tk [116,104,101,110]::.bl 32::(a++(.bl 32::.tk [101,108,115,101]::.bl 32::(b++[.tk [41]])))))):=by
 have:=PI.par (d:=d+1) (F:=bF d+49) (x:=.tk [105,102]::.bl 32::(c++(.bl 32::.tk [116,104,101,110]::.bl 32::(a++(.bl 32::.tk [101,108,115,101]::.bl 32::b))))) AN (fun p n=>by
  obtain⟨e1,d1,l1,h1⟩:=hc.exp hhc (p+3) n;obtain⟨q,hq⟩:∃q:Int,q=p+3+(bN c).length+1:=⟨_,rfl⟩;obtain⟨e2,d2,l2,h2⟩:=ha.exp p9 (q+5) n;obtain⟨s,hs⟩:∃s:Int,s=q+5+(bN a).length+1:=⟨_,rfl⟩;obtain⟨e3,d3,l3,h3⟩:=hb.exp hhb (s+5) n;refine⟨⟨6,aA [],0,[],[],[e1,e2,e3],p⟩,CG (Zt (m:=bD d+1) (three d1 ab ab)) AS,by simp only[Wh,Gy (three l1 l2 l3),Ut];rfl,fun f hf rest hr=>?_⟩;have ht:JA p (.tk [105,102]::.bl 32::(c++(.bl 32::.tk [116,104,101,110]::.bl 32::(a++(.bl 32::.tk [101,108,115,101]::.bl 32::b)))))++rest=JY p [105,102]::(JA (p+3) c++(JY q [116,104,101,110]::(JA (q+5) a++(JY s [101,108,115,101]::(JA (s+5) b++rest))))):=by
   rw[Ky,Qz,Qa,Qz,Ky,Qz,Qa,Qz,Ky,Qz,hs,hq];simp only[CQ,List.append_assoc,SI,SY];rw[show p+((0+1+1:Nat):Int)+1=p+3 by omega,show p+3+((bN c).length:Int)+1+((0+1+1+1+1:Nat):Int)+1=p+3+(bN c).length+1+5 by omega];rw[show p+3+((bN c).length:Int)+1+5+((bN a).length:Int)+1+((0+1+1+1+1:Nat):Int)+1=p+3+(bN c).length+1+5+(bN a).length+1+5 by omega]
  rw[ht];obtain⟨g,rfl,hg⟩:=Ko (F:=bF d+48) hf;have π:ClA (JY q [116,104,101,110]::(JA (q+5) a++(JY s [101,108,115,101]::(JA (s+5) b++rest)))):=BH rfl;have hcE:ClA (JY s [101,108,115,101]::(JA (s+5) b++rest)):=BH rfl;have hif:bg [105,102] (JY p [105,102]::(JA (p+3) c++(JY q [116,104,101,110]::(JA (q+5) a++(JY s [101,108,115,101]::(JA (s+5) b++rest))))))=true:=rfl;rw[J5,hif];simp only[CX,H8];rw[h1 _ ab _ π];simp only[CS,XD];rw[h2 _ ab _ hcE];simp only[CS,XD];rw[h3 _ ab _ hr];rfl)
 simpa using this
theorem pLt(hd:d<=10){b:List It}(ha:PI d a)(hb:PI d b)(p9:jJ a):PI (d+1) (.tk [40]::.tk [108,101,116]::.bl 32::.tk [119]::.bl 32::.tk [61]::.bl 32::(a++(.bl 32::.tk [105,110]::.bl 32::.tk [119]::.bl 32::.tk [43]::.bl 32::(b++[.tk [41]])))):=by
 have hw:PI d [.tk [119]]:=by
  refine PI.JbX fun p n=>⟨⟨2,aA [119],0,[],[],[],p⟩,Yji,rfl,fun f hf rest hr=>?_⟩
  obtain⟨g,rfl,_⟩:=Ko (F:=0) (f:=f) (by unfold bF at hf;omega);have:Vj n (g+1) (JA p [.tk [119]]++rest)=(if bg [40] rest then(Q8 n g [41] rest.tail).bind fun x=>some (⟨3,aA [119],0,[],[],x.1,p⟩,x.2) else some (⟨2,aA [119],0,[],[],[],p⟩,rest)):=rfl;rw[this,hr];rfl
 have:=PI.par (d:=d+1) (F:=bF d+30) (x:=.tk [108,101,116]::.bl 32::.tk [119]::.bl 32::.tk [61]::.bl 32::(a++(.bl 32::.tk [105,110]::.bl 32::([.tk [119]]++(.bl 32::.tk [43]::.bl 32::b))))) AN (fun p n=>by
  obtain⟨e1,d1,l1,h1⟩:=ha.exp p9 (p+8) n;obtain⟨q,hq⟩:∃q:Int,q=p+8+(bN a).length+1:=⟨_,rfl⟩;obtain⟨e2,d2,l2,h2⟩:=Jkh hd (o:=[43]) (.inl rfl) hw hb (Vp rfl) (q+3) n;refine⟨⟨7,aA [119],0,[],[],[e1,e2],p⟩,CG (Zt (m:=bD d+1) (two ab d2)) AS,by simp only[Wh,Gy (two l1 l2),Ut];rfl,fun f hf rest hr=>?_⟩;have ht:JA p (.tk [108,101,116]::.bl 32::.tk [119]::.bl 32::.tk [61]::.bl 32::(a++(.bl 32::.tk [105,110]::.bl 32::([.tk [119]]++(.bl 32::.tk [43]::.bl 32::b)))))++rest=JY p [108,101,116]::JY (p+4) [119]::JY (p+6) [61]::(JA (p+8) a++(JY q [105,110]::(JA (q+3) ([.tk [119]]++(.bl 32::.tk [43]::.bl 32::b))++rest))):=by
   rw[Ky,Qz,Ky,Qz,Ky,Qz,Qa,Qz,Ky,Qz,hq];simp only[CQ,List.append_assoc,SI,SY];rw[show p+((0+1+1+1:Nat):Int)+1=p+4 by omega,show p+4+((0+1:Nat):Int)+1=p+6 by omega,show p+6+((0+1:Nat):Int)+1=p+8 by omega];rw[show p+8+((bN a).length:Int)+1+((0+1+1:Nat):Int)+1=p+8+(bN a).length+1+3 by omega]
  rw[ht];obtain⟨g,rfl,hg⟩:=Ko (F:=bF d+29) hf;have hcI:ClA (JY q [105,110]::(JA (q+3) ([.tk [119]]++(.bl 32::.tk [43]::.bl 32::b))++rest)):=BH rfl;have kQ:J5 n (g+1) (JY p [108,101,116]::JY (p+4) [119]::JY (p+6) [61]::(JA (p+8) a++(JY q [105,110]::(JA (q+3) ([.tk [119]]++(.bl 32::.tk [43]::.bl 32::b))++rest))))=(J5 n g (JA (p+8) a++(JY q [105,110]::(JA (q+3) ([.tk [119]]++(.bl 32::.tk [43]::.bl 32::b))++rest)))).bind fun x=>(JB [105,110] x.2).bind fun r4=>(J5 n g r4).bind fun y=>some (⟨7,aA [119],0,[],[],[x.1,y.1],p⟩,y.2):=rfl
  rw[kQ,h1 _ ab _ hcI];simp only[CS,XD];rw[h2 _ ab _ hr];rfl)
 simpa using this
/-! ### ibA -/
theorem PB.par(hF:F+6<=bF d+45)(h:∀(p n:Int),∃e,jc e<=bD d+1/\Wh e=false/\∀f,F<=f->∀rest,ClA rest->J5 n f (JA p x++rest)=some (e,rest)):PB d (.tk [40]::(x++[.tk [41]])):=fun p n=>by
 obtain⟨e,d1,l1,h1⟩:=h (p+1) n;refine⟨e,d1,l1,fun f hf rest hr=>?_⟩;have ht:JA p (.tk [40]::(x++[.tk [41]]))++rest=JY p [40]::(JA (p+1) x++(JY (p+1+(bN x).length) [41]::rest)):=by
  rw[Ky,Qa,Ky,MO];simp only[CQ,List.append_assoc,CO];rfl
 rw[ht];have ho:=Jic (p:=p) (F:=F) (fun f hf=>h1 f hf _ (Jbc (p+1+(bN x).length) rest));have h6:∀f,F+2<=f->VD n f (JY p [40]::(JA (p+1) x++(JY (p+1+(bN x).length) [41]::rest)))=some (e,rest):=fun f hf=>by
  obtain⟨g,rfl,hg⟩:=Ko (F:=F+1) hf;rw[VD,ho g hg];obtain⟨g',rfl,_⟩:=Ko (F:=F) hg;simp only[CS,X0,hr.o6]
 exact JjG (F:=F+2) ab h6 hr rfl f ab
theorem JkL(hd:d<=10){b:List It}(ho:o=[60]\/o=[60,61]\/o=[61,61]\/o=[33,61])(ha:PI d a)(hb:PI d b)(p9:jJ a):PB d (.tk [40]::(a++(.bl 32::.tk o::.bl 32::(b++[.tk [41]])))):=by
 have:=PB.par (d:=d) (F:=bF d+22) (x:=a++(.bl 32::.tk o::.bl 32::b)) ab (fun p n=>by
  obtain⟨e,d1,l1,h1⟩:=ha.five p n;obtain⟨q,hq⟩:∃q:Int,q=p+(bN a).length+1:=⟨_,rfl⟩;obtain⟨e2,d2,l2,h2⟩:=hb.five (q+o.length+1) n;refine⟨⟨9,aA o,0,[],[],[e,e2],bj n (JA p a++[JY q o])⟩,Zt (two d1 d2),Jf9 (two l1 l2),fun f hf rest hc=>?_⟩;have ht:JA p (a++(.bl 32::.tk o::.bl 32::b))++rest=JA p a++(JY q o::(JA (q+o.length+1) b++rest)):=by
   rw[Qa,Qz,Ky,Qz,hq];simp only[CQ,List.append_assoc]
  rw[ht];have pt:JW 4 (JY q o::(JA (q+o.length+1) b++rest))=some o:=by rcases ho with rfl|rfl|rfl|rfl<;>rfl
  have h5o:JW 5 (JY q o::(JA (q+o.length+1) b++rest))=none:=by rcases ho with rfl|rfl|rfl|rfl<;>rfl
  have h6o:JW 6 (JY q o::(JA (q+o.length+1) b++rest))=none:=by rcases ho with rfl|rfl|rfl|rfl<;>rfl
  have hpo:bg [40] (JY q o::(JA (q+o.length+1) b++rest))=false:=by rcases ho with rfl|rfl|rfl|rfl<;>rfl
  have b4:=JkZ (n:=n) (F:=bF d+d+3) (fun f hf=>h1 f hf _ h5o h6o hpo) pt (fun f hf=>h2 f hf _ hc.c6.o5 hc.c6.o6 hc.c6.par);rw[Jbp]at b4;exact upA (F:=bF d+d+5) ab (up3 (F:=bF d+d+4) b4 (p9.is p _ _ (by simp[nw]))) ⟨hc.o1,hc.o2⟩ (p9.b.is p _) f ab)
 simpa using this
theorem JkI{b:List It}(ho:o=[97,110,100]\/o=[111,114])(ha:PB d a)(hb:PB d b)(p9:za a):PB (d+1) (.tk [40]::(a++(.bl 32::.tk o::.bl 32::(b++[.tk [41]])))):=by
 have:=PB.par (d:=d+1) (F:=bF d+51) (x:=a++(.bl 32::.tk o::.bl 32::b)) AN (fun p n=>by
  obtain⟨e,d1,l1,h1⟩:=ha p n;obtain⟨q,hq⟩:∃q:Int,q=p+(bN a).length+1:=⟨_,rfl⟩;obtain⟨e2,d2,l2,h2⟩:=hb (q+o.length+1) n;refine⟨⟨9,aA o,0,[],[],[e,e2],bj n (JA p a++[JY q o])⟩,CG (Zt (two d1 d2)) AS,Jf9 (two l1 l2),fun f hf rest hc=>?_⟩;have ht:JA p (a++(.bl 32::.tk o::.bl 32::b))++rest=JA p a++(JY q o::(JA (q+o.length+1) b++rest)):=by
   rw[Qa,Qz,Ky,Qz,hq];simp only[CQ,List.append_assoc]
  rw[ht];have hc6:Cl6 (JY q o::(JA (q+o.length+1) b++rest)):=by rcases ho with rfl|rfl<;>exact Jgy rfl rfl rfl rfl
  rcases ho with rfl|rfl
  .have b2:=Jk0 (n:=n) (F:=bF d+45) ab (fun f hf=>h1 f hf _ hc6) (show JW 2 (JY q [97,110,100]::_)=some [97,110,100] from rfl) (fun f hf=>h2 f hf _ hc.c6) hc.o2;rw[Jbp]at b2;exact upX (F:=bF d+49) (up1 (F:=bF d+48) ab b2 hc.o1) (p9.is p _) f ab
  .have a2:=up2 (n:=n) (F:=bF d+45) ab (fun f hf=>h1 f hf _ hc6) (show JW 2 (JY q [111,114]::_)=none from rfl);have b2:=up2 (n:=n) (F:=bF d+45) ab (fun f hf=>h2 f hf _ hc.c6) hc.o2;have b1:=Jk1 (n:=n) (F:=bF d+46) ab a2 (show JW 1 (JY q [111,114]::_)=some [111,114] from rfl) b2 hc.o1;rw[Jbp]at b1;exact upX (F:=bF d+49) b1 (p9.is p _) f ab)
 simpa using this
theorem JkG(ha:PB d a):PB (d+1) (.tk [110,111,116]::.bl 32::a):=fun p n=>by
 obtain⟨e,d1,l1,h1⟩:=ha (p+4) n;refine⟨⟨9,aA [110,111,116],0,[],[],[e],p⟩,CG (Zt (m:=bD d+1) (by simpa using d1)) AS,Jf9 (by simpa using l1),fun f hf rest hc=>?_⟩;have ht:JA p (.tk [110,111,116]::.bl 32::a)++rest=JY p [110,111,116]::(JA (p+4) a++rest):=by
  rw[Ky,Qz];simp only[CQ,SI,SY];rw[show p+((0+1+1+1:Nat):Int)+1=p+4 by omega]
 rw[ht];obtain⟨g,rfl,hg⟩:=Ko (F:=bF d+45) (f:=f) (by unfold bF at*;omega);have:Q7 n (g+1) (JY p [110,111,116]::(JA (p+4) a++rest))=(Q7 n g (JA (p+4) a++rest)).bind fun x=>some (⟨9,aA [110,111,116],0,[],[],[x.1],p⟩,x.2):=rfl
 rw[this,h1 _ hg _ hc];rfl
theorem EI.read{V:List (List It)}(hV:∀v∈V,jJ v/\PI 0 v){b:Bool}(h:EI V b d a)(hd:d<=10):(b=false->PI d a)/\(b=true->PB d a):=by
 have wM:∀v∈V,jJ v:=fun v hv=>(hV v hv).1
 have up0:∀(d:Nat) (v:List It),PI 0 v->PI d v:=fun d v h=>by
  induction d with
  |zero=>exact h
  |succ d ih=>exact ih.up
 induction h with
 |up _ ih=>exact⟨fun h=>((ih ab).1 h).up,fun h=>((ih ab).2 h).up⟩
 |num h=>exact⟨fun _=>JkF h,fun h=>by cases h⟩
 |var h=>exact⟨fun _=>up0 _ _ (hV _ h).2,fun h=>by cases h⟩
 |add ho ha hb jr lx=>exact⟨fun _=>JkM ab ho ((jr ab).1 rfl) ((lx ab).1 rfl) ((ha.hd wM).1 rfl),fun h=>by cases h⟩
 |mul ht ha jr=>exact⟨fun _=>JkH ht ((jr ab).1 rfl),fun h=>by cases h⟩
 |mm hm ha hb jr lx=>exact⟨fun _=>pMm ab hm ((jr ab).1 rfl) ((lx ab).1 rfl) ((ha.hd wM).1 rfl) ((hb.hd wM).1 rfl),fun h=>by cases h⟩
 |ite hc ha hb ihc jr lx=>exact⟨fun _=>JkJ ab ((ihc ab).2 rfl) ((jr ab).1 rfl) ((lx ab).1 rfl) (hc.hd wM).2 ((ha.hd wM).1 rfl) ((hb.hd wM).1 rfl),fun h=>by cases h⟩
 |lt ha hb jr lx=>exact⟨fun _=>pLt ab ((jr ab).1 rfl) ((lx ab).1 rfl) ((ha.hd wM).1 rfl),fun h=>by cases h⟩
 |cmp ho ha hb jr lx=>exact⟨fun h=>mi,fun _=>JkL ab ho ((jr ab).1 rfl) ((lx ab).1 rfl) ((ha.hd wM).1 rfl)⟩
 |log ho ha hb jr lx=>exact⟨fun h=>mi,fun _=>JkI ho ((jr ab).2 rfl) ((lx ab).2 rfl) (ha.hd wM).2⟩
 |neg ha jr=>exact⟨fun h=>mi,fun _=>JkG ((jr ab).2 rfl)⟩
end
section
variable{t:Bs}{e:Ex}{a:List It}{d:Nat}
def Nz(c:UInt8):Prop:=Kq c=0\/Kq c=6
theorem JfW{c:UInt8}(h:t∈[[48],[49],[50],[51],[52],[53],[54],[55],[56],[57]])(hc:Nz c):p8 t (some c)=true:=by
 have h3:(Kq c==3)=false:=by rcases hc with h|h<;>rw[h]<;>rfl
 have:∀b:UInt8,Kq b=3->p7 [b]=false->p8 [b] (some c)=true:=fun b hb h=>by
  unfold p8;simp only[hb,h,CQ,CO,Q9,Qq,p3,h3];rfl
 simp only[SC,S9,CU]at h;rcases h with rfl|rfl|rfl|rfl|rfl|rfl|rfl|rfl|rfl|rfl
 all_goals exact this _ rfl rfl
theorem Ub(nx:Option UInt8):p8 [40] nx=true:=by cases nx<;>rfl
theorem Gv(nx:Option UInt8):p8 [41] nx=true:=by cases nx<;>rfl
theorem Jhl{b:UInt8}{c:UInt8}(h1:Kq b=1)(h2:Qq p1 t=t.length)(h3:t.length<16)(hc:Nz c):p8 (b::t) (some c)=true:=by
 have hcp:p1 (Kq c)=false:=by rcases hc with h|h<;>rw[h]<;>rfl
 have hs:Qq p1 (t++[c])=t.length:=by
  clear h3
  induction t with
  |nil=>simp only[CO,Qq,hcp];rfl
  |cons x t ih=>
   simp only[CQ,Qq,SI]at h2 ⊢
   split at h2
   .rename_i hx;rw[Cb hx,ih ab];omega
   .omega
 unfold p8;have hb:p7 (b::t)=false:=by
  unfold p7;simp only[h1,SI];rw[SG (show¬16<t.length+1 by omega)];rfl
 simp only[h1,hb,CQ,Q9,hs,SI,CX];simp;omega
theorem Ny:Nz 32:=.inl rfl
theorem EI.ok{V:List (List It)}(hV:∀v∈V,∀c,Nz c->iu (some c) v=true){b:Bool}(h:EI V b d a):∀c,Nz c->iu (some c) a=true:=by
 induction h with
 |up _ ih=>exact ih
 |num h=>intro c hc;simp only[iu,Wx,FY];exact JfW h hc
 |var h=>exact hV _ h
 |add ho _ _ jr lx=>
  intro c hc;simp only[iu,Vw,Wx,CV];refine Yfv ?_;rcases ho with rfl|rfl<;>rfl
 |mul ht _ jr=>
  intro c hc;simp only[iu,Vw,Wx,CV];exact⟨jr 32 Ny,rfl,rfl,rfl,JfW ht hc,trivial⟩
 |mm hm _ _ jr lx=>
  intro c hc;simp only[iu,Vw,Wx,CV];refine⟨?_,Ub _,jr 44 (.inr rfl),rfl,rfl,lx 41 (.inr rfl),Gv _,trivial⟩;rcases hm with rfl|rfl<;>rfl
 |ite _ _ _ ihc jr lx=>
  intro c hc;simp only[iu,Vw,Wx,CV];exact⟨Ub _,rfl,rfl,ihc 32 Ny,rfl,rfl,rfl,jr 32 Ny,rfl,rfl,rfl,lx 41 (.inr rfl),Gv _,trivial⟩
 |lt _ _ jr lx=>
  intro c hc;simp only[iu,Vw,Wx,CV];exact⟨Ub _,rfl,rfl,rfl,rfl,rfl,rfl,jr 32 Ny,rfl,rfl,rfl,rfl,rfl,rfl,rfl,lx 41 (.inr rfl),Gv _,trivial⟩
 |cmp ho _ _ jr lx=>
  intro c hc;simp only[iu,Vw,Wx,CV];refine Yfv ?_;rcases ho with rfl|rfl|rfl|rfl<;>rfl
 |log ho _ _ jr lx=>
  intro c hc;simp only[iu,Vw,Wx,CV];refine Yfv ?_;rcases ho with rfl|rfl<;>rfl
 |neg _ jr=>
  intro c hc;simp only[iu,Wx,CV];exact⟨rfl,rfl,jr c hc⟩
def ul(b:Bool)(d:Nat):Nat:=if b then 38*6^d else 16*6^d
theorem EI.len{V:List (List It)}(hV:∀v∈V,(bN v).length<=16){b:Bool}(h:EI V b d a):(bN a).length<=ul b d:=by
 have h1:∀d:Nat,1<=6^d:=fun d=>Nat.one_le_pow _ _ ab
 have h6:∀d:Nat,6^(d+1)=6*6^d:=fun d=>by rw[Oa];omega
 induction h with
 | @up b d _ _ ih=>unfold ul at*;rw[h6];have:=h1 d;split at ih<;>simp_all<;>omega
 | @num d t h=>
  have ht:t.length=1:=by
   simp only[SC,S9,CU]at h;rcases h with rfl|rfl|rfl|rfl|rfl|rfl|rfl|rfl|rfl|rfl
   all_goals rfl
  have:=h1 d;simp[bN,ul,ht];omega
 | @var d v h=>have:=h1 d;have:=hV _ h;simp[ul];omega
 | @add d o _ _ ho _ _ jr lx=>
  have hl:o.length=1:=by rcases ho with rfl|rfl<;>rfl
  have:=h1 d;simp[bN,Ql,ul,hl,h6]at*;omega
 | @mul d t _ h _ jr=>
  have ht:t.length=1:=by
   simp only[SC,S9,CU]at h;rcases h with rfl|rfl|rfl|rfl|rfl|rfl|rfl|rfl|rfl|rfl
   all_goals rfl
  have:=h1 d;simp[bN,Ql,ul,ht,h6]at*;omega
 | @mm d m _ _ hm _ _ jr lx=>
  have hl:m.length=3:=by rcases hm with rfl|rfl<;>rfl
  have:=h1 d;simp[bN,Ql,ul,hl,h6]at*;omega
 | @ite d _ _ _ _ _ _ ihc jr lx=>have:=h1 d;simp[bN,Ql,ul,h6]at*;omega
 | @lt d _ _ _ _ jr lx=>have:=h1 d;simp[bN,Ql,ul,h6]at*;omega
 | @cmp d o _ _ ho _ _ jr lx=>
  have hl:o.length<=2:=by rcases ho with rfl|rfl|rfl|rfl<;>simp
  have:=h1 d;simp[bN,Ql,ul]at*;omega
 | @log d o _ _ ho _ _ jr lx=>
  have hl:o.length<=3:=by rcases ho with rfl|rfl<;>simp
  have:=h1 d;simp[bN,Ql,ul,h6]at*;omega
 | @neg d _ _ jr=>have:=h1 d;simp[bN,ul,h6]at*;omega
/-! ### tE AV -/
def vX:List It:=[.tk [120]]
def vY:List It:=[.tk [121]]
def vS:List It:=[.tk [115,99,111,114,101],.tk [40],.tk [99],.tk [41]]
theorem Jdn(ht:t=[120]\/t=[121]):jJ [.tk t]/\PI 0 [.tk t]:=by
 refine⟨by rcases ht with rfl|rfl<;>exact Vp rfl,?_⟩;refine PI.JbX fun p n=>⟨⟨2,aA t,0,[],[],[],p⟩,Yji,rfl,fun f hf rest hr=>?_⟩
 obtain⟨g,rfl,_⟩:=Ko (F:=0) (f:=f) (by unfold bF at hf;omega);have:Vj n (g+1) (JA p [.tk t]++rest)=(if bg [40] rest then(Q8 n g [41] rest.tail).bind fun x=>some (⟨3,aA t,0,[],[],x.1,p⟩,x.2) else some (⟨2,aA t,0,[],[],[],p⟩,rest)):=by
  rcases ht with rfl|rfl<;>rfl
 rw[this,hr];rfl
theorem JjF:jJ vS/\PI 0 vS:=by
 refine⟨Vp rfl,?_⟩;refine PI.JbX fun p n=>⟨⟨3,aA [115,99,111,114,101],0,[],[],[⟨2,aA [99],0,[],[],[],p+5+1⟩],p⟩,Yji,rfl,fun f hf rest hr=>?_⟩
 obtain⟨g,rfl⟩:∃g,f=g+15:=⟨f-15,by unfold bF at hf;omega⟩;clear hr hf
 kernel_rfl
theorem Jhk(ht:t=[120]\/t=[121])(c:UInt8)(hc:Nz c):iu (some c) [.tk t]=true:=by
 simp only[iu,Wx,FY];rcases ht with rfl|rfl<;>exact Jhl rfl rfl ap hc
theorem JkN(c:UInt8)(hc:Nz c):iu (some c) vS=true:=by
 simp only[vS,iu,Wx,CV];exact⟨rfl,Ub _,rfl,Gv _,trivial⟩
theorem Jbu:(∀v∈[vX,vY],jJ v/\PI 0 v)/\(∀v∈[vX,vY],∀c,Nz c->iu (some c) v=true)/\∀v∈[vX,vY],(bN v).length<=16:=by
 refine⟨two (Jdn (.inl rfl)) (Jdn (.inr rfl)),two (Jhk (.inl rfl)) (Jhk (.inr rfl)),two (by simp[vX,bN]) (by simp[vY,bN])⟩
theorem p':(∀v∈[vX],jJ v/\PI 0 v)/\(∀v∈[vX],∀c,Nz c->iu (some c) v=true)/\∀v∈[vX],(bN v).length<=16:=by
 refine⟨fun v hv=>?_,fun v hv=>?_,fun v hv=>?_⟩
 all_goals rw[Sv.1 hv]
 .exact Jdn (.inl rfl)
 .exact Jhk (.inl rfl)
 .simp [vX,bN]
theorem Jbt:(∀v∈[vX,vS],jJ v/\PI 0 v)/\(∀v∈[vX,vS],∀c,Nz c->iu (some c) v=true)/\∀v∈[vX,vS],(bN v).length<=16:=by
 refine⟨two (Jdn (.inl rfl)) JjF,two (Jhk (.inl rfl)) JkN,two (by simp[vX,bN]) (by simp[vS,bN])⟩
/-! ### tE oU rM hold an YQ -/
theorem Jb2{m:Nat}(h:jc e<=m)(hm:m<=32)(hl:Wh e=false):Qi e=false:=by
 unfold Qi j9;rw[hl,Ii];cases hb:Nat.blt 32 (jc e)
 .rfl
 .have:=Dy hb;omega
theorem Jds{k:Nat}{nm:Bs}{pre:List It}(hk:(nm==Xe)=false)(h0:∀nx,iu nx pre=true)(hd:∀(p n:Int),∃(at_:Int) (ps:List Pm) (ty:Ty),Us ps=false/\UY ty=false/\∀X,XI n 200 (JA p pre++X)=(J5 n 200 X).bind fun x=>(JB [59] x.2).bind fun r7=>some ({tI with kind:=1,name:=aA nm,at_:=at_,params:=ps,type:=ty,body:=x.1},r7))
 (ha:∀c,Nz c->iu (some c) a=true) (hr:∀(p n:Int),∃e,jc e<=20/\Wh e=false/\∀rest,ClA rest->J5 n 200 (JA p a++rest)=some (e,rest)):WC 1 (pre++(a++[.tk [59],.bl 10])):=by
 refine⟨fun nx=>?_,fun p n rest=>?_⟩
 .rw [Vw,Vw,h0,EM];have:iu nx [.tk [59],.bl 10]=true:=rfl;rw[this,FY];exact ha 59 (.inr rfl)
 obtain⟨at_,ps,ty,h1,h2,h3⟩:=hd p n;obtain⟨e,h4,h5,h6⟩:=hr (p+(bN pre).length) n;refine⟨{tI with kind:=1,name:=aA nm,at_:=at_,params:=ps,type:=ty,body:=e},rfl,?_,hk,?_⟩
 .show (Us ps||(UY ty||Qi e))=false;rw[h1,h2,Jb2 h4 ab h5];rfl
 .rw [Qa,Qa,List.append_assoc,List.append_assoc,h3];have hc:∀q,JA q [.tk [59],.bl 10]++rest=JY q [59]::rest:=fun q=>rfl
  rw[hc,h6 _ (BH rfl)];simp only[CS,XD]
theorem PI.JiP(h:PI 2 a)(hh:jJ a)(p n:Int):∃e,jc e<=20/\Wh e=false/\∀rest,ClA rest->J5 n 200 (JA p a++rest)=some (e,rest):=by
 exact Ycs
theorem PB.JiP(h:PB 2 a)(hh:za a)(p n:Int):∃e,jc e<=20/\Wh e=false/\∀rest,ClA rest->J5 n 200 (JA p a++rest)=some (e,rest):=by
 exact Ycs
theorem PB.JkE(h:PB 2 a)(hh:za a)(p n:Int):∃e,jc e<=20/\Wh e=false/\∀rest,ClA rest->J5 n 199 (JA p a++rest)=some (e,rest):=by
 obtain⟨e,h1,h2,h3⟩:=h.exp hh p n;exact⟨e,by unfold bD at h1;omega,h2,fun rest hr=>h3 199 AN rest hr⟩
theorem s_f(h:EI [vX,vY] false 2 a):WC 1 (JhY++(a++Jjv)):=by
 refine Jds (k:=1) (nm:=[102]) rfl Ykp (fun p n=>⟨p+3+1,((WR 200 (JA p JhY).tail.tail).getD ([],[])).1,⟨0,aA [],[]⟩,by kernel_rfl,by kernel_rfl,fun X=>by kernel_rfl⟩) (h.ok Jbu.2.1) (((h.read Jbu.1 ab).1 rfl).JiP ((h.hd (fun v hv=>(Jbu.1 v hv).1)).1 rfl))
theorem JkA(h:EI [vX] true 2 a):WC 1 (Jeb++(a++JgD)):=by
 refine Jds (k:=1) (nm:=[111,107]) rfl Ykp (fun p n=>⟨p+3+1,((WR 200 (JA p Jeb).tail.tail).getD ([],[])).1,⟨1,aA [],[]⟩,by kernel_rfl,by kernel_rfl,fun X=>by kernel_rfl⟩) (h.ok p'.2.1) (((h.read p'.1 ab).2 rfl).JiP (h.hd (fun v hv=>(p'.1 v hv).1)).2)
theorem JhM(nx:Option UInt8):iu nx Vb=true:=by kernel_rfl
theorem JhL(nx:Option UInt8):iu nx Qp=true:=by kernel_rfl
def Jcn(p n:Int):List Dw:=((Bz n false 200 (JA (p+4+1+6) JeT)).getD ([],[])).1
theorem JhN(p n:Int):Aj (Jcn p n)=false:=by kernel_rfl
def Jkk(p:Int)(X:List Tk):List Tk:=(JA p Vb++X).drop 20
theorem JeO(p n:Int)(X:List Tk):XI n 200 (JA p Vb++X)=(Bv n 200 (Jkk p X)).bind fun z=>some ({tI with kind:=3,name:=aA [99,111,108,111,114,115],at_:=p+4+1,draws:=Jcn p n,checks:=z.1.1,classes:=z.1.2.1,claims:=z.1.2.2},z.2):=by kernel_rfl
theorem JeN(p n:Int)(f:Nat)(X:List Tk):Bv n (f+1) (Jkk p X)=((J5 n f X).bind fun x=>(JB [59] x.2).bind fun r4=>XH n f [⟨aA [102,105,114,115,116],x.1⟩] [] [] r4).bind fun y=>(JB [125] y.2).bind fun r3=>some (y.1,r3):=by kernel_rfl
def Jco(s n:Int):List Ck:=((XH n 199 [] [] [] (JA s Qp).tail).getD (([],[],[]),[])).1.2.1
theorem Jgv(s n:Int):GH (Jco s n)=false:=by kernel_rfl
theorem JeP(s n:Int)(x:Ck)(rest:List Tk):((XH n 199 [x] [] [] (JA s Qp++rest).tail).bind fun y=>(JB [125] y.2).bind fun r3=>some (y.1,r3))=some (([x],Jco s n,[]),rest):=by kernel_rfl
theorem Jgt(s:Int)(rest:List Tk):JB [59] (JA s Qp++rest)=some (JA s Qp++rest).tail:=by kernel_rfl
theorem Jjk(s:Int)(rest:List Tk):ClA (JA s Qp++rest):=by
 have hc:JA s Qp++rest=JY s [59]::(JA s Qp++rest).tail:=rfl;rw[hc];exact BH rfl
theorem Jgu{p n s:Int}(h:Qi e=false):UZ {tI with kind:=3,name:=aA [99,111,108,111,114,115],at_:=p+4+1,draws:=Jcn p n,checks:=[⟨aA [102,105,114,115,116],e⟩],classes:=Jco s n,claims:=[]}=false:=by
 show(Aj (Jcn p n)||(GH [⟨aA [102,105,114,115,116],e⟩]||GH (Jco s n)))=false;rw[JhN,Jgv];show(false||((Qi e||false)||false))=false;rw[h];rfl
theorem Jfm(h:EI [vX,vS] true 2 a):WC 3 (Vb++(a++Qp)):=by
 refine⟨fun nx=>?_,fun p n rest=>?_⟩
 .rw [Vw,Vw,JhM,EM,JhL,FY];exact h.ok Jbt.2.1 59 (.inr rfl)
 obtain⟨e,h4,h5,h6⟩:=((h.read Jbt.1 ab).2 rfl).JkE (h.hd (fun v hv=>(Jbt.1 v hv).1)).2 (p+(bN Vb).length) n;have hp:XI n 200 (JA p (Vb++(a++Qp))++rest)=some ({tI with kind:=3,name:=aA [99,111,108,111,114,115],at_:=p+4+1,draws:=Jcn p n,checks:=[⟨aA [102,105,114,115,116],e⟩],classes:=Jco (p+(bN Vb).length+(bN a).length) n,claims:=[]},rest):=by
  rw[Qa,Qa,List.append_assoc,List.append_assoc,JeO,JeN p n 199,h6 _ (Jjk _ _)];simp only[CS,Jgt];rw[JeP];rfl
 exact⟨_,rfl,Jgu (Jb2 h4 ab h5),rfl,hp⟩
end
section
variable{a:List It}{m:Nat}
inductive Dls:List Int->List It->Prop
 |nil:Dls [] []
 |snoc {ks:List Int} {k:Int} {a b:List It}:Dls ks a->WC k b->Dls (ks++[k]) (a++b)
theorem Dls.ok{ks:List Int}(h:Dls ks a):∀nx,iu nx a=true:=by
 induction h with
 |nil=>exact fun nx=>rfl
 |snoc h hs ih=>intro nx;rw[Vw,ih,hs.1];rfl
def AW(d:De):Prop:=UZ d=false/\(d.name.data.toList==Xe)=false
theorem JeC(n:Int)(f:Nat):XI n f []=none:=rfl
theorem JeB{n:Int}{F f:Nat}{r r1:List Tk}{d:De}(h:XI n F r=some (d,r1)):Xc n F (f+1) r=(Xc n F f r1).bind fun ds=>some (d::ds):=by
 cases r with
 |nil=>rw[JeC]at h;cases h
 |cons t r=>rw[Xc,h];rfl
theorem Dls.read{ks:List Int}(h:Dls ks a)(p n:Int):∀rest,∃ds:List De,ds.map De.kind=ks/\(∀d∈ds,AW d)/\∀f,Xc n 200 (f+ks.length) (JA p a++rest)=(Xc n 200 f rest).bind fun l=>some (ds++l):=by
 induction h with
 |nil=>exact fun rest=>⟨[],rfl,by simp,fun f=>by simp only[JA,CO,SY,En];cases Xc n 200 f rest<;>rfl⟩
 | @snoc ks k a b h hs ih=>
  intro rest;obtain⟨d,h4,h5,h6,h7⟩:=hs.2 (p+(bN a).length) n rest;obtain⟨ds,h1,h2,h3⟩:=ih (JA (p+(bN a).length) b++rest);refine⟨ds++[d],by rw[Dp,h1];simp[h4],fun x hx=>?_,fun f=>?_⟩
  .rcases SE.1 hx with hx|hx
   .exact h2 x hx
   .rw [Sv.1 hx];exact⟨h5,h6⟩
  .rw [Qa,List.append_assoc,Sm,Dx,show f+(ks.length+1)=(f+1)+ks.length by omega,h3,JeB h7];cases Xc n 200 f rest with
   |none=>rfl
   |some l=>simp
theorem Dls.mod{ks:List Int}(h:Dls ks a)(yz:ks.length<=64)(n:Int):∃ds:List De,ds.map De.kind=ks/\(∀d∈ds,AW d)/\Pn ds=false/\∀f,ks.length<f->Xc n 200 f (JA 0 a)=some ds:=by
 obtain⟨ds,h1,h2,h3⟩:=h.read 0 n [];refine⟨ds,h1,h2,?_,fun f hf=>?_⟩
 .unfold Pn;have hl:ds.length=ks.length:=by rw[<-h1,Sr]
  have:j9 64 ds.length=false:=by
   unfold j9;cases hb:Nat.blt 64 ds.length
   .rfl
   .have:=Dy hb;omega
  rw[this,Ih,DC];intro d hd;rw[(h2 d hd).1];simp
 .obtain ⟨g,rfl⟩:∃g,f=(g+1)+ks.length:=⟨f-1-ks.length,by omega⟩;have:=h3 (g+1);rw[Ce]at this;rw[this];simp[Xc]
def PrT(ks:List Int)(m:Nat)(b:ByteArray):Prop:=∃a,Dls ks a/\(bN a).length<=m/\b=aA (bN a)
theorem Jeg(a b:Bs):aA a++aA b=aA (a++b):=by
 apply ByteArray.ext;simp[aA,ByteArray.data_append]
theorem PrT.add{ks:List Int}{b:ByteArray}{k:Int}{its:List It}{j:Nat}(h:PrT ks m b)(hs:WC k its)(hl:(bN its).length<=j):PrT (ks++[k]) (m+j) (b++aA (bN its)):=by
 obtain⟨a,h1,h2,rfl⟩:=h;exact⟨a++its,.snoc h1 hs,by rw[Ql,Sm];omega,by rw[Ql,Jeg]⟩
theorem PrT.read{ks:List Int}{b:ByteArray}(h:PrT ks m b)(yz:ks.length<=64)(hm:m<=8192)(n:Int):b.size<=m/\∃(t:List Tk) (ds:List De),BG b.data.toList=.ok t/\ds.map De.kind=ks/\(∀d∈ds,AW d)/\Pn ds=false/\∀f,ks.length<f->Xc n 200 f t=some ds:=by
 obtain⟨a,h1,h2,rfl⟩:=h;obtain⟨ds,h3,h4,h5,h6⟩:=h1.mod yz n;exact⟨by simp only[aA,ByteArray.size,Ea];exact h2,JA 0 a,ds,by simp only[aA];exact BF (h1.ok none) ab,h3,h4,h5,h6⟩
end
end Go.Rf
