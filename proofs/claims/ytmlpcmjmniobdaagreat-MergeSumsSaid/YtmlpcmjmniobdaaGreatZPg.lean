/-
 The texts of generated modules are read as modules within the limits,with a property.
-/
import Derived.Test.YtmlpcmjmniobdaaGreatZPe
set_option linter.all false
namespace Go.Rf
open Go.RowKit
section
variable{o t:Bs}{nm:ByteArray}{at_ n p:Int}{ks:List Ex}{its x:List It}{r:List Tk}{F:Nat}{α:Type}
inductive EI (V:List (List It)):Bool->Nat->List It->Prop
 |up {b:Bool} {d:Nat} {a:List It}:EI V b d a->EI V b (d+1) a
 |num {d:Nat} {t:Bs}:t∈[[48],[49],[50],[51],[52],[53],[54],[55],[56],[57]]->EI V false d [.tk t]
 |var {d:Nat} {v:List It}:v∈V->EI V false d v
 |add {d:Nat} {o:Bs} {a b:List It}:o=[43]\/o=[45]->EI V false d a->EI V false d b->EI V false (d+1) (.tk [40]::(a++(.bl 32::.tk o::.bl 32::(b++[.tk [41]]))))
 |mul {d:Nat} {t:Bs} {a:List It}:t∈[[48],[49],[50],[51],[52],[53],[54],[55],[56],[57]]->EI V false d a->EI V false (d+1) (a++[.bl 32,.tk [42],.bl 32,.tk t])
 |mm {d:Nat} {m:Bs} {a b:List It}:m=[109,97,120]\/m=[109,105,110]->EI V false d a->EI V false d b->EI V false (d+1) (.tk m::.tk [40]::(a++(.tk [44]::.bl 32::(b++[.tk [41]]))))
 |ite {d:Nat} {c a b:List It}:EI V true d c->EI V false d a->EI V false d b->EI V false (d+1) (.tk [40]::.tk [105,102]::.bl 32::(c++(.bl 32::.tk [116,104,101,110]::.bl 32::(a++(.bl 32::.tk [101,108,115,101]::.bl 32::(b++[.tk [41]]))))))
 |lt {d:Nat} {a b:List It}:EI V false d a->EI V false d b->EI V false (d+1) (.tk [40]::.tk [108,101,116]::.bl 32::.tk [119]::.bl 32::.tk [61]::.bl 32::(a++(.bl 32::.tk [105,110]::.bl 32::.tk [119]::.bl 32::.tk [43]::.bl 32::(b++[.tk [41]]))))
 |cmp {d:Nat} {o:Bs} {a b:List It}:o=[60]\/o=[60,61]\/o=[61,61]\/o=[33,61]->EI V false d a->EI V false d b->EI V true d (.tk [40]::(a++(.bl 32::.tk o::.bl 32::(b++[.tk [41]]))))
 |log {d:Nat} {o:Bs} {a b:List It}:o=[97,110,100]\/o=[111,114]->EI V true d a->EI V true d b->EI V true (d+1) (.tk [40]::(a++(.bl 32::.tk o::.bl 32::(b++[.tk [41]]))))
 |neg {d:Nat} {a:List It}:EI V true d a->EI V true (d+1) (.tk [110,111,116]::.bl 32::a)
/-! ### tokens at the head -/
theorem mkTk_text(p:Int)(t:Bs):(mkTk p t).text=t:=by cases t<;>rfl
theorem isT_mk{k:Bs}:isT k (mkTk p t::r)=(t==k):=by simp only[isT,mkTk_text]
theorem takeT_mk:takeT t (mkTk p t::r)=some r:=by unfold takeT;rw[isT_mk];simp
structure Cl6 (r:List Tk):Prop where
 o4:operT 4 r=none
 o5:operT 5 r=none
 o6:operT 6 r=none
 par:isT [40] r=false
structure ClA (r:List Tk):Prop where
 c6:Cl6 r
 o1:operT 1 r=none
 o2:operT 2 r=none
theorem opT_mk{k:Nat}:operT k (mkTk p t::r)=(opsR k).find? fun o=>t==o:=by unfold operT;simp only[isT_mk]
theorem cl6_mk(h4:((opsR 4).find? fun o=>t==o)=none)(h5:((opsR 5).find? fun o=>t==o)=none)(h6:((opsR 6).find? fun o=>t==o)=none)(hp:(t==[40])=false):Cl6 (mkTk p t::r):=
 ⟨by rw[opT_mk];exact h4,by rw[opT_mk];exact h5,by rw[opT_mk];exact h6,by rw[isT_mk];exact hp⟩
theorem clA_mk(h:((((opsR 4).find? fun o=>t==o).isNone&&((opsR 5).find? fun o=>t==o).isNone)&&((((opsR 6).find? fun o=>t==o).isNone&&((opsR 1).find? fun o=>t==o).isNone)&&(((opsR 2).find? fun o=>t==o).isNone&& !(t==[40]))))=true):ClA (mkTk p t::r):=by
 simp only[Bool.and_eq_true,Option.isNone_iff_eq_none,Bool.not_eq_true']at h;exact⟨cl6_mk h.1.1 h.1.2 h.2.1.1 h.2.2.2,by rw[opT_mk];exact h.2.1.2,by rw[opT_mk];exact h.2.2.1⟩
/-! ### levels -/
section
variable{n:Int}{r r1 r2 R:List Tk}{e e2:Ex}{F G:Nat}
theorem succ_of{f:Nat}(h:F+1<=f):∃g,f=g+1/\F<=g:=⟨f-1,by omega,by omega⟩
theorem up5(hF:1<=F)(h:∀f,F<=f->pLev6 n f r=some (e,r1))(ho:operT 5 r1=none):∀f,F+1<=f->pLev5 n f r=some (e,r1):=fun f hf=>by
 obtain⟨g,rfl,hg⟩:=succ_of hf;obtain⟨g',rfl,_⟩:=succ_of (F:=0) (f:=g) Yhn;rw[pLev5,h _ hg];simp only[Option.bind_some,pOps5,ho]
theorem up4(h:∀f,F<=f->pLev5 n f r=some (e,r1))(ho:operT 4 r1=none):∀f,F+1<=f->pLev4 n f r=some (e,r1):=fun f hf=>by
 obtain⟨g,rfl,hg⟩:=succ_of hf;rw[pLev4,h _ hg];simp only[Option.bind_some,ho]
theorem up3(h:∀f,F<=f->pLev4 n f r=some (e,r1))(hn:isT [110,111,116] r=false):∀f,F+1<=f->pLev3 n f r=some (e,r1):=fun f hf=>by
 obtain⟨g,rfl,hg⟩:=succ_of hf;rw[pLev3,hn,h _ hg];rfl
theorem up2(hF:1<=F)(h:∀f,F<=f->pLev3 n f r=some (e,r1))(ho:operT 2 r1=none):∀f,F+1<=f->pLev2 n f r=some (e,r1):=fun f hf=>by
 obtain⟨g,rfl,hg⟩:=succ_of hf;obtain⟨g',rfl,_⟩:=succ_of (F:=0) (f:=g) Yhn;rw[pLev2,h _ hg];simp only[Option.bind_some,pOps2,ho]
theorem up1(hF:1<=F)(h:∀f,F<=f->pLev2 n f r=some (e,r1))(ho:operT 1 r1=none):∀f,F+1<=f->pLev1 n f r=some (e,r1):=fun f hf=>by
 obtain⟨g,rfl,hg⟩:=succ_of hf;obtain⟨g',rfl,_⟩:=succ_of (F:=0) (f:=g) Yhn;rw[pLev1,h _ hg];simp only[Option.bind_some,pOps1,ho]
theorem upX(h:∀f,F<=f->pLev1 n f r=some (e,r1))(hh:isT [105,102] r=false/\isT [108,101,116] r=false/\isT [109,97,116,99,104] r=false):∀f,F+1<=f->pExpr n f r=some (e,r1):=fun f hf=>by
 obtain⟨g,rfl,hg⟩:=succ_of hf;rw[pExpr,hh.1,hh.2.1,hh.2.2,h _ hg];rfl
theorem upA(hF:1<=F)(h:∀f,F<=f->pLev3 n f r=some (e,r1))(ho:operT 1 r1=none/\operT 2 r1=none)(hh:isT [105,102] r=false/\isT [108,101,116] r=false/\isT [109,97,116,99,104] r=false):∀f,F+3<=f->pExpr n f r=some (e,r1):=
 upX (F:=F+2) (up1 (F:=F+1) Yhn (up2 hF h ho.2) ho.1) hh
theorem up63(hF:1<=F)(h:∀f,F<=f->pLev6 n f r=some (e,r1))(ho:Cl6 r1)(hn:isT [110,111,116] r=false):∀f,F+3<=f->pLev3 n f r=some (e,r1):=
 up3 (F:=F+2) (up4 (F:=F+1) (up5 hF h ho.o5) ho.o4) hn
theorem bin5(hF:1<=F)(h:∀f,F<=f->pLev6 n f r=some (e,r1))(ho:operT 5 r1=some o)(h2:∀f,F<=f->pLev6 n f r1.tail=some (e2,r2))(ho2:operT 5 r2=none):∀f,F+3<=f->pLev5 n f r=some (⟨9,bst o,0,[],[],[e,e2],atT n r⟩,r2):=fun f hf=>by
 obtain⟨g,rfl,hg⟩:=succ_of (F:=F+2) hf;rw[pLev5,h _ Yhn];obtain⟨g',rfl,hg'⟩:=succ_of (F:=F+1) hg;simp only[Option.bind_some,pOps5,ho];rw[h2 _ Yhn];obtain⟨g2,rfl,_⟩:=succ_of (F:=F) hg';simp only[Option.bind_some,pOps5,ho2]
theorem bin4(h:∀f,F<=f->pLev5 n f r=some (e,r1))(ho:operT 4 r1=some o)(h2:∀f,F<=f->pLev5 n f r1.tail=some (e2,r2)):∀f,F+1<=f->pLev4 n f r=some (⟨9,bst o,0,[],[],[e,e2],atT n r⟩,r2):=fun f hf=>by
 obtain⟨g,rfl,hg⟩:=succ_of hf;rw[pLev4,h _ Yhn];simp only[Option.bind_some,ho];rw[h2 _ Yhn];rfl
theorem bin2(hF:1<=F)(h:∀f,F<=f->pLev3 n f r=some (e,r1))(ho:operT 2 r1=some o)(h2:∀f,F<=f->pLev3 n f r1.tail=some (e2,r2))(ho2:operT 2 r2=none):∀f,F+3<=f->pLev2 n f r=some (⟨9,bst o,0,[],[],[e,e2],atT n r⟩,r2):=fun f hf=>by
 obtain⟨g,rfl,hg⟩:=succ_of (F:=F+2) hf;rw[pLev2,h _ Yhn];obtain⟨g',rfl,hg'⟩:=succ_of (F:=F+1) hg;simp only[Option.bind_some,pOps2,ho];rw[h2 _ Yhn];obtain⟨g2,rfl,_⟩:=succ_of (F:=F) hg';simp only[Option.bind_some,pOps2,ho2]
theorem bin1(hF:1<=F)(h:∀f,F<=f->pLev2 n f r=some (e,r1))(ho:operT 1 r1=some o)(h2:∀f,F<=f->pLev2 n f r1.tail=some (e2,r2))(ho2:operT 1 r2=none):∀f,F+3<=f->pLev1 n f r=some (⟨9,bst o,0,[],[],[e,e2],atT n r⟩,r2):=fun f hf=>by
 obtain⟨g,rfl,hg⟩:=succ_of (F:=F+2) hf;rw[pLev1,h _ Yhn];obtain⟨g',rfl,hg'⟩:=succ_of (F:=F+1) hg;simp only[Option.bind_some,pOps1,ho];rw[h2 _ Yhn];obtain⟨g2,rfl,_⟩:=succ_of (F:=F) hg';simp only[Option.bind_some,pOps1,ho2]
theorem opndP{q:Int}(h:∀f,F<=f->pExpr n f R=some (e,mkTk q [41]::r1)):∀f,F+1<=f->pOpnd n f (mkTk p [40]::R)=some (e,r1):=fun f hf=>by
 obtain⟨g,rfl,hg⟩:=succ_of hf;rw[pOpnd];have e1:isT [45] (mkTk p [40]::R)=false:=rfl;have e2:isT [116,114,117,101] (mkTk p [40]::R)=false:=rfl;have e3:isT [102,97,108,115,101] (mkTk p [40]::R)=false:=rfl;have e4:isT [40] (mkTk p [40]::R)=true:=rfl;rw[e1,e2,e3,e4];simp only[Bool.false_eq_true,if_false,if_true,List.tail_cons];rw[h _ hg];simp only[Option.bind_some,takeT_mk]
end
/-! ### integers -/
def bF(d:Nat):Nat:=60*d+20
def bD(d:Nat):Nat:=4*d+3
def PI(d:Nat)(its:List It):Prop:=∀(p n:Int),∃(e:Ex) (k:Nat) (a:Int),k<=d+1/\exD e<=bD d/\limE e=false/\∀f,bF d<=f->∀rest,isT [40] rest=false->pLev6 n (f+k) (tksI p its++rest)=pOps6 n f a e rest
def PB(d:Nat)(its:List It):Prop:=∀(p n:Int),∃(e:Ex),exD e<=bD d+1/\limE e=false/\∀f,bF d+45<=f->∀rest,Cl6 rest->pLev3 n f (tksI p its++rest)=some (e,rest)
def hds:List Bs:=[[105,102],[108,101,116],[109,97,116,99,104],[41],[110,111,116],[93],[45],[116,114,117,101],[102,97,108,115,101]]
def HdI(its:List It):Prop:=∃t r,its=.tk t::r/\∀k∈hds,(t==k)=false
def HdB(its:List It):Prop:=∃t r,its=.tk t::r/\(t==[105,102])=false/\(t==[108,101,116])=false/\(t==[109,97,116,99,104])=false
theorem HdI.is(h:HdI its)(p:Int)(rest:List Tk):∀k∈hds,isT k (tksI p its++rest)=false:=fun k hk=>by
 obtain⟨t,r,rfl,h⟩:=h;simp only[tksI,List.cons_append,isT_mk];exact h k hk
theorem HdI.app(h:HdI its)(x:List It):HdI (its++x):=by
 obtain⟨t,r,rfl,h⟩:=h;exact⟨t,r++x,rfl,h⟩
theorem HdB.is(h:HdB its)(p:Int)(rest:List Tk):isT [105,102] (tksI p its++rest)=false/\isT [108,101,116] (tksI p its++rest)=false/\isT [109,97,116,99,104] (tksI p its++rest)=false:=by
 obtain⟨t,r,rfl,h⟩:=h;simp only[tksI,List.cons_append,isT_mk];exact h
theorem HdI.b(h:HdI its):HdB its:=by
 obtain⟨t,r,rfl,h⟩:=h;exact⟨t,r,rfl,h _ (by simp[hds]),h _ (by simp[hds]),h _ (by simp[hds])⟩
theorem hd_lit{r:List It}(h:(hds.all fun k=> !(t==k))=true):HdI (.tk t::r):=⟨t,r,rfl,fun k hk=>by
 have:=List.all_eq_true.1 h k hk;simpa using this⟩
theorem hd_num(h:t∈[[48],[49],[50],[51],[52],[53],[54],[55],[56],[57]]):HdI [.tk t]:=by
 simp only[List.mem_cons,List.not_mem_nil,or_false]at h;rcases h with rfl|rfl|rfl|rfl|rfl|rfl|rfl|rfl|rfl|rfl
 all_goals exact hd_lit rfl
theorem EI.hd{V:List (List It)}(hV:∀v∈V,HdI v){b:Bool}{d:Nat}{a:List It}(h:EI V b d a):(b=false->HdI a)/\HdB a:=by
 induction h with
 |up _ ih=>exact ih
 |num h=>exact⟨fun _=>hd_num h,(hd_num h).b⟩
 |var h=>exact⟨fun _=>hV _ h,(hV _ h).b⟩
 |add _ _ _ _ _=>exact⟨fun _=>hd_lit rfl,(hd_lit rfl:HdI _).b⟩
 |mul _ _ ih=>exact⟨fun _=>(ih.1 rfl).app _,((ih.1 rfl).app _).b⟩
 |mm h _ _ _ _=>
  rcases h with rfl|rfl
  .exact ⟨fun _=>hd_lit rfl,(hd_lit rfl:HdI _).b⟩
  .exact ⟨fun _=>hd_lit rfl,(hd_lit rfl:HdI _).b⟩
 |ite _ _ _ _ _ _=>exact⟨fun _=>hd_lit rfl,(hd_lit rfl:HdI _).b⟩
 |lt _ _ _ _=>exact⟨fun _=>hd_lit rfl,(hd_lit rfl:HdI _).b⟩
 |cmp _ _ _ _ _=>exact⟨fun h=>Yiw,(hd_lit rfl:HdI (.tk [40]::_)).b⟩
 |log _ _ _ _ _=>exact⟨fun h=>Yiw,(hd_lit rfl:HdI (.tk [40]::_)).b⟩
 |neg _ _=>exact⟨fun h=>Yiw,⟨_,_,rfl,rfl,rfl,rfl⟩⟩
theorem PI.six{d:Nat}(h:PI d its)(p n:Int):∃e,exD e<=bD d/\limE e=false/\∀f,bF d+d+2<=f->∀rest,operT 6 rest=none->isT [40] rest=false->pLev6 n f (tksI p its++rest)=some (e,rest):=by
 obtain⟨e,k,a,hk,hd,hl,h⟩:=h p n;refine⟨e,hd,hl,fun f hf rest ho hp=>?_⟩;obtain⟨g,rfl⟩:∃g,f=g+k:=⟨f-k,by omega⟩;rw[h g Yhn rest hp];obtain⟨g',rfl,_⟩:=succ_of (F:=0) (f:=g) (by have:bF d=60*d+20:=rfl;omega);simp only[pOps6,ho]
theorem PI.five{d:Nat}(h:PI d its)(p n:Int):∃e,exD e<=bD d/\limE e=false/\∀f,bF d+d+3<=f->∀rest,operT 5 rest=none->operT 6 rest=none->isT [40] rest=false->pLev5 n f (tksI p its++rest)=some (e,rest):=by
 obtain⟨e,hd,hl,h⟩:=h.six p n;exact⟨e,hd,hl,fun f hf rest h5 h6 hp=>up5 (F:=bF d+d+2) Yhn (fun f hf=>h f hf rest h6 hp) h5 f hf⟩
theorem PI.exp{d:Nat}(h:PI d its)(hh:HdI its)(p n:Int):∃e,exD e<=bD d/\limE e=false/\∀f,bF d+d+8<=f->∀rest,ClA rest->pExpr n f (tksI p its++rest)=some (e,rest):=by
 obtain⟨e,hd,hl,h⟩:=h.six p n;exact⟨e,hd,hl,fun f hf rest hr=>upA (F:=bF d+d+5) Yhn (up63 (F:=bF d+d+2) Yhn (fun f hf=>h f hf rest hr.c6.o6 hr.c6.par) hr.c6 (hh.is p rest _ (by simp[hds]))) ⟨hr.o1,hr.o2⟩ (hh.b.is p rest) f hf⟩
theorem PB.exp{d:Nat}(h:PB d its)(hh:HdB its)(p n:Int):∃e,exD e<=bD d+1/\limE e=false/\∀f,bF d+48<=f->∀rest,ClA rest->pExpr n f (tksI p its++rest)=some (e,rest):=by
 obtain⟨e,hd,hl,h⟩:=h p n;exact⟨e,hd,hl,fun f hf rest hr=>upA (F:=bF d+45) Yhn (fun f hf=>h f hf rest hr.c6) ⟨hr.o1,hr.o2⟩ (hh.is p rest) f hf⟩
theorem PI.up{d:Nat}(h:PI d its):PI (d+1) its:=fun p n=>by
 obtain⟨e,k,a,hk,hd,hl,h⟩:=h p n;exact⟨e,k,a,by omega,by unfold bD at*;omega,hl,fun f hf rest hr=>h f (by unfold bF at*;omega) rest hr⟩
theorem PB.up{d:Nat}(h:PB d its):PB (d+1) its:=fun p n=>by
 obtain⟨e,hd,hl,h⟩:=h p n;exact⟨e,by unfold bD at*;omega,hl,fun f hf rest hr=>h f (by unfold bF at*;omega) rest hr⟩
theorem PI.opnd{d:Nat}(h:∀(p n:Int),∃e,exD e<=bD d/\limE e=false/\∀f,bF d<=f->∀rest,isT [40] rest=false->pOpnd n f (tksI p its++rest)=some (e,rest)):PI d its:=fun p n=>by
 obtain⟨e,hd,hl,h⟩:=h p n;by_cases hz:tksI p its=[]
 .exfalso
  have:=h (bF d) (Nat.le_refl _) [] rfl;rw[hz]at this;have hb:bF d=60*d+19+1:=rfl;rw[hb]at this;simp only[List.append_nil,pOpnd,isT,kindT,tokT,Bool.false_eq_true,if_false,Option.bind_none]at this;cases this
 obtain⟨t,r,hr⟩:=List.exists_cons_of_ne_nil hz;refine⟨e,1,t.at_,by omega,hd,hl,fun f hf rest hrest=>?_⟩;rw[pLev6,h f hf rest hrest];simp only[Option.bind_some];rw[hr];rfl
theorem tks_cons(p:Int)(t:Bs)(r:List It):tksI p (.tk t::r)=mkTk p t::tksI (p+t.length) r:=rfl
theorem tks_bl(p:Int)(b:UInt8)(r:List It):tksI p (.bl b::r)=tksI (p+1) r:=rfl
theorem tks_nil(p:Int):tksI p []=[]:=rfl
theorem exD_mk{k:Int}{ns:List ByteArray}{bs:List (List ByteArray)}{m:Nat}(h:∀e∈ks,exD e<=m):exD ⟨k,nm,n,ns,bs,ks,at_⟩<=m+1:=by
 simp only[exD];have:=exDs_le h;omega
theorem lim9(h:∀e∈ks,limE e=false):limE ⟨9,nm,n,[],[],ks,at_⟩=false:=by
 simp only[limE,limEs_of h,limE1];rfl
theorem two{P:α->Prop}{a b:α}(ha:P a)(hb:P b):∀x∈[a,b],P x:=fun x hx=>by
 simp only[List.mem_cons,List.not_mem_nil,or_false]at hx;rcases hx with rfl|rfl<;>assumption
theorem three{P:α->Prop}{a b c:α}(ha:P a)(hb:P b)(hc:P c):∀x∈[a,b,c],P x:=fun x hx=>by
 simp only[List.mem_cons,List.not_mem_nil,or_false]at hx;rcases hx with rfl|rfl|rfl<;>assumption
theorem pNum{d:Nat}(h:t∈[[48],[49],[50],[51],[52],[53],[54],[55],[56],[57]]):PI d [.tk t]:=by
 refine PI.opnd fun p n=>⟨⟨0,bst [],(mkTk p t).n,[],[],[],p⟩,Yji,rfl,fun f hf rest _=>?_⟩
 obtain⟨g,rfl,_⟩:=succ_of (F:=0) (f:=f) (by unfold bF at hf;omega);simp only[List.mem_cons,List.not_mem_nil,or_false]at h;rcases h with rfl|rfl|rfl|rfl|rfl|rfl|rfl|rfl|rfl|rfl
 all_goals rfl
theorem at_app(n:Int)(a:List Tk)(x:Tk)(r:List Tk):atT n (a++(x::r))=atT n (a++[x]):=by cases a<;>rfl
theorem eAdd{d:Nat}(hd:d<=10){a b:List It}(ho:o=[43]\/o=[45])(ha:PI d a)(hb:PI d b)(hha:HdI a)(p n:Int):∃e,exD e<=bD d+1/\limE e=false/\∀f,bF d+22<=f->∀rest,ClA rest->pExpr n f (tksI p (a++(.bl 32::.tk o::.bl 32::b))++rest)=some (e,rest):=by
 obtain⟨e,d1,l1,h1⟩:=ha.six p n;obtain⟨q,hq⟩:∃q:Int,q=p+(rnd a).length+1:=⟨_,rfl⟩;obtain⟨e2,d2,l2,h2⟩:=hb.six (q+o.length+1) n;refine⟨⟨9,bst o,0,[],[],[e,e2],atT n (tksI p a++[mkTk q o])⟩,exD_mk (two d1 d2),lim9 (two l1 l2),fun f hf rest hc=>?_⟩;have ht:tksI p (a++(.bl 32::.tk o::.bl 32::b))++rest=tksI p a++(mkTk q o::(tksI (q+o.length+1) b++rest)):=by
  rw[tksI_app,tks_bl,tks_cons,tks_bl,hq];simp only[List.cons_append,List.append_assoc]
 rw[ht];have hoo:operT 5 (mkTk q o::(tksI (q+o.length+1) b++rest))=some o:=by rcases ho with rfl|rfl<;>rfl
 have h6o:operT 6 (mkTk q o::(tksI (q+o.length+1) b++rest))=none:=by rcases ho with rfl|rfl<;>rfl
 have hpo:isT [40] (mkTk q o::(tksI (q+o.length+1) b++rest))=false:=by rcases ho with rfl|rfl<;>rfl
 have b5:=bin5 (n:=n) (F:=bF d+d+2) Yhn (fun f hf=>h1 f hf _ h6o hpo) hoo (fun f hf=>h2 f hf _ hc.c6.o6 hc.c6.par) hc.c6.o5;rw[at_app]at b5;exact upA (F:=bF d+d+7) Yhn (up3 (F:=bF d+d+6) (up4 b5 hc.c6.o4) (hha.is p _ _ (by simp[hds]))) ⟨hc.o1,hc.o2⟩ (hha.b.is p _) f Yhn
theorem clo_par(q:Int)(r:List Tk):ClA (mkTk q [41]::r):=clA_mk rfl
theorem PI.par{d:Nat}(hF:F+1<=bF d)(h:∀(p n:Int),∃e,exD e<=bD d/\limE e=false/\∀f,F<=f->∀rest,ClA rest->pExpr n f (tksI p x++rest)=some (e,rest)):PI d (.tk [40]::(x++[.tk [41]])):=by
 refine PI.opnd fun p n=>?_
 obtain⟨e,d1,l1,h1⟩:=h (p+1) n;refine⟨e,d1,l1,fun f hf rest hr=>?_⟩;have ht:tksI p (.tk [40]::(x++[.tk [41]]))++rest=mkTk p [40]::(tksI (p+1) x++(mkTk (p+1+(rnd x).length) [41]::rest)):=by
  rw[tks_cons,tksI_app,tks_cons,tks_nil];simp only[List.cons_append,List.append_assoc,List.nil_append];rfl
 rw[ht];exact opndP (F:=F) (fun f hf=>h1 f hf _ (clo_par _ _)) f Yhn
theorem pAdd{d:Nat}(hd:d<=10){a b:List It}(ho:o=[43]\/o=[45])(ha:PI d a)(hb:PI d b)(hha:HdI a):PI (d+1) (.tk [40]::(a++(.bl 32::.tk o::.bl 32::(b++[.tk [41]])))):=by
 have:=PI.par (d:=d+1) (F:=bF d+22) (x:=a++(.bl 32::.tk o::.bl 32::b)) Ykm (fun p n=>by
  obtain⟨e,h1,h2,h3⟩:=eAdd hd ho ha hb hha p n;exact⟨e,by unfold bD at*;omega,h2,h3⟩)
 simpa using this
theorem pMul{d:Nat}{a:List It}(ht:t∈[[48],[49],[50],[51],[52],[53],[54],[55],[56],[57]])(ha:PI d a):PI (d+1) (a++[.bl 32,.tk [42],.bl 32,.tk t]):=fun p n=>by
 obtain⟨e,k,x,hk,d1,l1,h1⟩:=ha p n;obtain⟨q,hq⟩:∃q:Int,q=p+(rnd a).length+1:=⟨_,rfl⟩;refine⟨⟨9,bst [42],0,[],[],[e,⟨0,bst [],(mkTk (q+2) t).n,[],[],[],q+2⟩],x⟩,k+1,x,by omega,?_,lim9 (two l1 rfl),fun f hf rest hr=>?_⟩
 .refine Nat.le_trans (exD_mk (m:=bD d) (two d1 Yji)) Ykn
 have he:tksI p (a++[.bl 32,.tk [42],.bl 32,.tk t])++rest=tksI p a++(mkTk q [42]::mkTk (q+2) t::rest):=by
  rw[tksI_app,tks_bl,tks_cons,tks_bl,tks_cons,tks_nil,hq];simp only[List.cons_append,List.append_assoc,List.nil_append];rw[show p+(rnd a).length+1+(([42]:Bs).length:Int)+1=p+(rnd a).length+1+2 by simp;omega]
 rw[he,show f+(k+1)=(f+1)+k by omega,h1 (f+1) (by unfold bF at*;omega) _ rfl];obtain⟨g,rfl,_⟩:=succ_of (F:=0) (f:=f) (by unfold bF at hf;omega);have hop:operT 6 (mkTk q [42]::mkTk (q+2) t::rest)=some [42]:=rfl;rw[pOps6,hop];simp only[List.tail_cons];have hn:pOpnd n (g+1) (mkTk (q+2) t::rest)=some (⟨0,bst [],(mkTk (q+2) t).n,[],[],[],q+2⟩,rest):=by
  simp only[List.mem_cons,List.not_mem_nil,or_false]at ht;rcases ht with rfl|rfl|rfl|rfl|rfl|rfl|rfl|rfl|rfl|rfl
  all_goals rfl
 rw[hn];rfl
theorem pMm{d:Nat}(hd:d<=10){m:Bs}{a b:List It}(hm:m=[109,97,120]\/m=[109,105,110])(ha:PI d a)(hb:PI d b)(hha:HdI a)(hhb:HdI b):PI (d+1) (.tk m::.tk [40]::(a++(.tk [44]::.bl 32::(b++[.tk [41]])))):=by
 refine PI.opnd fun p n=>?_
 obtain⟨e,d1,l1,h1⟩:=ha.exp hha (p+m.length+1) n;obtain⟨q,hq⟩:∃q:Int,q=p+m.length+1+(rnd a).length:=⟨_,rfl⟩;obtain⟨e2,d2,l2,h2⟩:=hb.exp hhb (q+2) n;refine⟨⟨3,bst m,0,[],[],[e,e2],p⟩,Nat.le_trans (exD_mk (two d1 d2)) Ykn,?_,fun f hf rest hr=>?_⟩
 .simp only[limE,limEs_of (two l1 l2),limE1];rfl
 have ht:tksI p (.tk m::.tk [40]::(a++(.tk [44]::.bl 32::(b++[.tk [41]]))))++rest=mkTk p m::mkTk (p+m.length) [40]::(tksI (p+m.length+1) a++(mkTk q [44]::(tksI (q+2) b++(mkTk (q+2+(rnd b).length) [41]::rest)))):=by
  rw[tks_cons,tks_cons,tksI_app,tks_cons,tks_bl,tksI_app,tks_cons,tks_nil,hq];simp only[List.cons_append,List.append_assoc,List.nil_append];rw[show p+m.length+(([40]:Bs).length:Int)=p+m.length+1 by simp,show p+m.length+1+(rnd a).length+(([44]:Bs).length:Int)+1=p+m.length+1+(rnd a).length+2 by simp;omega]
 rw[ht];obtain⟨R,hR⟩:=exq (mkTk (q+2+(rnd b).length) [41]::rest);have hclR:ClA R:=by rw[hR];exact clo_par _ _
 have hcom:ClA (mkTk q [44]::(tksI (q+2) b++R)):=clA_mk rfl;have hnp:isT [41] (tksI (p+m.length+1) a++(mkTk q [44]::(tksI (q+2) b++R)))=false:=hha.is _ _ _ (by simp[hds]);rw[<-hR];obtain⟨g,rfl⟩:∃g,f=g+5:=⟨f-5,by unfold bF at hf;omega⟩;have hg:bF d+d+8<=g:=by unfold bF at*;omega
 have hE:pExprs n (g+4) [41] (tksI (p+m.length+1) a++(mkTk q [44]::(tksI (q+2) b++R)))=some ([e,e2],rest):=by
  rw[pExprs,hnp];simp only[Bool.false_eq_true,if_false];rw[pExGo,h1 _ Yhn _ hcom];have hc:isT [44] (mkTk q [44]::(tksI (q+2) b++R))=true:=rfl;simp only[Option.bind_some,hc,if_true,List.tail_cons];rw[pExGo,h2 _ Yhn _ hclR];have hc2:isT [44] R=false:=by rw[hR];rfl
  simp only[Option.bind_some,hc2,Bool.false_eq_true,if_false];rw[hR,takeT_mk];rfl
 have hpo:pOpnd n (g+4+1) (mkTk p m::mkTk (p+m.length) [40]::(tksI (p+m.length+1) a++(mkTk q [44]::(tksI (q+2) b++R))))=(pExprs n (g+4) [41] (tksI (p+m.length+1) a++(mkTk q [44]::(tksI (q+2) b++R)))).bind fun x=>some (⟨3,bst m,0,[],[],x.1,p⟩,x.2):=by
  rcases hm with rfl|rfl<;>rfl
 rw[hpo,hE];rfl
theorem pIte{d:Nat}(hd:d<=10){c a b:List It}(hc:PB d c)(ha:PI d a)(hb:PI d b)(hhc:HdB c)(hha:HdI a)(hhb:HdI b):PI (d+1) (.tk [40]::.tk [105,102]::.bl 32::(c++(.bl 32::.tk [116,104,101,110]::.bl 32::(a++(.bl 32::.tk [101,108,115,101]::.bl 32::(b++[.tk [41]])))))):=by
 have:=PI.par (d:=d+1) (F:=bF d+49) (x:=.tk [105,102]::.bl 32::(c++(.bl 32::.tk [116,104,101,110]::.bl 32::(a++(.bl 32::.tk [101,108,115,101]::.bl 32::b))))) Ykm (fun p n=>by
  obtain⟨e1,d1,l1,h1⟩:=hc.exp hhc (p+3) n;obtain⟨q,hq⟩:∃q:Int,q=p+3+(rnd c).length+1:=⟨_,rfl⟩;obtain⟨e2,d2,l2,h2⟩:=ha.exp hha (q+5) n;obtain⟨s,hs⟩:∃s:Int,s=q+5+(rnd a).length+1:=⟨_,rfl⟩;obtain⟨e3,d3,l3,h3⟩:=hb.exp hhb (s+5) n;refine⟨⟨6,bst [],0,[],[],[e1,e2,e3],p⟩,Nat.le_trans (exD_mk (m:=bD d+1) (three d1 Yhn Yhn)) Ykn,by simp only[limE,limEs_of (three l1 l2 l3),limE1];rfl,fun f hf rest hr=>?_⟩;have ht:tksI p (.tk [105,102]::.bl 32::(c++(.bl 32::.tk [116,104,101,110]::.bl 32::(a++(.bl 32::.tk [101,108,115,101]::.bl 32::b)))))++rest=mkTk p [105,102]::(tksI (p+3) c++(mkTk q [116,104,101,110]::(tksI (q+5) a++(mkTk s [101,108,115,101]::(tksI (s+5) b++rest))))):=by
   rw[tks_cons,tks_bl,tksI_app,tks_bl,tks_cons,tks_bl,tksI_app,tks_bl,tks_cons,tks_bl,hs,hq];simp only[List.cons_append,List.append_assoc,List.length_cons,List.length_nil];rw[show p+((0+1+1:Nat):Int)+1=p+3 by omega,show p+3+((rnd c).length:Int)+1+((0+1+1+1+1:Nat):Int)+1=p+3+(rnd c).length+1+5 by omega];rw[show p+3+((rnd c).length:Int)+1+5+((rnd a).length:Int)+1+((0+1+1+1+1:Nat):Int)+1=p+3+(rnd c).length+1+5+(rnd a).length+1+5 by omega]
  rw[ht];obtain⟨g,rfl,hg⟩:=succ_of (F:=bF d+48) hf;have hcT:ClA (mkTk q [116,104,101,110]::(tksI (q+5) a++(mkTk s [101,108,115,101]::(tksI (s+5) b++rest)))):=clA_mk rfl;have hcE:ClA (mkTk s [101,108,115,101]::(tksI (s+5) b++rest)):=clA_mk rfl;have hif:isT [105,102] (mkTk p [105,102]::(tksI (p+3) c++(mkTk q [116,104,101,110]::(tksI (q+5) a++(mkTk s [101,108,115,101]::(tksI (s+5) b++rest))))))=true:=rfl;rw[pExpr,hif];simp only[if_true,List.tail_cons];rw[h1 _ Yhn _ hcT];simp only[Option.bind_some,takeT_mk];rw[h2 _ Yhn _ hcE];simp only[Option.bind_some,takeT_mk];rw[h3 _ Yhn _ hr];rfl)
 simpa using this
theorem pLt{d:Nat}(hd:d<=10){a b:List It}(ha:PI d a)(hb:PI d b)(hha:HdI a):PI (d+1) (.tk [40]::.tk [108,101,116]::.bl 32::.tk [119]::.bl 32::.tk [61]::.bl 32::(a++(.bl 32::.tk [105,110]::.bl 32::.tk [119]::.bl 32::.tk [43]::.bl 32::(b++[.tk [41]])))):=by
 have hw:PI d [.tk [119]]:=by
  refine PI.opnd fun p n=>⟨⟨2,bst [119],0,[],[],[],p⟩,Yji,rfl,fun f hf rest hr=>?_⟩
  obtain⟨g,rfl,_⟩:=succ_of (F:=0) (f:=f) (by unfold bF at hf;omega);have:pOpnd n (g+1) (tksI p [.tk [119]]++rest)=(if isT [40] rest then(pExprs n g [41] rest.tail).bind fun x=>some (⟨3,bst [119],0,[],[],x.1,p⟩,x.2) else some (⟨2,bst [119],0,[],[],[],p⟩,rest)):=rfl;rw[this,hr];rfl
 have:=PI.par (d:=d+1) (F:=bF d+30) (x:=.tk [108,101,116]::.bl 32::.tk [119]::.bl 32::.tk [61]::.bl 32::(a++(.bl 32::.tk [105,110]::.bl 32::([.tk [119]]++(.bl 32::.tk [43]::.bl 32::b))))) Ykm (fun p n=>by
  obtain⟨e1,d1,l1,h1⟩:=ha.exp hha (p+8) n;obtain⟨q,hq⟩:∃q:Int,q=p+8+(rnd a).length+1:=⟨_,rfl⟩;obtain⟨e2,d2,l2,h2⟩:=eAdd hd (o:=[43]) (.inl rfl) hw hb (hd_lit rfl) (q+3) n;refine⟨⟨7,bst [119],0,[],[],[e1,e2],p⟩,Nat.le_trans (exD_mk (m:=bD d+1) (two Yhn d2)) Ykn,by simp only[limE,limEs_of (two l1 l2),limE1];rfl,fun f hf rest hr=>?_⟩;have ht:tksI p (.tk [108,101,116]::.bl 32::.tk [119]::.bl 32::.tk [61]::.bl 32::(a++(.bl 32::.tk [105,110]::.bl 32::([.tk [119]]++(.bl 32::.tk [43]::.bl 32::b)))))++rest=mkTk p [108,101,116]::mkTk (p+4) [119]::mkTk (p+6) [61]::(tksI (p+8) a++(mkTk q [105,110]::(tksI (q+3) ([.tk [119]]++(.bl 32::.tk [43]::.bl 32::b))++rest))):=by
   rw[tks_cons,tks_bl,tks_cons,tks_bl,tks_cons,tks_bl,tksI_app,tks_bl,tks_cons,tks_bl,hq];simp only[List.cons_append,List.append_assoc,List.length_cons,List.length_nil];rw[show p+((0+1+1+1:Nat):Int)+1=p+4 by omega,show p+4+((0+1:Nat):Int)+1=p+6 by omega,show p+6+((0+1:Nat):Int)+1=p+8 by omega];rw[show p+8+((rnd a).length:Int)+1+((0+1+1:Nat):Int)+1=p+8+(rnd a).length+1+3 by omega]
  rw[ht];obtain⟨g,rfl,hg⟩:=succ_of (F:=bF d+29) hf;have hcI:ClA (mkTk q [105,110]::(tksI (q+3) ([.tk [119]]++(.bl 32::.tk [43]::.bl 32::b))++rest)):=clA_mk rfl;have hstep:pExpr n (g+1) (mkTk p [108,101,116]::mkTk (p+4) [119]::mkTk (p+6) [61]::(tksI (p+8) a++(mkTk q [105,110]::(tksI (q+3) ([.tk [119]]++(.bl 32::.tk [43]::.bl 32::b))++rest))))=(pExpr n g (tksI (p+8) a++(mkTk q [105,110]::(tksI (q+3) ([.tk [119]]++(.bl 32::.tk [43]::.bl 32::b))++rest)))).bind fun x=>(takeT [105,110] x.2).bind fun r4=>(pExpr n g r4).bind fun y=>some (⟨7,bst [119],0,[],[],[x.1,y.1],p⟩,y.2):=rfl
  rw[hstep,h1 _ Yhn _ hcI];simp only[Option.bind_some,takeT_mk];rw[h2 _ Yhn _ hr];rfl)
 simpa using this
/-! ### booleans -/
theorem PB.par{d:Nat}(hF:F+6<=bF d+45)(h:∀(p n:Int),∃e,exD e<=bD d+1/\limE e=false/\∀f,F<=f->∀rest,ClA rest->pExpr n f (tksI p x++rest)=some (e,rest)):PB d (.tk [40]::(x++[.tk [41]])):=fun p n=>by
 obtain⟨e,d1,l1,h1⟩:=h (p+1) n;refine⟨e,d1,l1,fun f hf rest hr=>?_⟩;have ht:tksI p (.tk [40]::(x++[.tk [41]]))++rest=mkTk p [40]::(tksI (p+1) x++(mkTk (p+1+(rnd x).length) [41]::rest)):=by
  rw[tks_cons,tksI_app,tks_cons,tks_nil];simp only[List.cons_append,List.append_assoc,List.nil_append];rfl
 rw[ht];have ho:=opndP (p:=p) (F:=F) (fun f hf=>h1 f hf _ (clo_par (p+1+(rnd x).length) rest));have h6:∀f,F+2<=f->pLev6 n f (mkTk p [40]::(tksI (p+1) x++(mkTk (p+1+(rnd x).length) [41]::rest)))=some (e,rest):=fun f hf=>by
  obtain⟨g,rfl,hg⟩:=succ_of (F:=F+1) hf;rw[pLev6,ho g hg];obtain⟨g',rfl,_⟩:=succ_of (F:=F) hg;simp only[Option.bind_some,pOps6,hr.o6]
 exact up63 (F:=F+2) Yhn h6 hr rfl f Yhn
theorem pCmp{d:Nat}(hd:d<=10){a b:List It}(ho:o=[60]\/o=[60,61]\/o=[61,61]\/o=[33,61])(ha:PI d a)(hb:PI d b)(hha:HdI a):PB d (.tk [40]::(a++(.bl 32::.tk o::.bl 32::(b++[.tk [41]])))):=by
 have:=PB.par (d:=d) (F:=bF d+22) (x:=a++(.bl 32::.tk o::.bl 32::b)) Yhn (fun p n=>by
  obtain⟨e,d1,l1,h1⟩:=ha.five p n;obtain⟨q,hq⟩:∃q:Int,q=p+(rnd a).length+1:=⟨_,rfl⟩;obtain⟨e2,d2,l2,h2⟩:=hb.five (q+o.length+1) n;refine⟨⟨9,bst o,0,[],[],[e,e2],atT n (tksI p a++[mkTk q o])⟩,exD_mk (two d1 d2),lim9 (two l1 l2),fun f hf rest hc=>?_⟩;have ht:tksI p (a++(.bl 32::.tk o::.bl 32::b))++rest=tksI p a++(mkTk q o::(tksI (q+o.length+1) b++rest)):=by
   rw[tksI_app,tks_bl,tks_cons,tks_bl,hq];simp only[List.cons_append,List.append_assoc]
  rw[ht];have hoo:operT 4 (mkTk q o::(tksI (q+o.length+1) b++rest))=some o:=by rcases ho with rfl|rfl|rfl|rfl<;>rfl
  have h5o:operT 5 (mkTk q o::(tksI (q+o.length+1) b++rest))=none:=by rcases ho with rfl|rfl|rfl|rfl<;>rfl
  have h6o:operT 6 (mkTk q o::(tksI (q+o.length+1) b++rest))=none:=by rcases ho with rfl|rfl|rfl|rfl<;>rfl
  have hpo:isT [40] (mkTk q o::(tksI (q+o.length+1) b++rest))=false:=by rcases ho with rfl|rfl|rfl|rfl<;>rfl
  have b4:=bin4 (n:=n) (F:=bF d+d+3) (fun f hf=>h1 f hf _ h5o h6o hpo) hoo (fun f hf=>h2 f hf _ hc.c6.o5 hc.c6.o6 hc.c6.par);rw[at_app]at b4;exact upA (F:=bF d+d+5) Yhn (up3 (F:=bF d+d+4) b4 (hha.is p _ _ (by simp[hds]))) ⟨hc.o1,hc.o2⟩ (hha.b.is p _) f Yhn)
 simpa using this
theorem pLog{d:Nat}{a b:List It}(ho:o=[97,110,100]\/o=[111,114])(ha:PB d a)(hb:PB d b)(hha:HdB a):PB (d+1) (.tk [40]::(a++(.bl 32::.tk o::.bl 32::(b++[.tk [41]])))):=by
 have:=PB.par (d:=d+1) (F:=bF d+51) (x:=a++(.bl 32::.tk o::.bl 32::b)) Ykm (fun p n=>by
  obtain⟨e,d1,l1,h1⟩:=ha p n;obtain⟨q,hq⟩:∃q:Int,q=p+(rnd a).length+1:=⟨_,rfl⟩;obtain⟨e2,d2,l2,h2⟩:=hb (q+o.length+1) n;refine⟨⟨9,bst o,0,[],[],[e,e2],atT n (tksI p a++[mkTk q o])⟩,Nat.le_trans (exD_mk (two d1 d2)) Ykn,lim9 (two l1 l2),fun f hf rest hc=>?_⟩;have ht:tksI p (a++(.bl 32::.tk o::.bl 32::b))++rest=tksI p a++(mkTk q o::(tksI (q+o.length+1) b++rest)):=by
   rw[tksI_app,tks_bl,tks_cons,tks_bl,hq];simp only[List.cons_append,List.append_assoc]
  rw[ht];have hc6:Cl6 (mkTk q o::(tksI (q+o.length+1) b++rest)):=by rcases ho with rfl|rfl<;>exact cl6_mk rfl rfl rfl rfl
  rcases ho with rfl|rfl
  .have b2:=bin2 (n:=n) (F:=bF d+45) Yhn (fun f hf=>h1 f hf _ hc6) (show operT 2 (mkTk q [97,110,100]::_)=some [97,110,100] from rfl) (fun f hf=>h2 f hf _ hc.c6) hc.o2;rw[at_app]at b2;exact upX (F:=bF d+49) (up1 (F:=bF d+48) Yhn b2 hc.o1) (hha.is p _) f Yhn
  .have a2:=up2 (n:=n) (F:=bF d+45) Yhn (fun f hf=>h1 f hf _ hc6) (show operT 2 (mkTk q [111,114]::_)=none from rfl);have b2:=up2 (n:=n) (F:=bF d+45) Yhn (fun f hf=>h2 f hf _ hc.c6) hc.o2;have b1:=bin1 (n:=n) (F:=bF d+46) Yhn a2 (show operT 1 (mkTk q [111,114]::_)=some [111,114] from rfl) b2 hc.o1;rw[at_app]at b1;exact upX (F:=bF d+49) b1 (hha.is p _) f Yhn)
 simpa using this
theorem pNeg{d:Nat}{a:List It}(ha:PB d a):PB (d+1) (.tk [110,111,116]::.bl 32::a):=fun p n=>by
 obtain⟨e,d1,l1,h1⟩:=ha (p+4) n;refine⟨⟨9,bst [110,111,116],0,[],[],[e],p⟩,Nat.le_trans (exD_mk (m:=bD d+1) (by simpa using d1)) Ykn,lim9 (by simpa using l1),fun f hf rest hc=>?_⟩;have ht:tksI p (.tk [110,111,116]::.bl 32::a)++rest=mkTk p [110,111,116]::(tksI (p+4) a++rest):=by
  rw[tks_cons,tks_bl];simp only[List.cons_append,List.length_cons,List.length_nil];rw[show p+((0+1+1+1:Nat):Int)+1=p+4 by omega]
 rw[ht];obtain⟨g,rfl,hg⟩:=succ_of (F:=bF d+45) (f:=f) (by unfold bF at*;omega);have:pLev3 n (g+1) (mkTk p [110,111,116]::(tksI (p+4) a++rest))=(pLev3 n g (tksI (p+4) a++rest)).bind fun x=>some (⟨9,bst [110,111,116],0,[],[],[x.1],p⟩,x.2):=rfl
 rw[this,h1 _ hg _ hc];rfl
theorem EI.read{V:List (List It)}(hV:∀v∈V,HdI v/\PI 0 v){b:Bool}{d:Nat}{a:List It}(h:EI V b d a)(hd:d<=10):(b=false->PI d a)/\(b=true->PB d a):=by
 have hV':∀v∈V,HdI v:=fun v hv=>(hV v hv).1
 have up0:∀(d:Nat) (v:List It),PI 0 v->PI d v:=fun d v h=>by
  induction d with
  |zero=>exact h
  |succ d ih=>exact ih.up
 induction h with
 |up _ ih=>exact⟨fun h=>((ih Yhn).1 h).up,fun h=>((ih Yhn).2 h).up⟩
 |num h=>exact⟨fun _=>pNum h,fun h=>by cases h⟩
 |var h=>exact⟨fun _=>up0 _ _ (hV _ h).2,fun h=>by cases h⟩
 |add ho ha hb iha ihb=>exact⟨fun _=>pAdd Yhn ho ((iha Yhn).1 rfl) ((ihb Yhn).1 rfl) ((ha.hd hV').1 rfl),fun h=>by cases h⟩
 |mul ht ha iha=>exact⟨fun _=>pMul ht ((iha Yhn).1 rfl),fun h=>by cases h⟩
 |mm hm ha hb iha ihb=>exact⟨fun _=>pMm Yhn hm ((iha Yhn).1 rfl) ((ihb Yhn).1 rfl) ((ha.hd hV').1 rfl) ((hb.hd hV').1 rfl),fun h=>by cases h⟩
 |ite hc ha hb ihc iha ihb=>exact⟨fun _=>pIte Yhn ((ihc Yhn).2 rfl) ((iha Yhn).1 rfl) ((ihb Yhn).1 rfl) (hc.hd hV').2 ((ha.hd hV').1 rfl) ((hb.hd hV').1 rfl),fun h=>by cases h⟩
 |lt ha hb iha ihb=>exact⟨fun _=>pLt Yhn ((iha Yhn).1 rfl) ((ihb Yhn).1 rfl) ((ha.hd hV').1 rfl),fun h=>by cases h⟩
 |cmp ho ha hb iha ihb=>exact⟨fun h=>Yiw,fun _=>pCmp Yhn ho ((iha Yhn).1 rfl) ((ihb Yhn).1 rfl) ((ha.hd hV').1 rfl)⟩
 |log ho ha hb iha ihb=>exact⟨fun h=>Yiw,fun _=>pLog ho ((iha Yhn).2 rfl) ((ihb Yhn).2 rfl) (ha.hd hV').2⟩
 |neg ha iha=>exact⟨fun h=>Yiw,fun _=>pNeg ((iha Yhn).2 rfl)⟩
end
section
variable{t:Bs}
def sepB(c:UInt8):Prop:=clsB c=0\/clsB c=6
theorem ok_num{c:UInt8}(h:t∈[[48],[49],[50],[51],[52],[53],[54],[55],[56],[57]])(hc:sepB c):okT t (some c)=true:=by
 have h3:(clsB c==3)=false:=by rcases hc with h|h<;>rw[h]<;>rfl
 have:∀b:UInt8,clsB b=3->bigT [b]=false->okT [b] (some c)=true:=fun b hb h=>by
  unfold okT;simp only[hb,h,List.cons_append,List.nil_append,endF,spanF,p3,h3];rfl
 simp only[List.mem_cons,List.not_mem_nil,or_false]at h;rcases h with rfl|rfl|rfl|rfl|rfl|rfl|rfl|rfl|rfl|rfl
 all_goals exact this _ rfl rfl
theorem ok_par(nx:Option UInt8):okT [40] nx=true:=by cases nx<;>rfl
theorem ok_cpar(nx:Option UInt8):okT [41] nx=true:=by cases nx<;>rfl
theorem ok_word{b:UInt8}{c:UInt8}(h1:clsB b=1)(h2:spanF p1 t=t.length)(h3:t.length<16)(hc:sepB c):okT (b::t) (some c)=true:=by
 have hcp:p1 (clsB c)=false:=by rcases hc with h|h<;>rw[h]<;>rfl
 have hs:spanF p1 (t++[c])=t.length:=by
  clear h3
  induction t with
  |nil=>simp only[List.nil_append,spanF,hcp];rfl
  |cons x t ih=>
   simp only[List.cons_append,spanF,List.length_cons]at h2 ⊢
   split at h2
   .rename_i hx;rw[if_pos hx,ih Yhn];omega
   .omega
 unfold okT;have hb:bigT (b::t)=false:=by
  unfold bigT;simp only[h1,List.length_cons];rw[decide_eq_false (show¬16<t.length+1 by omega)];rfl
 simp only[h1,hb,List.cons_append,endF,hs,List.length_cons,if_true];simp;omega
theorem sep_bl:sepB 32:=.inl rfl
theorem EI.ok{V:List (List It)}(hV:∀v∈V,∀c,sepB c->okI (some c) v=true){b:Bool}{d:Nat}{a:List It}(h:EI V b d a):∀c,sepB c->okI (some c) a=true:=by
 induction h with
 |up _ ih=>exact ih
 |num h=>intro c hc;simp only[okI,headI,Bool.and_true];exact ok_num h hc
 |var h=>exact hV _ h
 |add ho _ _ iha ihb=>
  intro c hc;simp only[okI,okI_app,headI,Bool.and_eq_true];refine Yfv ?_;rcases ho with rfl|rfl<;>rfl
 |mul ht _ iha=>
  intro c hc;simp only[okI,okI_app,headI,Bool.and_eq_true];exact⟨iha 32 sep_bl,rfl,rfl,rfl,ok_num ht hc,trivial⟩
 |mm hm _ _ iha ihb=>
  intro c hc;simp only[okI,okI_app,headI,Bool.and_eq_true];refine⟨?_,ok_par _,iha 44 (.inr rfl),rfl,rfl,ihb 41 (.inr rfl),ok_cpar _,trivial⟩;rcases hm with rfl|rfl<;>rfl
 |ite _ _ _ ihc iha ihb=>
  intro c hc;simp only[okI,okI_app,headI,Bool.and_eq_true];exact⟨ok_par _,rfl,rfl,ihc 32 sep_bl,rfl,rfl,rfl,iha 32 sep_bl,rfl,rfl,rfl,ihb 41 (.inr rfl),ok_cpar _,trivial⟩
 |lt _ _ iha ihb=>
  intro c hc;simp only[okI,okI_app,headI,Bool.and_eq_true];exact⟨ok_par _,rfl,rfl,rfl,rfl,rfl,rfl,iha 32 sep_bl,rfl,rfl,rfl,rfl,rfl,rfl,rfl,ihb 41 (.inr rfl),ok_cpar _,trivial⟩
 |cmp ho _ _ iha ihb=>
  intro c hc;simp only[okI,okI_app,headI,Bool.and_eq_true];refine Yfv ?_;rcases ho with rfl|rfl|rfl|rfl<;>rfl
 |log ho _ _ iha ihb=>
  intro c hc;simp only[okI,okI_app,headI,Bool.and_eq_true];refine Yfv ?_;rcases ho with rfl|rfl<;>rfl
 |neg _ iha=>
  intro c hc;simp only[okI,headI,Bool.and_eq_true];exact⟨rfl,rfl,iha c hc⟩
def bLn(b:Bool)(d:Nat):Nat:=if b then 38*6^d else 16*6^d
theorem EI.len{V:List (List It)}(hV:∀v∈V,(rnd v).length<=16){b:Bool}{d:Nat}{a:List It}(h:EI V b d a):(rnd a).length<=bLn b d:=by
 have h1:∀d:Nat,1<=6^d:=fun d=>Nat.one_le_pow _ _ Yhn
 have h6:∀d:Nat,6^(d+1)=6*6^d:=fun d=>by rw[Nat.pow_succ];omega
 induction h with
 | @up b d _ _ ih=>unfold bLn at*;rw[h6];have:=h1 d;split at ih<;>simp_all<;>omega
 | @num d t h=>
  have ht:t.length=1:=by
   simp only[List.mem_cons,List.not_mem_nil,or_false]at h;rcases h with rfl|rfl|rfl|rfl|rfl|rfl|rfl|rfl|rfl|rfl
   all_goals rfl
  have:=h1 d;simp[rnd,bLn,ht];omega
 | @var d v h=>have:=h1 d;have:=hV _ h;simp[bLn];omega
 | @add d o _ _ ho _ _ iha ihb=>
  have hl:o.length=1:=by rcases ho with rfl|rfl<;>rfl
  have:=h1 d;simp[rnd,rnd_app,bLn,hl,h6]at*;omega
 | @mul d t _ h _ iha=>
  have ht:t.length=1:=by
   simp only[List.mem_cons,List.not_mem_nil,or_false]at h;rcases h with rfl|rfl|rfl|rfl|rfl|rfl|rfl|rfl|rfl|rfl
   all_goals rfl
  have:=h1 d;simp[rnd,rnd_app,bLn,ht,h6]at*;omega
 | @mm d m _ _ hm _ _ iha ihb=>
  have hl:m.length=3:=by rcases hm with rfl|rfl<;>rfl
  have:=h1 d;simp[rnd,rnd_app,bLn,hl,h6]at*;omega
 | @ite d _ _ _ _ _ _ ihc iha ihb=>have:=h1 d;simp[rnd,rnd_app,bLn,h6]at*;omega
 | @lt d _ _ _ _ iha ihb=>have:=h1 d;simp[rnd,rnd_app,bLn,h6]at*;omega
 | @cmp d o _ _ ho _ _ iha ihb=>
  have hl:o.length<=2:=by rcases ho with rfl|rfl|rfl|rfl<;>simp
  have:=h1 d;simp[rnd,rnd_app,bLn]at*;omega
 | @log d o _ _ ho _ _ iha ihb=>
  have hl:o.length<=3:=by rcases ho with rfl|rfl<;>simp
  have:=h1 d;simp[rnd,rnd_app,bLn,h6]at*;omega
 | @neg d _ _ iha=>have:=h1 d;simp[rnd,bLn,h6]at*;omega
/-! ### the variables -/
def vX:List It:=[.tk [120]]
def vY:List It:=[.tk [121]]
def vS:List It:=[.tk [115,99,111,114,101],.tk [40],.tk [99],.tk [41]]
theorem var_x(ht:t=[120]\/t=[121]):HdI [.tk t]/\PI 0 [.tk t]:=by
 refine⟨by rcases ht with rfl|rfl<;>exact hd_lit rfl,?_⟩;refine PI.opnd fun p n=>⟨⟨2,bst t,0,[],[],[],p⟩,Yji,rfl,fun f hf rest hr=>?_⟩
 obtain⟨g,rfl,_⟩:=succ_of (F:=0) (f:=f) (by unfold bF at hf;omega);have:pOpnd n (g+1) (tksI p [.tk t]++rest)=(if isT [40] rest then(pExprs n g [41] rest.tail).bind fun x=>some (⟨3,bst t,0,[],[],x.1,p⟩,x.2) else some (⟨2,bst t,0,[],[],[],p⟩,rest)):=by
  rcases ht with rfl|rfl<;>rfl
 rw[this,hr];rfl
theorem var_s:HdI vS/\PI 0 vS:=by
 refine⟨hd_lit rfl,?_⟩;refine PI.opnd fun p n=>⟨⟨3,bst [115,99,111,114,101],0,[],[],[⟨2,bst [99],0,[],[],[],p+5+1⟩],p⟩,Yji,rfl,fun f hf rest hr=>?_⟩
 obtain⟨g,rfl⟩:∃g,f=g+15:=⟨f-15,by unfold bF at hf;omega⟩;clear hr hf
 kernel_rfl
theorem ok_x(ht:t=[120]\/t=[121])(c:UInt8)(hc:sepB c):okI (some c) [.tk t]=true:=by
 simp only[okI,headI,Bool.and_true];rcases ht with rfl|rfl<;>exact ok_word rfl rfl Yhs hc
theorem ok_s(c:UInt8)(hc:sepB c):okI (some c) vS=true:=by
 simp only[vS,okI,headI,Bool.and_eq_true];exact⟨rfl,ok_par _,rfl,ok_cpar _,trivial⟩
theorem vars1:(∀v∈[vX,vY],HdI v/\PI 0 v)/\(∀v∈[vX,vY],∀c,sepB c->okI (some c) v=true)/\∀v∈[vX,vY],(rnd v).length<=16:=by
 refine⟨two (var_x (.inl rfl)) (var_x (.inr rfl)),two (ok_x (.inl rfl)) (ok_x (.inr rfl)),two (by simp[vX,rnd]) (by simp[vY,rnd])⟩
theorem vars2:(∀v∈[vX],HdI v/\PI 0 v)/\(∀v∈[vX],∀c,sepB c->okI (some c) v=true)/\∀v∈[vX],(rnd v).length<=16:=by
 refine⟨fun v hv=>?_,fun v hv=>?_,fun v hv=>?_⟩
 all_goals rw[List.mem_singleton.1 hv]
 .exact var_x (.inl rfl)
 .exact ok_x (.inl rfl)
 .simp [vX,rnd]
theorem vars3:(∀v∈[vX,vS],HdI v/\PI 0 v)/\(∀v∈[vX,vS],∀c,sepB c->okI (some c) v=true)/\∀v∈[vX,vS],(rnd v).length<=16:=by
 refine⟨two (var_x (.inl rfl)) var_s,two (ok_x (.inl rfl)) ok_s,two (by simp[vX,rnd]) (by simp[vS,rnd])⟩
/-! ### the declarations that hold an expression -/
theorem lim_root{e:Ex}{m:Nat}(h:exD e<=m)(hm:m<=32)(hl:limE e=false):limRoot e=false:=by
 unfold limRoot ltN;rw[hl,Bool.or_false];cases hb:Nat.blt 32 (exD e)
 .rfl
 .have:=Nat.le_of_ble_eq_true hb;omega
theorem seg_fun{k:Nat}{nm:Bs}{pre a:List It}(hk:badN nm=false)(h0:∀nx,okI nx pre=true)(hd:∀(p n:Int),∃(at_:Int) (ps:List Pm) (ty:Ty),limPs ps=false/\limT ty=false/\∀X,pDecl n 200 (tksI p pre++X)=(pExpr n 200 X).bind fun x=>(takeT [59] x.2).bind fun r7=>some ({de0 with kind:=1,name:=bst nm,at_:=at_,params:=ps,type:=ty,body:=x.1},r7))
 (ha:∀c,sepB c->okI (some c) a=true) (hr:∀(p n:Int),∃e,exD e<=20/\limE e=false/\∀rest,ClA rest->pExpr n 200 (tksI p a++rest)=some (e,rest)):SegP 1 (pre++(a++[.tk [59],.bl 10])):=by
 refine⟨fun nx=>?_,fun p n rest=>?_⟩
 .rw [okI_app,okI_app,h0,Bool.true_and];have:okI nx [.tk [59],.bl 10]=true:=rfl;rw[this,Bool.and_true];exact ha 59 (.inr rfl)
 obtain⟨at_,ps,ty,h1,h2,h3⟩:=hd p n;obtain⟨e,h4,h5,h6⟩:=hr (p+(rnd pre).length) n;refine⟨{de0 with kind:=1,name:=bst nm,at_:=at_,params:=ps,type:=ty,body:=e},rfl,?_,hk,?_⟩
 .show (limPs ps||(limT ty||limRoot e))=false;rw[h1,h2,lim_root h4 Yhn h5];rfl
 .rw [tksI_app,tksI_app,List.append_assoc,List.append_assoc,h3];have hc:∀q,tksI q [.tk [59],.bl 10]++rest=mkTk q [59]::rest:=fun q=>rfl
  rw[hc,h6 _ (clA_mk rfl)];simp only[Option.bind_some,takeT_mk]
theorem PI.r200{a:List It}(h:PI 2 a)(hh:HdI a)(p n:Int):∃e,exD e<=20/\limE e=false/\∀rest,ClA rest->pExpr n 200 (tksI p a++rest)=some (e,rest):=by
 exact Ycs
theorem PB.r200{a:List It}(h:PB 2 a)(hh:HdB a)(p n:Int):∃e,exD e<=20/\limE e=false/\∀rest,ClA rest->pExpr n 200 (tksI p a++rest)=some (e,rest):=by
 exact Ycs
theorem PB.r199{a:List It}(h:PB 2 a)(hh:HdB a)(p n:Int):∃e,exD e<=20/\limE e=false/\∀rest,ClA rest->pExpr n 199 (tksI p a++rest)=some (e,rest):=by
 obtain⟨e,h1,h2,h3⟩:=h.exp hh p n;exact⟨e,by unfold bD at h1;omega,h2,fun rest hr=>h3 199 Ykm rest hr⟩
theorem s_f{a:List It}(h:EI [vX,vY] false 2 a):SegP 1 (c_f0++(a++c_f2)):=by
 refine seg_fun (k:=1) (nm:=[102]) rfl Ykp (fun p n=>⟨p+3+1,((pParams 200 (tksI p c_f0).tail.tail).getD ([],[])).1,⟨0,bst [],[]⟩,by kernel_rfl,by kernel_rfl,fun X=>by kernel_rfl⟩) (h.ok vars1.2.1) (((h.read vars1.1 Yhn).1 rfl).r200 ((h.hd (fun v hv=>(vars1.1 v hv).1)).1 rfl))
theorem s_ok{a:List It}(h:EI [vX] true 2 a):SegP 1 (c_ok0++(a++c_ok2)):=by
 refine seg_fun (k:=1) (nm:=[111,107]) rfl Ykp (fun p n=>⟨p+3+1,((pParams 200 (tksI p c_ok0).tail.tail).getD ([],[])).1,⟨1,bst [],[]⟩,by kernel_rfl,by kernel_rfl,fun X=>by kernel_rfl⟩) (h.ok vars2.2.1) (((h.read vars2.1 Yhn).2 rfl).r200 (h.hd (fun v hv=>(vars2.1 v hv).1)).2)
theorem col_ok1(nx:Option UInt8):okI nx c_colors0=true:=by kernel_rfl
theorem col_ok2(nx:Option UInt8):okI nx c_colors2=true:=by kernel_rfl
def colDr(p n:Int):List Dw:=((pDraws n false 200 (tksI (p+4+1+6) c_colorsB)).getD ([],[])).1
theorem col_lim(p n:Int):limDs (colDr p n)=false:=by kernel_rfl
def colR(p:Int)(X:List Tk):List Tk:=(tksI p c_colors0++X).drop 20
theorem col_readA(p n:Int)(X:List Tk):pDecl n 200 (tksI p c_colors0++X)=(pItems n 200 (colR p X)).bind fun z=>some ({de0 with kind:=3,name:=bst [99,111,108,111,114,115],at_:=p+4+1,draws:=colDr p n,checks:=z.1.1,classes:=z.1.2.1,claims:=z.1.2.2},z.2):=by kernel_rfl
theorem col_readB(p n:Int)(f:Nat)(X:List Tk):pItems n (f+1) (colR p X)=((pExpr n f X).bind fun x=>(takeT [59] x.2).bind fun r4=>pItGo n f [⟨bst [102,105,114,115,116],x.1⟩] [] [] r4).bind fun y=>(takeT [125] y.2).bind fun r3=>some (y.1,r3):=by kernel_rfl
def colCl(s n:Int):List Ck:=((pItGo n 199 [] [] [] (tksI s c_colors2).tail).getD (([],[],[]),[])).1.2.1
theorem col_lim2(s n:Int):limCk (colCl s n)=false:=by kernel_rfl
theorem col_read2(s n:Int)(x:Ck)(rest:List Tk):((pItGo n 199 [x] [] [] (tksI s c_colors2++rest).tail).bind fun y=>(takeT [125] y.2).bind fun r3=>some (y.1,r3))=some (([x],colCl s n,[]),rest):=by kernel_rfl
theorem col_semi(s:Int)(rest:List Tk):takeT [59] (tksI s c_colors2++rest)=some (tksI s c_colors2++rest).tail:=by kernel_rfl
theorem col_cl(s:Int)(rest:List Tk):ClA (tksI s c_colors2++rest):=by
 have hc:tksI s c_colors2++rest=mkTk s [59]::(tksI s c_colors2++rest).tail:=rfl;rw[hc];exact clA_mk rfl
theorem col_limF{e:Ex}{p n s:Int}(h:limRoot e=false):limD {de0 with kind:=3,name:=bst [99,111,108,111,114,115],at_:=p+4+1,draws:=colDr p n,checks:=[⟨bst [102,105,114,115,116],e⟩],classes:=colCl s n,claims:=[]}=false:=by
 show(limDs (colDr p n)||(limCk [⟨bst [102,105,114,115,116],e⟩]||limCk (colCl s n)))=false;rw[col_lim,col_lim2];show(false||((limRoot e||false)||false))=false;rw[h];rfl
theorem s_colors{a:List It}(h:EI [vX,vS] true 2 a):SegP 3 (c_colors0++(a++c_colors2)):=by
 refine⟨fun nx=>?_,fun p n rest=>?_⟩
 .rw [okI_app,okI_app,col_ok1,Bool.true_and,col_ok2,Bool.and_true];exact h.ok vars3.2.1 59 (.inr rfl)
 obtain⟨e,h4,h5,h6⟩:=((h.read vars3.1 Yhn).2 rfl).r199 (h.hd (fun v hv=>(vars3.1 v hv).1)).2 (p+(rnd c_colors0).length) n;have hp:pDecl n 200 (tksI p (c_colors0++(a++c_colors2))++rest)=some ({de0 with kind:=3,name:=bst [99,111,108,111,114,115],at_:=p+4+1,draws:=colDr p n,checks:=[⟨bst [102,105,114,115,116],e⟩],classes:=colCl (p+(rnd c_colors0).length+(rnd a).length) n,claims:=[]},rest):=by
  rw[tksI_app,tksI_app,List.append_assoc,List.append_assoc,col_readA,col_readB p n 199,h6 _ (col_cl _ _)];simp only[Option.bind_some,col_semi];rw[col_read2];rfl
 exact⟨_,rfl,col_limF (lim_root h4 Yhn h5),rfl,hp⟩
end
end Go.Rf
