/-
 Plain:the declarations of generated modules are of bounded size.
-/
import Derived.Test.YtggmccicdhnkgaaGreatZPd
import Derived.Test.YtggmccicdhnkgaaGreatZCg
import Derived.Test.YtggmccicdhnkgaaGreatZCv
set_option linter.all false
namespace Go.Rf
open Go.RowKit
variable{cmd:Bool}{d:De}{n:Int}{r r':List Tk}{f m:Nat}
mutual
def wE:Ex->Nat
 |⟨_,_,_,ns,_,ks,_⟩=>1+ns.length+wEs ks
def wEs:List Ex->Nat
 |[]=>0
 |e::l=>wE e+wEs l
end
mutual
def okE(A:Int->Prop):Ex->Prop
 |⟨_,_,_,_,_,ks,a⟩=>A a/\okEs A ks
def okEs(A:Int->Prop):List Ex->Prop
 |[]=>True
 |e::l=>okE A e/\okEs A l
end
theorem wEs_app(a b:List Ex):wEs (a++b)=wEs a+wEs b:=by
 induction a with
 |nil=>simp[wEs]
 |cons x a ih=>simp only[List.cons_append,wEs,ih];omega
theorem okEs_app{A:Int->Prop}(a b:List Ex):okEs A (a++b)↔okEs A a/\okEs A b:=by
 induction a with
 |nil=>simp[okEs]
 |cons x a ih=>simp only[List.cons_append,okEs,ih,and_assoc]
def TA(A:Int->Prop)(r:List Tk):Prop:=∀t∈r,A t.at_/\t.text.length<=100000
section
variable{A:Int->Prop}{n:Int}{r r1:List Tk}{t:Bs}{k:Nat}
theorem tk_isT(h:isT t r=true)(ha:TA A r):TA A r.tail/\r.tail.length+1<=r.length:=by
 cases r with
 |nil=>cases h
 |cons x r=>exact⟨fun y hy=>ha y (by simp at hy ⊢;exact .inr hy),by simp⟩
theorem tk_take(h:takeT t r=some r1)(ha:TA A r):TA A r1/\r1.length+1<=r.length:=by
 unfold takeT at h
 split at h
 .rename_i h1;cases h;exact tk_isT h1 ha
 .cases h
theorem tk_tok{x:Tk}(h:tokT k r=some (x,r1))(ha:TA A r):(A x.at_/\x.text.length<=100000)/\TA A r1/\r1.length+1<=r.length:=by
 cases r with
 |nil=>cases h
 |cons y r=>
  simp only[tokT]at h
  split at h
  .simp only[Option.some.injEq,Prod.mk.injEq]at h;obtain⟨rfl,rfl⟩:=h;exact⟨ha _ Yhs,fun z hz=>ha z (by simp[hz]),by simp⟩
  .cases h
theorem tk_oper{x:Bs}(h:operT k r=some x)(ha:TA A r):TA A r.tail/\r.tail.length+1<=r.length:=tk_isT (t:=x) (List.find?_some (p:=fun o=>isT o r) h) ha
theorem tk_at(hn:A n)(ha:TA A r):A (atT n r):=by
 cases r with
 |nil=>exact hn
 |cons x r=>exact(ha x Yhs).1
end
def GE(A:Int->Prop)(r:List Tk)(e:Ex)(r':List Tk):Prop:=okE A e/\TA A r'/\wE e+r'.length<=r.length
def GEs(A:Int->Prop)(r:List Tk)(l:List Ex)(r':List Tk):Prop:=okEs A l/\TA A r'/\wEs l+r'.length<=r.length
def GM(A:Int->Prop)(r r':List Tk):Prop:=TA A r'/\r'.length<=r.length
theorem pTyp_g{A:Int->Prop}:∀(f:Nat) {r:List Tk} {x:Ty} {r':List Tk},pTyp f r=some (x,r')->TA A r->GM A r r'
 |0,r,x,r',h,_=>by simp[pTyp]at h
 |f+1,r,x,r',h,ha=>by
  rw[pTyp]at h
  split at h
  .rename_i h1;have g:=tk_isT h1 ha;simp only[Option.some.injEq,Prod.mk.injEq]at h;obtain⟨rfl,rfl⟩:=h;exact⟨g.1,by omega⟩
  split at h
  .rename_i h1;have g:=tk_isT h1 ha;simp only[Option.some.injEq,Prod.mk.injEq]at h;obtain⟨rfl,rfl⟩:=h;exact⟨g.1,by omega⟩
  split at h
  .rename_i h1;have g:=tk_isT h1 ha;obtain⟨⟨x1,r1⟩,h1,h⟩:=Option.bind_eq_some_iff.1 h
   try simp only at h
   have g1:=pTyp_g f h1 g.1;exact Ycc
  .obtain ⟨⟨x1,r1⟩,h1,h⟩:=Option.bind_eq_some_iff.1 h
   try simp only at h
   have g1:=tk_tok h1 ha;exact Ydd
theorem pNmGo_g{A:Int->Prop}:∀(f:Nat) {r:List Tk} {x:List Bs} {r':List Tk},pNmGo f r=some (x,r')->TA A r->GM A r r'
 |0,r,x,r',h,_=>by simp[pNmGo]at h
 |f+1,r,x,r',h,ha=>by
  rw[pNmGo]at h;obtain⟨⟨x1,r1⟩,h1,h⟩:=Option.bind_eq_some_iff.1 h
  try simp only at h
  have g1:=tk_tok h1 ha
  try simp only at h
  split at h
  .rename_i h2;have g:=tk_isT h2 g1.2.1;obtain⟨⟨x3,r3⟩,h3,h⟩:=Option.bind_eq_some_iff.1 h
   try simp only at h
   have g3:=pNmGo_g f h3 g.1;simp only[Option.some.injEq,Prod.mk.injEq]at h;obtain⟨rfl,rfl⟩:=h;exact⟨g3.1,by have:=g3.2;omega⟩
  .simp only[Option.some.injEq,Prod.mk.injEq]at h;obtain⟨rfl,rfl⟩:=h;exact⟨g1.2.1,by omega⟩
theorem pNames_g{A:Int->Prop}{x:List Bs}(h:pNames f r=some (x,r'))(ha:TA A r):GM A r r':=by
 unfold pNames at h
 split at h
 .rename_i h1;have g:=tk_isT h1 ha;obtain⟨⟨x1,r1⟩,h1,h⟩:=Option.bind_eq_some_iff.1 h
  try simp only at h
  have g1:=pNmGo_g f h1 g.1;exact Ycc
 .simp only[Option.some.injEq,Prod.mk.injEq]at h;obtain⟨rfl,rfl⟩:=h;exact⟨ha,by omega⟩
structure PG (A:Int->Prop) (n:Int) (f:Nat):Prop where
 ex:∀{r e r'},pExpr n f r=some (e,r')->TA A r->GE A r e r'
 arms:∀{r} {x:List (Bs×List Bs×Ex)} {r'},pArms n f r=some (x,r')->TA A r->okEs A (x.map fun y=>y.2.2)/\TA A r'/\x.length+wEs (x.map fun y=>y.2.2)+r'.length<=r.length
 go:∀{r e r'},pExGo n f r=some (e,r')->TA A r->GEs A r e r'
 v1:∀{r e r'},pLev1 n f r=some (e,r')->TA A r->GE A r e r'
 o1:∀{a e0 r e r'},pOps1 n f a e0 r=some (e,r')->TA A r->A a->okE A e0->okE A e/\TA A r'/\wE e+r'.length<=wE e0+r.length
 v2:∀{r e r'},pLev2 n f r=some (e,r')->TA A r->GE A r e r'
 o2:∀{a e0 r e r'},pOps2 n f a e0 r=some (e,r')->TA A r->A a->okE A e0->okE A e/\TA A r'/\wE e+r'.length<=wE e0+r.length
 v3:∀{r e r'},pLev3 n f r=some (e,r')->TA A r->GE A r e r'
 v4:∀{r e r'},pLev4 n f r=some (e,r')->TA A r->GE A r e r'
 v5:∀{r e r'},pLev5 n f r=some (e,r')->TA A r->GE A r e r'
 o5:∀{a e0 r e r'},pOps5 n f a e0 r=some (e,r')->TA A r->A a->okE A e0->okE A e/\TA A r'/\wE e+r'.length<=wE e0+r.length
 v6:∀{r e r'},pLev6 n f r=some (e,r')->TA A r->GE A r e r'
 o6:∀{a e0 r e r'},pOps6 n f a e0 r=some (e,r')->TA A r->A a->okE A e0->okE A e/\TA A r'/\wE e+r'.length<=wE e0+r.length
 op:∀{r e r'},pOpnd n f r=some (e,r')->TA A r->GE A r e r'
 exs:∀{t r e r'},pExprs n f t r=some (e,r')->TA A r->GEs A r e r'
theorem PG.zero(A:Int->Prop)(n:Int):PG A n 0 where
 ex:=fun h=>by simp[pExpr]at h
 arms:=fun h=>by simp[pArms]at h
 go:=fun h=>by simp[pExGo]at h
 v1:=fun h=>by simp[pLev1]at h
 o1:=fun h=>by simp[pOps1]at h
 v2:=fun h=>by simp[pLev2]at h
 o2:=fun h=>by simp[pOps2]at h
 v3:=fun h=>by simp[pLev3]at h
 v4:=fun h=>by simp[pLev4]at h
 v5:=fun h=>by simp[pLev5]at h
 o5:=fun h=>by simp[pOps5]at h
 v6:=fun h=>by simp[pLev6]at h
 o6:=fun h=>by simp[pOps6]at h
 op:=fun h=>by simp[pOpnd]at h
 exs:=fun h=>by simp[pExprs]at h
set_option maxHeartbeats 4000000 in
theorem PG.succ{A:Int->Prop}(hn:A n)(ih:PG A n f):PG A n (f+1) where
 ex:=fun h ha=>by
  rw[pExpr]at h;have ga:=tk_at hn ha
  split at h
  .rename_i hc;have gc:=tk_isT hc ha;obtain⟨⟨x1,r1⟩,h1,h⟩:=Option.bind_eq_some_iff.1 h
   try simp only at h
   have g1:=ih.ex h1 gc.1;have l1:=g1.2.2;obtain⟨r2,h2,h⟩:=Option.bind_eq_some_iff.1 h;have g2:=tk_take h2 g1.2.1;obtain⟨⟨x3,r3⟩,h3,h⟩:=Option.bind_eq_some_iff.1 h
   try simp only at h
   have g3:=ih.ex h3 g2.1;have l3:=g3.2.2;obtain⟨r4,h4,h⟩:=Option.bind_eq_some_iff.1 h;have g4:=tk_take h4 g3.2.1;obtain⟨⟨x5,r5⟩,h5,h⟩:=Option.bind_eq_some_iff.1 h
   try simp only at h
   have g5:=ih.ex h5 g4.1;have l5:=g5.2.2;simp only[Option.some.injEq,Prod.mk.injEq]at h;obtain⟨rfl,rfl⟩:=h;exact⟨by simp only[okE,okEs,and_true];exact⟨ga,g1.1,g3.1,g5.1⟩,g5.2.1,by simp only[wE,wEs,List.length_nil,List.length_map,List.map_nil];omega⟩
  split at h
  .rename_i hc;have gc:=tk_isT hc ha;obtain⟨⟨x1,r1⟩,h1,h⟩:=Option.bind_eq_some_iff.1 h
   try simp only at h
   have g1:=tk_tok h1 gc.1;obtain⟨r2,h2,h⟩:=Option.bind_eq_some_iff.1 h;have g2:=tk_take h2 g1.2.1;obtain⟨⟨x3,r3⟩,h3,h⟩:=Option.bind_eq_some_iff.1 h
   try simp only at h
   have g3:=ih.ex h3 g2.1;have l3:=g3.2.2;obtain⟨r4,h4,h⟩:=Option.bind_eq_some_iff.1 h;have g4:=tk_take h4 g3.2.1;obtain⟨⟨x5,r5⟩,h5,h⟩:=Option.bind_eq_some_iff.1 h
   try simp only at h
   have g5:=ih.ex h5 g4.1;have l5:=g5.2.2;simp only[Option.some.injEq,Prod.mk.injEq]at h;obtain⟨rfl,rfl⟩:=h;exact⟨by simp only[okE,okEs,and_true];exact⟨ga,g3.1,g5.1⟩,g5.2.1,by simp only[wE,wEs,List.length_nil,List.length_map,List.map_nil];omega⟩
  split at h
  .rename_i hc;have gc:=tk_isT hc ha;obtain⟨⟨x1,r1⟩,h1,h⟩:=Option.bind_eq_some_iff.1 h
   try simp only at h
   have g1:=ih.ex h1 gc.1;have l1:=g1.2.2;obtain⟨r2,h2,h⟩:=Option.bind_eq_some_iff.1 h;have g2:=tk_take h2 g1.2.1;obtain⟨⟨x3,r3⟩,h3,h⟩:=Option.bind_eq_some_iff.1 h
   try simp only at h
   have g3:=ih.arms h3 g2.1;have l3:=g3.2.2;obtain⟨r4,h4,h⟩:=Option.bind_eq_some_iff.1 h;have g4:=tk_take h4 g3.2.1;simp only[Option.some.injEq,Prod.mk.injEq]at h;obtain⟨rfl,rfl⟩:=h;exact⟨by simp only[okE,okEs];exact⟨ga,g1.1,g3.1⟩,g4.1,by simp only[wE,wEs,List.length_nil,List.length_map,List.map_nil];omega⟩
  .exact ih.v1 h ha
 arms:=fun h ha=>by
  rw[pArms]at h;obtain⟨⟨x1,r1⟩,h1,h⟩:=Option.bind_eq_some_iff.1 h
  try simp only at h
  have g1:=tk_tok h1 ha;obtain⟨⟨x2,r2⟩,h2,h⟩:=Option.bind_eq_some_iff.1 h
  try simp only at h
  have g2:=pNames_g h2 g1.2.1;have l2:=g2.2;obtain⟨r3,h3,h⟩:=Option.bind_eq_some_iff.1 h;have g3:=tk_take h3 g2.1;obtain⟨⟨x4,r4⟩,h4,h⟩:=Option.bind_eq_some_iff.1 h
  try simp only at h
  have g4:=ih.ex h4 g3.1;have l4:=g4.2.2
  try simp only at h
  split at h
  .rename_i hc;have gc:=tk_isT hc g4.2.1;obtain⟨⟨x5,r5⟩,h5,h⟩:=Option.bind_eq_some_iff.1 h
   try simp only at h
   have g5:=ih.arms h5 gc.1;simp only[Option.some.injEq,Prod.mk.injEq]at h;obtain⟨rfl,rfl⟩:=h;exact⟨by simp only[List.map_cons,okEs];exact⟨g4.1,g5.1⟩,g5.2.1,by simp only[List.map_cons,wEs,List.length_cons];have:=g5.2.2;omega⟩
  .simp only[Option.some.injEq,Prod.mk.injEq]at h;obtain⟨rfl,rfl⟩:=h;exact⟨by simp only[List.map_cons,List.map_nil,okEs,and_true];exact g4.1,g4.2.1,by simp only[List.map_cons,List.map_nil,wEs,List.length_cons,List.length_nil];omega⟩
 go:=fun h ha=>by
  rw[pExGo]at h;obtain⟨⟨x1,r1⟩,h1,h⟩:=Option.bind_eq_some_iff.1 h
  try simp only at h
  have g1:=ih.ex h1 ha;have l1:=g1.2.2
  try simp only at h
  split at h
  .rename_i hc;have gc:=tk_isT hc g1.2.1;obtain⟨⟨x5,r5⟩,h5,h⟩:=Option.bind_eq_some_iff.1 h
   try simp only at h
   have g5:=ih.go h5 gc.1;simp only[Option.some.injEq,Prod.mk.injEq]at h;obtain⟨rfl,rfl⟩:=h;exact⟨by simp only[okEs];exact⟨g1.1,g5.1⟩,g5.2.1,by simp only[wEs];have:=g5.2.2;omega⟩
  .simp only[Option.some.injEq,Prod.mk.injEq]at h;obtain⟨rfl,rfl⟩:=h;exact⟨by simp only[okEs,and_true];exact g1.1,g1.2.1,by simp only[wEs];omega⟩
 v1:=fun h ha=>by
  rw[pLev1]at h;have ga:=tk_at hn ha;obtain⟨⟨x1,r1⟩,h1,h⟩:=Option.bind_eq_some_iff.1 h
  try simp only at h
  have g1:=ih.v2 h1 ha;have l1:=g1.2.2;have g2:=ih.o1 h g1.2.1 ga g1.1;exact⟨g2.1,g2.2.1,by have:=g2.2.2;omega⟩
 o1:=fun h ha hA h0=>by
  rw[pOps1]at h
  split at h
  .simp only[Option.some.injEq,Prod.mk.injEq]at h;obtain⟨rfl,rfl⟩:=h;exact⟨h0,ha,by omega⟩
  .rename_i b hc;have gc:=tk_oper hc ha;obtain⟨⟨x1,r1⟩,h1,h⟩:=Option.bind_eq_some_iff.1 h
   try simp only at h
   have g1:=ih.v2 h1 gc.1;have l1:=g1.2.2;have g2:=ih.o1 h g1.2.1 hA Yje;exact Ybs
 v2:=fun h ha=>by
  rw[pLev2]at h;have ga:=tk_at hn ha;obtain⟨⟨x1,r1⟩,h1,h⟩:=Option.bind_eq_some_iff.1 h
  try simp only at h
  have g1:=ih.v3 h1 ha;have l1:=g1.2.2;have g2:=ih.o2 h g1.2.1 ga g1.1;exact⟨g2.1,g2.2.1,by have:=g2.2.2;omega⟩
 o2:=fun h ha hA h0=>by
  rw[pOps2]at h
  split at h
  .simp only[Option.some.injEq,Prod.mk.injEq]at h;obtain⟨rfl,rfl⟩:=h;exact⟨h0,ha,by omega⟩
  .rename_i b hc;have gc:=tk_oper hc ha;obtain⟨⟨x1,r1⟩,h1,h⟩:=Option.bind_eq_some_iff.1 h
   try simp only at h
   have g1:=ih.v3 h1 gc.1;have l1:=g1.2.2;have g2:=ih.o2 h g1.2.1 hA Yje;exact Ybs
 v3:=fun h ha=>by
  rw[pLev3]at h;have ga:=tk_at hn ha
  split at h
  .rename_i hc;have gc:=tk_isT hc ha;obtain⟨⟨x1,r1⟩,h1,h⟩:=Option.bind_eq_some_iff.1 h
   try simp only at h
   have g1:=ih.v3 h1 gc.1;have l1:=g1.2.2;simp only[Option.some.injEq,Prod.mk.injEq]at h;obtain⟨rfl,rfl⟩:=h;exact⟨by simp only[okE,okEs,and_true];exact⟨ga,g1.1⟩,g1.2.1,by simp only[wE,wEs,List.length_nil,List.length_map,List.map_nil];omega⟩
  .exact ih.v4 h ha
 v4:=fun h ha=>by
  rw[pLev4]at h;have ga:=tk_at hn ha;obtain⟨⟨x1,r1⟩,h1,h⟩:=Option.bind_eq_some_iff.1 h
  try simp only at h
  have g1:=ih.v5 h1 ha;have l1:=g1.2.2
  try simp only at h
  split at h
  .simp only[Option.some.injEq,Prod.mk.injEq]at h;obtain⟨rfl,rfl⟩:=h;exact g1
  .rename_i b hc;have gc:=tk_oper hc g1.2.1;obtain⟨⟨x2,r2⟩,h2,h⟩:=Option.bind_eq_some_iff.1 h
   try simp only at h
   have g2:=ih.v5 h2 gc.1;have l2:=g2.2.2;simp only[Option.some.injEq,Prod.mk.injEq]at h;obtain⟨rfl,rfl⟩:=h;exact⟨by simp only[okE,okEs,and_true];exact⟨ga,g1.1,g2.1⟩,g2.2.1,by simp only[wE,wEs,List.length_nil];omega⟩
 v5:=fun h ha=>by
  rw[pLev5]at h;have ga:=tk_at hn ha;obtain⟨⟨x1,r1⟩,h1,h⟩:=Option.bind_eq_some_iff.1 h
  try simp only at h
  have g1:=ih.v6 h1 ha;have l1:=g1.2.2;have g2:=ih.o5 h g1.2.1 ga g1.1;exact⟨g2.1,g2.2.1,by have:=g2.2.2;omega⟩
 o5:=fun h ha hA h0=>by
  rw[pOps5]at h
  split at h
  .simp only[Option.some.injEq,Prod.mk.injEq]at h;obtain⟨rfl,rfl⟩:=h;exact⟨h0,ha,by omega⟩
  .rename_i b hc;have gc:=tk_oper hc ha;obtain⟨⟨x1,r1⟩,h1,h⟩:=Option.bind_eq_some_iff.1 h
   try simp only at h
   have g1:=ih.v6 h1 gc.1;have l1:=g1.2.2;have g2:=ih.o5 h g1.2.1 hA Yje;exact Ybs
 v6:=fun h ha=>by
  rw[pLev6]at h;have ga:=tk_at hn ha;obtain⟨⟨x1,r1⟩,h1,h⟩:=Option.bind_eq_some_iff.1 h
  try simp only at h
  have g1:=ih.op h1 ha;have l1:=g1.2.2;have g2:=ih.o6 h g1.2.1 ga g1.1;exact⟨g2.1,g2.2.1,by have:=g2.2.2;omega⟩
 o6:=fun h ha hA h0=>by
  rw[pOps6]at h
  split at h
  .simp only[Option.some.injEq,Prod.mk.injEq]at h;obtain⟨rfl,rfl⟩:=h;exact⟨h0,ha,by omega⟩
  .rename_i b hc;have gc:=tk_oper hc ha;obtain⟨⟨x1,r1⟩,h1,h⟩:=Option.bind_eq_some_iff.1 h
   try simp only at h
   have g1:=ih.op h1 gc.1;have l1:=g1.2.2;have g2:=ih.o6 h g1.2.1 hA Yje;exact Ybs
 op:=fun h ha=>by
  rw[pOpnd]at h;have ga:=tk_at hn ha
  split at h
  .rename_i hc;have gc:=tk_isT hc ha;obtain⟨⟨x1,r1⟩,h1,h⟩:=Option.bind_eq_some_iff.1 h
   try simp only at h
   have g1:=tk_tok h1 gc.1;exact Ybz
  split at h
  .rename_i hc;have gc:=tk_isT hc ha;exact Ycb
  split at h
  .rename_i hc;have gc:=tk_isT hc ha;exact Ycb
  split at h
  .rename_i hc;have gc:=tk_isT hc ha;obtain⟨⟨x1,r1⟩,h1,h⟩:=Option.bind_eq_some_iff.1 h
   try simp only at h
   have g1:=ih.ex h1 gc.1;exact Yca
  split at h
  .rename_i hc;have gc:=tk_isT hc ha;obtain⟨⟨x1,r1⟩,h1,h⟩:=Option.bind_eq_some_iff.1 h
   try simp only at h
   have g1:=ih.exs h1 gc.1;have l1:=g1.2.2;simp only[Option.some.injEq,Prod.mk.injEq]at h;obtain⟨rfl,rfl⟩:=h;exact⟨by simp only[okE];exact⟨ga,g1.1⟩,g1.2.1,by simp only[wE,wEs,List.length_nil,List.length_map,List.map_nil];omega⟩
  split at h
  .obtain ⟨⟨x1,r1⟩,h1,h⟩:=Option.bind_eq_some_iff.1 h
   try simp only at h
   have g1:=tk_tok h1 ha;exact Ybz
  split at h
  .obtain ⟨⟨x1,r1⟩,h1,h⟩:=Option.bind_eq_some_iff.1 h;exact Yy
  .obtain ⟨⟨x1,r1⟩,h1,h⟩:=Option.bind_eq_some_iff.1 h;exact Yy
 exs:=fun h ha=>by
  rw[pExprs]at h
  split at h
  .rename_i hc;have gc:=tk_isT hc ha;simp only[Option.some.injEq,Prod.mk.injEq]at h;obtain⟨rfl,rfl⟩:=h;exact⟨trivial,gc.1,by simp only[wEs];omega⟩
  .obtain ⟨⟨x1,r1⟩,h1,h⟩:=Option.bind_eq_some_iff.1 h
   try simp only at h
   have g1:=ih.go h1 ha;exact Yca
theorem pg{A:Int->Prop}(hn:A n):∀f,PG A n f
 |0=>PG.zero A n
 |f+1=>PG.succ hn (pg hn f)
theorem pBounds_g{A:Int->Prop}(hn:A n){x:List Ex}(h:pBounds n f r=some (x,r'))(ha:TA A r):GM A r r':=by
 unfold pBounds at h;obtain⟨⟨x1,r1⟩,h1,h⟩:=Option.bind_eq_some_iff.1 h
 try simp only at h
 have g1:=(pg hn f).ex h1 ha;have l1:=g1.2.2;obtain⟨r2,h2,h⟩:=Option.bind_eq_some_iff.1 h;have g2:=tk_take h2 g1.2.1;obtain⟨⟨x3,r3⟩,h3,h⟩:=Option.bind_eq_some_iff.1 h
 try simp only at h
 have g3:=(pg hn f).ex h3 g2.1;exact Ycx
structure PGn (A:Int->Prop) (n:Int) (f:Nat):Prop where
 gen:∀{r e r'},pGen n f r=some (e,r')->TA A r->GM A r r'
 wh:∀{a g r e r'},pWhere n f a g r=some (e,r')->TA A r->GM A r r'
 part:∀{r e r'},pPart n f r=some (e,r')->TA A r->GM A r r'
 one:∀{r} {e:List (Int×Gn)} {r'},pOne n f r=some (e,r')->TA A r->GM A r r'
 mke:∀{r} {e:List Gn} {r'},pMake n f r=some (e,r')->TA A r->GM A r r'
theorem PGn.zero(A:Int->Prop)(n:Int):PGn A n 0 where
 gen:=fun h=>by simp[pGen]at h
 wh:=fun h=>by simp[pWhere]at h
 part:=fun h=>by simp[pPart]at h
 one:=fun h=>by simp[pOne]at h
 mke:=fun h=>by simp[pMake]at h
set_option maxHeartbeats 4000000 in
theorem PGn.succ{A:Int->Prop}(hn:A n)(ih:PGn A n f):PGn A n (f+1) where
 gen:=fun h ha=>by
  rw[pGen]at h
  split at h
  .rename_i hc;have gc:=tk_isT hc ha;obtain⟨⟨x1,r1⟩,h1,h⟩:=Option.bind_eq_some_iff.1 h
   try simp only at h
   have g1:=tk_tok h1 gc.1;obtain⟨r2,h2,h⟩:=Option.bind_eq_some_iff.1 h;have g2:=tk_take h2 g1.2.1;obtain⟨⟨x3,r3⟩,h3,h⟩:=Option.bind_eq_some_iff.1 h
   try simp only at h
   have g3:=ih.gen h3 g2.1;have l3:=g3.2;obtain⟨r4,h4,h⟩:=Option.bind_eq_some_iff.1 h;have g4:=tk_take h4 g3.1;obtain⟨⟨x5,r5⟩,h5,h⟩:=Option.bind_eq_some_iff.1 h
   try simp only at h
   have g5:=ih.gen h5 g4.1;have l5:=g5.2;simp only[Option.some.injEq,Prod.mk.injEq]at h;obtain⟨rfl,rfl⟩:=h;exact⟨g5.1,by omega⟩
  .obtain ⟨⟨x1,r1⟩,h1,h⟩:=Option.bind_eq_some_iff.1 h
   try simp only at h
   have g1:=ih.part h1 ha;have l1:=g1.2;have g2:=ih.wh h g1.1;exact⟨g2.1,by have:=g2.2;omega⟩
 wh:=fun h ha=>by
  rw[pWhere]at h
  split at h
  .rename_i hc;have gc:=tk_isT hc ha;obtain⟨⟨x1,r1⟩,h1,h⟩:=Option.bind_eq_some_iff.1 h
   try simp only at h
   have g1:=tk_tok h1 gc.1;obtain⟨r2,h2,h⟩:=Option.bind_eq_some_iff.1 h;have g2:=tk_take h2 g1.2.1;obtain⟨⟨x3,r3⟩,h3,h⟩:=Option.bind_eq_some_iff.1 h
   try simp only at h
   have g3:=(pg hn f).ex h3 g2.1;have l3:=g3.2.2;have g4:=ih.wh h g3.2.1;exact⟨g4.1,by have:=g4.2;omega⟩
  .simp only[Option.some.injEq,Prod.mk.injEq]at h;obtain⟨rfl,rfl⟩:=h;exact⟨ha,by omega⟩
 part:=fun h ha=>by
  rw[pPart]at h
  split at h
  .rename_i hc;have gc:=tk_isT hc ha;obtain⟨⟨x1,r1⟩,h1,h⟩:=Option.bind_eq_some_iff.1 h
   try simp only at h
   have g1:=(pg hn f).ex h1 gc.1;have l1:=g1.2.2;exact Ydd
  split at h
  .rename_i hc;have gc:=tk_isT hc ha;obtain⟨⟨x1,r1⟩,h1,h⟩:=Option.bind_eq_some_iff.1 h
   try simp only at h
   have g1:=pBounds_g hn h1 gc.1;have l1:=g1.2;simp only[Option.some.injEq,Prod.mk.injEq]at h;obtain⟨rfl,rfl⟩:=h;exact⟨g1.1,by omega⟩
  split at h
  .rename_i hc;have gc:=tk_isT hc ha;obtain⟨⟨x1,r1⟩,h1,h⟩:=Option.bind_eq_some_iff.1 h
   try simp only at h
   have g1:=pBounds_g hn h1 gc.1;have l1:=g1.2;obtain⟨r2,h2,h⟩:=Option.bind_eq_some_iff.1 h;have g2:=tk_take h2 g1.1;obtain⟨⟨x3,r3⟩,h3,h⟩:=Option.bind_eq_some_iff.1 h
   try simp only at h
   have g3:=ih.part h3 g2.1;have l3:=g3.2;exact Ybj
  split at h
  .rename_i hc;have gc:=tk_isT hc ha;obtain⟨⟨x1,r1⟩,h1,h⟩:=Option.bind_eq_some_iff.1 h
   try simp only at h
   have g1:=ih.gen h1 gc.1;have l1:=g1.2;obtain⟨r2,h2,h⟩:=Option.bind_eq_some_iff.1 h;have g2:=tk_take h2 g1.1;simp only[Option.some.injEq,Prod.mk.injEq]at h;obtain⟨rfl,rfl⟩:=h;exact⟨g2.1,by omega⟩
  split at h
  .rename_i hc;have gc:=tk_isT hc ha;obtain⟨r1,h1,h⟩:=Option.bind_eq_some_iff.1 h;have g1:=tk_take h1 gc.1;obtain⟨⟨x2,r2⟩,h2,h⟩:=Option.bind_eq_some_iff.1 h
   try simp only at h
   have g2:=ih.one h2 g1.1;exact Ybi
  split at h
  .rename_i hc;have gc:=tk_isT hc ha;obtain⟨⟨x1,r1⟩,h1,h⟩:=Option.bind_eq_some_iff.1 h
   try simp only at h
   have g1:=tk_tok h1 gc.1;obtain⟨r2,h2,h⟩:=Option.bind_eq_some_iff.1 h;have g2:=tk_take h2 g1.2.1
   try simp only at h
   split at h
   .rename_i hc2;have gc2:=tk_isT hc2 g2.1;exact Ycf
   .obtain ⟨⟨x3,r3⟩,h3,h⟩:=Option.bind_eq_some_iff.1 h
    try simp only at h
    have g3:=ih.mke h3 g2.1;have l3:=g3.2;exact Ybj
  .obtain ⟨⟨x1,r1⟩,h1,h⟩:=Option.bind_eq_some_iff.1 h
   try simp only at h
   have g1:=tk_tok h1 ha;obtain⟨r2,h2,h⟩:=Option.bind_eq_some_iff.1 h;have g2:=tk_take h2 g1.2.1;obtain⟨⟨x3,r3⟩,h3,h⟩:=Option.bind_eq_some_iff.1 h
   try simp only at h
   have g3:=(pg hn f).exs h3 g2.1;exact Ycx
 one:=fun h ha=>by
  rw[pOne]at h;obtain⟨⟨x1,r1⟩,h1,h⟩:=Option.bind_eq_some_iff.1 h
  try simp only at h
  have g1:=tk_tok h1 ha;obtain⟨r2,h2,h⟩:=Option.bind_eq_some_iff.1 h;have g2:=tk_take h2 g1.2.1;obtain⟨⟨x3,r3⟩,h3,h⟩:=Option.bind_eq_some_iff.1 h
  try simp only at h
  have g3:=ih.gen h3 g2.1;have l3:=g3.2
  try simp only at h
  split at h
  .rename_i hc2;have gc2:=tk_isT hc2 g3.1;obtain⟨⟨x4,r4⟩,h4,h⟩:=Option.bind_eq_some_iff.1 h
   try simp only at h
   have g4:=ih.one h4 gc2.1;have l4:=g4.2;exact Ycg
  .simp only[Option.some.injEq,Prod.mk.injEq]at h;obtain⟨rfl,rfl⟩:=h;exact⟨g3.1,by omega⟩
 mke:=fun h ha=>by
  rw[pMake]at h;obtain⟨⟨x1,r1⟩,h1,h⟩:=Option.bind_eq_some_iff.1 h
  try simp only at h
  have g1:=ih.gen h1 ha;have l1:=g1.2
  try simp only at h
  split at h
  .rename_i hc2;have gc2:=tk_isT hc2 g1.1;obtain⟨⟨x4,r4⟩,h4,h⟩:=Option.bind_eq_some_iff.1 h
   try simp only at h
   have g4:=ih.mke h4 gc2.1;have l4:=g4.2;exact Ycg
  .obtain ⟨r4,h4,h⟩:=Option.bind_eq_some_iff.1 h;have g4:=tk_take h4 g1.1;exact Ycg
theorem pgn{A:Int->Prop}(hn:A n):∀f,PGn A n f
 |0=>PGn.zero A n
 |f+1=>PGn.succ hn (pgn hn f)
theorem pPmGo_g{A:Int->Prop}:∀(f:Nat) {r:List Tk} {x:List Pm} {r':List Tk},pPmGo f r=some (x,r')->TA A r->GM A r r'
 |0,r,x,r',h,_=>by simp[pPmGo]at h
 |f+1,r,x,r',h,ha=>by
  rw[pPmGo]at h;obtain⟨⟨x1,r1⟩,h1,h⟩:=Option.bind_eq_some_iff.1 h
  try simp only at h
  have g1:=tk_tok h1 ha;obtain⟨r2,h2,h⟩:=Option.bind_eq_some_iff.1 h;have g2:=tk_take h2 g1.2.1;obtain⟨⟨x3,r3⟩,h3,h⟩:=Option.bind_eq_some_iff.1 h
  try simp only at h
  have g3:=pTyp_g f h3 g2.1;have l3:=g3.2
  try simp only at h
  split at h
  .rename_i hc2;have gc2:=tk_isT hc2 g3.1;obtain⟨⟨x9,r9⟩,h9,h⟩:=Option.bind_eq_some_iff.1 h
   try simp only at h
   have g9:=pPmGo_g f h9 gc2.1;exact Ybl
  .simp only[Option.some.injEq,Prod.mk.injEq]at h;obtain⟨rfl,rfl⟩:=h;exact⟨g3.1,by omega⟩
theorem pParams_g{A:Int->Prop}{x:List Pm}(h:pParams f r=some (x,r'))(ha:TA A r):GM A r r':=by
 unfold pParams at h;obtain⟨r1,h1,h⟩:=Option.bind_eq_some_iff.1 h;have g1:=tk_take h1 ha
 split at h
 .rename_i hc2;have gc2:=tk_isT hc2 g1.1;exact Ycf
 .obtain ⟨⟨x2,r2⟩,h2,h⟩:=Option.bind_eq_some_iff.1 h
  try simp only at h
  have g2:=pPmGo_g f h2 g1.1;exact Ybi
theorem pDwGo_g{A:Int->Prop}(hn:A n):∀(f:Nat) {r:List Tk} {x:List Dw} {r':List Tk},pDwGo n cmd f r=some (x,r')->TA A r->GM A r r'
 |0,r,x,r',h,_=>by simp[pDwGo]at h
 |f+1,r,x,r',h,ha=>by
  rw[pDwGo]at h;obtain⟨⟨x1,r1⟩,h1,h⟩:=Option.bind_eq_some_iff.1 h
  try simp only at h
  have g1:=tk_tok h1 ha;obtain⟨r2,h2,h⟩:=Option.bind_eq_some_iff.1 h;have g2:=tk_take h2 g1.2.1;obtain⟨⟨x3,r3⟩,h3,h⟩:=Option.bind_eq_some_iff.1 h
  try simp only at h
  have g3:=pTyp_g f h3 g2.1;have l3:=g3.2;obtain⟨r4,h4,h⟩:=Option.bind_eq_some_iff.1 h;have g4:=tk_take h4 g3.1;obtain⟨⟨x5,r5⟩,h5,h⟩:=Option.bind_eq_some_iff.1 h
  try simp only at h
  have g5:GM A r4 r5:=by
   split at h5
   .rename_i hc;rw[Bool.and_eq_true]at hc;have gc:=tk_isT hc.2 g4.1;simp only[Option.some.injEq,Prod.mk.injEq]at h5;obtain⟨rfl,rfl⟩:=h5;exact⟨gc.1,by omega⟩
   .obtain ⟨⟨x6,r6⟩,h6,h5⟩:=Option.bind_eq_some_iff.1 h5
    try simp only at h5
    have g6:=(pgn hn f).gen h6 g4.1;simp only[Option.some.injEq,Prod.mk.injEq]at h5;obtain⟨rfl,rfl⟩:=h5;exact g6
  have l5:=g5.2
  try simp only at h
  split at h
  .rename_i hc2;have gc2:=tk_isT hc2 g5.1;obtain⟨⟨x9,r9⟩,h9,h⟩:=Option.bind_eq_some_iff.1 h
   try simp only at h
   have g9:=pDwGo_g hn f h9 gc2.1;exact Ybl
  .simp only[Option.some.injEq,Prod.mk.injEq]at h;obtain⟨rfl,rfl⟩:=h;exact⟨g5.1,by omega⟩
theorem pDraws_g{A:Int->Prop}(hn:A n){x:List Dw}(h:pDraws n cmd f r=some (x,r'))(ha:TA A r):GM A r r':=by
 unfold pDraws at h;obtain⟨r1,h1,h⟩:=Option.bind_eq_some_iff.1 h;have g1:=tk_take h1 ha
 split at h
 .rename_i hc2;have gc2:=tk_isT hc2 g1.1;exact Ycf
 .obtain ⟨⟨x2,r2⟩,h2,h⟩:=Option.bind_eq_some_iff.1 h
  try simp only at h
  have g2:=pDwGo_g hn f h2 g1.1;exact Ybi
theorem pTyGo_g{A:Int->Prop}:∀(f:Nat) {r:List Tk} {x:List Ty} {r':List Tk},pTyGo f r=some (x,r')->TA A r->GM A r r'
 |0,r,x,r',h,_=>by simp[pTyGo]at h
 |f+1,r,x,r',h,ha=>by
  rw[pTyGo]at h;obtain⟨⟨x1,r1⟩,h1,h⟩:=Option.bind_eq_some_iff.1 h
  try simp only at h
  have g1:=pTyp_g f h1 ha;have l1:=g1.2
  try simp only at h
  split at h
  .rename_i hc2;have gc2:=tk_isT hc2 g1.1;obtain⟨⟨x9,r9⟩,h9,h⟩:=Option.bind_eq_some_iff.1 h
   try simp only at h
   have g9:=pTyGo_g f h9 gc2.1;exact Ybl
  .simp only[Option.some.injEq,Prod.mk.injEq]at h;obtain⟨rfl,rfl⟩:=h;exact⟨g1.1,by omega⟩
theorem pCtors_g{A:Int->Prop}:∀(f:Nat) {r:List Tk} {x:List Ct} {r':List Tk},pCtors f r=some (x,r')->TA A r->GM A r r'
 |0,r,x,r',h,_=>by simp[pCtors]at h
 |f+1,r,x,r',h,ha=>by
  rw[pCtors]at h;obtain⟨⟨x1,r1⟩,h1,h⟩:=Option.bind_eq_some_iff.1 h
  try simp only at h
  have g1:=tk_tok h1 ha;obtain⟨⟨x5,r5⟩,h5,h⟩:=Option.bind_eq_some_iff.1 h
  try simp only at h
  have g5:GM A r1 r5:=by
   try simp only at h5
   split at h5
   .rename_i hc;have gc:=tk_isT hc g1.2.1;obtain⟨⟨x6,r6⟩,h6,h5⟩:=Option.bind_eq_some_iff.1 h5
    try simp only at h5
    have g6:=pTyGo_g f h6 gc.1;have l6:=g6.2;obtain⟨r7,h7,h5⟩:=Option.bind_eq_some_iff.1 h5;have g7:=tk_take h7 g6.1;simp only[Option.some.injEq,Prod.mk.injEq]at h5;obtain⟨rfl,rfl⟩:=h5;exact⟨g7.1,by omega⟩
   .simp only[Option.some.injEq,Prod.mk.injEq]at h5;obtain⟨rfl,rfl⟩:=h5;exact⟨g1.2.1,by omega⟩
  have l5:=g5.2
  try simp only at h
  split at h
  .rename_i hc2;have gc2:=tk_isT hc2 g5.1;obtain⟨⟨x9,r9⟩,h9,h⟩:=Option.bind_eq_some_iff.1 h
   try simp only at h
   have g9:=pCtors_g f h9 gc2.1;exact Ybl
  .simp only[Option.some.injEq,Prod.mk.injEq]at h;obtain⟨rfl,rfl⟩:=h;exact⟨g5.1,by omega⟩
def ckE(a b:List Ck):List Ex:=a.map Ck.expr++b.map Ck.expr
theorem wck{a b:List Ck}{t:ByteArray}{e:Ex}:wEs (ckE (a++[⟨t,e⟩]) b)=wEs (ckE a b)+wE e/\wEs (ckE a (b++[⟨t,e⟩]))=wEs (ckE a b)+wE e:=by
 unfold ckE;simp only[List.map_append,List.map_cons,List.map_nil,wEs_app,wEs];omega
theorem pItGo_g{A:Int->Prop}(hn:A n):∀(f:Nat) {a b:List Ck} {c:List Cl} {r:List Tk} {x:List Ck×List Ck×List Cl} {r':List Tk},pItGo n f a b c r=some (x,r')->TA A r->okEs A (ckE a b)->okEs A (ckE x.1 x.2.1)/\TA A r'/\wEs (ckE x.1 x.2.1)+r'.length<=wEs (ckE a b)+r.length
 |0,a,b,c,r,x,r',h,_,_=>by simp[pItGo]at h
 |f+1,a,b,c,r,x,r',h,ha,h0=>by
  rw[pItGo]at h
  split at h
  .rename_i hc;have gc:=tk_isT hc ha;obtain⟨⟨x1,r1⟩,h1,h⟩:=Option.bind_eq_some_iff.1 h
   try simp only at h
   have g1:=tk_tok h1 gc.1;obtain⟨⟨x2,r2⟩,h2,h⟩:=Option.bind_eq_some_iff.1 h
   try simp only at h
   have g2:=tk_tok h2 g1.2.1;obtain⟨r3,h3,h⟩:=Option.bind_eq_some_iff.1 h;have g3:=tk_take h3 g2.2.1;obtain⟨⟨x4,r4⟩,h4,h⟩:=Option.bind_eq_some_iff.1 h
   try simp only at h
   have g4:=tk_tok h4 g3.1;obtain⟨r5,h5,h⟩:=Option.bind_eq_some_iff.1 h;have g5:=tk_take h5 g4.2.1;have g6:=pItGo_g hn f h g5.1 h0;exact⟨g6.1,g6.2.1,by have:=g6.2.2;omega⟩
  split at h
  .rename_i hc;have gc:=tk_isT hc ha;obtain⟨⟨x1,r1⟩,h1,h⟩:=Option.bind_eq_some_iff.1 h
   try simp only at h
   have g1:=tk_tok h1 gc.1;obtain⟨r2,h2,h⟩:=Option.bind_eq_some_iff.1 h;have g2:=tk_take h2 g1.2.1;obtain⟨⟨x3,r3⟩,h3,h⟩:=Option.bind_eq_some_iff.1 h
   try simp only at h
   have g3:=(pg hn f).ex h3 g2.1;have l3:=g3.2.2;obtain⟨r4,h4,h⟩:=Option.bind_eq_some_iff.1 h;have g4:=tk_take h4 g3.2.1;have g6:=pItGo_g hn f h g4.1 (by unfold ckE at h0 ⊢;simp only[List.map_append,List.map_cons,List.map_nil,okEs_app,okEs,and_true]at h0 ⊢;exact⟨⟨h0.1,g3.1⟩,h0.2⟩);exact⟨g6.1,g6.2.1,by have:=g6.2.2;rw[wck.1]at this;omega⟩
  split at h
  .rename_i hc;have gc:=tk_isT hc ha;obtain⟨⟨x1,r1⟩,h1,h⟩:=Option.bind_eq_some_iff.1 h
   try simp only at h
   have g1:=tk_tok h1 gc.1;obtain⟨r2,h2,h⟩:=Option.bind_eq_some_iff.1 h;have g2:=tk_take h2 g1.2.1;obtain⟨⟨x3,r3⟩,h3,h⟩:=Option.bind_eq_some_iff.1 h
   try simp only at h
   have g3:=(pg hn f).ex h3 g2.1;have l3:=g3.2.2;obtain⟨r4,h4,h⟩:=Option.bind_eq_some_iff.1 h;have g4:=tk_take h4 g3.2.1;have g6:=pItGo_g hn f h g4.1 (by unfold ckE at h0 ⊢;simp only[List.map_append,List.map_cons,List.map_nil,okEs_app,okEs,and_true]at h0 ⊢;exact⟨h0.1,h0.2,g3.1⟩);exact⟨g6.1,g6.2.1,by have:=g6.2.2;rw[wck.2]at this;omega⟩
  .simp only[Option.some.injEq,Prod.mk.injEq]at h;obtain⟨rfl,rfl⟩:=h;exact⟨h0,ha,Nat.le_refl _⟩
theorem pItems_g{A:Int->Prop}(hn:A n){x:List Ck×List Ck×List Cl}(h:pItems n f r=some (x,r'))(ha:TA A r):okEs A (ckE x.1 x.2.1)/\TA A r'/\wEs (ckE x.1 x.2.1)+r'.length<=r.length:=by
 unfold pItems at h;obtain⟨r1,h1,h⟩:=Option.bind_eq_some_iff.1 h;have g1:=tk_take h1 ha;obtain⟨⟨x2,r2⟩,h2,h⟩:=Option.bind_eq_some_iff.1 h
 try simp only at h
 have g2:=pItGo_g hn f h2 g1.1 (by simp[ckE,okEs]);have l2:=g2.2.2;obtain⟨r3,h3,h⟩:=Option.bind_eq_some_iff.1 h;have g3:=tk_take h3 g2.2.1;simp only[Option.some.injEq,Prod.mk.injEq]at h;obtain⟨rfl,rfl⟩:=h;refine⟨g2.1,g3.1,?_⟩;have:wEs (ckE [] [])=0:=rfl;omega
theorem pState_g{A:Int->Prop}(hn:A n){x:Ty×Ex}(h:pState n f r=some (x,r'))(ha:TA A r):GE A r x.2 r':=by
 unfold pState at h;obtain⟨r1,h1,h⟩:=Option.bind_eq_some_iff.1 h;have g1:=tk_take h1 ha;obtain⟨r2,h2,h⟩:=Option.bind_eq_some_iff.1 h;have g2:=tk_take h2 g1.1;obtain⟨r3,h3,h⟩:=Option.bind_eq_some_iff.1 h;have g3:=tk_take h3 g2.1;obtain⟨⟨x4,r4⟩,h4,h⟩:=Option.bind_eq_some_iff.1 h
 try simp only at h
 have g4:=pTyp_g f h4 g3.1;have l4:=g4.2;obtain⟨r5,h5,h⟩:=Option.bind_eq_some_iff.1 h;have g5:=tk_take h5 g4.1;obtain⟨⟨x6,r6⟩,h6,h⟩:=Option.bind_eq_some_iff.1 h
 try simp only at h
 have g6:=(pg hn f).ex h6 g5.1;have l6:=g6.2.2;obtain⟨r7,h7,h⟩:=Option.bind_eq_some_iff.1 h;have g7:=tk_take h7 g6.2.1;simp only[Option.some.injEq,Prod.mk.injEq]at h;obtain⟨rfl,rfl⟩:=h;exact⟨g6.1,g7.1,by simp only;omega⟩
def cmE(a:List Cm):List Ex:=a.flatMap (fun c=>[c.pre,c.next,c.post])
theorem pCmGo_g{A:Int->Prop}(hn:A n):∀(f:Nat) {a:List Cm} {r:List Tk} {x:List Cm} {r':List Tk},pCmGo n f a r=some (x,r')->TA A r->okEs A (cmE a)->okEs A (cmE x)/\TA A r'/\x.length+wEs (cmE x)+r'.length<=a.length+wEs (cmE a)+r.length
 |0,a,r,x,r',h,_,_=>by simp[pCmGo]at h
 |f+1,a,r,x,r',h,ha,h0=>by
  rw[pCmGo]at h
  split at h
  .rename_i hc;have gc:=tk_isT hc ha;obtain⟨⟨x1,r1⟩,h1,h⟩:=Option.bind_eq_some_iff.1 h
   try simp only at h
   have g1:=tk_tok h1 gc.1;obtain⟨⟨x2,r2⟩,h2,h⟩:=Option.bind_eq_some_iff.1 h
   try simp only at h
   have g2:=pDraws_g hn h2 g1.2.1;have l2:=g2.2;obtain⟨r3,h3,h⟩:=Option.bind_eq_some_iff.1 h;have g3:=tk_take h3 g2.1;obtain⟨⟨x4,r4⟩,h4,h⟩:=Option.bind_eq_some_iff.1 h
   try simp only at h
   have g4:=(pg hn f).ex h4 g3.1;have l4:=g4.2.2;obtain⟨r5,h5,h⟩:=Option.bind_eq_some_iff.1 h;have g5:=tk_take h5 g4.2.1;obtain⟨⟨x6,r6⟩,h6,h⟩:=Option.bind_eq_some_iff.1 h
   try simp only at h
   have g6:=(pg hn f).ex h6 g5.1;have l6:=g6.2.2;obtain⟨r7,h7,h⟩:=Option.bind_eq_some_iff.1 h;have g7:=tk_take h7 g6.2.1;obtain⟨⟨x8,r8⟩,h8,h⟩:=Option.bind_eq_some_iff.1 h
   try simp only at h
   have g8:=(pg hn f).ex h8 g7.1;have l8:=g8.2.2;obtain⟨r9,h9,h⟩:=Option.bind_eq_some_iff.1 h;have g9:=tk_take h9 g8.2.1;have g10:=pCmGo_g hn f h g9.1 (by unfold cmE at h0 ⊢;simp only[List.flatMap_append,List.flatMap_cons,List.flatMap_nil,List.append_nil,okEs_app,okEs,and_true]at h0 ⊢;exact⟨h0,g4.1,g6.1,g8.1⟩);refine⟨g10.1,g10.2.1,?_⟩;have l10:=g10.2.2;unfold cmE at l10 ⊢;exact Ycl
  .simp only[Option.some.injEq,Prod.mk.injEq]at h;obtain⟨rfl,rfl⟩:=h;exact⟨h0,ha,Nat.le_refl _⟩
theorem pCmds_g{A:Int->Prop}(hn:A n){x:List Cm}(h:pCmds n f r=some (x,r'))(ha:TA A r):okEs A (cmE x)/\TA A r'/\x.length+wEs (cmE x)+r'.length<=r.length:=by
 unfold pCmds at h;obtain⟨r1,h1,h⟩:=Option.bind_eq_some_iff.1 h;have g1:=tk_take h1 ha;obtain⟨⟨x2,r2⟩,h2,h⟩:=Option.bind_eq_some_iff.1 h
 try simp only at h
 have g2:=pCmGo_g hn f h2 g1.1 (by simp[cmE,okEs]);have l2:=g2.2.2;obtain⟨r3,h3,h⟩:=Option.bind_eq_some_iff.1 h;have g3:=tk_take h3 g2.2.1;simp only[Option.some.injEq,Prod.mk.injEq]at h;obtain⟨rfl,rfl⟩:=h;refine⟨g2.1,g3.1,?_⟩;have:wEs (cmE [])=0:=rfl;simp only[List.length_nil]at l2;omega
def acE(a:List Ac):List Ex:=a.flatMap (fun c=>[c.shared,c.loc])
theorem pAcGo_g{A:Int->Prop}(hn:A n):∀(f:Nat) {a:List Ac} {r:List Tk} {x:List Ac} {r':List Tk},pAcGo n f a r=some (x,r')->TA A r->okEs A (acE a)->okEs A (acE x)/\TA A r'/\x.length+wEs (acE x)+r'.length<=a.length+wEs (acE a)+r.length
 |0,a,r,x,r',h,_,_=>by simp[pAcGo]at h
 |f+1,a,r,x,r',h,ha,h0=>by
  rw[pAcGo]at h
  split at h
  .rename_i hc;have gc:=tk_isT hc ha;obtain⟨⟨x1,r1⟩,h1,h⟩:=Option.bind_eq_some_iff.1 h
   try simp only at h
   have g1:=(pg hn f).ex h1 gc.1;have l1:=g1.2.2;obtain⟨r2,h2,h⟩:=Option.bind_eq_some_iff.1 h;have g2:=tk_take h2 g1.2.1;obtain⟨⟨x3,r3⟩,h3,h⟩:=Option.bind_eq_some_iff.1 h
   try simp only at h
   have g3:=(pg hn f).ex h3 g2.1;have l3:=g3.2.2;obtain⟨r4,h4,h⟩:=Option.bind_eq_some_iff.1 h;have g4:=tk_take h4 g3.2.1;have g10:=pAcGo_g hn f h g4.1 (by unfold acE at h0 ⊢;simp only[List.flatMap_append,List.flatMap_cons,List.flatMap_nil,List.append_nil,okEs_app,okEs,and_true]at h0 ⊢;exact⟨h0,g1.1,g3.1⟩);refine⟨g10.1,g10.2.1,?_⟩;have l10:=g10.2.2;unfold acE at l10 ⊢;exact Ycl
  .simp only[Option.some.injEq,Prod.mk.injEq]at h;obtain⟨rfl,rfl⟩:=h;exact⟨h0,ha,Nat.le_refl _⟩
def opE(a:List Op):List Ex:=a.flatMap (fun o=>acE o.acts)
theorem pOpGo_g{A:Int->Prop}(hn:A n):∀(f:Nat) {a:List Op} {r:List Tk} {x:List Op} {r':List Tk},pOpGo n f a r=some (x,r')->TA A r->okEs A (opE a)->okEs A (opE x)/\TA A r'/\x.length+wEs (opE x)+r'.length<=a.length+wEs (opE a)+r.length
 |0,a,r,x,r',h,_,_=>by simp[pOpGo]at h
 |f+1,a,r,x,r',h,ha,h0=>by
  rw[pOpGo]at h
  split at h
  .rename_i hc;have gc:=tk_isT hc ha;obtain⟨⟨x1,r1⟩,h1,h⟩:=Option.bind_eq_some_iff.1 h
   try simp only at h
   have g1:=tk_tok h1 gc.1;obtain⟨⟨x2,r2⟩,h2,h⟩:=Option.bind_eq_some_iff.1 h
   try simp only at h
   have g2:=pParams_g h2 g1.2.1;have l2:=g2.2;obtain⟨r3,h3,h⟩:=Option.bind_eq_some_iff.1 h;have g3:=tk_take h3 g2.1;obtain⟨⟨x4,r4⟩,h4,h⟩:=Option.bind_eq_some_iff.1 h
   try simp only at h
   have g4:=pAcGo_g hn f h4 g3.1 (by simp[acE,okEs]);have l4:=g4.2.2;obtain⟨r5,h5,h⟩:=Option.bind_eq_some_iff.1 h;have g5:=tk_take h5 g4.2.1;have g10:=pOpGo_g hn f h g5.1 (by unfold opE at h0 ⊢;simp only[List.flatMap_append,List.flatMap_cons,List.flatMap_nil,List.append_nil,okEs_app,okEs,and_true]at h0 ⊢;exact⟨h0,g4.1⟩);refine⟨g10.1,g10.2.1,?_⟩;have l10:=g10.2.2;have l40:wEs (acE [])=0:=rfl;unfold opE at l10 ⊢;simp only[List.flatMap_append,List.flatMap_cons,List.flatMap_nil,List.append_nil,wEs_app,wEs,List.length_append,List.length_cons,List.length_nil]at l10 l4;omega
  .simp only[Option.some.injEq,Prod.mk.injEq]at h;obtain⟨rfl,rfl⟩:=h;exact⟨h0,ha,Nat.le_refl _⟩
theorem pOps_g{A:Int->Prop}(hn:A n){x:List Op}(h:pOps n f r=some (x,r'))(ha:TA A r):okEs A (opE x)/\TA A r'/\x.length+wEs (opE x)+r'.length<=r.length:=by
 unfold pOps at h;obtain⟨r1,h1,h⟩:=Option.bind_eq_some_iff.1 h;have g1:=tk_take h1 ha;obtain⟨⟨x2,r2⟩,h2,h⟩:=Option.bind_eq_some_iff.1 h
 try simp only at h
 have g2:=pOpGo_g hn f h2 g1.1 (by simp[opE,okEs]);have l2:=g2.2.2;obtain⟨r3,h3,h⟩:=Option.bind_eq_some_iff.1 h;have g3:=tk_take h3 g2.2.1;simp only[Option.some.injEq,Prod.mk.injEq]at h;obtain⟨rfl,rfl⟩:=h;refine⟨g2.1,g3.1,?_⟩;have:wEs (opE [])=0:=rfl;simp only[List.length_nil]at l2;omega
structure GD (A:Int->Prop) (m:Nat) (d:De):Prop where
 ok:okEs A (partsD d)
 w:wEs (partsD d)<=m
 cmds:d.cmds.length<=m
 name:d.name.size<=100000
theorem GD.mono{A:Int->Prop}{m':Nat}(h:GD A m d)(hm:m<=m'):GD A m' d:=⟨h.ok,Nat.le_trans h.w hm,Nat.le_trans h.cmds hm,h.name⟩
set_option maxHeartbeats 4000000 in
theorem pDecl_g{A:Int->Prop}(hn:A n)(h:pDecl n f r=some (d,r'))(ha:TA A r):GD A r.length d/\TA A r'/\r'.length<=r.length:=by
 unfold pDecl at h;obtain⟨k,hk,h⟩:=Option.bind_eq_some_iff.1 h;have hk6:k<6:=(List.findIdx?_eq_some_iff_getElem.1 hk).1;have hat:TA A r.tail/\r.tail.length<=r.length:=⟨fun t ht=>ha t (List.mem_of_mem_tail ht),by simp⟩;obtain⟨⟨t,r1⟩,h1,h⟩:=Option.bind_eq_some_iff.1 h
 try simp only at h
 have g1:=tk_tok h1 hat.1;have hr1:r1.length<=r.length:=by omega
 have hnm:(bst t.text).size<=100000:=by rw[bst_size];exact g1.1.2
 try simp only at h
 split at h
 .rename_i hk0;subst hk0;obtain⟨r2,h2,h⟩:=Option.bind_eq_some_iff.1 h;have g2:=tk_take h2 g1.2.1;obtain⟨⟨x3,r3⟩,h3,h⟩:=Option.bind_eq_some_iff.1 h
  try simp only at h
  have g3:=pCtors_g f h3 g2.1;have l3:=g3.2;obtain⟨r4,h4,h⟩:=Option.bind_eq_some_iff.1 h;have g4:=tk_take h4 g3.1;simp only[Option.some.injEq,Prod.mk.injEq]at h;obtain⟨rfl,rfl⟩:=h;exact⟨⟨trivial,Nat.zero_le _,Nat.zero_le _,hnm⟩,g4.1,by omega⟩
 split at h
 .rename_i hk0;subst hk0;obtain⟨⟨x2,r2⟩,h2,h⟩:=Option.bind_eq_some_iff.1 h
  try simp only at h
  have g2:=pParams_g h2 g1.2.1;have l2:=g2.2;obtain⟨r3,h3,h⟩:=Option.bind_eq_some_iff.1 h;have g3:=tk_take h3 g2.1;obtain⟨⟨x4,r4⟩,h4,h⟩:=Option.bind_eq_some_iff.1 h
  try simp only at h
  have g4:=pTyp_g f h4 g3.1;have l4:=g4.2;obtain⟨r5,h5,h⟩:=Option.bind_eq_some_iff.1 h;have g5:=tk_take h5 g4.1;obtain⟨⟨x6,r6⟩,h6,h⟩:=Option.bind_eq_some_iff.1 h
  try simp only at h
  have g6:=(pg hn f).ex h6 g5.1;have l6:=g6.2.2;obtain⟨r7,h7,h⟩:=Option.bind_eq_some_iff.1 h;have g7:=tk_take h7 g6.2.1;simp only[Option.some.injEq,Prod.mk.injEq]at h;obtain⟨rfl,rfl⟩:=h;refine⟨⟨?_,?_,Nat.zero_le _,hnm⟩,g7.1,by omega⟩
  .exact ⟨g6.1,trivial⟩
  .show wEs [x6]<=_;simp only[wEs];omega
 split at h
 .rename_i hk0;subst hk0;obtain⟨⟨x2,r2⟩,h2,h⟩:=Option.bind_eq_some_iff.1 h
  try simp only at h
  have g2:=pParams_g h2 g1.2.1;have l2:=g2.2;obtain⟨r3,h3,h⟩:=Option.bind_eq_some_iff.1 h;have g3:=tk_take h3 g2.1;obtain⟨⟨x4,r4⟩,h4,h⟩:=Option.bind_eq_some_iff.1 h
  try simp only at h
  have g4:=pTyp_g f h4 g3.1;have l4:=g4.2;obtain⟨⟨x5,r5⟩,h5,h⟩:=Option.bind_eq_some_iff.1 h
  try simp only at h
  have g5:GM A r4 r5:=by
   try simp only at h5
   split at h5
   .rename_i hc;have gc:=tk_isT hc g4.1;obtain⟨⟨x6,r6⟩,h6,h5⟩:=Option.bind_eq_some_iff.1 h5
    try simp only at h5
    have g6:=tk_tok h6 gc.1;simp only[Option.some.injEq,Prod.mk.injEq]at h5;obtain⟨rfl,rfl⟩:=h5;exact⟨g6.2.1,by omega⟩
   .simp only[Option.some.injEq,Prod.mk.injEq]at h5;obtain⟨rfl,rfl⟩:=h5;exact⟨g4.1,by omega⟩
  have l5:=g5.2;obtain⟨r6,h6,h⟩:=Option.bind_eq_some_iff.1 h;have g6:=tk_take h6 g5.1;obtain⟨⟨x7,r7⟩,h7,h⟩:=Option.bind_eq_some_iff.1 h
  try simp only at h
  have g7:=(pgn hn f).gen h7 g6.1;have l7:=g7.2;obtain⟨r8,h8,h⟩:=Option.bind_eq_some_iff.1 h;have g8:=tk_take h8 g7.1;simp only[Option.some.injEq,Prod.mk.injEq]at h;obtain⟨rfl,rfl⟩:=h;exact⟨⟨trivial,Nat.zero_le _,Nat.zero_le _,hnm⟩,g8.1,by omega⟩
 split at h
 .rename_i hk0;subst hk0;obtain⟨⟨x2,r2⟩,h2,h⟩:=Option.bind_eq_some_iff.1 h
  try simp only at h
  have g2:=pDraws_g hn h2 g1.2.1;have l2:=g2.2;obtain⟨⟨x3,r3⟩,h3,h⟩:=Option.bind_eq_some_iff.1 h
  try simp only at h
  have g3:=pItems_g hn h3 g2.1;have l3:=g3.2.2;simp only[Option.some.injEq,Prod.mk.injEq]at h;obtain⟨rfl,rfl⟩:=h;refine⟨⟨g3.1,?_,Nat.zero_le _,hnm⟩,g3.2.1,by omega⟩;show wEs (ckE x3.1 x3.2.1)<=_;omega
 split at h
 .rename_i hk0;subst hk0;obtain⟨⟨x2,r2⟩,h2,h⟩:=Option.bind_eq_some_iff.1 h
  try simp only at h
  have g2:=pState_g hn h2 g1.2.1;have l2:=g2.2.2;obtain⟨⟨x3,r3⟩,h3,h⟩:=Option.bind_eq_some_iff.1 h
  try simp only at h
  have g3:=pCmds_g hn h3 g2.2.1;have l3:=g3.2.2;simp only[Option.some.injEq,Prod.mk.injEq]at h;obtain⟨rfl,rfl⟩:=h;refine⟨⟨⟨g2.1,g3.1⟩,?_,by simp only;omega,hnm⟩,g3.2.1,by omega⟩;show wEs (x2.2::cmE x3)<=_;simp only[wEs]at l2 ⊢;omega
 .rename_i k0 k1 k2 k3 k4;have hk5:k=5:=by omega
  subst hk5;obtain⟨⟨x2,r2⟩,h2,h⟩:=Option.bind_eq_some_iff.1 h
  try simp only at h
  have g2:=pState_g hn h2 g1.2.1;have l2:=g2.2.2;obtain⟨r3,h3,h⟩:=Option.bind_eq_some_iff.1 h;have g3:=tk_take h3 g2.2.1;obtain⟨⟨x4,r4⟩,h4,h⟩:=Option.bind_eq_some_iff.1 h
  try simp only at h
  have g4:=(pg hn f).ex h4 g3.1;have l4:=g4.2.2;obtain⟨⟨x5,r5⟩,h5,h⟩:=Option.bind_eq_some_iff.1 h
  try simp only at h
  have g5:=pOps_g hn h5 g4.2.1;have l5:=g5.2.2;simp only[Option.some.injEq,Prod.mk.injEq]at h;obtain⟨rfl,rfl⟩:=h;refine⟨⟨⟨g2.1,g4.1,g5.1⟩,?_,Nat.zero_le _,hnm⟩,g5.2.1,by omega⟩;show wEs (x2.2::x4::opE x5)<=_;simp only[wEs];omega
theorem pMod_g{A:Int->Prop}{F:Nat}(hn:A n):∀(f:Nat) {r:List Tk} {ds:List De},pMod n F f r=some ds->TA A r->∀d∈ds,GD A r.length d
 |0,r,ds,h,_=>by simp[pMod]at h
 |f+1,[],ds,h,_=>by
  simp only[pMod,Option.some.injEq]at h;subst h;simp
 |f+1,t::r,ds,h,ha=>by
  rw[pMod]at h;obtain⟨⟨d,r1⟩,h1,h⟩:=Option.bind_eq_some_iff.1 h
  try simp only at h
  have g1:=pDecl_g hn h1 ha;obtain⟨ds',h2,h⟩:=Option.bind_eq_some_iff.1 h;have g2:=pMod_g hn f h2 g1.2.1;simp only[Option.some.injEq]at h;subst h;intro x hx;rcases List.mem_cons.1 hx with rfl|hx
  .exact g1.1
  .exact (g2 x hx).mono g1.2.2
/-! ### what it means for branches and calls -/
mutual
theorem nodes_w:∀e:Ex,(nodesE e).length<=wE e
 |⟨k,nm,n,ns,bs,ks,a⟩=>by
  have:=nodess_w ks;simp only[nodesE,wE,List.length_cons];omega
theorem nodess_w:∀l:List Ex,(nodesEs l).length<=wEs l
 |[]=>Nat.le_refl _
 |e::l=>by
  have h1:=nodes_w e;have h2:=nodess_w l;simp only[nodesEs,wEs,List.length_append];omega
end
mutual
theorem arms_w(nm:ByteArray):∀e:Ex,((nodesE e).flatMap (brsE nm)).length<=2*wE e
 |⟨k,m,n,ns,bs,ks,a⟩=>by
  have h1:=armss_w nm ks;simp only[nodesE,wE,List.flatMap_cons,List.length_append,brsE,List.length_map,List.length_range];have h2:armsE ⟨k,m,n,ns,bs,ks,a⟩<=2+ns.length:=by unfold armsE;simp only;split<;>(try split)<;>omega
  have h3:((nodesEs ks).flatMap fun e=>(List.range (armsE e)).map fun(i:Nat)=>(⟨nm,e.at_,(i:Int)⟩:Br)).length<=2*wEs ks:=h1;omega
theorem armss_w(nm:ByteArray):∀l:List Ex,((nodesEs l).flatMap (brsE nm)).length<=2*wEs l
 |[]=>Nat.le_refl _
 |e::l=>by
  have h1:=arms_w nm e;have h2:=armss_w nm l;simp only[nodesEs,wEs,List.flatMap_append,List.length_append];omega
end
mutual
theorem nodes_ok{A:Int->Prop}:∀e:Ex,okE A e->∀x∈nodesE e,A x.at_
 |⟨k,nm,n,ns,bs,ks,a⟩,h=>by
  simp only[okE]at h;intro x hx;simp only[nodesE,List.mem_cons]at hx;rcases hx with rfl|hx
  .exact h.1
  .exact nodess_ok ks h.2 x hx
theorem nodess_ok{A:Int->Prop}:∀l:List Ex,okEs A l->∀x∈nodesEs l,A x.at_
 |[],_=>by simp[nodesEs]
 |e::l,h=>by
  simp only[okEs]at h;intro x hx;simp only[nodesEs,List.mem_append]at hx;rcases hx with hx|hx
  .exact nodes_ok e h.1 x hx
  .exact nodess_ok l h.2 x hx
end
theorem wEs_len:∀l:List Ex,l.length<=wEs l
 |[]=>Nat.le_refl _
 |e::l=>by
  have h1:=wEs_len l;have h2:1<=wE e:=by cases e;simp only[wE];omega
  simp only[List.length_cons,wEs];omega
def BrK(b:Br):Prop:=b.decl.size<=100000/\(0<=b.at_/\b.at_<=1000000)/\0<=b.arm/\b.arm<=1000000
theorem GD.br(h:GD (fun a=>0<=a/\a<=1000000) m d)(hm:m<=10000):∀b∈ofD d,BrK b:=by
 intro b hb;unfold ofD at hb;obtain⟨e,he,hb⟩:=List.mem_flatMap.1 hb;unfold brsE at hb;obtain⟨i,hi,rfl⟩:=List.mem_map.1 hb;have h1:=nodess_ok _ h.ok e he;have h2:(brsE d.name e).length<=((nodesEs (partsD d)).flatMap (brsE d.name)).length:=by
  obtain⟨a,b,hab⟩:=List.append_of_mem he;rw[hab];simp only[List.flatMap_append,List.flatMap_cons,List.length_append];omega
 have h3:=armss_w d.name (partsD d);have h4:=h.w;simp only[brsE,List.length_map,List.length_range]at h2;have h5:=List.mem_range.1 hi;exact⟨h.name,h1,by simp only;omega,by simp only;omega⟩
end Go.Rf
namespace Go.Rf
open Go.RowKit
def AP(a:Int):Prop:=0<=a/\a<=1000000
theorem ltN_no{n m:Nat}(h:ltN n m=false):m<=n:=by
 unfold ltN at h;exact Nat.le_of_not_lt (fun hlt=>by
  have h2:Nat.blt n m=true:=by rw[Nat.blt_eq];exact hlt
  rw[h]at h2;cases h2)
theorem limRoot_d{e:Ex}(h:limRoot e=false):exD e<=32:=by
 unfold limRoot at h;rw[Bool.or_eq_false_iff]at h;exact ltN_no h.1
theorem any_no'{α:Type}{p:α->Bool}{l:List α}(h:l.any p=false){x:α}(hx:x∈l):p x=false:=by
 have:=List.any_eq_false.1 h x hx;simpa using this
theorem okD_dep{d:De}(h:limD d=false):∀e∈partsD d,exD e<=32:=by
 intro e he;unfold partsD at he;unfold limD at h
 split at he
 .rename_i hk;rw[if_neg Yhn,if_pos hk]at h;simp only[Bool.or_eq_false_iff]at h;rw[List.mem_singleton.1 he];exact limRoot_d h.2.2
 split at he
 .rename_i hk;rw[if_neg Yhn,if_neg Yhn,if_neg Yhn,if_pos hk]at h;simp only[Bool.or_eq_false_iff,limCk]at h;rcases List.mem_append.1 he with he|he
  .obtain ⟨c,hc,rfl⟩:=List.mem_map.1 he;exact limRoot_d (any_no' h.2.1.2 hc)
  .obtain ⟨c,hc,rfl⟩:=List.mem_map.1 he;exact limRoot_d (any_no' h.2.2.1.2 hc)
 split at he
 .rename_i hk;rw[if_neg Yhn,if_neg Yhn,if_neg Yhn,if_neg Yhn,if_pos hk]at h;simp only[Bool.or_eq_false_iff]at h;rcases List.mem_cons.1 he with rfl|he
  .exact limRoot_d h.2.1
  .obtain ⟨c,hc,he⟩:=List.mem_flatMap.1 he;have hcm:=any_no' h.2.2.2 hc;simp only[limCm,Bool.or_eq_false_iff]at hcm;simp only[List.mem_cons,List.not_mem_nil,or_false]at he;rcases he with rfl|rfl|rfl
   .exact limRoot_d hcm.2.1
   .exact limRoot_d hcm.2.2.1
   .exact limRoot_d hcm.2.2.2
 split at he
 .rename_i hk;rw[if_neg Yhn,if_neg Yhn,if_neg Yhn,if_neg Yhn,if_neg Yhn,if_pos hk]at h;simp only[Bool.or_eq_false_iff]at h;rcases List.mem_cons.1 he with rfl|he
  .exact limRoot_d h.2.1
  rcases List.mem_cons.1 he with rfl|he
  .exact limRoot_d h.2.2.1
  .obtain ⟨c,hc,he⟩:=List.mem_flatMap.1 he;obtain⟨a,ha,he⟩:=List.mem_flatMap.1 he;have hcm:=any_no' h.2.2.2.2 hc;simp only[limOp,Bool.or_eq_false_iff]at hcm;have hac:=any_no' hcm.2.2 ha;rw[Bool.or_eq_false_iff]at hac;simp only[List.mem_cons,List.not_mem_nil,or_false]at he;rcases he with rfl|rfl
   .exact limRoot_d hac.1
   .exact limRoot_d hac.2
 .simp at he
end Go.Rf
namespace Go.Proofs.YtggmccicdhnkgaaGreat
open Go.Rf Go.RowKit
theorem MD.gd{ds:List De}(h:MD ds):∀d∈ds,GD AP 5500 d:=by
 obtain⟨_,_,n,f,t,hn,ht,hp⟩:=h;have hA:TA AP t:=fun x hx=>⟨⟨(ht.2 x hx).1.1,by have:=(ht.2 x hx).1.2;omega⟩,by have:=(ht.2 x hx).2;omega⟩
 exact fun d hd=>(pMod_g (A:=AP) ⟨hn.1,by omega⟩ f hp hA d hd).mono ht.1
theorem MD.sz{ds:List De}(h:MD ds):∀d∈ds,SzD d:=fun d hd=>by
 have hg:=h.gd d hd;have h1:=armss_w d.name (partsD d);have h2:=nodess_w (partsD d);have h3:=hg.w;have h4:=wEs_len (partsD d);have h5:=hg.cmds;refine⟨by omega,?_,fun e he=>by have:=okD_dep (h.2.1 d hd).1 e he;omega,by omega,?_⟩
 .show ((nodesEs (partsD d)).flatMap (brsE d.name)).length<=11000;omega
 .unfold callsE;rw[List.length_map];have:=List.length_filter_le (fun e=>decide (e.kind=3)) (nodesEs (partsD d));omega
theorem MD.len{ds:List De}(h:MD ds):ds.length=21:=by
 have:=congrArg List.length h.1;simpa[kinds]using this
theorem MD.br{ds:List De}(h:MD ds):∀d∈ds,∀b∈ofD d,BrK b:=fun d hd=>(h.gd d hd).br Yhn
end Go.Proofs.YtggmccicdhnkgaaGreat
