/-
 The reference's New,Props and Has;the law's prop,own and begin.
-/
import Derived.Test.YtggmccicdhnkgaaGreatWPe
import Derived.Test.YtggmccicdhnkgaaGreatWCg
import Derived.Test.YtggmccicdhnkgaaGreatWMs
import Derived.Test.YtggmccicdhnkgaaGreatWJc
import Derived.Test.YtggmccicdhnkgaaGreatWCw
set_option linter.all false
set_option maxHeartbeats 64000000
namespace Go.Rf
open Go.RowKit
section
variable{cmd:Bool}{d:De}{n:Int}{r':List Tk}{f m:Nat}
mutual
def wE:Ex->Nat
 |⟨_,_,_,ns,_,ks,_⟩=>1+ns.length+wEs ks
def wEs:List Ex->Nat
 |[]=>0
 |e::l=>wE e+wEs l
end
mutual
def okE(A:Int->Prop):Ex->Prop
 |⟨_,_,_,_,_,ks,a⟩=>A a/\Qn A ks
def Qn(A:Int->Prop):List Ex->Prop
 |[]=>True
 |e::l=>okE A e/\Qn A l
end
theorem JaF(a b:List Ex):wEs (a++b)=wEs a+wEs b:=by
 induction a with
 |nil=>simp[wEs]
 |cons x a ih=>simp only[CQ,wEs,ih];omega
theorem Zo{A:Int->Prop}(a b:List Ex):Qn A (a++b)↔Qn A a/\Qn A b:=by
 induction a with
 |nil=>simp[Qn]
 |cons x a ih=>simp only[CQ,Qn,ih,and_assoc]
def TA(A:Int->Prop)(r:List Tk):Prop:=∀t∈r,A t.at_/\t.text.length<=100000
section
variable{A:Int->Prop}{n:Int}{r r1:List Tk}{t:Bs}{k:Nat}
theorem JU(h:isT t r=true)(ha:TA A r):TA A r.tail/\r.tail.length+1<=r.length:=by
 cases r with
 |nil=>cases h
 |cons x r=>exact⟨fun y hy=>ha y (by simp at hy ⊢;exact .inr hy),by simp⟩
theorem Jr(h:JB t r=some r1)(ha:TA A r):TA A r1/\r1.length+1<=r.length:=by
 unfold JB at h
 split at h
 .rename_i h1;cases h;exact JU h1 ha
 .cases h
theorem Qg{x:Tk}(h:Vr k r=some (x,r1))(ha:TA A r):(A x.at_/\x.text.length<=100000)/\TA A r1/\r1.length+1<=r.length:=by
 cases r with
 |nil=>cases h
 |cons y r=>
  simp only[Vr]at h
  split at h
  .simp only[Sj,Sz]at h;obtain⟨rfl,rfl⟩:=h;exact⟨ha _ Yhs,fun z hz=>ha z (by simp[hz]),by simp⟩
  .cases h
theorem BM{x:Bs}(h:JW k r=some x)(ha:TA A r):TA A r.tail/\r.tail.length+1<=r.length:=JU (t:=x) (Hq (p:=fun o=>isT o r) h) ha
theorem LU(hn:A n)(ha:TA A r):A (atT n r):=by
 cases r with
 |nil=>exact hn
 |cons x r=>exact(ha x Yhs).1
end
def GE(A:Int->Prop)(r:List Tk)(e:Ex)(r':List Tk):Prop:=okE A e/\TA A r'/\wE e+r'.length<=r.length
def GEs(A:Int->Prop)(r:List Tk)(l:List Ex)(r':List Tk):Prop:=Qn A l/\TA A r'/\wEs l+r'.length<=r.length
def GM(A:Int->Prop)(r r':List Tk):Prop:=TA A r'/\r'.length<=r.length
theorem Bq{A:Int->Prop}:∀(f:Nat) {r:List Tk} {x:Ty} {r':List Tk},Lh f r=some (x,r')->TA A r->GM A r r'
 |0,r,x,r',h,_=>by simp[Lh]at h
 |f+1,r,x,r',h,ha=>by
  rw[Lh]at h
  split at h
  .rename_i h1;have g:=JU h1 ha;simp only[Sj,Sz]at h;obtain⟨rfl,rfl⟩:=h;exact⟨g.1,by omega⟩
  split at h
  .rename_i h1;have g:=JU h1 ha;simp only[Sj,Sz]at h;obtain⟨rfl,rfl⟩:=h;exact⟨g.1,by omega⟩
  split at h
  .rename_i h1;have g:=JU h1 ha;obtain⟨⟨x1,r1⟩,h1,h⟩:=Si.1 h
   try simp only at h
   have g1:=Bq f h1 g.1;exact Ycc
  .obtain ⟨⟨x1,r1⟩,h1,h⟩:=Si.1 h
   try simp only at h
   have g1:=Qg h1 ha;exact Ydd
theorem JdK{A:Int->Prop}:∀(f:Nat) {r:List Tk} {x:List Bs} {r':List Tk},Gs f r=some (x,r')->TA A r->GM A r r'
 |0,r,x,r',h,_=>by simp[Gs]at h
 |f+1,r,x,r',h,ha=>by
  rw[Gs]at h;obtain⟨⟨x1,r1⟩,h1,h⟩:=Si.1 h
  try simp only at h
  have g1:=Qg h1 ha
  try simp only at h
  split at h
  .rename_i h2;have g:=JU h2 g1.2.1;obtain⟨⟨x3,r3⟩,h3,h⟩:=Si.1 h
   try simp only at h
   have g3:=JdK f h3 g.1;simp only[Sj,Sz]at h;obtain⟨rfl,rfl⟩:=h;exact⟨g3.1,by have:=g3.2;omega⟩
  .simp only[Sj,Sz]at h;obtain⟨rfl,rfl⟩:=h;exact⟨g1.2.1,by omega⟩
theorem JfO{A:Int->Prop}{r:List Tk}{x:List Bs}(h:N7 f r=some (x,r'))(ha:TA A r):GM A r r':=by
 unfold N7 at h
 split at h
 .rename_i h1;have g:=JU h1 ha;obtain⟨⟨x1,r1⟩,h1,h⟩:=Si.1 h
  try simp only at h
  have g1:=JdK f h1 g.1;exact Ycc
 .simp only[Sj,Sz]at h;obtain⟨rfl,rfl⟩:=h;exact⟨ha,by omega⟩
structure PG (A:Int->Prop) (n:Int) (f:Nat):Prop where
 ex:∀{r e r'},J5 n f r=some (e,r')->TA A r->GE A r e r'
 arms:∀{r} {x:List (Bs×List Bs×Ex)} {r'},Ba n f r=some (x,r')->TA A r->Qn A (x.map fun y=>y.2.2)/\TA A r'/\x.length+wEs (x.map fun y=>y.2.2)+r'.length<=r.length
 go:∀{r e r'},Zm n f r=some (e,r')->TA A r->GEs A r e r'
 v1:∀{r e r'},Xp n f r=some (e,r')->TA A r->GE A r e r'
 o1:∀{a e0 r e r'},Zk n f a e0 r=some (e,r')->TA A r->A a->okE A e0->okE A e/\TA A r'/\wE e+r'.length<=wE e0+r.length
 v2:∀{r e r'},VZ n f r=some (e,r')->TA A r->GE A r e r'
 o2:∀{a e0 r e r'},Zj n f a e0 r=some (e,r')->TA A r->A a->okE A e0->okE A e/\TA A r'/\wE e+r'.length<=wE e0+r.length
 v3:∀{r e r'},Q7 n f r=some (e,r')->TA A r->GE A r e r'
 v4:∀{r e r'},Xo n f r=some (e,r')->TA A r->GE A r e r'
 v5:∀{r e r'},VL n f r=some (e,r')->TA A r->GE A r e r'
 o5:∀{a e0 r e r'},Zi n f a e0 r=some (e,r')->TA A r->A a->okE A e0->okE A e/\TA A r'/\wE e+r'.length<=wE e0+r.length
 v6:∀{r e r'},VD n f r=some (e,r')->TA A r->GE A r e r'
 o6:∀{a e0 r e r'},X0 n f a e0 r=some (e,r')->TA A r->A a->okE A e0->okE A e/\TA A r'/\wE e+r'.length<=wE e0+r.length
 op:∀{r e r'},Vj n f r=some (e,r')->TA A r->GE A r e r'
 exs:∀{t r e r'},Q8 n f t r=some (e,r')->TA A r->GEs A r e r'
theorem PG.zero(A:Int->Prop)(n:Int):PG A n 0 where
 ex:=fun h=>by simp[J5]at h
 arms:=fun h=>by simp[Ba]at h
 go:=fun h=>by simp[Zm]at h
 v1:=fun h=>by simp[Xp]at h
 o1:=fun h=>by simp[Zk]at h
 v2:=fun h=>by simp[VZ]at h
 o2:=fun h=>by simp[Zj]at h
 v3:=fun h=>by simp[Q7]at h
 v4:=fun h=>by simp[Xo]at h
 v5:=fun h=>by simp[VL]at h
 o5:=fun h=>by simp[Zi]at h
 v6:=fun h=>by simp[VD]at h
 o6:=fun h=>by simp[X0]at h
 op:=fun h=>by simp[Vj]at h
 exs:=fun h=>by simp[Q8]at h
theorem PG.succ{A:Int->Prop}(hn:A n)(ih:PG A n f):PG A n (f+1) where
 ex:=fun h ha=>by
  rw[J5]at h;have ga:=LU hn ha
  split at h
  .rename_i hc;have gc:=JU hc ha;obtain⟨⟨x1,r1⟩,h1,h⟩:=Si.1 h
   try simp only at h
   have g1:=ih.ex h1 gc.1;have l1:=g1.2.2;obtain⟨r2,h2,h⟩:=Si.1 h;have g2:=Jr h2 g1.2.1;obtain⟨⟨x3,r3⟩,h3,h⟩:=Si.1 h
   try simp only at h
   have g3:=ih.ex h3 g2.1;have l3:=g3.2.2;obtain⟨r4,h4,h⟩:=Si.1 h;have g4:=Jr h4 g3.2.1;obtain⟨⟨x5,r5⟩,h5,h⟩:=Si.1 h
   try simp only at h
   have g5:=ih.ex h5 g4.1;have l5:=g5.2.2;simp only[Sj,Sz]at h;obtain⟨rfl,rfl⟩:=h;exact⟨by simp only[okE,Qn,Eh];exact⟨ga,g1.1,g3.1,g5.1⟩,g5.2.1,by simp only[wE,wEs,SY,Sr,Ec];omega⟩
  split at h
  .rename_i hc;have gc:=JU hc ha;obtain⟨⟨x1,r1⟩,h1,h⟩:=Si.1 h
   try simp only at h
   have g1:=Qg h1 gc.1;obtain⟨r2,h2,h⟩:=Si.1 h;have g2:=Jr h2 g1.2.1;obtain⟨⟨x3,r3⟩,h3,h⟩:=Si.1 h
   try simp only at h
   have g3:=ih.ex h3 g2.1;have l3:=g3.2.2;obtain⟨r4,h4,h⟩:=Si.1 h;have g4:=Jr h4 g3.2.1;obtain⟨⟨x5,r5⟩,h5,h⟩:=Si.1 h
   try simp only at h
   have g5:=ih.ex h5 g4.1;have l5:=g5.2.2;simp only[Sj,Sz]at h;obtain⟨rfl,rfl⟩:=h;exact⟨by simp only[okE,Qn,Eh];exact⟨ga,g3.1,g5.1⟩,g5.2.1,by simp only[wE,wEs,SY,Sr,Ec];omega⟩
  split at h
  .rename_i hc;have gc:=JU hc ha;obtain⟨⟨x1,r1⟩,h1,h⟩:=Si.1 h
   try simp only at h
   have g1:=ih.ex h1 gc.1;have l1:=g1.2.2;obtain⟨r2,h2,h⟩:=Si.1 h;have g2:=Jr h2 g1.2.1;obtain⟨⟨x3,r3⟩,h3,h⟩:=Si.1 h
   try simp only at h
   have g3:=ih.arms h3 g2.1;have l3:=g3.2.2;obtain⟨r4,h4,h⟩:=Si.1 h;have g4:=Jr h4 g3.2.1;simp only[Sj,Sz]at h;obtain⟨rfl,rfl⟩:=h;exact⟨by simp only[okE,Qn];exact⟨ga,g1.1,g3.1⟩,g4.1,by simp only[wE,wEs,SY,Sr,Ec];omega⟩
  .exact ih.v1 h ha
 arms:=fun h ha=>by
  rw[Ba]at h;obtain⟨⟨x1,r1⟩,h1,h⟩:=Si.1 h
  try simp only at h
  have g1:=Qg h1 ha;obtain⟨⟨x2,r2⟩,h2,h⟩:=Si.1 h
  try simp only at h
  have g2:=JfO h2 g1.2.1;have l2:=g2.2;obtain⟨r3,h3,h⟩:=Si.1 h;have g3:=Jr h3 g2.1;obtain⟨⟨x4,r4⟩,h4,h⟩:=Si.1 h
  try simp only at h
  have g4:=ih.ex h4 g3.1;have l4:=g4.2.2
  try simp only at h
  split at h
  .rename_i hc;have gc:=JU hc g4.2.1;obtain⟨⟨x5,r5⟩,h5,h⟩:=Si.1 h
   try simp only at h
   have g5:=ih.arms h5 gc.1;simp only[Sj,Sz]at h;obtain⟨rfl,rfl⟩:=h;exact⟨by simp only[DL,Qn];exact⟨g4.1,g5.1⟩,g5.2.1,by simp only[DL,wEs,SI];have:=g5.2.2;omega⟩
  .simp only[Sj,Sz]at h;obtain⟨rfl,rfl⟩:=h;exact⟨by simp only[DL,Ec,Qn,Eh];exact g4.1,g4.2.1,by simp only[DL,Ec,wEs,SI,SY];omega⟩
 go:=fun h ha=>by
  rw[Zm]at h;obtain⟨⟨x1,r1⟩,h1,h⟩:=Si.1 h
  try simp only at h
  have g1:=ih.ex h1 ha;have l1:=g1.2.2
  try simp only at h
  split at h
  .rename_i hc;have gc:=JU hc g1.2.1;obtain⟨⟨x5,r5⟩,h5,h⟩:=Si.1 h
   try simp only at h
   have g5:=ih.go h5 gc.1;simp only[Sj,Sz]at h;obtain⟨rfl,rfl⟩:=h;exact⟨by simp only[Qn];exact⟨g1.1,g5.1⟩,g5.2.1,by simp only[wEs];have:=g5.2.2;omega⟩
  .simp only[Sj,Sz]at h;obtain⟨rfl,rfl⟩:=h;exact⟨by simp only[Qn,Eh];exact g1.1,g1.2.1,by simp only[wEs];omega⟩
 v1:=fun h ha=>by
  rw[Xp]at h;have ga:=LU hn ha;obtain⟨⟨x1,r1⟩,h1,h⟩:=Si.1 h
  try simp only at h
  have g1:=ih.v2 h1 ha;have l1:=g1.2.2;have g2:=ih.o1 h g1.2.1 ga g1.1;exact⟨g2.1,g2.2.1,by have:=g2.2.2;omega⟩
 o1:=fun h ha hA h0=>by
  rw[Zk]at h
  split at h
  .simp only[Sj,Sz]at h;obtain⟨rfl,rfl⟩:=h;exact⟨h0,ha,by omega⟩
  .rename_i b hc;have gc:=BM hc ha;obtain⟨⟨x1,r1⟩,h1,h⟩:=Si.1 h
   try simp only at h
   have g1:=ih.v2 h1 gc.1;have l1:=g1.2.2;have g2:=ih.o1 h g1.2.1 hA Yje;exact Ybs
 v2:=fun h ha=>by
  rw[VZ]at h;have ga:=LU hn ha;obtain⟨⟨x1,r1⟩,h1,h⟩:=Si.1 h
  try simp only at h
  have g1:=ih.v3 h1 ha;have l1:=g1.2.2;have g2:=ih.o2 h g1.2.1 ga g1.1;exact⟨g2.1,g2.2.1,by have:=g2.2.2;omega⟩
 o2:=fun h ha hA h0=>by
  rw[Zj]at h
  split at h
  .simp only[Sj,Sz]at h;obtain⟨rfl,rfl⟩:=h;exact⟨h0,ha,by omega⟩
  .rename_i b hc;have gc:=BM hc ha;obtain⟨⟨x1,r1⟩,h1,h⟩:=Si.1 h
   try simp only at h
   have g1:=ih.v3 h1 gc.1;have l1:=g1.2.2;have g2:=ih.o2 h g1.2.1 hA Yje;exact Ybs
 v3:=fun h ha=>by
  rw[Q7]at h;have ga:=LU hn ha
  split at h
  .rename_i hc;have gc:=JU hc ha;obtain⟨⟨x1,r1⟩,h1,h⟩:=Si.1 h
   try simp only at h
   have g1:=ih.v3 h1 gc.1;have l1:=g1.2.2;simp only[Sj,Sz]at h;obtain⟨rfl,rfl⟩:=h;exact⟨by simp only[okE,Qn,Eh];exact⟨ga,g1.1⟩,g1.2.1,by simp only[wE,wEs,SY,Sr,Ec];omega⟩
  .exact ih.v4 h ha
 v4:=fun h ha=>by
  rw[Xo]at h;have ga:=LU hn ha;obtain⟨⟨x1,r1⟩,h1,h⟩:=Si.1 h
  try simp only at h
  have g1:=ih.v5 h1 ha;have l1:=g1.2.2
  try simp only at h
  split at h
  .simp only[Sj,Sz]at h;obtain⟨rfl,rfl⟩:=h;exact g1
  .rename_i b hc;have gc:=BM hc g1.2.1;obtain⟨⟨x2,r2⟩,h2,h⟩:=Si.1 h
   try simp only at h
   have g2:=ih.v5 h2 gc.1;have l2:=g2.2.2;simp only[Sj,Sz]at h;obtain⟨rfl,rfl⟩:=h;exact⟨by simp only[okE,Qn,Eh];exact⟨ga,g1.1,g2.1⟩,g2.2.1,by simp only[wE,wEs,SY];omega⟩
 v5:=fun h ha=>by
  rw[VL]at h;have ga:=LU hn ha;obtain⟨⟨x1,r1⟩,h1,h⟩:=Si.1 h
  try simp only at h
  have g1:=ih.v6 h1 ha;have l1:=g1.2.2;have g2:=ih.o5 h g1.2.1 ga g1.1;exact⟨g2.1,g2.2.1,by have:=g2.2.2;omega⟩
 o5:=fun h ha hA h0=>by
  rw[Zi]at h
  split at h
  .simp only[Sj,Sz]at h;obtain⟨rfl,rfl⟩:=h;exact⟨h0,ha,by omega⟩
  .rename_i b hc;have gc:=BM hc ha;obtain⟨⟨x1,r1⟩,h1,h⟩:=Si.1 h
   try simp only at h
   have g1:=ih.v6 h1 gc.1;have l1:=g1.2.2;have g2:=ih.o5 h g1.2.1 hA Yje;exact Ybs
 v6:=fun h ha=>by
  rw[VD]at h;have ga:=LU hn ha;obtain⟨⟨x1,r1⟩,h1,h⟩:=Si.1 h
  try simp only at h
  have g1:=ih.op h1 ha;have l1:=g1.2.2;have g2:=ih.o6 h g1.2.1 ga g1.1;exact⟨g2.1,g2.2.1,by have:=g2.2.2;omega⟩
 o6:=fun h ha hA h0=>by
  rw[X0]at h
  split at h
  .simp only[Sj,Sz]at h;obtain⟨rfl,rfl⟩:=h;exact⟨h0,ha,by omega⟩
  .rename_i b hc;have gc:=BM hc ha;obtain⟨⟨x1,r1⟩,h1,h⟩:=Si.1 h
   try simp only at h
   have g1:=ih.op h1 gc.1;have l1:=g1.2.2;have g2:=ih.o6 h g1.2.1 hA Yje;exact Ybs
 op:=fun h ha=>by
  rw[Vj]at h;have ga:=LU hn ha
  split at h
  .rename_i hc;have gc:=JU hc ha;obtain⟨⟨x1,r1⟩,h1,h⟩:=Si.1 h
   try simp only at h
   have g1:=Qg h1 gc.1;exact Ybz
  split at h
  .rename_i hc;have gc:=JU hc ha;exact Ycb
  split at h
  .rename_i hc;have gc:=JU hc ha;exact Ycb
  split at h
  .rename_i hc;have gc:=JU hc ha;obtain⟨⟨x1,r1⟩,h1,h⟩:=Si.1 h
   try simp only at h
   have g1:=ih.ex h1 gc.1;exact Yca
  split at h
  .rename_i hc;have gc:=JU hc ha;obtain⟨⟨x1,r1⟩,h1,h⟩:=Si.1 h
   try simp only at h
   have g1:=ih.exs h1 gc.1;have l1:=g1.2.2;simp only[Sj,Sz]at h;obtain⟨rfl,rfl⟩:=h;exact⟨by simp only[okE];exact⟨ga,g1.1⟩,g1.2.1,by simp only[wE,wEs,SY,Sr,Ec];omega⟩
  split at h
  .obtain ⟨⟨x1,r1⟩,h1,h⟩:=Si.1 h
   try simp only at h
   have g1:=Qg h1 ha;exact Ybz
  split at h
  .obtain ⟨⟨x1,r1⟩,h1,h⟩:=Si.1 h;exact Yy
  .obtain ⟨⟨x1,r1⟩,h1,h⟩:=Si.1 h;exact Yy
 exs:=fun h ha=>by
  rw[Q8]at h
  split at h
  .rename_i hc;have gc:=JU hc ha;simp only[Sj,Sz]at h;obtain⟨rfl,rfl⟩:=h;exact⟨trivial,gc.1,by simp only[wEs];omega⟩
  .obtain ⟨⟨x1,r1⟩,h1,h⟩:=Si.1 h
   try simp only at h
   have g1:=ih.go h1 ha;exact Yca
theorem pg{A:Int->Prop}(hn:A n):∀f,PG A n f
 |0=>PG.zero A n
 |f+1=>PG.succ hn (pg hn f)
theorem Jaq{A:Int->Prop}(hn:A n){r:List Tk}{x:List Ex}(h:ZN n f r=some (x,r'))(ha:TA A r):GM A r r':=by
 unfold ZN at h;obtain⟨⟨x1,r1⟩,h1,h⟩:=Si.1 h
 try simp only at h
 have g1:=(pg hn f).ex h1 ha;have l1:=g1.2.2;obtain⟨r2,h2,h⟩:=Si.1 h;have g2:=Jr h2 g1.2.1;obtain⟨⟨x3,r3⟩,h3,h⟩:=Si.1 h
 try simp only at h
 have g3:=(pg hn f).ex h3 g2.1;exact Ycx
structure PGn (A:Int->Prop) (n:Int) (f:Nat):Prop where
 gen:∀{r e r'},ZY n f r=some (e,r')->TA A r->GM A r r'
 wh:∀{a g r e r'},Zg n f a g r=some (e,r')->TA A r->GM A r r'
 part:∀{r e r'},Zh n f r=some (e,r')->TA A r->GM A r r'
 one:∀{r} {e:List (Int×Gn)} {r'},JaU n f r=some (e,r')->TA A r->GM A r r'
 mke:∀{r} {e:List Gn} {r'},Zl n f r=some (e,r')->TA A r->GM A r r'
theorem PGn.zero(A:Int->Prop)(n:Int):PGn A n 0 where
 gen:=fun h=>by simp[ZY]at h
 wh:=fun h=>by simp[Zg]at h
 part:=fun h=>by simp[Zh]at h
 one:=fun h=>by simp[JaU]at h
 mke:=fun h=>by simp[Zl]at h
theorem PGn.succ{A:Int->Prop}(hn:A n)(ih:PGn A n f):PGn A n (f+1) where
 gen:=fun h ha=>by
  rw[ZY]at h
  split at h
  .rename_i hc;have gc:=JU hc ha;obtain⟨⟨x1,r1⟩,h1,h⟩:=Si.1 h
   try simp only at h
   have g1:=Qg h1 gc.1;obtain⟨r2,h2,h⟩:=Si.1 h;have g2:=Jr h2 g1.2.1;obtain⟨⟨x3,r3⟩,h3,h⟩:=Si.1 h
   try simp only at h
   have g3:=ih.gen h3 g2.1;have l3:=g3.2;obtain⟨r4,h4,h⟩:=Si.1 h;have g4:=Jr h4 g3.1;obtain⟨⟨x5,r5⟩,h5,h⟩:=Si.1 h
   try simp only at h
   have g5:=ih.gen h5 g4.1;have l5:=g5.2;simp only[Sj,Sz]at h;obtain⟨rfl,rfl⟩:=h;exact⟨g5.1,by omega⟩
  .obtain ⟨⟨x1,r1⟩,h1,h⟩:=Si.1 h
   try simp only at h
   have g1:=ih.part h1 ha;have l1:=g1.2;have g2:=ih.wh h g1.1;exact⟨g2.1,by have:=g2.2;omega⟩
 wh:=fun h ha=>by
  rw[Zg]at h
  split at h
  .rename_i hc;have gc:=JU hc ha;obtain⟨⟨x1,r1⟩,h1,h⟩:=Si.1 h
   try simp only at h
   have g1:=Qg h1 gc.1;obtain⟨r2,h2,h⟩:=Si.1 h;have g2:=Jr h2 g1.2.1;obtain⟨⟨x3,r3⟩,h3,h⟩:=Si.1 h
   try simp only at h
   have g3:=(pg hn f).ex h3 g2.1;have l3:=g3.2.2;have g4:=ih.wh h g3.2.1;exact⟨g4.1,by have:=g4.2;omega⟩
  .simp only[Sj,Sz]at h;obtain⟨rfl,rfl⟩:=h;exact⟨ha,by omega⟩
 part:=fun h ha=>by
  rw[Zh]at h
  split at h
  .rename_i hc;have gc:=JU hc ha;obtain⟨⟨x1,r1⟩,h1,h⟩:=Si.1 h
   try simp only at h
   have g1:=(pg hn f).ex h1 gc.1;have l1:=g1.2.2;exact Ydd
  split at h
  .rename_i hc;have gc:=JU hc ha;obtain⟨⟨x1,r1⟩,h1,h⟩:=Si.1 h
   try simp only at h
   have g1:=Jaq hn h1 gc.1;have l1:=g1.2;simp only[Sj,Sz]at h;obtain⟨rfl,rfl⟩:=h;exact⟨g1.1,by omega⟩
  split at h
  .rename_i hc;have gc:=JU hc ha;obtain⟨⟨x1,r1⟩,h1,h⟩:=Si.1 h
   try simp only at h
   have g1:=Jaq hn h1 gc.1;have l1:=g1.2;obtain⟨r2,h2,h⟩:=Si.1 h;have g2:=Jr h2 g1.1;obtain⟨⟨x3,r3⟩,h3,h⟩:=Si.1 h
   try simp only at h
   have g3:=ih.part h3 g2.1;have l3:=g3.2;exact Ybj
  split at h
  .rename_i hc;have gc:=JU hc ha;obtain⟨⟨x1,r1⟩,h1,h⟩:=Si.1 h
   try simp only at h
   have g1:=ih.gen h1 gc.1;have l1:=g1.2;obtain⟨r2,h2,h⟩:=Si.1 h;have g2:=Jr h2 g1.1;simp only[Sj,Sz]at h;obtain⟨rfl,rfl⟩:=h;exact⟨g2.1,by omega⟩
  split at h
  .rename_i hc;have gc:=JU hc ha;obtain⟨r1,h1,h⟩:=Si.1 h;have g1:=Jr h1 gc.1;obtain⟨⟨x2,r2⟩,h2,h⟩:=Si.1 h
   try simp only at h
   have g2:=ih.one h2 g1.1;exact Ybi
  split at h
  .rename_i hc;have gc:=JU hc ha;obtain⟨⟨x1,r1⟩,h1,h⟩:=Si.1 h
   try simp only at h
   have g1:=Qg h1 gc.1;obtain⟨r2,h2,h⟩:=Si.1 h;have g2:=Jr h2 g1.2.1
   try simp only at h
   split at h
   .rename_i hc2;have gc2:=JU hc2 g2.1;exact Ycf
   .obtain ⟨⟨x3,r3⟩,h3,h⟩:=Si.1 h
    try simp only at h
    have g3:=ih.mke h3 g2.1;have l3:=g3.2;exact Ybj
  .obtain ⟨⟨x1,r1⟩,h1,h⟩:=Si.1 h
   try simp only at h
   have g1:=Qg h1 ha;obtain⟨r2,h2,h⟩:=Si.1 h;have g2:=Jr h2 g1.2.1;obtain⟨⟨x3,r3⟩,h3,h⟩:=Si.1 h
   try simp only at h
   have g3:=(pg hn f).exs h3 g2.1;exact Ycx
 one:=fun h ha=>by
  rw[JaU]at h;obtain⟨⟨x1,r1⟩,h1,h⟩:=Si.1 h
  try simp only at h
  have g1:=Qg h1 ha;obtain⟨r2,h2,h⟩:=Si.1 h;have g2:=Jr h2 g1.2.1;obtain⟨⟨x3,r3⟩,h3,h⟩:=Si.1 h
  try simp only at h
  have g3:=ih.gen h3 g2.1;have l3:=g3.2
  try simp only at h
  split at h
  .rename_i hc2;have gc2:=JU hc2 g3.1;obtain⟨⟨x4,r4⟩,h4,h⟩:=Si.1 h
   try simp only at h
   have g4:=ih.one h4 gc2.1;have l4:=g4.2;exact Ycg
  .simp only[Sj,Sz]at h;obtain⟨rfl,rfl⟩:=h;exact⟨g3.1,by omega⟩
 mke:=fun h ha=>by
  rw[Zl]at h;obtain⟨⟨x1,r1⟩,h1,h⟩:=Si.1 h
  try simp only at h
  have g1:=ih.gen h1 ha;have l1:=g1.2
  try simp only at h
  split at h
  .rename_i hc2;have gc2:=JU hc2 g1.1;obtain⟨⟨x4,r4⟩,h4,h⟩:=Si.1 h
   try simp only at h
   have g4:=ih.mke h4 gc2.1;have l4:=g4.2;exact Ycg
  .obtain ⟨r4,h4,h⟩:=Si.1 h;have g4:=Jr h4 g1.1;exact Ycg
theorem pgn{A:Int->Prop}(hn:A n):∀f,PGn A n f
 |0=>PGn.zero A n
 |f+1=>PGn.succ hn (pgn hn f)
theorem JdI{A:Int->Prop}:∀(f:Nat) {r:List Tk} {x:List Pm} {r':List Tk},Gq f r=some (x,r')->TA A r->GM A r r'
 |0,r,x,r',h,_=>by simp[Gq]at h
 |f+1,r,x,r',h,ha=>by
  rw[Gq]at h;obtain⟨⟨x1,r1⟩,h1,h⟩:=Si.1 h
  try simp only at h
  have g1:=Qg h1 ha;obtain⟨r2,h2,h⟩:=Si.1 h;have g2:=Jr h2 g1.2.1;obtain⟨⟨x3,r3⟩,h3,h⟩:=Si.1 h
  try simp only at h
  have g3:=Bq f h3 g2.1;have l3:=g3.2
  try simp only at h
  split at h
  .rename_i hc2;have gc2:=JU hc2 g3.1;obtain⟨⟨x9,r9⟩,h9,h⟩:=Si.1 h
   try simp only at h
   have g9:=JdI f h9 gc2.1;exact Ybl
  .simp only[Sj,Sz]at h;obtain⟨rfl,rfl⟩:=h;exact⟨g3.1,by omega⟩
theorem Ll{A:Int->Prop}{r:List Tk}{x:List Pm}(h:WR f r=some (x,r'))(ha:TA A r):GM A r r':=by
 unfold WR at h;obtain⟨r1,h1,h⟩:=Si.1 h;have g1:=Jr h1 ha
 split at h
 .rename_i hc2;have gc2:=JU hc2 g1.1;exact Ycf
 .obtain ⟨⟨x2,r2⟩,h2,h⟩:=Si.1 h
  try simp only at h
  have g2:=JdI f h2 g1.1;exact Ybi
theorem JdM{A:Int->Prop}(hn:A n):∀(f:Nat) {r:List Tk} {x:List Dw} {r':List Tk},Zn n cmd f r=some (x,r')->TA A r->GM A r r'
 |0,r,x,r',h,_=>by simp[Zn]at h
 |f+1,r,x,r',h,ha=>by
  rw[Zn]at h;obtain⟨⟨x1,r1⟩,h1,h⟩:=Si.1 h
  try simp only at h
  have g1:=Qg h1 ha;obtain⟨r2,h2,h⟩:=Si.1 h;have g2:=Jr h2 g1.2.1;obtain⟨⟨x3,r3⟩,h3,h⟩:=Si.1 h
  try simp only at h
  have g3:=Bq f h3 g2.1;have l3:=g3.2;obtain⟨r4,h4,h⟩:=Si.1 h;have g4:=Jr h4 g3.1;obtain⟨⟨x5,r5⟩,h5,h⟩:=Si.1 h
  try simp only at h
  have g5:GM A r4 r5:=by
   split at h5
   .rename_i hc;rw[CV]at hc;have gc:=JU hc.2 g4.1;simp only[Sj,Sz]at h5;obtain⟨rfl,rfl⟩:=h5;exact⟨gc.1,by omega⟩
   .obtain ⟨⟨x6,r6⟩,h6,h5⟩:=Si.1 h5
    try simp only at h5
    have g6:=(pgn hn f).gen h6 g4.1;simp only[Sj,Sz]at h5;obtain⟨rfl,rfl⟩:=h5;exact g6
  have l5:=g5.2
  try simp only at h
  split at h
  .rename_i hc2;have gc2:=JU hc2 g5.1;obtain⟨⟨x9,r9⟩,h9,h⟩:=Si.1 h
   try simp only at h
   have g9:=JdM hn f h9 gc2.1;exact Ybl
  .simp only[Sj,Sz]at h;obtain⟨rfl,rfl⟩:=h;exact⟨g5.1,by omega⟩
theorem JbT{A:Int->Prop}(hn:A n){r:List Tk}{x:List Dw}(h:Bz n cmd f r=some (x,r'))(ha:TA A r):GM A r r':=by
 unfold Bz at h;obtain⟨r1,h1,h⟩:=Si.1 h;have g1:=Jr h1 ha
 split at h
 .rename_i hc2;have gc2:=JU hc2 g1.1;exact Ycf
 .obtain ⟨⟨x2,r2⟩,h2,h⟩:=Si.1 h
  try simp only at h
  have g2:=JdM hn f h2 g1.1;exact Ybi
theorem JdG{A:Int->Prop}:∀(f:Nat) {r:List Tk} {x:List Ty} {r':List Tk},Gp f r=some (x,r')->TA A r->GM A r r'
 |0,r,x,r',h,_=>by simp[Gp]at h
 |f+1,r,x,r',h,ha=>by
  rw[Gp]at h;obtain⟨⟨x1,r1⟩,h1,h⟩:=Si.1 h
  try simp only at h
  have g1:=Bq f h1 ha;have l1:=g1.2
  try simp only at h
  split at h
  .rename_i hc2;have gc2:=JU hc2 g1.1;obtain⟨⟨x9,r9⟩,h9,h⟩:=Si.1 h
   try simp only at h
   have g9:=JdG f h9 gc2.1;exact Ybl
  .simp only[Sj,Sz]at h;obtain⟨rfl,rfl⟩:=h;exact⟨g1.1,by omega⟩
theorem JbU{A:Int->Prop}:∀(f:Nat) {r:List Tk} {x:List Ct} {r':List Tk},Xd f r=some (x,r')->TA A r->GM A r r'
 |0,r,x,r',h,_=>by simp[Xd]at h
 |f+1,r,x,r',h,ha=>by
  rw[Xd]at h;obtain⟨⟨x1,r1⟩,h1,h⟩:=Si.1 h
  try simp only at h
  have g1:=Qg h1 ha;obtain⟨⟨x5,r5⟩,h5,h⟩:=Si.1 h
  try simp only at h
  have g5:GM A r1 r5:=by
   try simp only at h5
   split at h5
   .rename_i hc;have gc:=JU hc g1.2.1;obtain⟨⟨x6,r6⟩,h6,h5⟩:=Si.1 h5
    try simp only at h5
    have g6:=JdG f h6 gc.1;have l6:=g6.2;obtain⟨r7,h7,h5⟩:=Si.1 h5;have g7:=Jr h7 g6.1;simp only[Sj,Sz]at h5;obtain⟨rfl,rfl⟩:=h5;exact⟨g7.1,by omega⟩
   .simp only[Sj,Sz]at h5;obtain⟨rfl,rfl⟩:=h5;exact⟨g1.2.1,by omega⟩
  have l5:=g5.2
  try simp only at h
  split at h
  .rename_i hc2;have gc2:=JU hc2 g5.1;obtain⟨⟨x9,r9⟩,h9,h⟩:=Si.1 h
   try simp only at h
   have g9:=JbU f h9 gc2.1;exact Ybl
  .simp only[Sj,Sz]at h;obtain⟨rfl,rfl⟩:=h;exact⟨g5.1,by omega⟩
def ckE(a b:List Ck):List Ex:=a.map Ck.expr++b.map Ck.expr
theorem wck{a b:List Ck}{t:ByteArray}{e:Ex}:wEs (ckE (a++[⟨t,e⟩]) b)=wEs (ckE a b)+wE e/\wEs (ckE a (b++[⟨t,e⟩]))=wEs (ckE a b)+wE e:=by
 unfold ckE;simp only[Dp,DL,Ec,JaF,wEs];omega
theorem MW{A:Int->Prop}(hn:A n):∀(f:Nat) {a b:List Ck} {c:List Cl} {r:List Tk} {x:List Ck×List Ck×List Cl} {r':List Tk},XH n f a b c r=some (x,r')->TA A r->Qn A (ckE a b)->Qn A (ckE x.1 x.2.1)/\TA A r'/\wEs (ckE x.1 x.2.1)+r'.length<=wEs (ckE a b)+r.length
 |0,a,b,c,r,x,r',h,_,_=>by simp[XH]at h
 |f+1,a,b,c,r,x,r',h,ha,h0=>by
  rw[XH]at h
  split at h
  .rename_i hc;have gc:=JU hc ha;obtain⟨⟨x1,r1⟩,h1,h⟩:=Si.1 h
   try simp only at h
   have g1:=Qg h1 gc.1;obtain⟨⟨x2,r2⟩,h2,h⟩:=Si.1 h
   try simp only at h
   have g2:=Qg h2 g1.2.1;obtain⟨r3,h3,h⟩:=Si.1 h;have g3:=Jr h3 g2.2.1;obtain⟨⟨x4,r4⟩,h4,h⟩:=Si.1 h
   try simp only at h
   have g4:=Qg h4 g3.1;obtain⟨r5,h5,h⟩:=Si.1 h;have g5:=Jr h5 g4.2.1;have g6:=MW hn f h g5.1 h0;exact⟨g6.1,g6.2.1,by have:=g6.2.2;omega⟩
  split at h
  .rename_i hc;have gc:=JU hc ha;obtain⟨⟨x1,r1⟩,h1,h⟩:=Si.1 h
   try simp only at h
   have g1:=Qg h1 gc.1;obtain⟨r2,h2,h⟩:=Si.1 h;have g2:=Jr h2 g1.2.1;obtain⟨⟨x3,r3⟩,h3,h⟩:=Si.1 h
   try simp only at h
   have g3:=(pg hn f).ex h3 g2.1;have l3:=g3.2.2;obtain⟨r4,h4,h⟩:=Si.1 h;have g4:=Jr h4 g3.2.1;have g6:=MW hn f h g4.1 (by unfold ckE at h0 ⊢;simp only[Dp,DL,Ec,Zo,Qn,Eh]at h0 ⊢;exact⟨⟨h0.1,g3.1⟩,h0.2⟩);exact⟨g6.1,g6.2.1,by have:=g6.2.2;rw[wck.1]at this;omega⟩
  split at h
  .rename_i hc;have gc:=JU hc ha;obtain⟨⟨x1,r1⟩,h1,h⟩:=Si.1 h
   try simp only at h
   have g1:=Qg h1 gc.1;obtain⟨r2,h2,h⟩:=Si.1 h;have g2:=Jr h2 g1.2.1;obtain⟨⟨x3,r3⟩,h3,h⟩:=Si.1 h
   try simp only at h
   have g3:=(pg hn f).ex h3 g2.1;have l3:=g3.2.2;obtain⟨r4,h4,h⟩:=Si.1 h;have g4:=Jr h4 g3.2.1;have g6:=MW hn f h g4.1 (by unfold ckE at h0 ⊢;simp only[Dp,DL,Ec,Zo,Qn,Eh]at h0 ⊢;exact⟨h0.1,h0.2,g3.1⟩);exact⟨g6.1,g6.2.1,by have:=g6.2.2;rw[wck.2]at this;omega⟩
  .simp only[Sj,Sz]at h;obtain⟨rfl,rfl⟩:=h;exact⟨h0,ha,SX _⟩
theorem JfR{A:Int->Prop}(hn:A n){r:List Tk}{x:List Ck×List Ck×List Cl}(h:Bv n f r=some (x,r'))(ha:TA A r):Qn A (ckE x.1 x.2.1)/\TA A r'/\wEs (ckE x.1 x.2.1)+r'.length<=r.length:=by
 unfold Bv at h;obtain⟨r1,h1,h⟩:=Si.1 h;have g1:=Jr h1 ha;obtain⟨⟨x2,r2⟩,h2,h⟩:=Si.1 h
 try simp only at h
 have g2:=MW hn f h2 g1.1 (by simp[ckE,Qn]);have l2:=g2.2.2;obtain⟨r3,h3,h⟩:=Si.1 h;have g3:=Jr h3 g2.2.1;simp only[Sj,Sz]at h;obtain⟨rfl,rfl⟩:=h;refine⟨g2.1,g3.1,?_⟩;have:wEs (ckE [] [])=0:=rfl;omega
theorem JbS{A:Int->Prop}(hn:A n){r:List Tk}{x:Ty×Ex}(h:Lj n f r=some (x,r'))(ha:TA A r):GE A r x.2 r':=by
 unfold Lj at h;obtain⟨r1,h1,h⟩:=Si.1 h;have g1:=Jr h1 ha;obtain⟨r2,h2,h⟩:=Si.1 h;have g2:=Jr h2 g1.1;obtain⟨r3,h3,h⟩:=Si.1 h;have g3:=Jr h3 g2.1;obtain⟨⟨x4,r4⟩,h4,h⟩:=Si.1 h
 try simp only at h
 have g4:=Bq f h4 g3.1;have l4:=g4.2;obtain⟨r5,h5,h⟩:=Si.1 h;have g5:=Jr h5 g4.1;obtain⟨⟨x6,r6⟩,h6,h⟩:=Si.1 h
 try simp only at h
 have g6:=(pg hn f).ex h6 g5.1;have l6:=g6.2.2;obtain⟨r7,h7,h⟩:=Si.1 h;have g7:=Jr h7 g6.2.1;simp only[Sj,Sz]at h;obtain⟨rfl,rfl⟩:=h;exact⟨g6.1,g7.1,by simp only;omega⟩
def cmE(a:List Cm):List Ex:=a.flatMap (fun c=>[c.pre,c.next,c.post])
theorem JdO{A:Int->Prop}(hn:A n):∀(f:Nat) {a:List Cm} {r:List Tk} {x:List Cm} {r':List Tk},MB n f a r=some (x,r')->TA A r->Qn A (cmE a)->Qn A (cmE x)/\TA A r'/\x.length+wEs (cmE x)+r'.length<=a.length+wEs (cmE a)+r.length
 |0,a,r,x,r',h,_,_=>by simp[MB]at h
 |f+1,a,r,x,r',h,ha,h0=>by
  rw[MB]at h
  split at h
  .rename_i hc;have gc:=JU hc ha;obtain⟨⟨x1,r1⟩,h1,h⟩:=Si.1 h
   try simp only at h
   have g1:=Qg h1 gc.1;obtain⟨⟨x2,r2⟩,h2,h⟩:=Si.1 h
   try simp only at h
   have g2:=JbT hn h2 g1.2.1;have l2:=g2.2;obtain⟨r3,h3,h⟩:=Si.1 h;have g3:=Jr h3 g2.1;obtain⟨⟨x4,r4⟩,h4,h⟩:=Si.1 h
   try simp only at h
   have g4:=(pg hn f).ex h4 g3.1;have l4:=g4.2.2;obtain⟨r5,h5,h⟩:=Si.1 h;have g5:=Jr h5 g4.2.1;obtain⟨⟨x6,r6⟩,h6,h⟩:=Si.1 h
   try simp only at h
   have g6:=(pg hn f).ex h6 g5.1;have l6:=g6.2.2;obtain⟨r7,h7,h⟩:=Si.1 h;have g7:=Jr h7 g6.2.1;obtain⟨⟨x8,r8⟩,h8,h⟩:=Si.1 h
   try simp only at h
   have g8:=(pg hn f).ex h8 g7.1;have l8:=g8.2.2;obtain⟨r9,h9,h⟩:=Si.1 h;have g9:=Jr h9 g8.2.1;have g10:=JdO hn f h g9.1 (by unfold cmE at h0 ⊢;simp only[List.flatMap_append,CP,Ey,Ce,Zo,Qn,Eh]at h0 ⊢;exact⟨h0,g4.1,g6.1,g8.1⟩);refine⟨g10.1,g10.2.1,?_⟩;have l10:=g10.2.2;unfold cmE at l10 ⊢;exact Ycl
  .simp only[Sj,Sz]at h;obtain⟨rfl,rfl⟩:=h;exact⟨h0,ha,SX _⟩
theorem Jhj{A:Int->Prop}(hn:A n){r:List Tk}{x:List Cm}(h:JbV n f r=some (x,r'))(ha:TA A r):Qn A (cmE x)/\TA A r'/\x.length+wEs (cmE x)+r'.length<=r.length:=by
 unfold JbV at h;obtain⟨r1,h1,h⟩:=Si.1 h;have g1:=Jr h1 ha;obtain⟨⟨x2,r2⟩,h2,h⟩:=Si.1 h
 try simp only at h
 have g2:=JdO hn f h2 g1.1 (by simp[cmE,Qn]);have l2:=g2.2.2;obtain⟨r3,h3,h⟩:=Si.1 h;have g3:=Jr h3 g2.2.1;simp only[Sj,Sz]at h;obtain⟨rfl,rfl⟩:=h;refine⟨g2.1,g3.1,?_⟩;have:wEs (cmE [])=0:=rfl;simp only[SY]at l2;omega
def acE(a:List Ac):List Ex:=a.flatMap (fun c=>[c.shared,c.loc])
theorem JdP{A:Int->Prop}(hn:A n):∀(f:Nat) {a:List Ac} {r:List Tk} {x:List Ac} {r':List Tk},MC n f a r=some (x,r')->TA A r->Qn A (acE a)->Qn A (acE x)/\TA A r'/\x.length+wEs (acE x)+r'.length<=a.length+wEs (acE a)+r.length
 |0,a,r,x,r',h,_,_=>by simp[MC]at h
 |f+1,a,r,x,r',h,ha,h0=>by
  rw[MC]at h
  split at h
  .rename_i hc;have gc:=JU hc ha;obtain⟨⟨x1,r1⟩,h1,h⟩:=Si.1 h
   try simp only at h
   have g1:=(pg hn f).ex h1 gc.1;have l1:=g1.2.2;obtain⟨r2,h2,h⟩:=Si.1 h;have g2:=Jr h2 g1.2.1;obtain⟨⟨x3,r3⟩,h3,h⟩:=Si.1 h
   try simp only at h
   have g3:=(pg hn f).ex h3 g2.1;have l3:=g3.2.2;obtain⟨r4,h4,h⟩:=Si.1 h;have g4:=Jr h4 g3.2.1;have g10:=JdP hn f h g4.1 (by unfold acE at h0 ⊢;simp only[List.flatMap_append,CP,Ey,Ce,Zo,Qn,Eh]at h0 ⊢;exact⟨h0,g1.1,g3.1⟩);refine⟨g10.1,g10.2.1,?_⟩;have l10:=g10.2.2;unfold acE at l10 ⊢;exact Ycl
  .simp only[Sj,Sz]at h;obtain⟨rfl,rfl⟩:=h;exact⟨h0,ha,SX _⟩
def opE(a:List Op):List Ex:=a.flatMap (fun o=>acE o.acts)
theorem JdJ{A:Int->Prop}(hn:A n):∀(f:Nat) {a:List Op} {r:List Tk} {x:List Op} {r':List Tk},Me n f a r=some (x,r')->TA A r->Qn A (opE a)->Qn A (opE x)/\TA A r'/\x.length+wEs (opE x)+r'.length<=a.length+wEs (opE a)+r.length
 |0,a,r,x,r',h,_,_=>by simp[Me]at h
 |f+1,a,r,x,r',h,ha,h0=>by
  rw[Me]at h
  split at h
  .rename_i hc;have gc:=JU hc ha;obtain⟨⟨x1,r1⟩,h1,h⟩:=Si.1 h
   try simp only at h
   have g1:=Qg h1 gc.1;obtain⟨⟨x2,r2⟩,h2,h⟩:=Si.1 h
   try simp only at h
   have g2:=Ll h2 g1.2.1;have l2:=g2.2;obtain⟨r3,h3,h⟩:=Si.1 h;have g3:=Jr h3 g2.1;obtain⟨⟨x4,r4⟩,h4,h⟩:=Si.1 h
   try simp only at h
   have g4:=JdP hn f h4 g3.1 (by simp[acE,Qn]);have l4:=g4.2.2;obtain⟨r5,h5,h⟩:=Si.1 h;have g5:=Jr h5 g4.2.1;have g10:=JdJ hn f h g5.1 (by unfold opE at h0 ⊢;simp only[List.flatMap_append,CP,Ey,Ce,Zo,Qn,Eh]at h0 ⊢;exact⟨h0,g4.1⟩);refine⟨g10.1,g10.2.1,?_⟩;have l10:=g10.2.2;have l40:wEs (acE [])=0:=rfl;unfold opE at l10 ⊢;simp only[List.flatMap_append,CP,Ey,Ce,JaF,wEs,Sm,SI,SY]at l10 l4;omega
  .simp only[Sj,Sz]at h;obtain⟨rfl,rfl⟩:=h;exact⟨h0,ha,SX _⟩
theorem JiX{A:Int->Prop}(hn:A n){r:List Tk}{x:List Op}(h:JfM n f r=some (x,r'))(ha:TA A r):Qn A (opE x)/\TA A r'/\x.length+wEs (opE x)+r'.length<=r.length:=by
 unfold JfM at h;obtain⟨r1,h1,h⟩:=Si.1 h;have g1:=Jr h1 ha;obtain⟨⟨x2,r2⟩,h2,h⟩:=Si.1 h
 try simp only at h
 have g2:=JdJ hn f h2 g1.1 (by simp[opE,Qn]);have l2:=g2.2.2;obtain⟨r3,h3,h⟩:=Si.1 h;have g3:=Jr h3 g2.2.1;simp only[Sj,Sz]at h;obtain⟨rfl,rfl⟩:=h;refine⟨g2.1,g3.1,?_⟩;have:wEs (opE [])=0:=rfl;simp only[SY]at l2;omega
structure GD (A:Int->Prop) (m:Nat) (d:De):Prop where
 ok:Qn A (Jw d)
 w:wEs (Jw d)<=m
 cmds:d.cmds.length<=m
 name:d.name.size<=100000
theorem GD.mono{A:Int->Prop}{m':Nat}(h:GD A m d)(hm:m<=m'):GD A m' d:=⟨h.ok,CG h.w hm,CG h.cmds hm,h.name⟩
theorem Jhh{A:Int->Prop}(hn:A n){r:List Tk}(h:XI n f r=some (d,r'))(ha:TA A r):GD A r.length d/\TA A r'/\r'.length<=r.length:=by
 unfold XI at h;obtain⟨k,hk,h⟩:=Si.1 h;have hk6:k<6:=(FX.1 hk).1;have hat:TA A r.tail/\r.tail.length<=r.length:=⟨fun t ht=>ha t (List.mem_of_mem_tail ht),by simp⟩;obtain⟨⟨t,r1⟩,h1,h⟩:=Si.1 h
 try simp only at h
 have g1:=Qg h1 hat.1;have hr1:r1.length<=r.length:=by omega
 have hnm:(bst t.text).size<=100000:=by rw[VX];exact g1.1.2
 try simp only at h
 split at h
 .rename_i hk0;subst hk0;obtain⟨r2,h2,h⟩:=Si.1 h;have g2:=Jr h2 g1.2.1;obtain⟨⟨x3,r3⟩,h3,h⟩:=Si.1 h
  try simp only at h
  have g3:=JbU f h3 g2.1;have l3:=g3.2;obtain⟨r4,h4,h⟩:=Si.1 h;have g4:=Jr h4 g3.1;simp only[Sj,Sz]at h;obtain⟨rfl,rfl⟩:=h;exact⟨⟨trivial,SL _,SL _,hnm⟩,g4.1,by omega⟩
 split at h
 .rename_i hk0;subst hk0;obtain⟨⟨x2,r2⟩,h2,h⟩:=Si.1 h
  try simp only at h
  have g2:=Ll h2 g1.2.1;have l2:=g2.2;obtain⟨r3,h3,h⟩:=Si.1 h;have g3:=Jr h3 g2.1;obtain⟨⟨x4,r4⟩,h4,h⟩:=Si.1 h
  try simp only at h
  have g4:=Bq f h4 g3.1;have l4:=g4.2;obtain⟨r5,h5,h⟩:=Si.1 h;have g5:=Jr h5 g4.1;obtain⟨⟨x6,r6⟩,h6,h⟩:=Si.1 h
  try simp only at h
  have g6:=(pg hn f).ex h6 g5.1;have l6:=g6.2.2;obtain⟨r7,h7,h⟩:=Si.1 h;have g7:=Jr h7 g6.2.1;simp only[Sj,Sz]at h;obtain⟨rfl,rfl⟩:=h;refine⟨⟨?_,?_,SL _,hnm⟩,g7.1,by omega⟩
  .exact ⟨g6.1,trivial⟩
  .show wEs [x6]<=_;simp only[wEs];omega
 split at h
 .rename_i hk0;subst hk0;obtain⟨⟨x2,r2⟩,h2,h⟩:=Si.1 h
  try simp only at h
  have g2:=Ll h2 g1.2.1;have l2:=g2.2;obtain⟨r3,h3,h⟩:=Si.1 h;have g3:=Jr h3 g2.1;obtain⟨⟨x4,r4⟩,h4,h⟩:=Si.1 h
  try simp only at h
  have g4:=Bq f h4 g3.1;have l4:=g4.2;obtain⟨⟨x5,r5⟩,h5,h⟩:=Si.1 h
  try simp only at h
  have g5:GM A r4 r5:=by
   try simp only at h5
   split at h5
   .rename_i hc;have gc:=JU hc g4.1;obtain⟨⟨x6,r6⟩,h6,h5⟩:=Si.1 h5
    try simp only at h5
    have g6:=Qg h6 gc.1;simp only[Sj,Sz]at h5;obtain⟨rfl,rfl⟩:=h5;exact⟨g6.2.1,by omega⟩
   .simp only[Sj,Sz]at h5;obtain⟨rfl,rfl⟩:=h5;exact⟨g4.1,by omega⟩
  have l5:=g5.2;obtain⟨r6,h6,h⟩:=Si.1 h;have g6:=Jr h6 g5.1;obtain⟨⟨x7,r7⟩,h7,h⟩:=Si.1 h
  try simp only at h
  have g7:=(pgn hn f).gen h7 g6.1;have l7:=g7.2;obtain⟨r8,h8,h⟩:=Si.1 h;have g8:=Jr h8 g7.1;simp only[Sj,Sz]at h;obtain⟨rfl,rfl⟩:=h;exact⟨⟨trivial,SL _,SL _,hnm⟩,g8.1,by omega⟩
 split at h
 .rename_i hk0;subst hk0;obtain⟨⟨x2,r2⟩,h2,h⟩:=Si.1 h
  try simp only at h
  have g2:=JbT hn h2 g1.2.1;have l2:=g2.2;obtain⟨⟨x3,r3⟩,h3,h⟩:=Si.1 h
  try simp only at h
  have g3:=JfR hn h3 g2.1;have l3:=g3.2.2;simp only[Sj,Sz]at h;obtain⟨rfl,rfl⟩:=h;refine⟨⟨g3.1,?_,SL _,hnm⟩,g3.2.1,by omega⟩;show wEs (ckE x3.1 x3.2.1)<=_;omega
 split at h
 .rename_i hk0;subst hk0;obtain⟨⟨x2,r2⟩,h2,h⟩:=Si.1 h
  try simp only at h
  have g2:=JbS hn h2 g1.2.1;have l2:=g2.2.2;obtain⟨⟨x3,r3⟩,h3,h⟩:=Si.1 h
  try simp only at h
  have g3:=Jhj hn h3 g2.2.1;have l3:=g3.2.2;simp only[Sj,Sz]at h;obtain⟨rfl,rfl⟩:=h;refine⟨⟨⟨g2.1,g3.1⟩,?_,by simp only;omega,hnm⟩,g3.2.1,by omega⟩;show wEs (x2.2::cmE x3)<=_;simp only[wEs]at l2 ⊢;omega
 .rename_i k0 k1 k2 k3 k4;have hk5:k=5:=by omega
  subst hk5;obtain⟨⟨x2,r2⟩,h2,h⟩:=Si.1 h
  try simp only at h
  have g2:=JbS hn h2 g1.2.1;have l2:=g2.2.2;obtain⟨r3,h3,h⟩:=Si.1 h;have g3:=Jr h3 g2.2.1;obtain⟨⟨x4,r4⟩,h4,h⟩:=Si.1 h
  try simp only at h
  have g4:=(pg hn f).ex h4 g3.1;have l4:=g4.2.2;obtain⟨⟨x5,r5⟩,h5,h⟩:=Si.1 h
  try simp only at h
  have g5:=JiX hn h5 g4.2.1;have l5:=g5.2.2;simp only[Sj,Sz]at h;obtain⟨rfl,rfl⟩:=h;refine⟨⟨⟨g2.1,g4.1,g5.1⟩,?_,SL _,hnm⟩,g5.2.1,by omega⟩;show wEs (x2.2::x4::opE x5)<=_;simp only[wEs];omega
theorem JfP{A:Int->Prop}{F:Nat}(hn:A n):∀(f:Nat) {r:List Tk} {ds:List De},Xc n F f r=some ds->TA A r->∀d∈ds,GD A r.length d
 |0,r,ds,h,_=>by simp[Xc]at h
 |f+1,[],ds,h,_=>by
  simp only[Xc,Sj]at h;subst h;simp
 |f+1,t::r,ds,h,ha=>by
  rw[Xc]at h;obtain⟨⟨d,r1⟩,h1,h⟩:=Si.1 h
  try simp only at h
  have g1:=Jhh hn h1 ha;obtain⟨ds',h2,h⟩:=Si.1 h;have g2:=JfP hn f h2 g1.2.1;simp only[Sj]at h;subst h;intro x hx;rcases SC.1 hx with rfl|hx
  .exact g1.1
  .exact (g2 x hx).mono g1.2.2
/-! ### what it means for branches and calls -/
mutual
theorem Jho:∀e:Ex,(Qo e).length<=wE e
 |⟨k,nm,n,ns,bs,ks,a⟩=>by
  have:=Un ks;simp only[Qo,wE,SI];omega
theorem Un:∀l:List Ex,(Js l).length<=wEs l
 |[]=>SX _
 |e::l=>by
  have h1:=Jho e;have h2:=Un l;simp only[Js,wEs,Sm];omega
end
mutual
theorem Jjy(nm:ByteArray):∀e:Ex,((Qo e).flatMap (Xi nm)).length<=2*wE e
 |⟨k,m,n,ns,bs,ks,a⟩=>by
  have h1:=Nj nm ks;simp only[Qo,wE,CP,Sm,Xi,Sr,FV];have h2:Qx ⟨k,m,n,ns,bs,ks,a⟩<=2+ns.length:=by unfold Qx;simp only;split<;>(try split)<;>omega
  have h3:((Js ks).flatMap fun e=>(List.range (Qx e)).map fun(i:Nat)=>(⟨nm,e.at_,(i:Int)⟩:Br)).length<=2*wEs ks:=h1;omega
theorem Nj(nm:ByteArray):∀l:List Ex,((Js l).flatMap (Xi nm)).length<=2*wEs l
 |[]=>SX _
 |e::l=>by
  have h1:=Jjy nm e;have h2:=Nj nm l;simp only[Js,wEs,List.flatMap_append,Sm];omega
end
mutual
theorem JfY{A:Int->Prop}:∀e:Ex,okE A e->∀x∈Qo e,A x.at_
 |⟨k,nm,n,ns,bs,ks,a⟩,h=>by
  simp only[okE]at h;intro x hx;simp only[Qo,SC]at hx;rcases hx with rfl|hx
  .exact h.1
  .exact Lm ks h.2 x hx
theorem Lm{A:Int->Prop}:∀l:List Ex,Qn A l->∀x∈Js l,A x.at_
 |[],_=>by simp[Js]
 |e::l,h=>by
  simp only[Qn]at h;intro x hx;simp only[Js,SE]at hx;rcases hx with hx|hx
  .exact JfY e h.1 x hx
  .exact Lm l h.2 x hx
end
theorem Jdm:∀l:List Ex,l.length<=wEs l
 |[]=>SX _
 |e::l=>by
  have h1:=Jdm l;have h2:1<=wE e:=by cases e;simp only[wE];omega
  simp only[SI,wEs];omega
def BrK(b:Br):Prop:=b.decl.size<=100000/\(0<=b.at_/\b.at_<=1000000)/\0<=b.arm/\b.arm<=1000000
theorem GD.br(h:GD (fun a=>0<=a/\a<=1000000) m d)(hm:m<=10000):∀b∈ofD d,BrK b:=by
 intro b hb;unfold ofD at hb;obtain⟨e,he,hb⟩:=DY.1 hb;unfold Xi at hb;obtain⟨i,hi,rfl⟩:=Du.1 hb;have h1:=Lm _ h.ok e he;have h2:(Xi d.name e).length<=((Js (Jw d)).flatMap (Xi d.name)).length:=by
  obtain⟨a,b,hab⟩:=List.append_of_mem he;rw[hab];simp only[List.flatMap_append,CP,Sm];omega
 have h3:=Nj d.name (Jw d);have h4:=h.w;simp only[Xi,Sr,FV]at h2;have h5:=FT.1 hi;exact⟨h.name,h1,by simp only;omega,by simp only;omega⟩
end
def AP(a:Int):Prop:=0<=a/\a<=1000000
theorem Jja{n m:Nat}(h:ltN n m=false):m<=n:=by
 unfold ltN at h;exact Iu (fun hlt=>by
  have h2:Nat.blt n m=true:=by rw[Nat.blt_eq];exact hlt
  rw[h]at h2;cases h2)
theorem QC{e:Ex}(h:Qi e=false):exD e<=32:=by
 unfold Qi at h;rw[Cc]at h;exact Jja h.1
theorem G5{α:Type}{p:α->Bool}{l:List α}(h:l.any p=false){x:α}(hx:x∈l):p x=false:=by
 have:=DC.1 h x hx;simpa using this
theorem Jhm{d:De}(h:UZ d=false):∀e∈Jw d,exD e<=32:=by
 intro e he;unfold Jw at he;unfold UZ at h
 split at he
 .rename_i hk;rw[SH Yhn,Cb hk]at h;simp only[Cc]at h;rw[Sv.1 he];exact QC h.2.2
 split at he
 .rename_i hk;rw[SH Yhn,SH Yhn,SH Yhn,Cb hk]at h;simp only[Cc,GH]at h;rcases SE.1 he with he|he
  .obtain ⟨c,hc,rfl⟩:=Du.1 he;exact QC (G5 h.2.1.2 hc)
  .obtain ⟨c,hc,rfl⟩:=Du.1 he;exact QC (G5 h.2.2.1.2 hc)
 split at he
 .rename_i hk;rw[SH Yhn,SH Yhn,SH Yhn,SH Yhn,Cb hk]at h;simp only[Cc]at h;rcases SC.1 he with rfl|he
  .exact QC h.2.1
  .obtain ⟨c,hc,he⟩:=DY.1 he;have hcm:=G5 h.2.2.2 hc;simp only[Jf8,Cc]at hcm;simp only[SC,S9,CU]at he;rcases he with rfl|rfl|rfl
   .exact QC hcm.2.1
   .exact QC hcm.2.2.1
   .exact QC hcm.2.2.2
 split at he
 .rename_i hk;rw[SH Yhn,SH Yhn,SH Yhn,SH Yhn,SH Yhn,Cb hk]at h;simp only[Cc]at h;rcases SC.1 he with rfl|he
  .exact QC h.2.1
  rcases SC.1 he with rfl|he
  .exact QC h.2.2.1
  .obtain ⟨c,hc,he⟩:=DY.1 he;obtain⟨a,ha,he⟩:=DY.1 he;have hcm:=G5 h.2.2.2.2 hc;simp only[Jf5,Cc]at hcm;have hac:=G5 hcm.2.2 ha;rw[Cc]at hac;simp only[SC,S9,CU]at he;rcases he with rfl|rfl
   .exact QC hac.1
   .exact QC hac.2
 .simp at he
end Go.Rf
namespace Go.Proofs.YtggmccicdhnkgaaGreat
open Go.Rf Go.RowKit
theorem MD.gd{ds:List De}(h:MD ds):∀d∈ds,GD AP 5500 d:=by
 obtain⟨_,_,n,f,t,hn,ht,hp⟩:=h;have hA:TA AP t:=fun x hx=>⟨⟨(ht.2 x hx).1.1,by have:=(ht.2 x hx).1.2;omega⟩,by have:=(ht.2 x hx).2;omega⟩
 exact fun d hd=>(JfP (A:=AP) ⟨hn.1,by omega⟩ f hp hA d hd).mono ht.1
theorem MD.sz{ds:List De}(h:MD ds):∀d∈ds,SzD d:=fun d hd=>by
 have hg:=h.gd d hd;have h1:=Nj d.name (Jw d);have h2:=Un (Jw d);have h3:=hg.w;have h4:=Jdm (Jw d);have h5:=hg.cmds;refine⟨by omega,?_,fun e he=>by have:=Jhm (h.2.1 d hd).1 e he;omega,by omega,?_⟩
 .show ((Js (Jw d)).flatMap (Xi d.name)).length<=11000;omega
 .unfold KY;rw[Sr];have:=D5 (fun e=>decide (e.kind=3)) (Js (Jw d));omega
theorem MD.len{ds:List De}(h:MD ds):ds.length=21:=by
 have:=CZ List.length h.1;simpa[kinds]using this
theorem MD.br{ds:List De}(h:MD ds):∀d∈ds,∀b∈ofD d,BrK b:=fun d hd=>(h.gd d hd).br Yhn
end Go.Proofs.YtggmccicdhnkgaaGreat
namespace Go.Rf
open Go.RowKit
def propsD(ds:List De):List ByteArray:=(ds.filter (fun d=>decide (d.kind=3))).map De.name
def Xm(ds:List De)(k:Int):ByteArray:=(propsD ds).getD (Jbq k (propsD ds).length).toNat .empty
theorem Md{ds:List De}{i:Nat}(hi:i<ds.length):propsD (ds.take (i+1))=propsD (ds.take i)++(if ds[i].kind=3 then[ds[i].name] else[]):=by
 unfold propsD;rw[SK hi,Ib,Dp]
 congr 1
 by_cases h:ds[i].kind=3<;>simp[h]
theorem NV(ds:List De):(propsD ds).length<=ds.length:=by
 unfold propsD;rw[Sr];exact D5 _ _
end Go.Rf
namespace Go.Proofs.YtggmccicdhnkgaaGreat
open Go.Proofs.Tryz
open Go.Rf Go.RowKit
attribute [local irreducible] Code.wp wpList Exit.then Exit.inBlock bodyPost A Calls execOp Addr.add
theorem JiS(ds:List De)(v0:Value)(w:World)(S:List Nat)(hl:ds.length<=1000000)(hd:DR w S (.l (ds.map deC)) v0):
 Calls prog 48 #[.agg ([v0]:List Value).toArray] w fun e w'=>∃v,e=.returned v/\Own w' 9 1 v (propsD ds).length ((propsD ds).map .string)/\(∀x∈blks v,w.heap.size<=x)/\Fr [] w w':=by
 have hll:(ds.map deC).length=ds.length:=Sr ..;obtain⟨ao,c,hv0,_⟩:=hd.slice;rw[hll]at hv0;subst hv0;refine enter func48 rfl ntmps48 rfl ?_;refine rx ?_;refine Ju (l:=[.slice ao ds.length c]) rfl rfl (fun w1 b1 hb1e hb1 hf1 hs1=>?_);refine rx ?_;refine Jh 5 [3,4] (σ:=Nat×Value) (fun t g u=>g 3=t.2/\g 4=iV (t.1:Nat)/\t.1<=ds.length/\Own u 9 1 t.2 (propsD (ds.take t.1)).length ((propsD (ds.take t.1)).map .string)/\(∀x∈blks t.2,w1.heap.size<=x)/\Fr [] w1 u) (fun t=>ds.length-t.1) (0,_) ⟨rfl,rfl,SL _,Own.nil _ _ _,by simp[blks,Value.ownBlock],Fr.refl _ _⟩ ?_;rintro⟨i,va⟩ g u ⟨g3,g4,hi,hown,hge,hF⟩;simp only at g3 g4 hi hown hge;rw[Ja g3,Ja g4];have hb1:=hb1.tr0 hF;have hFw:=hf1.Jb hF;by_cases hlt:i<ds.length
 case neg=>
  rw[SQ Yhn]at hown;refine Yeo ?_;exact⟨va,rfl,hown,fun x hx=>by have:=hge x hx;omega,hFw⟩
 obtain⟨ad,cs,had,hr,hc⟩:=DR.at KL (hd.tr0 hFw) hlt;subst had;obtain⟨hk,hn⟩:=hr.kn;have hpl:=NV (ds.take i);rw[C9]at hpl;refine rx ?_;refine KW rfl (hc 0 _ hk) ?_;by_cases h3:ds[i].kind=3
 .refine rx ?_;refine KW rfl (hc 1 _ hn) ?_;refine rx ?_;refine QO (v:=.string ds[i].name) rfl rfl (fun u2 ho2 hf2 hs2=>?_);refine rx ?_;refine JC (hown.tr0 hf2) rfl ho2.src rfl rfl Yhu Yhv Yhn (fun v3 u3 ho3 hf3 hk3 _=>?_);have hsu:=hF.size;refine rx ?_;refine Jc (i+1,v3) Yhl ⟨rfl,rfl,hlt,?_,fun x hx=>?_,(hF.Jb hf2).trans hf3 (fun x hx=>.inr (hge x hx))⟩ Yhw
  .simp only;rw[Md hlt,Cb h3,Sm,Dp];exact ho3
  .rcases hk3 x hx with h|h
   .exact hge x h
   .omega
 .refine rx ?_;refine Jc (i+1,va) Yhl ⟨rfl,rfl,hlt,?_,hge,hF⟩ Yhw;simp only;rw[Md hlt,SH h3,Ce];exact hown
theorem Jj0(ds:List De)(k:Int)(v0:Value)(w:World)(S:List Nat)(hk:VE k)(h0:0<(propsD ds).length)(hl:ds.length<=1000000)(hd:DR w S (.l (ds.map deC)) v0):
 Calls prog 12 #[.agg ([v0]:List Value).toArray,iV k] w fun e w'=>e=.returned (.string (Xm ds k))/\Fr [] w w':=by
 have h1:=hd.one;refine enter func12 rfl ntmps12 rfl ?_;refine rx ?_;refine Ju (l:=[v0]) rfl rfl (fun w1 b1 hb1e hb1 hf1 hs1=>?_);refine rx ?_;refine Jl (JiS ds v0 w1 S hl (hd.tr0 hf1)) ?_;rintro v w2 ⟨hown,_,hf2⟩;have hpl:=NV ds;obtain⟨ao,c,rfl⟩:=hown.slice;refine rx ?_;refine Jg (around k (propsD ds).length w2 hk.1 hk.2 Yhn) ?_;rintro _ rfl;have hr:=BI (a:=k) (m:=(propsD ds).length) Yhn;obtain⟨j,hj⟩:∃j:Nat,(j:Int)=Jbq k (propsD ds).length:=⟨_,Et hr.1⟩;have hjl:j<(propsD ds).length:=by omega
 obtain⟨ad,had,hcell⟩:=KO hown.src (JaI hjl);have hpn:Xm ds k=(propsD ds)[j]:=by unfold Xm;rw[<-hj,EG,getD_at hjl]
 rw[hpn];refine rx ?_;refine BZ rfl rfl hj.symm hjl had ?_;refine KW rfl hcell ?_;refine Yeo ?_;exact⟨rfl,hf1.Jb hf2⟩
def JgM(w:World)(ds:List De)(nm:ByteArray)(e:Ending)(w':World):Prop:=Fr [] w w'/\match fdD ds 3 nm with
 |none=>e=.returned (.tuple #[.pointer none,.int .i64 6])
 |some d=>∃p M R,e=.returned (.tuple #[.pointer (some ⟨p,0,none⟩),.int .i64 0])/\RcM w' p M R M ⟨nm,d.checks.length,d.classes.length,JM ltB (KX ds nm)⟩ []/\∀x∈M++R,w.heap.size<=x
theorem Jg5(ds:List De)(nm:ByteArray)(v0:Value)(w:World)(S0:List Nat)(hsz:∀d∈ds,SzD d)(hl:ds.length<=50)(hd:DR w S0 (.l (ds.map deC)) v0):
 Calls prog 39 #[.agg ([v0]:List Value).toArray,.string nm] w (JgM w ds nm):=by
 have h01:=hd.one;refine enter func39 rfl ntmps39 rfl ?_;refine rx ?_;refine Ju (l:=[v0]) rfl rfl (fun w1 b2 hb2e hb2 hf1 hs1=>?_);have hd1:=hd.tr0 hf1;refine rx ?_;refine s_call (NJ ds 3 nm v0 w1 S0 hd1) rfl ?_;rintro en w2 hfd;obtain⟨cs,b,rfl,hlen,hone,hf2,hcase⟩:=Jjf hfd;refine⟨_,rfl,?_⟩;have hb2:=hb2.tr0 hf2;have hF2:=hf1.Jb hf2;refine rx ?_;refine Jm (l:=[zI,zT,zI,zS,zS,zI,zT,zS,zI,zT,zI,zS,zS,zS,zI,zI,zI,zT,zS,zS,zS,zI,zS,zS,zS,zS,zI,zT,zS,zI,zT,zI,zS,zS,zS,zI,zS,zS,zI,zT,zI,zS,zS,zS,zI]) rfl (fun w3 q hqe hq hf3 hs3=>?_);have hb2:=hb2.tr0 hf3;have hs2:=hF2.size;refine rx ?_;refine Jd (cs:=cs) rfl rfl hq hone rfl hlen (fun w4 hq4 hf4 hs4=>?_);have hb2:=hb2.tr hf4 (by have:=hb2e;have:=hf2.size;simp;omega);have hF4:Fr [] w w4:=(hF2.Jb hf3).trans hf4 (fun x hx=>.inr Yhq);rcases hcase with⟨hn,rfl⟩|⟨d,hsd,rfl,hrd⟩
 .refine rx ?_;refine Yhd ?_;unfold JgM;rw[hn];exact⟨hF4,rfl⟩
 obtain⟨⟨a23,c23,h23⟩,⟨a24,c24,h24⟩,hncl⟩:=RD.cks hrd;have hd4:=hd.tr0 hF4;have hs04:=hF4.size;obtain⟨rl,hrl⟩:=exq (JM ltB (KX ds nm));refine rx ?_;refine JE (fun z=>Fr [] w4 z) Yhp rfl ?_;obtain⟨u0,hu0⟩:=exq w4.drew;rw[<-hu0];have hS0:Fr [] w4 u0:=hu0▸Fr.drew _ _;refine JX 0 1 hS0 ?_;refine Kw 2 hS0 ?_ (hrun:=by(intro u hu;exact(J7 rfl (Blk.cell (hq4.tr0 hu) h23))));refine JX 3 4 hS0 ?_;refine Kw 5 hS0 ?_ (hrun:=by(intro u hu;exact(J7 rfl (Blk.cell (hq4.tr0 hu) h24))));refine JX 6 7 hS0 ?_;refine d_z 8 hS0 ?_;refine Ygx ?_;refine Jl (Jeu ds nm v0 u0 S0 hsz hl (hd4.tr0 hS0)) ?_;rintro vr u1 ⟨hR,hf5⟩;have hRge:=hR.2;have hR:=hR.1;rw[<-hrl]at hR;obtain⟨aor,cr,rfl⟩:=hR.slice;have hRlt:=hR.lt;have hS1:=hS0.Jb hf5;refine wpList_nil (Jv hS1 ?_);refine Kw 10 hS1 ?_ (v:=.agg (([.string nm,iV (d.checks.length:Nat),iV (d.classes.length:Nat),.slice aor rl.length cr,zS])).toArray) (hrun:=by(intro u hu;exact QU (([.string nm,iV (d.checks.length:Nat),iV (d.classes.length:Nat),.slice aor rl.length cr,zS])) Yik));refine JJ (i:=11) rfl Yhp ?_;refine Ju (l:=[.string nm,iV (d.checks.length:Nat),iV (d.classes.length:Nat),.slice aor rl.length cr,zS]) rfl rfl (fun u2 p hp hb6 hf6 hs6=>?_);have hS2:=hS1.Jb hf6;refine wpList_nil (Jv hS2 ?_);refine JJ (i:=12) rfl Yhp ?_;refine rx ?_;refine Jv hS2 ?_;refine JJ (i:=13) rfl Yhp ?_;refine rx ?_;refine Jv hS2 ?_;refine Yev ?_;refine Yhd ?_;have hs5:=hS1.size;have hz0:=hS0.size;unfold JgM;rw[hsd];refine⟨hF4.Jb hS2,p,[p]++blks (zS),blks (.slice aor rl.length cr),rfl,⟨.slice aor rl.length cr,zS,[],rfl,rfl,?_,fun x hx=>hx,hb6,by simp only[<-hrl];exact hR.tr0 hf6,Own.nil _ _ _,.nil⟩,fun x hx=>?_⟩
 .rw [DW];refine⟨by simp[blks,Value.ownBlock],JaW hR,fun x hx y hy e=>?_⟩;subst e;have:=hRlt x hy;simp[blks,Value.ownBlock]at hx;omega
 .rcases SE.1 hx with h|h
  .simp [blks,Value.ownBlock]at h;omega
  .have:=hRge x h;omega
theorem Jhy{ds:List De}{k:Int}(h0:0<(propsD ds).length):∃d,fdD ds 3 (Xm ds k)=some d/\d∈ds:=by
 have hr:=BI (a:=k) (m:=(propsD ds).length) Yhn;obtain⟨j,hj⟩:∃j:Nat,(j:Int)=Jbq k (propsD ds).length:=⟨_,Et hr.1⟩;have hjl:j<(propsD ds).length:=by omega
 have hpn:Xm ds k=(propsD ds)[j]:=by unfold Xm;rw[<-hj,EG,getD_at hjl]
 have hm:Xm ds k∈propsD ds:=by rw[hpn];exact Cj hjl
 unfold propsD at hm;obtain⟨d,hd,hdn⟩:=Du.1 hm;obtain⟨hd1,hd2⟩:=Fp.1 hd;cases hf:fdD ds 3 (Xm ds k)with
 |some x=>exact⟨x,rfl,(XT hf).1⟩
 |none=>
  unfold fdD at hf;have:=List.find?_eq_none.1 hf d hd1;simp only[Eb]at this;exact absurd ⟨DJ hd2,hdn⟩ this
theorem MD.props{ds:List De}(h:MD ds):0<(propsD ds).length:=by
 unfold propsD;rw[Sr,<-List.countP_eq_length_filter];have:(ds.map De.kind).countP (fun k=>decide (k=3))=ds.countP (fun d=>decide (d.kind=3)):=by rw[List.countP_map];rfl
 rw[<-this,h.1]
 decide
def Jc6(ds:List De)(nm:ByteArray)(d:De):Pp:=⟨nm,d.checks.length,d.classes.length,JM ltB (KX ds nm)⟩
def Jk5(w:World)(ds:List De)(k:Int)(e:Ending)(w':World):Prop:=∃d p M R q N T,fdD ds 3 (Xm ds k)=some d/\e=.returned (.tuple #[.pointer (some ⟨p,0,none⟩),.pointer (some ⟨q,0,none⟩),.bool true])/\
 Wj w' p M R (Jc6 ds (Xm ds k) d) (J6 d.classes.length [])/\RcM w' q N T N (Jc6 ds (Xm ds k) d) []/\(∀x∈M++R,w.heap.size<=x)/\(∀x∈N++T,w.heap.size<=x)/\(∀x∈N++T,x∉M++R)/\Fr [] w w'
theorem Jjx(ds:List De)(k:Int)(v0:Value)(w:World)(S:List Nat)(hk:VE k)(hm:MD ds)(hd:DR w S (.l (ds.map deC)) v0):
 Calls prog 10 #[.agg ([v0]:List Value).toArray,iV k] w (Jk5 w ds k):=by
 have h1:=hd.one;have hlen:=hm.len;obtain⟨d,hfd,hdm⟩:=Jhy (k:=k) hm.props;refine enter func10 rfl ntmps10 rfl ?_;refine rx ?_;refine Ju (l:=[v0]) rfl rfl (fun w1 b1 hb1e hb1 hf1 hs1=>?_);refine rx ?_;refine Jg (Jj0 ds k v0 w1 S hk hm.props Yhn (hd.tr0 hf1)) ?_;rintro w2 hf2;have hF2:=hf1.Jb hf2;have hb1:=hb1.tr0 hf2;refine rx ?_;refine s_call (newC ds (Xm ds k) v0 w2 S hm.sz Yhn (hd.tr0 hF2)) rfl ?_;rintro _ w3 ⟨hf3,hn⟩;rw[hfd]at hn;obtain⟨p,M,R,rfl,hC,hMR⟩:=hn;refine⟨_,rfl,?_⟩;have hF3:=hF2.Jb hf3;have hb1:=hb1.tr0 hf3;refine rx ?_;refine s_call (Jg5 ds (Xm ds k) v0 w3 S hm.sz Yhn (hd.tr0 hF3)) rfl ?_;rintro _ w4 ⟨hf4,hn⟩;rw[hfd]at hn;obtain⟨q,N,T,rfl,hQ,hNT⟩:=hn;refine⟨_,rfl,?_⟩;have hs2:=hF2.size;have hs3:=hF3.size;refine Yfc ?_;exact⟨d,p,M,R,q,N,T,hfd,rfl,hC.tr0 hf4,hQ,fun x hx=>by have:=hMR x hx;omega,fun x hx=>by have:=hNT x hx;omega,fun x hx hm=>by have h1:=hNT x hx;have h2:=hC.lt x hm;omega,hF3.Jb hf4⟩
end Go.Proofs.YtggmccicdhnkgaaGreat
