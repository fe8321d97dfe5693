/-
 The pieces of the generated modules' texts as items;each declaration with finitely many forms is read.
-/
import Derived.Test.YtggmccicdhnkgaaGreatVPa
set_option linter.all false
namespace Go.Rf
open Go.RowKit
abbrev Bs:=List UInt8
def aA(l:Bs):ByteArray:=⟨l.toArray⟩
abbrev zT : Value := .string (aA [])
structure Tk where
 kind:Nat
 at_:Int
 n:Int
 text:Bs
def tf:List Bs:=[[97,110,100],[98,111,111,108],[99,104,101,99,107],[99,108,97,105,109],[99,108,97,115,115],[99,111,109,109,97,110,100],[101,108,115,101],[102,97,108,115,101],[102,117,110],[103,101,110],[105,102],[105,110],[105,110,116],[108,101,116],[108,105,115,116],[109,97,107,101],[109,97,116,99,104],[109,111,100,101,108],[110,101,120,116],[110,111,116],[111,102],[111,110,101],[111,112],[111,114],[112,105,99,107],[112,111,115,116],[112,114,101],[112,114,111,112],[114,101,99,111,118,101,114],[114,101,115,117,108,116],[114,101,116,117,114,110],[115,116,101,112],[115,121,115,116,101,109],[116,104,101,110],[116,114,117,101],[116,121,112,101],[119,104,101,114,101]]
def bg(t:Bs):List Tk->Bool
 |[]=>false
 |k::_=>k.text==t
def JB(t:Bs)(r:List Tk):Option (List Tk):=if bg t r then some r.tail else none
def Bc(k:Nat):List Tk->Bool
 |[]=>false
 |t::_=>t.kind==k&& !(tf.contains t.text)
def Vr(k:Nat):List Tk->Option (Tk×List Tk)
 |[]=>none
 |t::r=>if Bc k (t::r) then some (t,r) else none
def bj(n:Int):List Tk->Int
 |[]=>n
 |t::_=>t.at_
/-! ### types -/
def Lh:Nat->List Tk->Option (Ty×List Tk)
 |0,_=>none
 |f+1,r=>
  if bg [105,110,116] r then some (⟨0,aA [],[]⟩,r.tail) else if bg [98,111,111,108] r then some (⟨1,aA [],[]⟩,r.tail)
  else if bg [91] r then
   (Lh f r.tail).bind fun(t,r1)=>(JB [93] r1).bind fun r2=>some (⟨2,aA [],[t]⟩,r2)
  else(Vr 1 r).bind fun(t,r1)=>some (⟨3,aA t.text,[]⟩,r1)
/-! ### P0 -/
def VN:Nat->List Bs
 |1=>[[111,114]]
 |2=>[[97,110,100]]
 |4=>[[61,61],[33,61],[60],[60,61]]
 |5=>[[43],[45]]
 |6=>[[42]]
 |_=>[]
def JW(id7:Nat)(r:List Tk):Option Bs:=(VN id7).find? fun o=>bg o r
def Gs:Nat->List Tk->Option (List Bs×List Tk)
 |0,_=>none
 |f+1,r=>(Vr 0 r).bind fun(t,r1)=>if bg [44] r1 then(Gs f r1.tail).bind fun(l,r2)=>some (t.text::l,r2) else some ([t.text],r1)
def N7(f:Nat)(r:List Tk):Option (List Bs×List Tk):=
 if bg [40] r then(Gs f r.tail).bind fun(l,r1)=>(JB [41] r1).bind fun r2=>some (l,r2) else some ([],r)
mutual
def J5(n:Int):Nat->List Tk->Option (Ex×List Tk)
 |0,_=>none
 |f+1,r=>
  if bg [105,102] r then
   (J5 n f r.tail).bind fun(a,r1)=>(JB [116,104,101,110] r1).bind fun r2=>(J5 n f r2).bind fun(b,r3)=>(JB [101,108,115,101] r3).bind fun r4=>(J5 n f r4).bind fun(c,r5)=>some (⟨6,aA [],0,[],[],[a,b,c],bj n r⟩,r5)
  else if bg [108,101,116] r then
   (Vr 0 r.tail).bind fun(t,r1)=>(JB [61] r1).bind fun r2=>(J5 n f r2).bind fun(a,r3)=>(JB [105,110] r3).bind fun r4=>(J5 n f r4).bind fun(b,r5)=>some (⟨7,aA t.text,0,[],[],[a,b],bj n r⟩,r5)
  else if bg [109,97,116,99,104] r then
   (J5 n f r.tail).bind fun(a,r1)=>(JB [123] r1).bind fun r2=>(Ba n f r2).bind fun(x,r3)=>(JB [125] r3).bind fun r4=>some (⟨8,aA [],0,x.map fun y=>aA y.1,x.map fun y=>y.2.1.map aA,a::x.map fun y=>y.2.2,bj n r⟩,r4)
  else Xp n f r
def Ba(n:Int):Nat->List Tk->Option (List (Bs×List Bs×Ex)×List Tk)
 |0,_=>none
 |f+1,r=>
  (Vr 1 r).bind fun(t,r1)=>(N7 f r1).bind fun(bs,r2)=>(JB [45,62] r2).bind fun r3=>(J5 n f r3).bind fun(e,r4)=>
   if bg [59] r4 then(Ba n f r4.tail).bind fun(l,r5)=>some ((t.text,bs,e)::l,r5) else some ([(t.text,bs,e)],r4)
def Zm(n:Int):Nat->List Tk->Option (List Ex×List Tk)
 |0,_=>none
 |f+1,r=>(J5 n f r).bind fun(e,r1)=>if bg [44] r1 then(Zm n f r1.tail).bind fun(l,r2)=>some (e::l,r2) else some ([e],r1)
def Xp(n:Int):Nat->List Tk->Option (Ex×List Tk)
 |0,_=>none
 |f+1,r=>(VZ n f r).bind fun(e,r1)=>Zk n f (bj n r) e r1
def Zk(n:Int):Nat->Int->Ex->List Tk->Option (Ex×List Tk)
 |0,_,_,_=>none
 |f+1,a,e,r=>match JW 1 r with
  |none=>some (e,r)
  |some o=>(VZ n f r.tail).bind fun(b,r1)=>Zk n f a ⟨9,aA o,0,[],[],[e,b],a⟩ r1
def VZ(n:Int):Nat->List Tk->Option (Ex×List Tk)
 |0,_=>none
 |f+1,r=>(Q7 n f r).bind fun(e,r1)=>Zj n f (bj n r) e r1
def Zj(n:Int):Nat->Int->Ex->List Tk->Option (Ex×List Tk)
 |0,_,_,_=>none
 |f+1,a,e,r=>match JW 2 r with
  |none=>some (e,r)
  |some o=>(Q7 n f r.tail).bind fun(b,r1)=>Zj n f a ⟨9,aA o,0,[],[],[e,b],a⟩ r1
def Q7(n:Int):Nat->List Tk->Option (Ex×List Tk)
 |0,_=>none
 |f+1,r=>if bg [110,111,116] r then(Q7 n f r.tail).bind fun(e,r1)=>some (⟨9,aA [110,111,116],0,[],[],[e],bj n r⟩,r1) else Xo n f r
def Xo(n:Int):Nat->List Tk->Option (Ex×List Tk)
 |0,_=>none
 |f+1,r=>(VL n f r).bind fun(e,r1)=>match JW 4 r1 with
  |none=>some (e,r1)
  |some o=>(VL n f r1.tail).bind fun(b,r2)=>some (⟨9,aA o,0,[],[],[e,b],bj n r⟩,r2)
def VL(n:Int):Nat->List Tk->Option (Ex×List Tk)
 |0,_=>none
 |f+1,r=>(VD n f r).bind fun(e,r1)=>Zi n f (bj n r) e r1
def Zi(n:Int):Nat->Int->Ex->List Tk->Option (Ex×List Tk)
 |0,_,_,_=>none
 |f+1,a,e,r=>match JW 5 r with
  |none=>some (e,r)
  |some o=>(VD n f r.tail).bind fun(b,r1)=>Zi n f a ⟨9,aA o,0,[],[],[e,b],a⟩ r1
def VD(n:Int):Nat->List Tk->Option (Ex×List Tk)
 |0,_=>none
 |f+1,r=>(Vj n f r).bind fun(e,r1)=>X0 n f (bj n r) e r1
def X0(n:Int):Nat->Int->Ex->List Tk->Option (Ex×List Tk)
 |0,_,_,_=>none
 |f+1,a,e,r=>match JW 6 r with
  |none=>some (e,r)
  |some o=>(Vj n f r.tail).bind fun(b,r1)=>X0 n f a ⟨9,aA o,0,[],[],[e,b],a⟩ r1
def Vj(n:Int):Nat->List Tk->Option (Ex×List Tk)
 |0,_=>none
 |f+1,r=>
  if bg [45] r then(Vr 2 r.tail).bind fun(t,r1)=>some (⟨0,aA [],-t.n,[],[],[],bj n r⟩,r1)
  else if bg [116,114,117,101] r then some (⟨1,aA [],1,[],[],[],bj n r⟩,r.tail)
  else if bg [102,97,108,115,101] r then some (⟨1,aA [],0,[],[],[],bj n r⟩,r.tail)
  else if bg [40] r then(J5 n f r.tail).bind fun(e,r1)=>(JB [41] r1).bind fun r2=>some (e,r2)
  else if bg [91] r then(Q8 n f [93] r.tail).bind fun(l,r1)=>some (⟨5,aA [],0,[],[],l,bj n r⟩,r1)
  else if Bc 2 r then(Vr 2 r).bind fun(t,r1)=>some (⟨0,aA [],t.n,[],[],[],bj n r⟩,r1)
  else if Bc 1 r then(Vr 1 r).bind fun(t,r1)=>
   if bg [40] r1 then(Q8 n f [41] r1.tail).bind fun(l,r2)=>some (⟨4,aA t.text,0,[],[],l,bj n r⟩,r2) else some (⟨4,aA t.text,0,[],[],[],bj n r⟩,r1)
  else(Vr 0 r).bind fun(t,r1)=>
   if bg [40] r1 then(Q8 n f [41] r1.tail).bind fun(l,r2)=>some (⟨3,aA t.text,0,[],[],l,bj n r⟩,r2) else some (⟨2,aA t.text,0,[],[],[],bj n r⟩,r1)
def Q8(n:Int):Nat->Bs->List Tk->Option (List Ex×List Tk)
 |0,_,_=>none
 |f+1,e,r=>if bg e r then some ([],r.tail) else(Zm n f r).bind fun(l,r1)=>(JB e r1).bind fun r2=>some (l,r2)
end
/-! ### YO -/
def ZN(n:Int)(f:Nat)(r:List Tk):Option (List Ex×List Tk):=
 (J5 n f r).bind fun(a,r1)=>(JB [46,46] r1).bind fun r2=>(J5 n f r2).bind fun(b,r3)=>some ([a,b],r3)
mutual
def ZY(n:Int):Nat->List Tk->Option (Gn×List Tk)
 |0,_=>none
 |f+1,r=>
  if bg [108,101,116] r then
   (Vr 0 r.tail).bind fun(t,r1)=>(JB [60,45] r1).bind fun r2=>(ZY n f r2).bind fun(a,r3)=>(JB [105,110] r3).bind fun r4=>(ZY n f r4).bind fun(b,r5)=>some (⟨5,aA t.text,[],[],[a,b],bj n r⟩,r5)
  else(Zh n f r).bind fun(g,r1)=>Zg n f (bj n r) g r1
def Zg(n:Int):Nat->Int->Gn->List Tk->Option (Gn×List Tk)
 |0,_,_,_=>none
 |f+1,a,g,r=>if bg [119,104,101,114,101] r then
  (Vr 0 r.tail).bind fun(t,r1)=>(JB [58] r1).bind fun r2=>(J5 n f r2).bind fun(e,r3)=>Zg n f a ⟨6,aA t.text,[],[e],[g],a⟩ r3
  else some (g,r)
def Zh(n:Int):Nat->List Tk->Option (Gn×List Tk)
 |0,_=>none
 |f+1,r=>
  if bg [114,101,116,117,114,110] r then(J5 n f r.tail).bind fun(e,r1)=>some (⟨0,aA [],[],[e],[],bj n r⟩,r1)
  else if bg [112,105,99,107] r then(ZN n f r.tail).bind fun(l,r1)=>some (⟨1,aA [],[],l,[],bj n r⟩,r1)
  else if bg [108,105,115,116] r then(ZN n f r.tail).bind fun(l,r1)=>(JB [111,102] r1).bind fun r2=>(Zh n f r2).bind fun(g,r3)=>some (⟨3,aA [],[],l,[g],bj n r⟩,r3)
  else if bg [40] r then(ZY n f r.tail).bind fun(g,r1)=>(JB [41] r1).bind fun r2=>some (g,r2)
  else if bg [111,110,101] r then(JB [123] r.tail).bind fun r1=>(y9 n f r1).bind fun(l,r2)=>(JB [125] r2).bind fun r3=>some (⟨2,aA [],l.map fun y=>y.1,[],l.map fun y=>y.2,bj n r⟩,r3)
  else if bg [109,97,107,101] r then(Vr 1 r.tail).bind fun(t,r1)=>(JB [40] r1).bind fun r2=>
   if bg [41] r2 then some (⟨4,aA t.text,[],[],[],bj n r⟩,r2.tail) else(Zl n f r2).bind fun(l,r3)=>some (⟨4,aA t.text,[],[],l,bj n r⟩,r3)
  else(Vr 0 r).bind fun(t,r1)=>(JB [40] r1).bind fun r2=>(Q8 n f [41] r2).bind fun(l,r3)=>some (⟨7,aA t.text,[],l,[],bj n r⟩,r3)
def y9(n:Int):Nat->List Tk->Option (List (Int×Gn)×List Tk)
 |0,_=>none
 |f+1,r=>(Vr 2 r).bind fun(t,r1)=>(JB [58] r1).bind fun r2=>(ZY n f r2).bind fun(g,r3)=>if bg [59] r3 then(y9 n f r3.tail).bind fun(l,r4)=>some ((t.n,g)::l,r4) else some ([(t.n,g)],r3)
def Zl(n:Int):Nat->List Tk->Option (List Gn×List Tk)
 |0,_=>none
 |f+1,r=>(ZY n f r).bind fun(g,r1)=>if bg [44] r1 then(Zl n f r1.tail).bind fun(l,r2)=>some (g::l,r2) else(JB [41] r1).bind fun r2=>some ([g],r2)
end
/-! ### oU -/
def Gq:Nat->List Tk->Option (List Pm×List Tk)
 |0,_=>none
 |f+1,r=>(Vr 0 r).bind fun(t,r1)=>(JB [58] r1).bind fun r2=>(Lh f r2).bind fun(ty,r3)=>if bg [44] r3 then(Gq f r3.tail).bind fun(l,r4)=>some (⟨aA t.text,ty⟩::l,r4) else some ([⟨aA t.text,ty⟩],r3)
def WR(f:Nat)(r:List Tk):Option (List Pm×List Tk):=
 (JB [40] r).bind fun r1=>if bg [41] r1 then some ([],r1.tail) else(Gq f r1).bind fun(l,r2)=>(JB [41] r2).bind fun r3=>some (l,r3)
def Zn(n:Int)(cmd:Bool):Nat->List Tk->Option (List Dw×List Tk)
 |0,_=>none
 |f+1,r=>(Vr 0 r).bind fun(t,r1)=>(JB [58] r1).bind fun r2=>(Lh f r2).bind fun(ty,r3)=>(JB [60,45] r3).bind fun r4=>
  (if cmd&&bg [114,101,115,117,108,116] r4 then some (⟨aA t.text,ty,AT,true⟩,r4.tail) else(ZY n f r4).bind fun(g,r5)=>some (⟨aA t.text,ty,g,false⟩,r5)).bind fun((d:Dw),r5)=>
   if bg [44] r5 then(Zn n cmd f r5.tail).bind fun(l,r6)=>some (d::l,r6) else some ([d],r5)
def Bz(n:Int)(cmd:Bool)(f:Nat)(r:List Tk):Option (List Dw×List Tk):=
 (JB [40] r).bind fun r1=>if bg [41] r1 then some ([],r1.tail) else(Zn n cmd f r1).bind fun(l,r2)=>(JB [41] r2).bind fun r3=>some (l,r3)
def Gp:Nat->List Tk->Option (List Ty×List Tk)
 |0,_=>none
 |f+1,r=>(Lh f r).bind fun(t,r1)=>if bg [44] r1 then(Gp f r1.tail).bind fun(l,r2)=>some (t::l,r2) else some ([t],r1)
def Xd:Nat->List Tk->Option (List Ct×List Tk)
 |0,_=>none
 |f+1,r=>(Vr 1 r).bind fun(t,r1)=>
  (if bg [40] r1 then(Gp f r1.tail).bind fun(l,r2)=>(JB [41] r2).bind fun r3=>some (l,r3) else some ([],r1)).bind fun((l:List Ty),r2)=>
   if bg [124] r2 then(Xd f r2.tail).bind fun(cs,r3)=>some (⟨aA t.text,l⟩::cs,r3) else some ([⟨aA t.text,l⟩],r2)
def XH(n:Int):Nat->List Ck->List Ck->List Cl->List Tk->Option ((List Ck×List Ck×List Cl)×List Tk)
 |0,_,_,_,_=>none
 |f+1,a,b,c,r=>
  if bg [99,108,97,105,109] r then
   (Vr 0 r.tail).bind fun(t,r1)=>(Vr 2 r1).bind fun(p,r2)=>(JB [47] r2).bind fun r3=>(Vr 2 r3).bind fun(q,r4)=>(JB [59] r4).bind fun r5=>XH n f a b (c++[⟨aA t.text,p.n,q.n⟩]) r5
  else if bg [99,104,101,99,107] r then
   (Vr 0 r.tail).bind fun(t,r1)=>(JB [58] r1).bind fun r2=>(J5 n f r2).bind fun(e,r3)=>(JB [59] r3).bind fun r4=>XH n f (a++[⟨aA t.text,e⟩]) b c r4
  else if bg [99,108,97,115,115] r then
   (Vr 0 r.tail).bind fun(t,r1)=>(JB [58] r1).bind fun r2=>(J5 n f r2).bind fun(e,r3)=>(JB [59] r3).bind fun r4=>XH n f a (b++[⟨aA t.text,e⟩]) c r4
  else some ((a,b,c),r)
def Bv(n:Int)(f:Nat)(r:List Tk):Option ((List Ck×List Ck×List Cl)×List Tk):=
 (JB [123] r).bind fun r1=>(XH n f [] [] [] r1).bind fun(x,r2)=>(JB [125] r2).bind fun r3=>some (x,r3)
def Lj(n:Int)(f:Nat)(r:List Tk):Option ((Ty×Ex)×List Tk):=
 (JB [40] r).bind fun r1=>(JB [115] r1).bind fun r2=>(JB [58] r2).bind fun r3=>(Lh f r3).bind fun(t,r4)=>(JB [61] r4).bind fun r5=>(J5 n f r5).bind fun(e,r6)=>(JB [41] r6).bind fun r7=>some ((t,e),r7)
def MB(n:Int):Nat->List Cm->List Tk->Option (List Cm×List Tk)
 |0,_,_=>none
 |f+1,a,r=>if bg [99,111,109,109,97,110,100] r then
  (Vr 0 r.tail).bind fun(t,r1)=>(Bz n true f r1).bind fun(ds,r2)=>(JB [112,114,101] r2).bind fun r3=>(J5 n f r3).bind fun(e1,r4)=>(JB [110,101,120,116] r4).bind fun r5=>(J5 n f r5).bind fun(e2,r6)=>(JB [112,111,115,116] r6).bind fun r7=>(J5 n f r7).bind fun(e3,r8)=>(JB [59] r8).bind fun r9=>MB n f (a++[⟨aA t.text,ds,e1,e2,e3⟩]) r9
  else some (a,r)
def JbV(n:Int)(f:Nat)(r:List Tk):Option (List Cm×List Tk):=
 (JB [123] r).bind fun r1=>(MB n f [] r1).bind fun(x,r2)=>(JB [125] r2).bind fun r3=>some (x,r3)
def MC(n:Int):Nat->List Ac->List Tk->Option (List Ac×List Tk)
 |0,_,_=>none
 |f+1,a,r=>if bg [115,116,101,112] r then
  (J5 n f r.tail).bind fun(e1,r1)=>(JB [44] r1).bind fun r2=>(J5 n f r2).bind fun(e2,r3)=>(JB [59] r3).bind fun r4=>MC n f (a++[⟨e1,e2⟩]) r4
  else some (a,r)
def Me(n:Int):Nat->List Op->List Tk->Option (List Op×List Tk)
 |0,_,_=>none
 |f+1,a,r=>if bg [111,112] r then
  (Vr 0 r.tail).bind fun(t,r1)=>(WR f r1).bind fun(ps,r2)=>(JB [123] r2).bind fun r3=>(MC n f [] r3).bind fun(uj,r4)=>(JB [125] r4).bind fun r5=>Me n f (a++[⟨aA t.text,ps,uj⟩]) r5
  else some (a,r)
def JfM(n:Int)(f:Nat)(r:List Tk):Option (List Op×List Tk):=
 (JB [123] r).bind fun r1=>(Me n f [] r1).bind fun(x,r2)=>(JB [125] r2).bind fun r3=>some (x,r3)
def UU:List Bs:=[[116,121,112,101],[102,117,110],[103,101,110],[112,114,111,112],[109,111,100,101,108],[115,121,115,116,101,109]]
def JjB(r:List Tk):Option Nat:=UU.findIdx? fun o=>bg o r
def XI(n:Int)(f:Nat)(r:List Tk):Option (De×List Tk):=
 (JjB r).bind fun k=>(Vr (if k=0 then 1 else 0) r.tail).bind fun(t,r1)=>
  let d:De:={tI with kind:=(k:Int),name:=aA t.text,at_:=bj n r.tail}
  if k=0 then(JB [61] r1).bind fun r2=>(Xd f r2).bind fun(cs,r3)=>(JB [59] r3).bind fun r4=>some ({d with ctors:=cs},r4)
  else if k=1 then(WR f r1).bind fun(ps,r2)=>(JB [58] r2).bind fun r3=>(Lh f r3).bind fun(ty,r4)=>(JB [61] r4).bind fun r5=>(J5 n f r5).bind fun(e,r6)=>(JB [59] r6).bind fun r7=>some ({d with params:=ps,type:=ty,body:=e},r7)
  else if k=2 then(WR f r1).bind fun(ps,r2)=>(JB [58] r2).bind fun r3=>(Lh f r3).bind fun(ty,r4)=>
   (if bg [100,101,112,116,104] r4 then(Vr 2 r4.tail).bind fun(q,r5)=>some (q.n,r5) else some (0,r4)).bind fun((dp:Int),r5)=>(JB [61] r5).bind fun r6=>(ZY n f r6).bind fun(g,r7)=>(JB [59] r7).bind fun r8=>some ({d with params:=ps,type:=ty,depth:=dp,gen:=g},r8)
  else if k=3 then(Bz n false f r1).bind fun(ds,r2)=>(Bv n f r2).bind fun(x,r3)=>some ({d with draws:=ds,checks:=x.1,classes:=x.2.1,claims:=x.2.2},r3)
  else if k=4 then(Lj n f r1).bind fun(x,r2)=>(JbV n f r2).bind fun(cs,r3)=>some ({d with state:=x.1,init:=x.2,cmds:=cs},r3)
  else(Lj n f r1).bind fun(x,r2)=>(JB [114,101,99,111,118,101,114] r2).bind fun r3=>(J5 n f r3).bind fun(e,r4)=>(JfM n f r4).bind fun(os,r5)=>some ({d with state:=x.1,init:=x.2,recov:=e,ops:=os},r5)
def Xc(n:Int)(F:Nat):Nat->List Tk->Option (List De)
 |0,_=>none
 |_+1,[]=>some []
 |f+1,t::r=>(XI n F (t::r)).bind fun(d,r1)=>(Xc n F f r1).bind fun ds=>some (d::ds)
section
variable{rest t:Bs}
def JhR(c:Nat):Nat:=if c=32\/c=9\/c=10 then 0 else if c=95 then 4 else if c=35 then 5 else if 97<=c/\c<=122 then 1 else if 65<=c/\c<=90 then 2 else if 48<=c/\c<=57 then 3 else 6
def Kq(c:UInt8):Nat:=JhR c.toNat
def Qm:Bool->Bs->Nat
 |_,[]=>0
 |cm,b::r=>
  if(!(if b.toNat=10 then false else if b.toNat=35 then true else cm)&&Kq b != 0)=true then 0 else 1+Qm (if b.toNat=10 then false else if b.toNat=35 then true else cm) r
def Qq(p:Nat->Bool):Bs->Nat
 |[]=>0
 |b::r=>if p (Kq b) then 1+Qq p r else 0
def p1(k:Nat):Bool:=k==1||(k==3||k==4)
def p2(k:Nat):Bool:=decide (1<=k)&&decide (k<=4)
def p3(k:Nat):Bool:=k==3
def kV:List Bs:=[[45,62],[60,45],[60,61],[61,61],[33,61],[46,46],[40],[41],[91],[93],[123],[125],[44],[59],[58],[61],[60],[43],[45],[42],[47],[124]]
def AU(x:Bs):Nat:=match kV.find? (fun s=>s.isPrefixOf x)with
 |some s=>s.length
 |none=>0
def Q9:Bs->Nat
 |[]=>0
 |b::r=>if Kq b=1 then 1+Qq p1 r else if Kq b=2 then 1+Qq p2 r else if Kq b=3 then 1+Qq p3 r else AU ((b::r).take 2)
def ML(t:Bs):Int:=t.foldl (fun n b=>min (10*n+((b.toNat:Int)-48)) 1099511627777) 0
def JY(a:Int)(t:Bs):Tk:=match t with
 |[]=>⟨3,a,0,[]⟩
 |b::_=>⟨if Kq b=1 then 0 else if Kq b=2 then 1 else if Kq b=3 then 2 else 3,a,if Kq b=3 then ML t else 0,t⟩
def p7(t:Bs):Bool:=match t with
 |[]=>false
 |b::_=>(decide (Kq b<=2)&&decide (16<t.length))||(decide (Kq b=3)&&decide (1099511627776<ML t))
def V3:Nat->Int->Bs->Except (Int×Int) (List Tk)
 |0,a,_=>.error (a,2)
 |f+1,a,r=>if r.isEmpty then .ok [] else
  let k:=Q9 r
  if k=0 then .error (a,2) else if p7 (r.take k) then .error (a,4) else
  match V3 f (a+k+Qm false (r.drop k)) ((r.drop k).drop (Qm false (r.drop k)))with
  |.ok l=>.ok (JY a (r.take k)::l)
  |.error e=>.error e
def BG(s:Bs):Except (Int×Int) (List Tk):=if 8192<s.length then .error (0,4) else V3 (s.length+1) (Qm false s) (s.drop (Qm false s))
/-! ### texts made of items -/
inductive It
 |bl (b:UInt8)
 |tk (t:Bs)
variable{a:List It}
def bN:List It->Bs
 |[]=>[]
 |.bl b::r=>b::bN r
 |.tk t::r=>t++bN r
def JA:Int->List It->List Tk
 |_,[]=>[]
 |a,.bl _::r=>JA (a+1) r
 |a,.tk t::r=>JY a t::JA (a+t.length) r
def Wx(nx:Option UInt8):List It->Option UInt8
 |[]=>nx
 |.bl b::_=>some b
 |.tk []::_=>none
 |.tk (b::_)::_=>some b
def p8(t:Bs)(nx:Option UInt8):Bool:=match t with
 |[]=>false
 |b::_=>Kq b != 0&&(Kq b != 5&&(!(p7 t)&&(match nx with
  |none=>Q9 t==t.length
  |some c=>Q9 (t++[c])==t.length)))
def iu(nx:Option UInt8):List It->Bool
 |[]=>true
 |.bl b::r=>Kq b==0&&iu nx r
 |.tk t::r=>p8 t (Wx nx r)&&iu nx r
theorem Ql(a b:List It):bN (a++b)=bN a++bN b:=by
 induction a with
 |nil=>rfl
 |cons x a ih=>cases x<;>simp[bN,ih]
theorem Qa(p:Int)(a b:List It):JA p (a++b)=JA p a++JA (p+(bN a).length) b:=by
 induction a generalizing p with
 |nil=>simp[JA,bN]
 |cons x a ih=>
  cases x with
  |bl c=>simp only[CQ,JA,bN,SI];rw[ih];congr 2;omega
  |tk t=>simp only[CQ,JA,bN,Sm];rw[ih];congr 3;omega
theorem JeI(nx:Option UInt8)(a b:List It):Wx nx (a++b)=Wx (Wx nx b) a:=by
 cases a with
 |nil=>rfl
 |cons x a=>
  rcases x with c|t
  .rfl
  .cases t<;>rfl
theorem Vw(nx:Option UInt8)(a b:List It):iu nx (a++b)=(iu (Wx nx b) a&&iu nx b):=by
 induction a with
 |nil=>rfl
 |cons x a ih=>
  cases x with
  |bl c=>simp only[CQ,iu,ih,Bool.and_assoc]
  |tk t=>simp only[CQ,iu,ih,JeI,Bool.and_assoc]
theorem ZA(p:Nat->Bool):∀(t:Bs) (c:UInt8) (r:Bs),Qq p (t++[c])=t.length->Qq p (t++c::r)=t.length
 |[],c,r,h=>by
  simp only[CO,Qq,SY]at h ⊢
  split at h
  .omega
  .rename_i hc;rw[SH hc]
 |b::t,c,r,h=>by
  simp only[CQ,Qq,SI]at h ⊢
  split at h
  .rename_i hb;rw[Cb hb,ZA p t c r ab];omega
  .omega
theorem Jgp{c:UInt8}{r:Bs}(ht:t≠[])(h:Q9 (t++[c])=t.length):Q9 (t++c::r)=t.length:=by
 cases t with
 |nil=>exact absurd rfl ht
 |cons b t=>
  simp only[CQ,Q9,SI]at h ⊢
  split at h
  .rename_i h1;rw[Cb h1,ZA p1 t c r ab];omega
  .rename_i h1;rw[SH h1]
   split at h
   .rename_i h2;rw[Cb h2,ZA p2 t c r ab];omega
   .rename_i h2;rw[SH h2]
    split at h
    .rename_i h3;rw[Cb h3,ZA p3 t c r ab];omega
    .rename_i h3;rw[SH h3];have e:(b::(t++c::r)).take 2=(b::(t++[c])).take 2:=by cases t<;>rfl
     rw[e];exact h
theorem JhE{nx:Option UInt8}(h:p8 t nx=true)(hr:rest.head?=nx):Q9 (t++rest)=t.length:=by
 unfold p8 at h
 split at h
 .cases h
 .rename_i b r;simp only[CV]at h;obtain⟨_,_,_,h⟩:=h;cases rest with
  |nil=>
   simp only[List.head?_nil]at hr;subst hr;simp only[Hy]at h;rw[Ce];exact h
  |cons c rest=>
   simp only[List.head?_cons]at hr;subst hr;simp only[Hy]at h;exact Jgp ap h
theorem Jft{nx:Option UInt8}(h:iu nx a=true):(bN a++nx.toList).head?=Wx nx a:=by
 cases a with
 |nil=>cases nx<;>rfl
 |cons x a=>
  cases x with
  |bl c=>rfl
  |tk t=>
   cases t with
   |nil=>simp[iu,p8]at h
   |cons b t=>rfl
theorem Jfi{nx:Option UInt8}(h:p8 t nx=true):Qm false (t++rest)=0:=by
 cases t with
 |nil=>simp[p8]at h
 |cons b t=>
  simp only[p8,CV,bne_iff_ne]at h;have YP:¬b.toNat=35:=fun e=>h.2.1 (by unfold Kq;rw[e];rfl)
  have ez:¬b.toNat=10:=fun e=>h.1 (by unfold Kq;rw[e];rfl)
  simp only[CQ,Qm];rw[SH ez,SH YP];simp[h.1]
def X5:List It->List It
 |.bl _::r=>X5 r
 |l=>l
def uk:List It->Nat
 |.bl _::r=>1+uk r
 |_=>0
theorem UO:∀{a:List It},iu none a=true->Qm false (bN a)=uk a/\(bN a).drop (uk a)=bN (X5 a)/\iu none (X5 a)=true/\∀p:Int,JA p a=JA (p+uk a) (X5 a)
 |[],_=>⟨rfl,rfl,rfl,fun p=>rfl⟩
 |.bl b::r,h=>by
  simp only[iu,CV,Hy]at h;obtain⟨h1,h2,h3,h4⟩:=UO h.2;have hc:Kq b=0:=h.1;have YP:¬b.toNat=35:=fun e=>by unfold Kq at hc;rw[e]at hc;revert hc;decide
  have hx:(if b.toNat=10 then false else if b.toNat=35 then true else false)=false:=by rw[SH YP];split<;>rfl
  refine⟨?_,?_,h3,fun p=>?_⟩
  .simp only[bN,Qm,uk,hx,h1];simp[hc]
  .simp only[bN,uk,X5];rw[D7,Fb,h2]
  .simp only[JA,uk,X5];rw[h4];congr 1;omega
 |.tk t::r,h=>by
  simp only[iu,CV]at h;exact⟨Jfi h.1,rfl,by simp only[X5,iu,CV];exact h,fun p=>by simp[uk,X5]⟩
theorem UQ:∀r:List It,uk (X5 r)=0
 |[]=>rfl
 |.bl b::r=>UQ r
 |.tk t::r=>rfl
theorem MG:∀(f:Nat) (a:List It) (p:Int),iu none a=true->uk a=0->(bN a).length<f->V3 f p (bN a)=.ok (JA p a)
 |0,a,p,_,_,h=>by omega
 |f+1,[],p,_,_,_=>by simp[V3,bN,JA]
 |f+1,.bl b::r,p,_,hb,_=>by simp[uk]at hb
 |f+1,.tk t::r,p,h,_,hl=>by
  simp only[iu,CV]at h;have iz:t≠[]:=fun e=>by rw[e]at h;simp[p8]at h
  have hh:=Jft h.2;simp only[Option.toList_none,Ce]at hh;have he:=JhE (rest:=bN r) h.1 hh;have htl:0<t.length:=List.length_pos_iff.2 iz;have ly:p7 t=false:=by
   have:=h.1;unfold p8 at this
   split at this
   .cases this
   .simp only[CV,ES]at this;exact this.2.2.1
  obtain⟨h1,h2,h3,h4⟩:=UO h.2;simp only[bN,Sm]at hl;have id8:(t++bN r).isEmpty=false:=by cases t with
   |nil=>exact absurd rfl iz
   |cons b t=>rfl
  have ln:=UQ r;have hlen:(bN (X5 r)).length<=(bN r).length:=by rw[<-h2,Dn];omega
  have ih:=MG f (X5 r) (p+t.length+uk r) h3 ln ab;have er:bN (.tk t::r)=t++bN r:=rfl;rw[er,V3,SH (by rw[id8];simp),he];simp only;rw[SH ab,EW,List.drop_left,ly,h1,h2,ih];simp only[SS,CW,JA];rw[h4]
theorem BF(h:iu none a=true)(hl:(bN a).length<=8192):BG (bN a)=.ok (JA 0 a):=by
 unfold BG;rw[SH ab];obtain⟨h1,h2,h3,h4⟩:=UO h;have ln:=UQ a;have hlen:(bN (X5 a)).length<=(bN a).length:=by rw[<-h2,Dn];omega
 rw[h1,h2,MG _ _ _ h3 ln ab,h4];simp
end
section
variable{l:List Ex}
mutual
def yu:Ty->Nat
 |⟨_,_,ks⟩=>ZX ks+1
def ZX:List Ty->Nat
 |[]=>0
 |t::l=>max (yu t) (ZX l)
end
mutual
def jc:Ex->Nat
 |⟨_,_,_,_,_,ks,_⟩=>WH ks+1
def WH:List Ex->Nat
 |[]=>0
 |t::l=>max (jc t) (WH l)
end
mutual
def yv:Gn->Nat
 |⟨_,_,_,uj,ks,_⟩=>max (X6 ks) (WH uj)+1
def X6:List Gn->Nat
 |[]=>0
 |t::l=>max (yv t) (X6 l)
end
def j9(n m:Nat):Bool:=Nat.blt n m
def Ut(k:Int)(n:Nat)(bs:List (List ByteArray)):Bool:=
 if k=3\/k=4 then j9 16 n else if k=5 then j9 256 n else if k=8 then j9 16 (n-1)||bs.any (fun b=>j9 16 b.length) else false
mutual
def Wh:Ex->Bool
 |⟨k,_,_,_,bs,ks,_⟩=>Ut k ks.length bs||Gz ks
def Gz:List Ex->Bool
 |[]=>false
 |t::l=>Wh t||Gz l
end
def Jf6(k:Int)(n a w:Nat):Bool:=if k=2 then j9 16 n||j9 16 w else if k=4 then j9 16 n else if k=7 then j9 16 a else false
mutual
def Jf7:Gn->Bool
 |⟨k,_,ws,uj,ks,_⟩=>Jf6 k ks.length uj.length ws.length||(Gz uj||Jb4 ks)
def Jb4:List Gn->Bool
 |[]=>false
 |t::l=>Jf7 t||Jb4 l
end
def UY(t:Ty):Bool:=j9 32 (yu t)
def Qi(e:Ex):Bool:=j9 32 (jc e)||Wh e
def Gx(g:Gn):Bool:=j9 32 (yv g)||Jf7 g
def Us(l:List Pm):Bool:=j9 16 l.length||l.any (fun p=>UY p.type)
def Aj(l:List Dw):Bool:=j9 16 l.length||l.any (fun d=>UY d.type||(!d.ref&&Gx d.gen))
def GH(l:List Ck):Bool:=j9 16 l.length||l.any (fun c=>Qi c.expr)
def Jf8(c:Cm):Bool:=Aj c.draws||(Qi c.pre||(Qi c.next||Qi c.post))
def Jf5(o:Op):Bool:=Us o.params||(j9 16 o.acts.length||o.acts.any (fun a=>Qi a.shared||Qi a.loc))
def UZ(d:De):Bool:=
 if d.kind=0 then j9 16 d.ctors.length||d.ctors.any (fun c=>j9 16 c.args.length||c.args.any UY)
 else if d.kind=1 then Us d.params||(UY d.type||Qi d.body)
 else if d.kind=2 then Us d.params||(UY d.type||Gx d.gen)
 else if d.kind=3 then Aj d.draws||(GH d.checks||(GH d.classes||j9 16 d.claims.length))
 else if d.kind=4 then UY d.state||(Qi d.init||(j9 16 d.cmds.length||d.cmds.any Jf8))
 else if d.kind=5 then UY d.state||(Qi d.init||(Qi d.recov||(j9 16 d.ops.length||d.ops.any Jf5)))
 else false
def Pn(l:List De):Bool:=j9 64 l.length||l.any UZ
theorem JhB{m:Nat}(h:∀e∈l,jc e<=m):WH l<=m:=by
 induction l with
 |nil=>simp[WH]
 |cons e l ih=>simp only[WH];exact Nat.max_le.2 ⟨h e ap,ih (fun x hx=>h x lA)⟩
theorem Gy(h:∀e∈l,Wh e=false):Gz l=false:=by
 induction l with
 |nil=>rfl
 |cons e l ih=>simp only[Gz,h e ap,Ih];exact ih (fun x hx=>h x lA)
end
def Xe:Bs:=[110,111,110,101,32,115,117,99,104]
def WC(k:Int)(its:List It):Prop:=(∀nx,iu nx its=true)/\∀(p n:Int) (rest:List Tk),∃d:De,d.kind=k/\UZ d=false/\(d.name.data.toList==Xe)=false/\XI n 200 (JA p its++rest)=some (d,rest)
def JjK(x:De×List Tk):Int×Bool×Bool×List Tk:=(x.1.kind,UZ x.1,x.1.name.data.toList==Xe,x.2)
theorem XY{k:Int}{its:List It}(h1:∀nx,iu nx its=true)(h:∀(p n:Int) (rest:List Tk),(XI n 200 (JA p its++rest)).map JjK=some (k,false,false,rest)):WC k its:=by
 refine⟨h1,fun p n rest=>?_⟩;have:=h p n rest;cases hd:XI n 200 (JA p its++rest)with
 |none=>rw[hd]at this;cases this
 |some x=>
  rw[hd]at this;obtain⟨d,r⟩:=x;simp only[EO,Sj,JjK,Sz]at this;obtain⟨h1,h2,h3,h4⟩:=this;exact⟨d,h1,h2,h3,by rw[h4]⟩
def JcO:List It:=[.tk [116,121,112,101],.bl 32,.tk [67,111,108,111,114],.bl 32,.tk [61],.bl 32,.tk [82,101,100],.bl 32,.tk [124],.bl 32,.tk [71,114,101,101,110],.bl 32,.tk [124],.bl 32,.tk [66,108,117,101],.tk [40],.tk [105,110,116],.tk [41],.tk [59],.bl 10]
theorem Jg4:WC 0 (JcO):=by
 exact Ybw
def Jef:List It:=[.tk [116,121,112,101],.bl 32,.tk [84,114,101,101],.bl 32,.tk [61],.bl 32,.tk [76,101,97,102],.bl 32,.tk [124],.bl 32,.tk [70,111,114,107],.tk [40],.tk [84,114,101,101],.tk [44],.bl 32,.tk [105,110,116],.tk [44],.bl 32,.tk [84,114,101,101],.tk [41],.tk [59],.bl 10]
theorem JiI:WC 0 (Jef):=by
 exact Ybw
def JcK:List It:=[.tk [102,117,110],.bl 32,.tk [100,101,112,116,104],.tk [40],.tk [116],.tk [58],.bl 32,.tk [84,114,101,101],.tk [41],.tk [58],.bl 32,.tk [105,110,116],.bl 32,.tk [61],.bl 32,.tk [109,97,116,99,104],.bl 32,.tk [116],.bl 32,.tk [123],.bl 32,.tk [76,101,97,102],.bl 32,.tk [45,62],.bl 32,.tk [48],.tk [59],.bl 32,.tk [70,111,114,107],.tk [40],.tk [97],.tk [44],.bl 32,.tk [120],.tk [44],.bl 32,.tk [98],.tk [41],.bl 32,.tk [45,62],.bl 32,.tk [49],.bl 32,.tk [43],.bl 32,.tk [109,97,120],.tk [40],.tk [100,101,112,116,104],.tk [40],.tk [97],.tk [41],.tk [44],.bl 32,.tk [100,101,112,116,104],.tk [40],.tk [98],.tk [41],.tk [41],.bl 32,.tk [125],.tk [59],.bl 10]
theorem Jg2:WC 1 (JcK):=by
 exact Ybw
def JgC:List It:=[.tk [102,117,110],.bl 32,.tk [115,117,109],.tk [40],.tk [116],.tk [58],.bl 32,.tk [84,114,101,101],.tk [41],.tk [58],.bl 32,.tk [105,110,116],.bl 32,.tk [61],.bl 32,.tk [109,97,116,99,104],.bl 32,.tk [116],.bl 32,.tk [123],.bl 32,.tk [76,101,97,102],.bl 32,.tk [45,62],.bl 32]
def Jc8:List (List It):=[[.tk [48]],[.tk [49]]]
def JgB:List It:=[.tk [59],.bl 32,.tk [70,111,114,107],.tk [40],.tk [97],.tk [44],.bl 32,.tk [120],.tk [44],.bl 32,.tk [98],.tk [41],.bl 32,.tk [45,62],.bl 32,.tk [115,117,109],.tk [40],.tk [97],.tk [41],.bl 32,.tk [43],.bl 32,.tk [120],.bl 32,.tk [43],.bl 32,.tk [115,117,109],.tk [40],.tk [98],.tk [41],.bl 32,.tk [125],.tk [59],.bl 10]
theorem JjQ(x1:List It)(h1:x1∈Jc8):WC 1 (JgC++(x1++JgB)):=by
 simp only[Jc8,SC,S9,CU]at h1;exact Ydg
def JcB:List It:=[.tk [102,117,110],.bl 32,.tk [115,99,111,114,101],.tk [40],.tk [99],.tk [58],.bl 32,.tk [67,111,108,111,114],.tk [41],.tk [58],.bl 32,.tk [105,110,116],.bl 32,.tk [61],.bl 32,.tk [109,97,116,99,104],.bl 32,.tk [99],.bl 32,.tk [123],.bl 32,.tk [66,108,117,101],.tk [40],.tk [110],.tk [41],.bl 32,.tk [45,62],.bl 32,.tk [110],.bl 32,.tk [43],.bl 32]
def Ug:List (List It):=[[.tk [48]],[.tk [49]],[.tk [50]]]
def JcA:List It:=[.tk [59],.bl 32,.tk [82,101,100],.bl 32,.tk [45,62],.bl 32]
def Uf:List (List It):=[[.tk [48]],[.tk [49]],[.tk [50]],[.tk [51]]]
def Jcz:List It:=[.tk [59],.bl 32,.tk [71,114,101,101,110],.bl 32,.tk [45,62],.bl 32]
def Ue:List (List It):=[[.tk [48]],[.tk [49]],[.tk [50]],[.tk [51]]]
def Jcy:List It:=[.bl 32,.tk [125],.tk [59],.bl 10]
theorem JgW(x1:List It)(h1:x1∈Ug)(x3:List It)(h3:x3∈Uf)(x5:List It)(h5:x5∈Ue):WC 1 (JcB++(x1++(JcA++(x3++(Jcz++(x5++Jcy)))))):=by
 simp only[Ug,SC,S9,CU]at h1;rcases h1 with rfl|rfl|rfl
 all_goals (simp only[Uf,SC,S9,CU]at h3;rcases h3 with rfl|rfl|rfl|rfl)
 all_goals (simp only[Ue,SC,S9,CU]at h5;rcases h5 with rfl|rfl|rfl|rfl)
 all_goals exact XY (fun nx=>by kernel_rfl) (fun p n rest=>by kernel_rfl)
def JhY:List It:=[.tk [102,117,110],.bl 32,.tk [102],.tk [40],.tk [120],.tk [58],.bl 32,.tk [105,110,116],.tk [44],.bl 32,.tk [121],.tk [58],.bl 32,.tk [105,110,116],.tk [41],.tk [58],.bl 32,.tk [105,110,116],.bl 32,.tk [61],.bl 32]
def Jjv:List It:=[.tk [59],.bl 10]
def Jeb:List It:=[.tk [102,117,110],.bl 32,.tk [111,107],.tk [40],.tk [120],.tk [58],.bl 32,.tk [105,110,116],.tk [41],.tk [58],.bl 32,.tk [98,111,111,108],.bl 32,.tk [61],.bl 32]
def JgD:List It:=[.tk [59],.bl 10]
def JgG:List It:=[.tk [103,101,110],.bl 32,.tk [110,117,109],.tk [40],.tk [110],.tk [58],.bl 32,.tk [105,110,116],.tk [41],.tk [58],.bl 32,.tk [105,110,116],.bl 32,.tk [61],.bl 32,.tk [111,110,101],.bl 32,.tk [123],.bl 32]
def Jda:List (List It):=[[.tk [49]],[.tk [50]],[.tk [51]]]
def JgF:List It:=[.tk [58],.bl 32,.tk [112,105,99,107],.bl 32,.tk [48],.tk [46,46],.tk [110],.tk [59],.bl 32,.tk [49],.tk [58],.bl 32,.tk [114,101,116,117,114,110],.bl 32]
def Jc9:List (List It):=[[.tk [48]],[.tk [49]],[.tk [50]],[.tk [51]]]
def JgE:List It:=[.tk [59],.bl 32,.tk [49],.tk [58],.bl 32,.tk [112,105,99,107],.bl 32,.tk [48],.tk [46,46],.tk [110],.bl 32,.tk [119,104,101,114,101],.bl 32,.tk [120],.tk [58],.bl 32,.tk [111,107],.tk [40],.tk [120],.tk [41],.bl 32,.tk [111,114],.bl 32,.tk [120],.bl 32,.tk [61,61],.bl 32,.tk [48],.bl 32,.tk [125],.tk [59],.bl 10]
theorem JjR(x1:List It)(h1:x1∈Jda)(x3:List It)(h3:x3∈Jc9):WC 2 (JgG++(x1++(JgF++(x3++JgE)))):=by
 simp only[Jda,SC,S9,CU]at h1;rcases h1 with rfl|rfl|rfl
 all_goals (simp only[Jc9,SC,S9,CU]at h3;rcases h3 with rfl|rfl|rfl|rfl)
 all_goals exact XY (fun nx=>by kernel_rfl) (fun p n rest=>by kernel_rfl)
def JcN:List It:=[.tk [103,101,110],.bl 32,.tk [99,111,108,111,114],.tk [40],.tk [41],.tk [58],.bl 32,.tk [67,111,108,111,114],.bl 32,.tk [61],.bl 32,.tk [111,110,101],.bl 32,.tk [123],.bl 32,.tk [49],.tk [58],.bl 32,.tk [109,97,107,101],.bl 32,.tk [82,101,100],.tk [40],.tk [41],.tk [59],.bl 32]
def Um:List (List It):=[[.tk [49]],[.tk [50]]]
def JcM:List It:=[.tk [58],.bl 32,.tk [109,97,107,101],.bl 32,.tk [71,114,101,101,110],.tk [40],.tk [41],.tk [59],.bl 32,.tk [49],.tk [58],.bl 32,.tk [109,97,107,101],.bl 32,.tk [66,108,117,101],.tk [40],.tk [110,117,109],.tk [40]]
def Ul:List (List It):=[[.tk [48]],[.tk [49]],[.tk [50]]]
def JcL:List It:=[.tk [41],.tk [41],.bl 32,.tk [125],.tk [59],.bl 10]
theorem Jg3(x1:List It)(h1:x1∈Um)(x3:List It)(h3:x3∈Ul):WC 2 (JcN++(x1++(JcM++(x3++JcL)))):=by
 simp only[Um,SC,S9,CU]at h1;rcases h1 with rfl|rfl
 all_goals (simp only[Ul,SC,S9,CU]at h3;rcases h3 with rfl|rfl|rfl)
 all_goals exact XY (fun nx=>by kernel_rfl) (fun p n rest=>by kernel_rfl)
def Jd8:List It:=[.tk [103,101,110],.bl 32,.tk [116,114,101,101],.tk [40],.tk [110],.tk [58],.bl 32,.tk [105,110,116],.tk [41],.tk [58],.bl 32,.tk [84,114,101,101],.bl 32,.tk [100,101,112,116,104],.bl 32]
def JaX:List (List It):=[[.tk [49]],[.tk [50]],[.tk [51]]]
def Jd7:List It:=[.bl 32,.tk [61],.bl 32,.tk [111,110,101],.bl 32,.tk [123],.bl 32,.tk [50],.tk [58],.bl 32,.tk [109,97,107,101],.bl 32,.tk [76,101,97,102],.tk [40],.tk [41],.tk [59],.bl 32,.tk [49],.tk [58],.bl 32,.tk [109,97,107,101],.bl 32,.tk [70,111,114,107],.tk [40],.tk [116,114,101,101],.tk [40],.tk [110],.tk [41],.tk [44],.bl 32,.tk [112,105,99,107],.bl 32,.tk [48],.tk [46,46],.tk [110],.tk [44],.bl 32,.tk [116,114,101,101],.tk [40],.tk [110],.tk [41],.tk [41],.bl 32,.tk [125],.tk [59],.bl 10]
theorem Jiy(x1:List It)(h1:x1∈JaX):WC 2 (Jd8++(x1++Jd7)):=by
 simp only[JaX,SC,S9,CU]at h1;exact Ydc
def Jee:List It:=[.tk [103,101,110],.bl 32,.tk [110,117,109,115],.tk [40],.tk [41],.tk [58],.bl 32,.tk [91],.tk [105,110,116],.tk [93],.bl 32,.tk [61],.bl 32,.tk [108,105,115,116],.bl 32]
def Ja1:List (List It):=[[.tk [48]],[.tk [49]]]
def Jed:List It:=[.tk [46,46],.tk [50],.bl 32,.tk [111,102],.bl 32,.tk [110,117,109],.tk [40]]
def Ja0:List (List It):=[[.tk [48]],[.tk [49]],[.tk [50]]]
def Jec:List It:=[.tk [41],.tk [59],.bl 10]
theorem JiB(x1:List It)(h1:x1∈Ja1)(x3:List It)(h3:x3∈Ja0):WC 2 (Jee++(x1++(Jed++(x3++Jec)))):=by
 simp only[Ja1,SC,S9,CU]at h1;rcases h1 with rfl|rfl
 all_goals (simp only[Ja0,SC,S9,CU]at h3;rcases h3 with rfl|rfl|rfl)
 all_goals exact XY (fun nx=>by kernel_rfl) (fun p n rest=>by kernel_rfl)
def Jea:List It:=[.tk [103,101,110],.bl 32,.tk [112,97,105,114],.tk [40],.tk [41],.tk [58],.bl 32,.tk [91],.tk [105,110,116],.tk [93],.bl 32,.tk [61],.bl 32,.tk [108,101,116],.bl 32,.tk [97],.bl 32,.tk [60,45],.bl 32,.tk [112,105,99,107],.bl 32,.tk [48],.tk [46,46],.tk [50],.bl 32,.tk [105,110],.bl 32,.tk [108,101,116],.bl 32,.tk [98],.bl 32,.tk [60,45],.bl 32,.tk [112,105,99,107],.bl 32,.tk [97],.tk [46,46]]
def JaZ:List (List It):=[[.tk [50]],[.tk [51]]]
def Jd9:List It:=[.bl 32,.tk [105,110],.bl 32,.tk [114,101,116,117,114,110],.bl 32,.tk [91],.tk [97],.tk [44],.bl 32,.tk [98],.tk [93],.tk [59],.bl 10]
theorem JiA(x1:List It)(h1:x1∈JaZ):WC 2 (Jea++(x1++Jd9)):=by
 simp only[JaZ,SC,S9,CU]at h1;exact Ydg
def Jcx:List It:=[.tk [112,114,111,112],.bl 32,.tk [115,109,97,108,108],.tk [40],.tk [116],.tk [58],.bl 32,.tk [84,114,101,101],.bl 32,.tk [60,45],.bl 32,.tk [116,114,101,101],.tk [40],.tk [49],.tk [41],.tk [44],.bl 32,.tk [110],.tk [58],.bl 32,.tk [105,110,116],.bl 32,.tk [60,45],.bl 32,.tk [110,117,109],.tk [40],.tk [50],.tk [41],.tk [41],.bl 32,.tk [123],.bl 32,.tk [99,104,101,99,107],.bl 32,.tk [108,111,119],.tk [58],.bl 32,.tk [100,101,112,116,104],.tk [40],.tk [116],.tk [41],.bl 32,.tk [60,61],.bl 32,.tk [110],.bl 32,.tk [43],.bl 32]
def Ud:List (List It):=[[.tk [48]],[.tk [49]],[.tk [50]]]
def Jcw:List It:=[.tk [59],.bl 32,.tk [99,104,101,99,107],.bl 32,.tk [116,111,116,97,108],.tk [58],.bl 32,.tk [115,117,109],.tk [40],.tk [116],.tk [41],.bl 32,.tk [60,61],.bl 32]
def Uc:List (List It):=[[.tk [48]],[.tk [49]],[.tk [50]],[.tk [51]],[.tk [52]]]
def Jcv:List It:=[.tk [59],.bl 32,.tk [99,108,97,115,115],.bl 32,.tk [100,101,101,112],.tk [58],.bl 32,.tk [50],.bl 32,.tk [60,61],.bl 32,.tk [100,101,112,116,104],.tk [40],.tk [116],.tk [41],.tk [59],.bl 32,.tk [99,108,97,115,115],.bl 32,.tk [111,100,100],.tk [58],.bl 32,.tk [110],.bl 32,.tk [61,61],.bl 32,.tk [49],.tk [59],.bl 32,.tk [99,108,97,105,109],.bl 32,.tk [100,101,101,112],.bl 32,.tk [49],.tk [47],.tk [52],.tk [59],.bl 32,.tk [125],.bl 10]
theorem JgU(x1:List It)(h1:x1∈Ud)(x3:List It)(h3:x3∈Uc):WC 3 (Jcx++(x1++(Jcw++(x3++Jcv)))):=by
 simp only[Ud,SC,S9,CU]at h1;rcases h1 with rfl|rfl|rfl
 all_goals (simp only[Uc,SC,S9,CU]at h3;rcases h3 with rfl|rfl|rfl|rfl|rfl)
 all_goals exact XY (fun nx=>by kernel_rfl) (fun p n rest=>by kernel_rfl)
def JcH:List It:=[.tk [112,114,111,112],.bl 32,.tk [108,105,115,116,115],.tk [40],.tk [118],.tk [58],.bl 32,.tk [91],.tk [105,110,116],.tk [93],.bl 32,.tk [60,45],.bl 32,.tk [110,117,109,115],.tk [40],.tk [41],.tk [41],.bl 32,.tk [123],.bl 32,.tk [99,104,101,99,107],.bl 32,.tk [98,111,117,110,100],.tk [58],.bl 32,.tk [115,105,122,101],.tk [40],.tk [118],.tk [41],.bl 32,.tk [60],.bl 32]
def Uj:List (List It):=[[.tk [50]],[.tk [51]]]
def JcG:List It:=[.bl 32,.tk [111,114],.bl 32,.tk [102],.tk [40],.tk [97,116],.tk [40],.tk [118],.tk [44],.bl 32,.tk [48],.tk [41],.tk [44],.bl 32,.tk [115,105,122,101],.tk [40],.tk [118],.tk [41],.tk [41],.bl 32,.tk [60],.bl 32]
def Ui:List (List It):=[[.tk [48]],[.tk [49]],[.tk [50]],[.tk [51]],[.tk [52]],[.tk [53]],[.tk [54]],[.tk [55]],[.tk [56]],[.tk [57]]]
def JcF:List It:=[.tk [59],.bl 32,.tk [99,108,97,115,115],.bl 32,.tk [101,109,112,116,121],.tk [58],.bl 32,.tk [115,105,122,101],.tk [40],.tk [118],.tk [41],.bl 32,.tk [61,61],.bl 32,.tk [48],.tk [59],.bl 32,.tk [99,108,97,105,109],.bl 32,.tk [101,109,112,116,121],.bl 32,.tk [49],.tk [47],.tk [53],.tk [59],.bl 32,.tk [125],.bl 10]
theorem Jg0(x1:List It)(h1:x1∈Uj)(x3:List It)(h3:x3∈Ui):WC 3 (JcH++(x1++(JcG++(x3++JcF)))):=by
 simp only[Uj,SC,S9,CU]at h1;rcases h1 with rfl|rfl
 all_goals (simp only[Ui,SC,S9,CU]at h3;rcases h3 with rfl|rfl|rfl|rfl|rfl|rfl|rfl|rfl|rfl|rfl)
 all_goals exact XY (fun nx=>by kernel_rfl) (fun p n rest=>by kernel_rfl)
def Vb:List It:=[.tk [112,114,111,112],.bl 32,.tk [99,111,108,111,114,115],.tk [40],.tk [99],.tk [58],.bl 32,.tk [67,111,108,111,114],.bl 32,.tk [60,45],.bl 32,.tk [99,111,108,111,114],.tk [40],.tk [41],.tk [44],.bl 32,.tk [120],.tk [58],.bl 32,.tk [105,110,116],.bl 32,.tk [60,45],.bl 32,.tk [112,105,99,107],.bl 32,.tk [48],.tk [46,46],.tk [51],.tk [41],.bl 32,.tk [123],.bl 32,.tk [99,104,101,99,107],.bl 32,.tk [102,105,114,115,116],.tk [58],.bl 32]
def Qp:List It:=[.tk [59],.bl 32,.tk [99,108,97,115,115],.bl 32,.tk [114,101,100],.tk [58],.bl 32,.tk [99],.bl 32,.tk [61,61],.bl 32,.tk [82,101,100],.tk [59],.bl 32,.tk [125],.bl 10]
def JcE:List It:=[.tk [112,114,111,112],.bl 32,.tk [112,97,105,114,115],.tk [40],.tk [112],.tk [58],.bl 32,.tk [91],.tk [105,110,116],.tk [93],.bl 32,.tk [60,45],.bl 32,.tk [112,97,105,114],.tk [40],.tk [41],.tk [44],.bl 32,.tk [113],.tk [58],.bl 32,.tk [105,110,116],.bl 32,.tk [60,45],.bl 32,.tk [112,105,99,107],.bl 32,.tk [48],.tk [46,46],.tk [51],.tk [41],.bl 32,.tk [123],.bl 32,.tk [99,104,101,99,107],.bl 32,.tk [111,114,100,101,114],.tk [58],.bl 32,.tk [97,116],.tk [40],.tk [112],.tk [44],.bl 32,.tk [48],.tk [41],.bl 32,.tk [60,61],.bl 32,.tk [97,116],.tk [40],.tk [112],.tk [44],.bl 32,.tk [49],.tk [41],.tk [59],.bl 32,.tk [99,104,101,99,107],.bl 32,.tk [108,101,115,115],.tk [58],.bl 32,.tk [113],.bl 32,.tk [60],.bl 32]
def Uh:List (List It):=[[.tk [49]],[.tk [50]],[.tk [51]],[.tk [52]]]
def JcD:List It:=[.tk [59],.bl 32,.tk [99,108,97,115,115],.bl 32,.tk [115,97,109,101],.tk [58],.bl 32,.tk [97,116],.tk [40],.tk [112],.tk [44],.bl 32,.tk [48],.tk [41],.bl 32,.tk [61,61],.bl 32,.tk [113],.tk [59],.bl 32,.tk [125],.bl 10]
theorem JgZ(x1:List It)(h1:x1∈Uh):WC 3 (JcE++(x1++JcD)):=by
 simp only[Uh,SC,S9,CU]at h1;rcases h1 with rfl|rfl|rfl|rfl
 all_goals exact XY (fun nx=>by kernel_rfl) (fun p n rest=>by kernel_rfl)
def JcJ:List It:=[.tk [112,114,111,112],.bl 32,.tk [102,108,97,107,121],.tk [40],.tk [120],.tk [58],.bl 32,.tk [105,110,116],.bl 32,.tk [60,45],.bl 32,.tk [112,105,99,107],.bl 32,.tk [48],.tk [46,46],.tk [51],.tk [41],.bl 32,.tk [123],.bl 32,.tk [99,104,101,99,107],.bl 32,.tk [99,111,105,110],.tk [58],.bl 32,.tk [120],.bl 32,.tk [60],.bl 32,.tk [50],.bl 32,.tk [111,114],.bl 32,.tk [102,108,105,112],.tk [40]]
def Uk:List (List It):=[[.tk [49]],[.tk [50]],[.tk [51]]]
def JcI:List It:=[.tk [41],.bl 32,.tk [61,61],.bl 32,.tk [48],.tk [59],.bl 32,.tk [125],.bl 10]
theorem Jg1(x1:List It)(h1:x1∈Uk):WC 3 (JcJ++(x1++JcI)):=by
 simp only[Uk,SC,S9,CU]at h1;exact Ydc
def JcC:List It:=[.tk [109,111,100,101,108],.bl 32,.tk [113,117,101,117,101],.tk [40],.tk [115],.tk [58],.bl 32,.tk [91],.tk [105,110,116],.tk [93],.bl 32,.tk [61],.bl 32,.tk [91],.tk [93],.tk [41],.bl 32,.tk [123],.bl 32,.tk [99,111,109,109,97,110,100],.bl 32,.tk [112,117,116],.tk [40],.tk [120],.tk [58],.bl 32,.tk [105,110,116],.bl 32,.tk [60,45],.bl 32,.tk [112,105,99,107],.bl 32,.tk [48],.tk [46,46],.tk [50],.tk [41],.bl 32,.tk [112,114,101],.bl 32,.tk [115,105,122,101],.tk [40],.tk [115],.tk [41],.bl 32,.tk [60],.bl 32,.tk [50],.bl 32,.tk [110,101,120,116],.bl 32,.tk [112,117,115,104],.tk [40],.tk [115],.tk [44],.bl 32,.tk [120],.tk [41],.bl 32,.tk [112,111,115,116],.bl 32,.tk [114],.bl 32,.tk [61,61],.bl 32,.tk [48],.tk [59],.bl 32,.tk [99,111,109,109,97,110,100],.bl 32,.tk [103,101,116],.tk [40],.tk [41],.bl 32,.tk [112,114,101],.bl 32,.tk [48],.bl 32,.tk [60],.bl 32,.tk [115,105,122,101],.tk [40],.tk [115],.tk [41],.bl 32,.tk [110,101,120,116],.bl 32,.tk [100,114,111,112],.tk [40],.tk [115],.tk [44],.bl 32,.tk [49],.tk [41],.bl 32,.tk [112,111,115,116],.bl 32,.tk [114],.bl 32,.tk [61,61],.bl 32,.tk [97,116],.tk [40],.tk [115],.tk [44],.bl 32,.tk [48],.tk [41],.tk [59],.bl 32,.tk [125],.bl 10]
theorem JgX:WC 4 (JcC):=by
 exact Ybw
def Jbf:List It:=[.tk [115,121,115,116,101,109],.bl 32,.tk [114,105,110,103],.tk [40],.tk [115],.tk [58],.bl 32,.tk [91],.tk [105,110,116],.tk [93],.bl 32,.tk [61],.bl 32,.tk [91],.tk [93],.tk [41],.bl 32,.tk [114,101,99,111,118,101,114],.bl 32,.tk [91],.tk [93],.bl 32,.tk [123],.bl 32,.tk [111,112],.bl 32,.tk [112,117,116],.tk [40],.tk [120],.tk [58],.bl 32,.tk [105,110,116],.tk [41],.bl 32,.tk [123],.bl 32]
def JaY:List (List It):=[[.tk [115,116,101,112],.bl 32,.tk [112,117,115,104],.tk [40],.tk [115],.tk [44],.bl 32,.tk [120],.tk [41],.tk [44],.bl 32,.tk [48],.tk [59]],[.tk [115,116,101,112],.bl 32,.tk [115],.tk [44],.bl 32,.tk [115,105,122,101],.tk [40],.tk [115],.tk [41],.tk [59],.bl 32,.tk [115,116,101,112],.bl 32,.tk [112,117,115,104],.tk [40],.tk [115],.tk [44],.bl 32,.tk [120],.tk [41],.tk [44],.bl 32,.tk [105,102],.bl 32,.tk [108],.bl 32,.tk [60],.bl 32,.tk [50],.bl 32,.tk [116,104,101,110],.bl 32,.tk [48],.bl 32,.tk [101,108,115,101],.bl 32,.tk [49],.tk [59]]]
def Jbe:List It:=[.bl 32,.tk [125],.bl 32,.tk [111,112],.bl 32,.tk [103,101,116],.tk [40],.tk [41],.bl 32,.tk [123],.bl 32]
def MX:List (List It):=[[.tk [115,116,101,112],.bl 32,.tk [100,114,111,112],.tk [40],.tk [115],.tk [44],.bl 32,.tk [49],.tk [41],.tk [44],.bl 32,.tk [97,116],.tk [40],.tk [115],.tk [44],.bl 32,.tk [48],.tk [41],.tk [59]],[.tk [115,116,101,112],.bl 32,.tk [116,97,107,101],.tk [40],.tk [115],.tk [44],.bl 32,.tk [115,105,122,101],.tk [40],.tk [115],.tk [41],.bl 32,.tk [45],.bl 32,.tk [49],.tk [41],.tk [44],.bl 32,.tk [97,116],.tk [40],.tk [115],.tk [44],.bl 32,.tk [115,105,122,101],.tk [40],.tk [115],.tk [41],.bl 32,.tk [45],.bl 32,.tk [49],.tk [41],.tk [59]],[.tk [115,116,101,112],.bl 32,.tk [115],.tk [44],.bl 32,.tk [97,116],.tk [40],.tk [115],.tk [44],.bl 32,.tk [48],.tk [41],.tk [59],.bl 32,.tk [115,116,101,112],.bl 32,.tk [100,114,111,112],.tk [40],.tk [115],.tk [44],.bl 32,.tk [49],.tk [41],.tk [44],.bl 32,.tk [108],.tk [59]]]
def Jbd:List It:=[.bl 32,.tk [125],.bl 32,.tk [125],.bl 10]
theorem Jiz(x1:List It)(h1:x1∈JaY)(x3:List It)(h3:x3∈MX):WC 5 (Jbf++(x1++(Jbe++(x3++Jbd)))):=by
 simp only[JaY,SC,S9,CU]at h1;rcases h1 with rfl|rfl
 all_goals (simp only[MX,SC,S9,CU]at h3;rcases h3 with rfl|rfl|rfl)
 all_goals exact XY (fun nx=>by kernel_rfl) (fun p n rest=>by kernel_rfl)
def UM:List It:=[.tk [109,111,100,101,108],.bl 32,.tk [99,111,117,110,116,101,114],.tk [40],.tk [115],.tk [58],.bl 32,.tk [105,110,116],.bl 32,.tk [61],.bl 32,.tk [48],.tk [41],.bl 32,.tk [123],.bl 32,.tk [99,111,109,109,97,110,100],.bl 32,.tk [105,110,99],.tk [40],.tk [41],.bl 32,.tk [112,114,101],.bl 32,.tk [115],.bl 32,.tk [60],.bl 32,.tk [52],.bl 32,.tk [110,101,120,116],.bl 32,.tk [115],.bl 32,.tk [43],.bl 32,.tk [49],.bl 32,.tk [112,111,115,116],.bl 32,.tk [114],.bl 32,.tk [61,61],.bl 32,.tk [115],.bl 32,.tk [43],.bl 32,.tk [49],.tk [59],.bl 32,.tk [99,111,109,109,97,110,100],.bl 32,.tk [114,101,97,100],.tk [40],.tk [41],.bl 32,.tk [112,114,101],.bl 32,.tk [116,114,117,101],.bl 32,.tk [110,101,120,116],.bl 32,.tk [115],.bl 32,.tk [112,111,115,116],.bl 32,.tk [114],.bl 32,.tk [61,61],.bl 32,.tk [115],.tk [59],.bl 32,.tk [99,111,109,109,97,110,100],.bl 32,.tk [97,100,100],.tk [40],.tk [121],.tk [58],.bl 32,.tk [105,110,116],.bl 32,.tk [60,45],.bl 32,.tk [114,101,115,117,108,116],.tk [44],.bl 32,.tk [122],.tk [58],.bl 32,.tk [105,110,116],.bl 32,.tk [60,45],.bl 32,.tk [112,105,99,107],.bl 32,.tk [48],.tk [46,46],.tk [49],.tk [41],.bl 32,.tk [112,114,101],.bl 32,.tk [121],.bl 32,.tk [60],.bl 32,.tk [51],.bl 32,.tk [110,101,120,116],.bl 32,.tk [115],.bl 32,.tk [43],.bl 32,.tk [121],.bl 32,.tk [43],.bl 32,.tk [122],.bl 32,.tk [112,111,115,116],.bl 32,.tk [114],.bl 32,.tk [61,61],.bl 32,.tk [115],.bl 32,.tk [43],.bl 32,.tk [121],.bl 32,.tk [43],.bl 32,.tk [122],.tk [59],.bl 32,.tk [125],.bl 10]
theorem Jep:WC 4 (UM):=by
 exact Ybw
def Jbk:List It:=[.tk [115,121,115,116,101,109],.bl 32,.tk [99,101,108,108],.tk [40],.tk [115],.tk [58],.bl 32,.tk [105,110,116],.bl 32,.tk [61],.bl 32,.tk [48],.tk [41],.bl 32,.tk [114,101,99,111,118,101,114],.bl 32]
def Ja2:List (List It):=[[.tk [48]],[.tk [115]]]
def Jbj:List It:=[.bl 32,.tk [123],.bl 32,.tk [111,112],.bl 32,.tk [105,110,99],.tk [40],.tk [41],.bl 32,.tk [123],.bl 32]
def MZ:List (List It):=[[.tk [115,116,101,112],.bl 32,.tk [115],.bl 32,.tk [43],.bl 32,.tk [49],.tk [44],.bl 32,.tk [115],.bl 32,.tk [43],.bl 32,.tk [49],.tk [59]],[.tk [115,116,101,112],.bl 32,.tk [115],.tk [44],.bl 32,.tk [115],.tk [59],.bl 32,.tk [115,116,101,112],.bl 32,.tk [108],.bl 32,.tk [43],.bl 32,.tk [49],.tk [44],.bl 32,.tk [108],.bl 32,.tk [43],.bl 32,.tk [49],.tk [59]],[.tk [115,116,101,112],.bl 32,.tk [115],.tk [44],.bl 32,.tk [115],.tk [59],.bl 32,.tk [115,116,101,112],.bl 32,.tk [115],.bl 32,.tk [43],.bl 32,.tk [49],.tk [44],.bl 32,.tk [115],.bl 32,.tk [43],.bl 32,.tk [49],.tk [59]],[.tk [115,116,101,112],.bl 32,.tk [115],.bl 32,.tk [43],.bl 32,.tk [49],.tk [44],.bl 32,.tk [105,102],.bl 32,.tk [102,108,105,112],.tk [40],.tk [53],.tk [41],.bl 32,.tk [60],.bl 32,.tk [52],.bl 32,.tk [116,104,101,110],.bl 32,.tk [115],.bl 32,.tk [43],.bl 32,.tk [49],.bl 32,.tk [101,108,115,101],.bl 32,.tk [115],.tk [59]]]
def Jbi:List It:=[.bl 32,.tk [125],.bl 32,.tk [111,112],.bl 32,.tk [114,101,97,100],.tk [40],.tk [41],.bl 32,.tk [123],.bl 32,.tk [115,116,101,112],.bl 32,.tk [115],.tk [44],.bl 32,.tk [115],.tk [59],.bl 32,.tk [125],.bl 32,.tk [111,112],.bl 32,.tk [97,100,100],.tk [40],.tk [121],.tk [58],.bl 32,.tk [105,110,116],.tk [44],.bl 32,.tk [122],.tk [58],.bl 32,.tk [105,110,116],.tk [41],.bl 32,.tk [123],.bl 32,.tk [115,116,101,112],.bl 32,.tk [115],.bl 32,.tk [43],.bl 32,.tk [121],.bl 32,.tk [43],.bl 32,.tk [122],.tk [44],.bl 32,.tk [115],.bl 32,.tk [43],.bl 32,.tk [121],.bl 32,.tk [43],.bl 32,.tk [122],.tk [59],.bl 32,.tk [125],.bl 32,.tk [125],.bl 10]
theorem JiG(x1:List It)(h1:x1∈Ja2)(x3:List It)(h3:x3∈MZ):WC 5 (Jbk++(x1++(Jbj++(x3++Jbi)))):=by
 simp only[Ja2,SC,S9,CU]at h1;rcases h1 with rfl|rfl
 all_goals (simp only[MZ,SC,S9,CU]at h3;rcases h3 with rfl|rfl|rfl|rfl)
 all_goals exact XY (fun nx=>by kernel_rfl) (fun p n rest=>by kernel_rfl)
def JeT:List It:=[.tk [40],.tk [99],.tk [58],.bl 32,.tk [67,111,108,111,114],.bl 32,.tk [60,45],.bl 32,.tk [99,111,108,111,114],.tk [40],.tk [41],.tk [44],.bl 32,.tk [120],.tk [58],.bl 32,.tk [105,110,116],.bl 32,.tk [60,45],.bl 32,.tk [112,105,99,107],.bl 32,.tk [48],.tk [46,46],.tk [51],.tk [41]]
end Go.Rf
