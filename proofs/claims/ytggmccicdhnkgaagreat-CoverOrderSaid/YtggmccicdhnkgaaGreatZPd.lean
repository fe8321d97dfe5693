/-
 The limits of modules (what the reference's Faults says of them),as functions.
-/
import Derived.Test.YtggmccicdhnkgaaGreatZPa
set_option linter.all false
namespace Go.Rf
open Go.RowKit
abbrev Bs:=List UInt8
def bst(l:Bs):ByteArray:=⟨l.toArray⟩
abbrev zT : Value := .string (bst [])
structure Tk where
 kind:Nat
 at_:Int
 n:Int
 text:Bs
def resv:List Bs:=[[97,110,100],[98,111,111,108],[99,104,101,99,107],[99,108,97,105,109],[99,108,97,115,115],[99,111,109,109,97,110,100],[101,108,115,101],[102,97,108,115,101],[102,117,110],[103,101,110],[105,102],[105,110],[105,110,116],[108,101,116],[108,105,115,116],[109,97,107,101],[109,97,116,99,104],[109,111,100,101,108],[110,101,120,116],[110,111,116],[111,102],[111,110,101],[111,112],[111,114],[112,105,99,107],[112,111,115,116],[112,114,101],[112,114,111,112],[114,101,99,111,118,101,114],[114,101,115,117,108,116],[114,101,116,117,114,110],[115,116,101,112],[115,121,115,116,101,109],[116,104,101,110],[116,114,117,101],[116,121,112,101],[119,104,101,114,101]]
def isT(t:Bs):List Tk->Bool
 |[]=>false
 |k::_=>k.text==t
def takeT(t:Bs)(r:List Tk):Option (List Tk):=if isT t r then some r.tail else none
def kindT(k:Nat):List Tk->Bool
 |[]=>false
 |t::_=>t.kind==k&& !(resv.contains t.text)
def tokT(k:Nat):List Tk->Option (Tk×List Tk)
 |[]=>none
 |t::r=>if kindT k (t::r) then some (t,r) else none
def atT(n:Int):List Tk->Int
 |[]=>n
 |t::_=>t.at_
/-! ### types -/
def pTyp:Nat->List Tk->Option (Ty×List Tk)
 |0,_=>none
 |f+1,r=>
  if isT [105,110,116] r then some (⟨0,bst [],[]⟩,r.tail) else if isT [98,111,111,108] r then some (⟨1,bst [],[]⟩,r.tail)
  else if isT [91] r then
   (pTyp f r.tail).bind fun(t,r1)=>(takeT [93] r1).bind fun r2=>some (⟨2,bst [],[t]⟩,r2)
  else(tokT 1 r).bind fun(t,r1)=>some (⟨3,bst t.text,[]⟩,r1)
/-! ### expressions -/
def opsR:Nat->List Bs
 |1=>[[111,114]]
 |2=>[[97,110,100]]
 |4=>[[61,61],[33,61],[60],[60,61]]
 |5=>[[43],[45]]
 |6=>[[42]]
 |_=>[]
def operT(rank:Nat)(r:List Tk):Option Bs:=(opsR rank).find? fun o=>isT o r
def pNmGo:Nat->List Tk->Option (List Bs×List Tk)
 |0,_=>none
 |f+1,r=>(tokT 0 r).bind fun(t,r1)=>if isT [44] r1 then(pNmGo f r1.tail).bind fun(l,r2)=>some (t.text::l,r2) else some ([t.text],r1)
def pNames(f:Nat)(r:List Tk):Option (List Bs×List Tk):=
 if isT [40] r then(pNmGo f r.tail).bind fun(l,r1)=>(takeT [41] r1).bind fun r2=>some (l,r2) else some ([],r)
mutual
def pExpr(n:Int):Nat->List Tk->Option (Ex×List Tk)
 |0,_=>none
 |f+1,r=>
  if isT [105,102] r then
   (pExpr n f r.tail).bind fun(a,r1)=>(takeT [116,104,101,110] r1).bind fun r2=>(pExpr n f r2).bind fun(b,r3)=>(takeT [101,108,115,101] r3).bind fun r4=>(pExpr n f r4).bind fun(c,r5)=>some (⟨6,bst [],0,[],[],[a,b,c],atT n r⟩,r5)
  else if isT [108,101,116] r then
   (tokT 0 r.tail).bind fun(t,r1)=>(takeT [61] r1).bind fun r2=>(pExpr n f r2).bind fun(a,r3)=>(takeT [105,110] r3).bind fun r4=>(pExpr n f r4).bind fun(b,r5)=>some (⟨7,bst t.text,0,[],[],[a,b],atT n r⟩,r5)
  else if isT [109,97,116,99,104] r then
   (pExpr n f r.tail).bind fun(a,r1)=>(takeT [123] r1).bind fun r2=>(pArms n f r2).bind fun(x,r3)=>(takeT [125] r3).bind fun r4=>some (⟨8,bst [],0,x.map fun y=>bst y.1,x.map fun y=>y.2.1.map bst,a::x.map fun y=>y.2.2,atT n r⟩,r4)
  else pLev1 n f r
def pArms(n:Int):Nat->List Tk->Option (List (Bs×List Bs×Ex)×List Tk)
 |0,_=>none
 |f+1,r=>
  (tokT 1 r).bind fun(t,r1)=>(pNames f r1).bind fun(bs,r2)=>(takeT [45,62] r2).bind fun r3=>(pExpr n f r3).bind fun(e,r4)=>
   if isT [59] r4 then(pArms n f r4.tail).bind fun(l,r5)=>some ((t.text,bs,e)::l,r5) else some ([(t.text,bs,e)],r4)
def pExGo(n:Int):Nat->List Tk->Option (List Ex×List Tk)
 |0,_=>none
 |f+1,r=>(pExpr n f r).bind fun(e,r1)=>if isT [44] r1 then(pExGo n f r1.tail).bind fun(l,r2)=>some (e::l,r2) else some ([e],r1)
def pLev1(n:Int):Nat->List Tk->Option (Ex×List Tk)
 |0,_=>none
 |f+1,r=>(pLev2 n f r).bind fun(e,r1)=>pOps1 n f (atT n r) e r1
def pOps1(n:Int):Nat->Int->Ex->List Tk->Option (Ex×List Tk)
 |0,_,_,_=>none
 |f+1,a,e,r=>match operT 1 r with
  |none=>some (e,r)
  |some o=>(pLev2 n f r.tail).bind fun(b,r1)=>pOps1 n f a ⟨9,bst o,0,[],[],[e,b],a⟩ r1
def pLev2(n:Int):Nat->List Tk->Option (Ex×List Tk)
 |0,_=>none
 |f+1,r=>(pLev3 n f r).bind fun(e,r1)=>pOps2 n f (atT n r) e r1
def pOps2(n:Int):Nat->Int->Ex->List Tk->Option (Ex×List Tk)
 |0,_,_,_=>none
 |f+1,a,e,r=>match operT 2 r with
  |none=>some (e,r)
  |some o=>(pLev3 n f r.tail).bind fun(b,r1)=>pOps2 n f a ⟨9,bst o,0,[],[],[e,b],a⟩ r1
def pLev3(n:Int):Nat->List Tk->Option (Ex×List Tk)
 |0,_=>none
 |f+1,r=>if isT [110,111,116] r then(pLev3 n f r.tail).bind fun(e,r1)=>some (⟨9,bst [110,111,116],0,[],[],[e],atT n r⟩,r1) else pLev4 n f r
def pLev4(n:Int):Nat->List Tk->Option (Ex×List Tk)
 |0,_=>none
 |f+1,r=>(pLev5 n f r).bind fun(e,r1)=>match operT 4 r1 with
  |none=>some (e,r1)
  |some o=>(pLev5 n f r1.tail).bind fun(b,r2)=>some (⟨9,bst o,0,[],[],[e,b],atT n r⟩,r2)
def pLev5(n:Int):Nat->List Tk->Option (Ex×List Tk)
 |0,_=>none
 |f+1,r=>(pLev6 n f r).bind fun(e,r1)=>pOps5 n f (atT n r) e r1
def pOps5(n:Int):Nat->Int->Ex->List Tk->Option (Ex×List Tk)
 |0,_,_,_=>none
 |f+1,a,e,r=>match operT 5 r with
  |none=>some (e,r)
  |some o=>(pLev6 n f r.tail).bind fun(b,r1)=>pOps5 n f a ⟨9,bst o,0,[],[],[e,b],a⟩ r1
def pLev6(n:Int):Nat->List Tk->Option (Ex×List Tk)
 |0,_=>none
 |f+1,r=>(pOpnd n f r).bind fun(e,r1)=>pOps6 n f (atT n r) e r1
def pOps6(n:Int):Nat->Int->Ex->List Tk->Option (Ex×List Tk)
 |0,_,_,_=>none
 |f+1,a,e,r=>match operT 6 r with
  |none=>some (e,r)
  |some o=>(pOpnd n f r.tail).bind fun(b,r1)=>pOps6 n f a ⟨9,bst o,0,[],[],[e,b],a⟩ r1
def pOpnd(n:Int):Nat->List Tk->Option (Ex×List Tk)
 |0,_=>none
 |f+1,r=>
  if isT [45] r then(tokT 2 r.tail).bind fun(t,r1)=>some (⟨0,bst [],-t.n,[],[],[],atT n r⟩,r1)
  else if isT [116,114,117,101] r then some (⟨1,bst [],1,[],[],[],atT n r⟩,r.tail)
  else if isT [102,97,108,115,101] r then some (⟨1,bst [],0,[],[],[],atT n r⟩,r.tail)
  else if isT [40] r then(pExpr n f r.tail).bind fun(e,r1)=>(takeT [41] r1).bind fun r2=>some (e,r2)
  else if isT [91] r then(pExprs n f [93] r.tail).bind fun(l,r1)=>some (⟨5,bst [],0,[],[],l,atT n r⟩,r1)
  else if kindT 2 r then(tokT 2 r).bind fun(t,r1)=>some (⟨0,bst [],t.n,[],[],[],atT n r⟩,r1)
  else if kindT 1 r then(tokT 1 r).bind fun(t,r1)=>
   if isT [40] r1 then(pExprs n f [41] r1.tail).bind fun(l,r2)=>some (⟨4,bst t.text,0,[],[],l,atT n r⟩,r2) else some (⟨4,bst t.text,0,[],[],[],atT n r⟩,r1)
  else(tokT 0 r).bind fun(t,r1)=>
   if isT [40] r1 then(pExprs n f [41] r1.tail).bind fun(l,r2)=>some (⟨3,bst t.text,0,[],[],l,atT n r⟩,r2) else some (⟨2,bst t.text,0,[],[],[],atT n r⟩,r1)
def pExprs(n:Int):Nat->Bs->List Tk->Option (List Ex×List Tk)
 |0,_,_=>none
 |f+1,e,r=>if isT e r then some ([],r.tail) else(pExGo n f r).bind fun(l,r1)=>(takeT e r1).bind fun r2=>some (l,r2)
end
/-! ### generators -/
def pBounds(n:Int)(f:Nat)(r:List Tk):Option (List Ex×List Tk):=
 (pExpr n f r).bind fun(a,r1)=>(takeT [46,46] r1).bind fun r2=>(pExpr n f r2).bind fun(b,r3)=>some ([a,b],r3)
mutual
def pGen(n:Int):Nat->List Tk->Option (Gn×List Tk)
 |0,_=>none
 |f+1,r=>
  if isT [108,101,116] r then
   (tokT 0 r.tail).bind fun(t,r1)=>(takeT [60,45] r1).bind fun r2=>(pGen n f r2).bind fun(a,r3)=>(takeT [105,110] r3).bind fun r4=>(pGen n f r4).bind fun(b,r5)=>some (⟨5,bst t.text,[],[],[a,b],atT n r⟩,r5)
  else(pPart n f r).bind fun(g,r1)=>pWhere n f (atT n r) g r1
def pWhere(n:Int):Nat->Int->Gn->List Tk->Option (Gn×List Tk)
 |0,_,_,_=>none
 |f+1,a,g,r=>if isT [119,104,101,114,101] r then
  (tokT 0 r.tail).bind fun(t,r1)=>(takeT [58] r1).bind fun r2=>(pExpr n f r2).bind fun(e,r3)=>pWhere n f a ⟨6,bst t.text,[],[e],[g],a⟩ r3
  else some (g,r)
def pPart(n:Int):Nat->List Tk->Option (Gn×List Tk)
 |0,_=>none
 |f+1,r=>
  if isT [114,101,116,117,114,110] r then(pExpr n f r.tail).bind fun(e,r1)=>some (⟨0,bst [],[],[e],[],atT n r⟩,r1)
  else if isT [112,105,99,107] r then(pBounds n f r.tail).bind fun(l,r1)=>some (⟨1,bst [],[],l,[],atT n r⟩,r1)
  else if isT [108,105,115,116] r then(pBounds n f r.tail).bind fun(l,r1)=>(takeT [111,102] r1).bind fun r2=>(pPart n f r2).bind fun(g,r3)=>some (⟨3,bst [],[],l,[g],atT n r⟩,r3)
  else if isT [40] r then(pGen n f r.tail).bind fun(g,r1)=>(takeT [41] r1).bind fun r2=>some (g,r2)
  else if isT [111,110,101] r then(takeT [123] r.tail).bind fun r1=>(pOne n f r1).bind fun(l,r2)=>(takeT [125] r2).bind fun r3=>some (⟨2,bst [],l.map fun y=>y.1,[],l.map fun y=>y.2,atT n r⟩,r3)
  else if isT [109,97,107,101] r then(tokT 1 r.tail).bind fun(t,r1)=>(takeT [40] r1).bind fun r2=>
   if isT [41] r2 then some (⟨4,bst t.text,[],[],[],atT n r⟩,r2.tail) else(pMake n f r2).bind fun(l,r3)=>some (⟨4,bst t.text,[],[],l,atT n r⟩,r3)
  else(tokT 0 r).bind fun(t,r1)=>(takeT [40] r1).bind fun r2=>(pExprs n f [41] r2).bind fun(l,r3)=>some (⟨7,bst t.text,[],l,[],atT n r⟩,r3)
def pOne(n:Int):Nat->List Tk->Option (List (Int×Gn)×List Tk)
 |0,_=>none
 |f+1,r=>(tokT 2 r).bind fun(t,r1)=>(takeT [58] r1).bind fun r2=>(pGen n f r2).bind fun(g,r3)=>if isT [59] r3 then(pOne n f r3.tail).bind fun(l,r4)=>some ((t.n,g)::l,r4) else some ([(t.n,g)],r3)
def pMake(n:Int):Nat->List Tk->Option (List Gn×List Tk)
 |0,_=>none
 |f+1,r=>(pGen n f r).bind fun(g,r1)=>if isT [44] r1 then(pMake n f r1.tail).bind fun(l,r2)=>some (g::l,r2) else(takeT [41] r1).bind fun r2=>some ([g],r2)
end
/-! ### declarations -/
def pPmGo:Nat->List Tk->Option (List Pm×List Tk)
 |0,_=>none
 |f+1,r=>(tokT 0 r).bind fun(t,r1)=>(takeT [58] r1).bind fun r2=>(pTyp f r2).bind fun(ty,r3)=>if isT [44] r3 then(pPmGo f r3.tail).bind fun(l,r4)=>some (⟨bst t.text,ty⟩::l,r4) else some ([⟨bst t.text,ty⟩],r3)
def pParams(f:Nat)(r:List Tk):Option (List Pm×List Tk):=
 (takeT [40] r).bind fun r1=>if isT [41] r1 then some ([],r1.tail) else(pPmGo f r1).bind fun(l,r2)=>(takeT [41] r2).bind fun r3=>some (l,r3)
def pDwGo(n:Int)(cmd:Bool):Nat->List Tk->Option (List Dw×List Tk)
 |0,_=>none
 |f+1,r=>(tokT 0 r).bind fun(t,r1)=>(takeT [58] r1).bind fun r2=>(pTyp f r2).bind fun(ty,r3)=>(takeT [60,45] r3).bind fun r4=>
  (if cmd&&isT [114,101,115,117,108,116] r4 then some (⟨bst t.text,ty,gn0,true⟩,r4.tail) else(pGen n f r4).bind fun(g,r5)=>some (⟨bst t.text,ty,g,false⟩,r5)).bind fun((d:Dw),r5)=>
   if isT [44] r5 then(pDwGo n cmd f r5.tail).bind fun(l,r6)=>some (d::l,r6) else some ([d],r5)
def pDraws(n:Int)(cmd:Bool)(f:Nat)(r:List Tk):Option (List Dw×List Tk):=
 (takeT [40] r).bind fun r1=>if isT [41] r1 then some ([],r1.tail) else(pDwGo n cmd f r1).bind fun(l,r2)=>(takeT [41] r2).bind fun r3=>some (l,r3)
def pTyGo:Nat->List Tk->Option (List Ty×List Tk)
 |0,_=>none
 |f+1,r=>(pTyp f r).bind fun(t,r1)=>if isT [44] r1 then(pTyGo f r1.tail).bind fun(l,r2)=>some (t::l,r2) else some ([t],r1)
def pCtors:Nat->List Tk->Option (List Ct×List Tk)
 |0,_=>none
 |f+1,r=>(tokT 1 r).bind fun(t,r1)=>
  (if isT [40] r1 then(pTyGo f r1.tail).bind fun(l,r2)=>(takeT [41] r2).bind fun r3=>some (l,r3) else some ([],r1)).bind fun((l:List Ty),r2)=>
   if isT [124] r2 then(pCtors f r2.tail).bind fun(cs,r3)=>some (⟨bst t.text,l⟩::cs,r3) else some ([⟨bst t.text,l⟩],r2)
def pItGo(n:Int):Nat->List Ck->List Ck->List Cl->List Tk->Option ((List Ck×List Ck×List Cl)×List Tk)
 |0,_,_,_,_=>none
 |f+1,a,b,c,r=>
  if isT [99,108,97,105,109] r then
   (tokT 0 r.tail).bind fun(t,r1)=>(tokT 2 r1).bind fun(p,r2)=>(takeT [47] r2).bind fun r3=>(tokT 2 r3).bind fun(q,r4)=>(takeT [59] r4).bind fun r5=>pItGo n f a b (c++[⟨bst t.text,p.n,q.n⟩]) r5
  else if isT [99,104,101,99,107] r then
   (tokT 0 r.tail).bind fun(t,r1)=>(takeT [58] r1).bind fun r2=>(pExpr n f r2).bind fun(e,r3)=>(takeT [59] r3).bind fun r4=>pItGo n f (a++[⟨bst t.text,e⟩]) b c r4
  else if isT [99,108,97,115,115] r then
   (tokT 0 r.tail).bind fun(t,r1)=>(takeT [58] r1).bind fun r2=>(pExpr n f r2).bind fun(e,r3)=>(takeT [59] r3).bind fun r4=>pItGo n f a (b++[⟨bst t.text,e⟩]) c r4
  else some ((a,b,c),r)
def pItems(n:Int)(f:Nat)(r:List Tk):Option ((List Ck×List Ck×List Cl)×List Tk):=
 (takeT [123] r).bind fun r1=>(pItGo n f [] [] [] r1).bind fun(x,r2)=>(takeT [125] r2).bind fun r3=>some (x,r3)
def pState(n:Int)(f:Nat)(r:List Tk):Option ((Ty×Ex)×List Tk):=
 (takeT [40] r).bind fun r1=>(takeT [115] r1).bind fun r2=>(takeT [58] r2).bind fun r3=>(pTyp f r3).bind fun(t,r4)=>(takeT [61] r4).bind fun r5=>(pExpr n f r5).bind fun(e,r6)=>(takeT [41] r6).bind fun r7=>some ((t,e),r7)
def pCmGo(n:Int):Nat->List Cm->List Tk->Option (List Cm×List Tk)
 |0,_,_=>none
 |f+1,a,r=>if isT [99,111,109,109,97,110,100] r then
  (tokT 0 r.tail).bind fun(t,r1)=>(pDraws n true f r1).bind fun(ds,r2)=>(takeT [112,114,101] r2).bind fun r3=>(pExpr n f r3).bind fun(e1,r4)=>(takeT [110,101,120,116] r4).bind fun r5=>(pExpr n f r5).bind fun(e2,r6)=>(takeT [112,111,115,116] r6).bind fun r7=>(pExpr n f r7).bind fun(e3,r8)=>(takeT [59] r8).bind fun r9=>pCmGo n f (a++[⟨bst t.text,ds,e1,e2,e3⟩]) r9
  else some (a,r)
def pCmds(n:Int)(f:Nat)(r:List Tk):Option (List Cm×List Tk):=
 (takeT [123] r).bind fun r1=>(pCmGo n f [] r1).bind fun(x,r2)=>(takeT [125] r2).bind fun r3=>some (x,r3)
def pAcGo(n:Int):Nat->List Ac->List Tk->Option (List Ac×List Tk)
 |0,_,_=>none
 |f+1,a,r=>if isT [115,116,101,112] r then
  (pExpr n f r.tail).bind fun(e1,r1)=>(takeT [44] r1).bind fun r2=>(pExpr n f r2).bind fun(e2,r3)=>(takeT [59] r3).bind fun r4=>pAcGo n f (a++[⟨e1,e2⟩]) r4
  else some (a,r)
def pOpGo(n:Int):Nat->List Op->List Tk->Option (List Op×List Tk)
 |0,_,_=>none
 |f+1,a,r=>if isT [111,112] r then
  (tokT 0 r.tail).bind fun(t,r1)=>(pParams f r1).bind fun(ps,r2)=>(takeT [123] r2).bind fun r3=>(pAcGo n f [] r3).bind fun(as_,r4)=>(takeT [125] r4).bind fun r5=>pOpGo n f (a++[⟨bst t.text,ps,as_⟩]) r5
  else some (a,r)
def pOps(n:Int)(f:Nat)(r:List Tk):Option (List Op×List Tk):=
 (takeT [123] r).bind fun r1=>(pOpGo n f [] r1).bind fun(x,r2)=>(takeT [125] r2).bind fun r3=>some (x,r3)
def wrds:List Bs:=[[116,121,112,101],[102,117,110],[103,101,110],[112,114,111,112],[109,111,100,101,108],[115,121,115,116,101,109]]
def wrdT(r:List Tk):Option Nat:=wrds.findIdx? fun o=>isT o r
def pDecl(n:Int)(f:Nat)(r:List Tk):Option (De×List Tk):=
 (wrdT r).bind fun k=>(tokT (if k=0 then 1 else 0) r.tail).bind fun(t,r1)=>
  let d:De:={de0 with kind:=(k:Int),name:=bst t.text,at_:=atT n r.tail}
  if k=0 then(takeT [61] r1).bind fun r2=>(pCtors f r2).bind fun(cs,r3)=>(takeT [59] r3).bind fun r4=>some ({d with ctors:=cs},r4)
  else if k=1 then(pParams f r1).bind fun(ps,r2)=>(takeT [58] r2).bind fun r3=>(pTyp f r3).bind fun(ty,r4)=>(takeT [61] r4).bind fun r5=>(pExpr n f r5).bind fun(e,r6)=>(takeT [59] r6).bind fun r7=>some ({d with params:=ps,type:=ty,body:=e},r7)
  else if k=2 then(pParams f r1).bind fun(ps,r2)=>(takeT [58] r2).bind fun r3=>(pTyp f r3).bind fun(ty,r4)=>
   (if isT [100,101,112,116,104] r4 then(tokT 2 r4.tail).bind fun(q,r5)=>some (q.n,r5) else some (0,r4)).bind fun((dp:Int),r5)=>(takeT [61] r5).bind fun r6=>(pGen n f r6).bind fun(g,r7)=>(takeT [59] r7).bind fun r8=>some ({d with params:=ps,type:=ty,depth:=dp,gen:=g},r8)
  else if k=3 then(pDraws n false f r1).bind fun(ds,r2)=>(pItems n f r2).bind fun(x,r3)=>some ({d with draws:=ds,checks:=x.1,classes:=x.2.1,claims:=x.2.2},r3)
  else if k=4 then(pState n f r1).bind fun(x,r2)=>(pCmds n f r2).bind fun(cs,r3)=>some ({d with state:=x.1,init:=x.2,cmds:=cs},r3)
  else(pState n f r1).bind fun(x,r2)=>(takeT [114,101,99,111,118,101,114] r2).bind fun r3=>(pExpr n f r3).bind fun(e,r4)=>(pOps n f r4).bind fun(os,r5)=>some ({d with state:=x.1,init:=x.2,recov:=e,ops:=os},r5)
def pMod(n:Int)(F:Nat):Nat->List Tk->Option (List De)
 |0,_=>none
 |_+1,[]=>some []
 |f+1,t::r=>(pDecl n F (t::r)).bind fun(d,r1)=>(pMod n F f r1).bind fun ds=>some (d::ds)
end Go.Rf
namespace Go.Rf
open Go.RowKit
variable{rest t:Bs}
def clsN(c:Nat):Nat:=if c=32\/c=9\/c=10 then 0 else if c=95 then 4 else if c=35 then 5 else if 97<=c/\c<=122 then 1 else if 65<=c/\c<=90 then 2 else if 48<=c/\c<=57 then 3 else 6
def clsB(c:UInt8):Nat:=clsN c.toNat
def skipF:Bool->Bs->Nat
 |_,[]=>0
 |cm,b::r=>
  if(!(if b.toNat=10 then false else if b.toNat=35 then true else cm)&&clsB b != 0)=true then 0 else 1+skipF (if b.toNat=10 then false else if b.toNat=35 then true else cm) r
def spanF(p:Nat->Bool):Bs->Nat
 |[]=>0
 |b::r=>if p (clsB b) then 1+spanF p r else 0
def p1(k:Nat):Bool:=k==1||(k==3||k==4)
def p2(k:Nat):Bool:=decide (1<=k)&&decide (k<=4)
def p3(k:Nat):Bool:=k==3
def syms:List Bs:=[[45,62],[60,45],[60,61],[61,61],[33,61],[46,46],[40],[41],[91],[93],[123],[125],[44],[59],[58],[61],[60],[43],[45],[42],[47],[124]]
def symF(x:Bs):Nat:=match syms.find? (fun s=>s.isPrefixOf x)with
 |some s=>s.length
 |none=>0
def endF:Bs->Nat
 |[]=>0
 |b::r=>if clsB b=1 then 1+spanF p1 r else if clsB b=2 then 1+spanF p2 r else if clsB b=3 then 1+spanF p3 r else symF ((b::r).take 2)
def valF(t:Bs):Int:=t.foldl (fun n b=>min (10*n+((b.toNat:Int)-48)) 1099511627777) 0
def mkTk(a:Int)(t:Bs):Tk:=match t with
 |[]=>⟨3,a,0,[]⟩
 |b::_=>⟨if clsB b=1 then 0 else if clsB b=2 then 1 else if clsB b=3 then 2 else 3,a,if clsB b=3 then valF t else 0,t⟩
def bigT(t:Bs):Bool:=match t with
 |[]=>false
 |b::_=>(decide (clsB b<=2)&&decide (16<t.length))||(decide (clsB b=3)&&decide (1099511627776<valF t))
def lexGo:Nat->Int->Bs->Except (Int×Int) (List Tk)
 |0,a,_=>.error (a,2)
 |f+1,a,r=>if r.isEmpty then .ok [] else
  let k:=endF r
  if k=0 then .error (a,2) else if bigT (r.take k) then .error (a,4) else
  match lexGo f (a+k+skipF false (r.drop k)) ((r.drop k).drop (skipF false (r.drop k)))with
  |.ok l=>.ok (mkTk a (r.take k)::l)
  |.error e=>.error e
def lexF(s:Bs):Except (Int×Int) (List Tk):=if 8192<s.length then .error (0,4) else lexGo (s.length+1) (skipF false s) (s.drop (skipF false s))
/-! ### texts made of items -/
inductive It
 |bl (b:UInt8)
 |tk (t:Bs)
variable{a:List It}
def rnd:List It->Bs
 |[]=>[]
 |.bl b::r=>b::rnd r
 |.tk t::r=>t++rnd r
def tksI:Int->List It->List Tk
 |_,[]=>[]
 |a,.bl _::r=>tksI (a+1) r
 |a,.tk t::r=>mkTk a t::tksI (a+t.length) r
def headI(nx:Option UInt8):List It->Option UInt8
 |[]=>nx
 |.bl b::_=>some b
 |.tk []::_=>none
 |.tk (b::_)::_=>some b
def okT(t:Bs)(nx:Option UInt8):Bool:=match t with
 |[]=>false
 |b::_=>clsB b != 0&&(clsB b != 5&&(!(bigT t)&&(match nx with
  |none=>endF t==t.length
  |some c=>endF (t++[c])==t.length)))
def okI(nx:Option UInt8):List It->Bool
 |[]=>true
 |.bl b::r=>clsB b==0&&okI nx r
 |.tk t::r=>okT t (headI nx r)&&okI nx r
theorem rnd_app(a b:List It):rnd (a++b)=rnd a++rnd b:=by
 induction a with
 |nil=>rfl
 |cons x a ih=>cases x<;>simp[rnd,ih]
theorem tksI_app(p:Int)(a b:List It):tksI p (a++b)=tksI p a++tksI (p+(rnd a).length) b:=by
 induction a generalizing p with
 |nil=>simp[tksI,rnd]
 |cons x a ih=>
  cases x with
  |bl c=>simp only[List.cons_append,tksI,rnd,List.length_cons];rw[ih];congr 2;omega
  |tk t=>simp only[List.cons_append,tksI,rnd,List.length_append];rw[ih];congr 3;omega
theorem headI_app(nx:Option UInt8)(a b:List It):headI nx (a++b)=headI (headI nx b) a:=by
 cases a with
 |nil=>rfl
 |cons x a=>
  rcases x with c|t
  .rfl
  .cases t<;>rfl
theorem okI_app(nx:Option UInt8)(a b:List It):okI nx (a++b)=(okI (headI nx b) a&&okI nx b):=by
 induction a with
 |nil=>rfl
 |cons x a ih=>
  cases x with
  |bl c=>simp only[List.cons_append,okI,ih,Bool.and_assoc]
  |tk t=>simp only[List.cons_append,okI,ih,headI_app,Bool.and_assoc]
theorem spanF_app(p:Nat->Bool):∀(t:Bs) (c:UInt8) (r:Bs),spanF p (t++[c])=t.length->spanF p (t++c::r)=t.length
 |[],c,r,h=>by
  simp only[List.nil_append,spanF,List.length_nil]at h ⊢
  split at h
  .omega
  .rename_i hc;rw[if_neg hc]
 |b::t,c,r,h=>by
  simp only[List.cons_append,spanF,List.length_cons]at h ⊢
  split at h
  .rename_i hb;rw[if_pos hb,spanF_app p t c r Yhn];omega
  .omega
theorem endF_app{c:UInt8}{r:Bs}(ht:t≠[])(h:endF (t++[c])=t.length):endF (t++c::r)=t.length:=by
 cases t with
 |nil=>exact absurd rfl ht
 |cons b t=>
  simp only[List.cons_append,endF,List.length_cons]at h ⊢
  split at h
  .rename_i h1;rw[if_pos h1,spanF_app p1 t c r Yhn];omega
  .rename_i h1;rw[if_neg h1]
   split at h
   .rename_i h2;rw[if_pos h2,spanF_app p2 t c r Yhn];omega
   .rename_i h2;rw[if_neg h2]
    split at h
    .rename_i h3;rw[if_pos h3,spanF_app p3 t c r Yhn];omega
    .rename_i h3;rw[if_neg h3];have e:(b::(t++c::r)).take 2=(b::(t++[c])).take 2:=by cases t<;>rfl
     rw[e];exact h
theorem endF_of{nx:Option UInt8}(h:okT t nx=true)(hr:rest.head?=nx):endF (t++rest)=t.length:=by
 unfold okT at h
 split at h
 .cases h
 .rename_i b r;simp only[Bool.and_eq_true]at h;obtain⟨_,_,_,h⟩:=h;cases rest with
  |nil=>
   simp only[List.head?_nil]at hr;subst hr;simp only[beq_iff_eq]at h;rw[List.append_nil];exact h
  |cons c rest=>
   simp only[List.head?_cons]at hr;subst hr;simp only[beq_iff_eq]at h;exact endF_app Yhs h
theorem rnd_head{nx:Option UInt8}(h:okI nx a=true):(rnd a++nx.toList).head?=headI nx a:=by
 cases a with
 |nil=>cases nx<;>rfl
 |cons x a=>
  cases x with
  |bl c=>rfl
  |tk t=>
   cases t with
   |nil=>simp[okI,okT]at h
   |cons b t=>rfl
theorem skip_tok{nx:Option UInt8}(h:okT t nx=true):skipF false (t++rest)=0:=by
 cases t with
 |nil=>simp[okT]at h
 |cons b t=>
  simp only[okT,Bool.and_eq_true,bne_iff_ne]at h;have h35:¬b.toNat=35:=fun e=>h.2.1 (by unfold clsB;rw[e];rfl)
  have h10:¬b.toNat=10:=fun e=>h.1 (by unfold clsB;rw[e];rfl)
  simp only[List.cons_append,skipF];rw[if_neg h10,if_neg h35];simp[h.1]
def dropB:List It->List It
 |.bl _::r=>dropB r
 |l=>l
def blN:List It->Nat
 |.bl _::r=>1+blN r
 |_=>0
theorem blN_skip:∀{a:List It},okI none a=true->skipF false (rnd a)=blN a/\(rnd a).drop (blN a)=rnd (dropB a)/\okI none (dropB a)=true/\∀p:Int,tksI p a=tksI (p+blN a) (dropB a)
 |[],_=>⟨rfl,rfl,rfl,fun p=>rfl⟩
 |.bl b::r,h=>by
  simp only[okI,Bool.and_eq_true,beq_iff_eq]at h;obtain⟨h1,h2,h3,h4⟩:=blN_skip h.2;have hc:clsB b=0:=h.1;have h35:¬b.toNat=35:=fun e=>by unfold clsB at hc;rw[e]at hc;revert hc;decide
  have hx:(if b.toNat=10 then false else if b.toNat=35 then true else false)=false:=by rw[if_neg h35];split<;>rfl
  refine⟨?_,?_,h3,fun p=>?_⟩
  .simp only[rnd,skipF,blN,hx,h1];simp[hc]
  .simp only[rnd,blN,dropB];rw[Nat.add_comm,List.drop_succ_cons,h2]
  .simp only[tksI,blN,dropB];rw[h4];congr 1;omega
 |.tk t::r,h=>by
  simp only[okI,Bool.and_eq_true]at h;exact⟨skip_tok h.1,rfl,by simp only[dropB,okI,Bool.and_eq_true];exact h,fun p=>by simp[blN,dropB]⟩
theorem blN_drop:∀r:List It,blN (dropB r)=0
 |[]=>rfl
 |.bl b::r=>blN_drop r
 |.tk t::r=>rfl
theorem lexGo_items:∀(f:Nat) (a:List It) (p:Int),okI none a=true->blN a=0->(rnd a).length<f->lexGo f p (rnd a)=.ok (tksI p a)
 |0,a,p,_,_,h=>by omega
 |f+1,[],p,_,_,_=>by simp[lexGo,rnd,tksI]
 |f+1,.bl b::r,p,_,hb,_=>by simp[blN]at hb
 |f+1,.tk t::r,p,h,_,hl=>by
  simp only[okI,Bool.and_eq_true]at h;have hne:t≠[]:=fun e=>by rw[e]at h;simp[okT]at h
  have hh:=rnd_head h.2;simp only[Option.toList_none,List.append_nil]at hh;have he:=endF_of (rest:=rnd r) h.1 hh;have htl:0<t.length:=List.length_pos_iff.2 hne;have hbig:bigT t=false:=by
   have:=h.1;unfold okT at this
   split at this
   .cases this
   .simp only[Bool.and_eq_true,Bool.not_eq_true']at this;exact this.2.2.1
  obtain⟨h1,h2,h3,h4⟩:=blN_skip h.2;simp only[rnd,List.length_append]at hl;have hrne:(t++rnd r).isEmpty=false:=by cases t with
   |nil=>exact absurd rfl hne
   |cons b t=>rfl
  have hb0:=blN_drop r;have hlen:(rnd (dropB r)).length<=(rnd r).length:=by rw[<-h2,List.length_drop];omega
  have ih:=lexGo_items f (dropB r) (p+t.length+blN r) h3 hb0 Yhn;have er:rnd (.tk t::r)=t++rnd r:=rfl;rw[er,lexGo,if_neg (by rw[hrne];simp),he];simp only;rw[if_neg Yhn,List.take_left,List.drop_left,hbig,h1,h2,ih];simp only[Bool.false_eq_true,if_false,tksI];rw[h4]
theorem lexF_items(h:okI none a=true)(hl:(rnd a).length<=8192):lexF (rnd a)=.ok (tksI 0 a):=by
 unfold lexF;rw[if_neg Yhn];obtain⟨h1,h2,h3,h4⟩:=blN_skip h;have hb0:=blN_drop a;have hlen:(rnd (dropB a)).length<=(rnd a).length:=by rw[<-h2,List.length_drop];omega
 rw[h1,h2,lexGo_items _ _ _ h3 hb0 Yhn,h4];simp
end Go.Rf
namespace Go.Rf
open Go.RowKit
variable{l:List Ex}
mutual
def tyD:Ty->Nat
 |⟨_,_,ks⟩=>tyDs ks+1
def tyDs:List Ty->Nat
 |[]=>0
 |t::l=>max (tyD t) (tyDs l)
end
mutual
def exD:Ex->Nat
 |⟨_,_,_,_,_,ks,_⟩=>exDs ks+1
def exDs:List Ex->Nat
 |[]=>0
 |t::l=>max (exD t) (exDs l)
end
mutual
def gnD:Gn->Nat
 |⟨_,_,_,as_,ks,_⟩=>max (gnDs ks) (exDs as_)+1
def gnDs:List Gn->Nat
 |[]=>0
 |t::l=>max (gnD t) (gnDs l)
end
def ltN(n m:Nat):Bool:=Nat.blt n m
def limE1(k:Int)(n:Nat)(bs:List (List ByteArray)):Bool:=
 if k=3\/k=4 then ltN 16 n else if k=5 then ltN 256 n else if k=8 then ltN 16 (n-1)||bs.any (fun b=>ltN 16 b.length) else false
mutual
def limE:Ex->Bool
 |⟨k,_,_,_,bs,ks,_⟩=>limE1 k ks.length bs||limEs ks
def limEs:List Ex->Bool
 |[]=>false
 |t::l=>limE t||limEs l
end
def limG1(k:Int)(n a w:Nat):Bool:=if k=2 then ltN 16 n||ltN 16 w else if k=4 then ltN 16 n else if k=7 then ltN 16 a else false
mutual
def limG:Gn->Bool
 |⟨k,_,ws,as_,ks,_⟩=>limG1 k ks.length as_.length ws.length||(limEs as_||limGs ks)
def limGs:List Gn->Bool
 |[]=>false
 |t::l=>limG t||limGs l
end
def limT(t:Ty):Bool:=ltN 32 (tyD t)
def limRoot(e:Ex):Bool:=ltN 32 (exD e)||limE e
def limWhole(g:Gn):Bool:=ltN 32 (gnD g)||limG g
def limPs(l:List Pm):Bool:=ltN 16 l.length||l.any (fun p=>limT p.type)
def limDs(l:List Dw):Bool:=ltN 16 l.length||l.any (fun d=>limT d.type||(!d.ref&&limWhole d.gen))
def limCk(l:List Ck):Bool:=ltN 16 l.length||l.any (fun c=>limRoot c.expr)
def limCm(c:Cm):Bool:=limDs c.draws||(limRoot c.pre||(limRoot c.next||limRoot c.post))
def limOp(o:Op):Bool:=limPs o.params||(ltN 16 o.acts.length||o.acts.any (fun a=>limRoot a.shared||limRoot a.loc))
def limD(d:De):Bool:=
 if d.kind=0 then ltN 16 d.ctors.length||d.ctors.any (fun c=>ltN 16 c.args.length||c.args.any limT)
 else if d.kind=1 then limPs d.params||(limT d.type||limRoot d.body)
 else if d.kind=2 then limPs d.params||(limT d.type||limWhole d.gen)
 else if d.kind=3 then limDs d.draws||(limCk d.checks||(limCk d.classes||ltN 16 d.claims.length))
 else if d.kind=4 then limT d.state||(limRoot d.init||(ltN 16 d.cmds.length||d.cmds.any limCm))
 else if d.kind=5 then limT d.state||(limRoot d.init||(limRoot d.recov||(ltN 16 d.ops.length||d.ops.any limOp)))
 else false
def limM(l:List De):Bool:=ltN 64 l.length||l.any limD
theorem exDs_le{m:Nat}(h:∀e∈l,exD e<=m):exDs l<=m:=by
 induction l with
 |nil=>simp[exDs]
 |cons e l ih=>simp only[exDs];exact Nat.max_le.2 ⟨h e Yhs,ih (fun x hx=>h x Yix)⟩
theorem limEs_of(h:∀e∈l,limE e=false):limEs l=false:=by
 induction l with
 |nil=>rfl
 |cons e l ih=>simp only[limEs,h e Yhs,Bool.false_or];exact ih (fun x hx=>h x Yix)
end Go.Rf
