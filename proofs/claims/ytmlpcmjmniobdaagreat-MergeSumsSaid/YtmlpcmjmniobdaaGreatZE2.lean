/-
 The run,continued:what reads memory,what makes a block,what changes memory,the order of an open region,statements and calls. It speaks of no program.
-/
import Derived.Test.YtmlpcmjmniobdaaGreatZE1
set_option linter.all false
namespace Go.Ev
open Go.Rf Go.RowKit
noncomputable def H.get (h:H) (i:Nat):Option SO:=h.t.get i
noncomputable def H.put {β:Type} (h:H) (i:Nat) (o:SO) (c:H->Option β):Option β:=match h with
 |⟨nx,t⟩=>Tr.set 40 t i o fun t=>c ⟨nx,t⟩
noncomputable def H.new {β:Type} (h:H) (o:SO) (c:Nat->H->Option β):Option β:=match h with
 |⟨nx,t⟩=>Tr.set 40 t nx o fun t=>c nx ⟨nx+1,t⟩
abbrev KM(β:Type):=SV->H->Option β
/-! ### reading -/
noncomputable def cellsOf (h:H):SV->Option (List SV)
 |.str s=>some (s.map fun b=>.int .u8 (.ofNat b.toNat))
 |.snil=>some []
 |.esl _ _ _ _=>some []
 |.asl i o l z=>match h.get i with
  |some (.row _ _ c _)=>cond (Nat.ble (o+l*z) c.length) (some ((c.drop o).take (l*z))) none
  |_=>none
 |.slc i e l z=>match h.get i with
  |some (.row _ _ c _)=>cond (Nat.ble ((e+l)*z) c.length) (some ((c.drop (e*z)).take (l*z))) none
  |_=>none
 |_=>none
def keyEq:SV->SV->Option Bool
 |.int k a,.int k' b=>cond (kbeq k k') (some (ieq a b)) none
 |.str a,.str b=>some (beqB a b)
 |_,_=>none
def findS(k:SV):List (SV×SV×Nat)->Option (Option SV)
 |[]=>some none
 |(k',v,_)::l=>match keyEq k k' with
  |some true=>some (some v)
  |some false=>findS k l
  |none=>none
def plainKey(P:Program)(t:Nat):SV->Bool
 |.int _ _=>match P.underlying t with
  |some (.int _)=>true
  |_=>false
 |.str _=>match P.underlying t with
  |some .string=>true
  |_=>false
 |_=>false
def bytesOf:List SV->Option (List UInt8)
 |[]=>some []
 |.int .u8 (.ofNat n)::l=>match bytesOf l with
  |some r=>some (UInt8.ofNat n::r)
  |none=>none
 |_=>none
def mapGet(P:Program)(kt:Nat)(z:Option SV)(ok:Bool)(k:SV):Option SO->Option SV
 |some (.map es _)=>cond (plainKey P kt k) (match findS k es with
  |some (some v)=>some (cond ok (.tup [v,.bool true]) v)
  |some none=>match z with
   |some z=>some (cond ok (.tup [z,.bool false]) z)
   |none=>none
  |none=>none) none
 |_=>none
noncomputable def lookupV (P:Program) (kt:Nat) (z:Option SV) (ok:Bool) (m k:Option SV) (h:H):Option SV:=match m with
 |some (.map i)=>match k with
  |some k=>mapGet P kt z ok k (h.get i)
  |none=>none
 |_=>none
def cell1(o:Nat):Option SO->Option SV
 |some (.row _ _ c _)=>c[o]?
 |_=>none
def cells1(o s:Nat):Option SO->Option SV
 |some (.row _ _ c _)=>cond (Nat.ble (o+s) c.length) (some (.agg ((c.drop o).take s))) none
 |_=>none
noncomputable def loadV (h:H):Option SV->Option SV
 |some (.ptr i o)=>cell1 o (h.get i)
 |_=>none
noncomputable def loadA (s:Nat) (h:H):Option SV->Option SV
 |some (.ptr i o)=>cells1 o s (h.get i)
 |_=>none
def len1:Option SO->Option SV
 |some (.map es _)=>some (.int .i64 (.ofNat es.length))
 |_=>none
noncomputable def lenM (h:H):Option SV->Option SV
 |some (.map i)=>len1 (h.get i)
 |_=>none
def lenOfS:SV->Option Nat
 |.str s=>some s.length
 |.snil=>some 0
 |.esl _ _ _ _=>some 0
 |.asl _ _ l _=>some l
 |.slc _ _ l _=>some l
 |_=>none
noncomputable def strOf (h:H):Option SV->Option SV
 |some (.str _)=>none
 |some v=>match lenOfS v with
  |some n=>match cellsOf h v with
   |some l=>cond (Nat.beq l.length n) (match bytesOf l with
    |some b=>some (.str b)
    |none=>none) none
   |none=>none
  |none=>none
 |none=>none
/-! ### making a block -/
def zerosS(z:List SV):Nat->List SV
 |0=>[]
 |n+1=>z++zerosS z n
inductive Nm where
 |ptr|map|slc (l z:Nat)
def Nm.val:Nm->Nat->SV
 |.ptr,i=>.ptr i 0
 |.map,i=>.map i
 |.slc l z,i=>.slc i 0 l z
def boxV(t:Nat):Option SV->Option (SO×Nm)
 |some v=>some (.row t v.cells.length v.cells .full,.ptr)
 |none=>none
def rowV(e s n:Nat)(z:List SV):Option (List (Nat×SV))->Option (SO×Nm)
 |some ps=>match fillS (fun i=>some (i*s,s)) z ps with
  |some l=>some (.row e s l .full,.slc n s)
  |none=>none
 |none=>none
def mkV(e s:Nat)(z:List SV)(n c:Option SV):Option (SO×Nm):=match n with
 |some (.int _ (.ofNat n))=>match c with
  |some (.int _ (.ofNat c))=>cond (and (Nat.ble n c) (Nat.ble c 100000)) (some (.row e s (zerosS z c) .full,.slc n s)) none
  |_=>none
 |_=>none
def bytV(e:Nat):Option SV->Option (SO×Nm)
 |some (.str b)=>cond (Nat.ble b.length 10000) (some (.row e 1 (b.map fun b=>.int .u8 (.ofNat b.toNat)) .ro,.slc b.length 1)) none
 |_=>none
/-! ### changing memory -/
noncomputable def putL {β:Type} (l:List SV) (o:Nat) (vs:List SV) (c:List SV->Option β):Option β:=
 cond (Nat.ble (o+vs.length) l.length) (appK (l.take o) (vs++l.drop (o+vs.length)) c) none
noncomputable def write1 {β:Type} (h:H) (i o:Nat) (vs:List SV) (c:H->Option β):Option SO->Option β
 |some (.row t s l k)=>match k with
  |.ro=>none
  |k=>putL l o vs fun l=>h.put i (.row t s l k) c
 |_=>none
noncomputable def storeV {β:Type} (s:Nat) (a v:Option SV) (h:H) (c:KM β):Option β:=match a with
 |some (.ptr i o)=>match v with
  |some v=>cond (and (Nat.beq v.cells.length s) (atoms v.cells)) (write1 h i o v.cells (fun h=>c (.tup []) h) (h.get i)) none
  |none=>none
 |_=>none
def setS(k v:SV)(clock:Nat):List (SV×SV×Nat)->Option (List (SV×SV×Nat))
 |[]=>some [(k,v,clock)]
 |(k',v',b)::l=>match keyEq k k' with
  |some true=>none
  |some false=>match setS k v clock l with
   |some r=>some ((k',v',b)::r)
   |none=>none
  |none=>none
noncomputable def app2 {β:Type} (e s i l n:Nat) (x src:List SV) (h:H) (c:KM β):Option β:=
 h.put i .gone fun h=>appK x src fun x=>h.new (.row e s x .more) fun j h=>c (.slc j 0 (l+n) s) h
noncomputable def app1 {β:Type} (e s i o l n:Nat) (src:List SV) (h:H) (c:KM β):Option SO->Option β
 |some (.row t' s' x k)=>cond (and (Nat.beq t' e) (Nat.beq s' s)) (match k with
  |.full=>cond (Nat.ble ((o+l+n)*s) x.length)
   (putL x ((o+l)*s) src fun x=>h.put i (.row t' s' x .full) fun h=>c (.slc i o (l+n) s) h)
   (cond (and (Nat.beq o 0) (Nat.beq (l*s) x.length)) (app2 e s i l n x src h c) none)
  |.more=>cond (and (Nat.beq o 0) (Nat.beq (l*s) x.length))
   (Nat.rec (motive:=fun _=>Option β) (c (.slc i o l s) h) (fun _ _=>app2 e s i l n x src h c) n) none
  |.ro=>none) none
 |_=>none
noncomputable def appS {β:Type} (e s by_:Nat) (base:SV) (n:Nat) (src:List SV) (h:H) (c:KM β):Option β:=
 cond (and (Nat.beq src.length (n*s)) (and (atoms src) (Nat.ble n 100000)))
  (match base with
  |.snil=>Nat.rec (motive:=fun _=>Option β) (c .snil h) (fun _ _=>h.new (.row e s src .more) fun i h=>c (.slc i 0 n s) h) n
  |.slc i o l z=>cond (and (Nat.beq z s) (Nat.ble l 100000)) (app1 e s i o l n src h c (h.get i)) none
  |.esl i o j z=>Nat.rec (motive:=fun _=>Option β) (cond (Nat.beq z s) (c (.esl i o j z) h) none) (fun _ _=>none) n
  |_=>none) none
noncomputable def appV {β:Type} (e s by_:Nat) (a b:Option SV) (h:H) (c:KM β):Option β:=match a with
 |some a=>match b with
  |some b=>match lenOfS b with
   |some n=>match cellsOf h b with
    |some l=>appS e s by_ a n l h c
    |none=>none
   |none=>none
  |none=>none
 |none=>none
noncomputable def copyV {β:Type} (s:Nat) (a b:Option SV) (h:H) (c:KM β):Option β:=match a with
 |some a=>match b with
  |some b=>match lenOfS a with
   |some m=>match lenOfS b with
    |some n=>match cellsOf h b with
     |some l=>match a with
      |.slc i o _ z=>cond (and (Nat.beq z s) (and (Nat.beq l.length (n*s)) (atoms l))) (write1 h i (o*s) (l.take (Nat.min n m*s)) (fun h=>c (.int .i64 (.ofNat (Nat.min n m))) h) (h.get i)) none
      |.snil=>c (.int .i64 0) h
      |_=>none
     |none=>none
    |none=>none
   |none=>none
  |none=>none
 |none=>none
noncomputable def upd1 {β:Type} (P:Program) (kt i:Nat) (k v:SV) (h:H) (c:KM β):Option SO->Option β
 |some (.map es cl)=>cond (plainKey P kt k) (match setS k v cl es with
  |some es=>h.put i (.map es (cl+1)) fun h=>c (.tup []) h
  |none=>none) none
 |_=>none
noncomputable def updV {β:Type} (P:Program) (kt:Nat) (m k v:Option SV) (h:H) (c:KM β):Option β:=match m with
 |some (.map i)=>match k with
  |some k=>match v with
   |some v=>upd1 P kt i k v h c (h.get i)
   |none=>none
  |none=>none
 |_=>none
noncomputable def range1 {β:Type} (i:Nat) (h:H) (c:KM β):Option SO->Option β
 |some (.map [] k)=>h.new (.mit i k) fun j h=>c (.ptr j 0) h
 |_=>none
noncomputable def rangeV {β:Type} (m:Option SV) (h:H) (c:KM β):Option β:=match m with
 |some (.map i)=>range1 i h c (h.get i)
 |_=>none
noncomputable def next2 {β:Type} (k:Nat) (h:H) (c:KM β):Option SO->Option β
 |some (.map [] k')=>cond (Nat.beq k k') (c (.tup [.bool false]) h) none
 |_=>none
noncomputable def next1 {β:Type} (h:H) (c:KM β):Option SO->Option β
 |some (.mit i k)=>next2 k h c (h.get i)
 |_=>none
noncomputable def nextV {β:Type} (m:Option SV) (h:H) (c:KM β):Option β:=match m with
 |some (.ptr i 0)=>next1 h c (h.get i)
 |_=>none
/-! ### an operation, looked through once -/
inductive CK where
 |pure (f:Tr SV->Option SV)
 |read (f:Tr SV->H->Option SV)
 |fresh (f:Tr SV->Option (SO×Nm))
 |mem (f:Tr SV->H->(SV->H->Option St)->Option St)
 |call (g:Tr SV->Option SV) (as:Tr SV->Option (List SV))
 |dfr (g:Tr SV->Option SV)
 |bad
noncomputable def kConv (P:Program) (nt s d:Nat) (x:Operand):CK:=match P.underlying s with
 |some (.int _)=>match P.underlying d with
  |some (.int k)=>.pure fun T=>convV k ((cO nt x).g T)
  |_=>.bad
 |some .string=>match P.underlying d with
  |some .string=>.pure fun T=>strV ((cO nt x).g T)
  |some (.slice e)=>match P.underlying e with
   |some (.int .u8)=>.fresh fun T=>bytV e ((cO nt x).g T)
   |_=>.bad
  |_=>.bad
 |some (.slice e)=>match P.underlying e with
  |some (.int .u8)=>match P.underlying d with
   |some .string=>.read fun T h=>strOf h ((cO nt x).g T)
   |_=>.bad
  |_=>.bad
 |_=>.bad
noncomputable def kBuild (P:Program) (nt t:Nat) (ps:List (Nat×Operand)):CK:=match zeroOf P t with
 |some (.agg z)=>match P.underlying t with
  |some (.struct _)=>match placesOf P t with
   |some pl=>.pure fun T=>buildV (fun i=>pl[i]?) z ((cP nt ps).g T)
   |none=>.bad
  |some (.array _ e)=>match szOf P e with
   |some s=>.pure fun T=>buildV (fun i=>some (i*s,s)) z ((cP nt ps).g T)
   |none=>.bad
  |_=>.bad
 |_=>.bad
noncomputable def kRow (P:Program) (nt t n:Nat) (ps:List (Nat×Operand)):CK:=match elemOf P t with
 |some e=>match szOf P e with
  |some s=>match zeroOf P e with
   |some z=>cond (and (and (Nat.beq z.cells.length s) (Nat.ble (n*s) 10000)) (Nat.ble n 10000)) (.fresh fun T=>rowV e s n (zerosS z.cells n) ((cP nt ps).g T)) .bad
   |none=>.bad
  |none=>.bad
 |none=>.bad
noncomputable def kMake (P:Program) (nt t:Nat) (n c:Operand):CK:=match elemOf P t with
 |some e=>match szOf P e with
  |some s=>match zeroOf P e with
   |some z=>match byOf P e with
    |some by_=>cond (and (Nat.beq z.cells.length s) (Nat.ble by_ 100000)) (.fresh fun T=>mkV e s z.cells ((cO nt n).g T) ((cO nt c).g T)) .bad
    |none=>.bad
   |none=>.bad
  |none=>.bad
 |none=>.bad
noncomputable def kIdxA (P:Program) (nt t:Nat) (x i:Operand):CK:=match P.underlying t with
 |some (.slice e)=>match szOf P e with
  |some s=>.pure fun T=>idxSlc s ((cO nt x).g T) ((cO nt i).g T)
  |none=>.bad
 |some (.array len e)=>match szOf P e with
  |some s=>.pure fun T=>idxArr len s ((cO nt x).g T) ((cO nt i).g T)
  |none=>.bad
 |_=>.bad
noncomputable def kIdx (P:Program) (nt t:Nat) (x i:Operand):CK:=match P.underlying t with
 |some (.array len e)=>match szOf P e with
  |some s=>.pure fun T=>idxAgg P len e s ((cO nt x).g T) ((cO nt i).g T)
  |none=>.bad
 |some .string=>.pure fun T=>idxStr ((cO nt x).g T) ((cO nt i).g T)
 |_=>.bad
noncomputable def kLen (P:Program) (nt t:Nat) (x:Operand):CK:=match P.underlying t with
 |some (.map _ _)=>.read fun T h=>lenM h ((cO nt x).g T)
 |some _=>.pure fun T=>lenV P t ((cO nt x).g T)
 |none=>.bad
def strish:Option TypeDesc->Bool
 |some (.slice _)=>true
 |some .string=>true
 |_=>false
noncomputable def kApp (P:Program) (nt t u:Nat) (a b:Operand):CK:=match elemOf P t with
 |some e=>match szOf P e with
  |some s=>match byOf P e with
   |some by_=>match zeroOf P e with
    |some z=>cond (and (strish (P.underlying u)) (and (Nat.beq z.cells.length s) (and (Nat.ble 1 s) (Nat.ble by_ 100000)))) (.mem fun T h c=>appV e s by_ ((cO nt a).g T) ((cO nt b).g T) h c) .bad
    |none=>.bad
   |none=>.bad
  |none=>.bad
 |none=>.bad
noncomputable def kCopy (P:Program) (nt t:Nat) (a b:Operand):CK:=match elemOf P t with
 |some e=>match szOf P e with
  |some s=>.mem fun T h c=>copyV s ((cO nt a).g T) ((cO nt b).g T) h c
  |none=>.bad
 |none=>.bad
noncomputable def kCall (P:Program) (nt:Nat) (c:Call):CK:=match c.callee with
 |.value x=>.call (cO nt x).g (cL nt c.args.toList).g
 |.builtin b=>match c.args.toList,c.argTypes.toList with
  |[x],[t]=>match b with
   |.len=>kLen P nt t x
   |_=>.bad
  |[x,y],[t,u]=>match b with
   |.append=>kApp P nt t u x y
   |.copy=>kCopy P nt t x y
   |.min=>.pure fun T=>minV ((cO nt x).g T) ((cO nt y).g T)
   |.max=>.pure fun T=>maxV ((cO nt x).g T) ((cO nt y).g T)
   |_=>.bad
  |_,_=>.bad
 |_=>.bad
noncomputable def kFA (P:Program) (nt s f:Nat) (x:Operand):CK:=match fieldOf P s f with
 |some (ft,off)=>match szOf P ft with
  |some (_+1)=>.pure fun T=>offV off ((cO nt x).g T)
  |_=>.bad
 |none=>.bad
noncomputable def kField (P:Program) (nt s f:Nat) (x:Operand):CK:=match fieldOf P s f with
 |some (ft,off)=>.pure fun T=>partV P ft off ((cO nt x).g T)
 |none=>.bad
noncomputable def kIfc (P:Program) (nt t:Nat) (x:Operand):CK:=match P.underlying t with
 |some (.interface _)=>.bad
 |some _=>.pure fun T=>ifcV t ((cO nt x).g T)
 |none=>.bad
noncomputable def kAssert (P:Program) (nt t:Nat) (ok:Bool) (x:Operand):CK:=match P.underlying t with
 |some (.interface _)=>.bad
 |some _=>.pure fun T=>assertV t ok ((cO nt x).g T)
 |none=>.bad
noncomputable def kLoad (P:Program) (nt t:Nat) (x:Operand):CK:=match aggT P t with
 |some true=>match szOf P t with
  |some s=>.read fun T h=>loadA s h ((cO nt x).g T)
  |none=>.bad
 |some false=>.read fun T h=>loadV h ((cO nt x).g T)
 |none=>.bad
noncomputable def kStore (P:Program) (nt t:Nat) (a v:Operand):CK:=match szOf P t with
 |some s=>.mem fun T h c=>storeV s ((cO nt a).g T) ((cO nt v).g T) h c
 |none=>.bad
noncomputable def kLookup (P:Program) (nt t:Nat) (x k:Operand) (ok:Bool):CK:=match P.underlying t with
 |some (.map kt et)=>.read fun T h=>lookupV P kt (zeroOf P et) ok ((cO nt x).g T) ((cO nt k).g T) h
 |_=>.bad
noncomputable def kUpd (P:Program) (nt t:Nat) (m k v:Operand):CK:=match P.underlying t with
 |some (.map kt _)=>.mem fun T h c=>updV P kt ((cO nt m).g T) ((cO nt k).g T) ((cO nt v).g T) h c
 |_=>.bad
noncomputable def kRange (P:Program) (nt t:Nat) (m:Operand):CK:=match P.underlying t with
 |some (.map _ _)=>.mem fun T h c=>rangeV ((cO nt m).g T) h c
 |_=>.bad
noncomputable def cOp (P:Program) (nt:Nat):Op->CK
 |.move x=>.pure (cO nt x).g
 |.assign x=>.pure (cO nt x).g
 |.pick c a b=>.pure fun T=>pickV ((cO nt c).g T) ((cO nt a).g T) ((cO nt b).g T)
 |.nilCheck x=>.pure fun T=>nilV ((cO nt x).g T)
 |.fieldAddr s x f=>kFA P nt s f x
 |.field s x f=>kField P nt s f x
 |.binOp op t x y _=>.pure fun T=>binV P op t x y ((cO nt x).g T) ((cO nt y).g T)
 |.unOp op _ x=>match op with
  |.not=>.pure fun T=>notV ((cO nt x).g T)
  |.neg=>.pure fun T=>negV ((cO nt x).g T)
  |_=>.bad
 |.convert s d x=>kConv P nt s d x
 |.makeInterface t x=>kIfc P nt t x
 |.makeFunc f a c=>match f with
  |.func g=>.pure fun T=>fnV g ((cL nt a.toList).g T) ((cL nt c.toList).g T)
  |_=>.bad
 |.extract x i=>.pure fun T=>extV i ((cO nt x).g T)
 |.build t ps=>kBuild P nt t ps.toList
 |.indexAddr t x i=>kIdxA P nt t x i
 |.index t x i=>kIdx P nt t x i
 |.slice t x lo hi none=>.pure fun T=>sliceV P t ((cO nt x).g T) ((cN nt lo).g T) ((cN nt hi).g T)
 |.typeAssert x _ t ok=>kAssert P nt t ok x
 |.load t x=>kLoad P nt t x
 |.lookup t x k ok=>kLookup P nt t x k ok
 |.alloc t=>match zeroOf P t with
  |some z=>.fresh fun _=>boxV t (some z)
  |none=>.bad
 |.box t x=>.fresh fun T=>boxV t ((cO nt x).g T)
 |.buildSlice t n ps=>kRow P nt t n ps.toList
 |.makeSlice t n c=>kMake P nt t n c
 |.makeMap _ none=>.fresh fun _=>some (.map [] 0,.map)
 |.store t a v=>kStore P nt t a v
 |.mapUpdate t m k v=>kUpd P nt t m k v
 |.insert t m k v=>kUpd P nt t m k v
 |.range t x=>kRange P nt t x
 |.next it false=>.mem fun T h c=>nextV ((cO nt it).g T) h c
 |.call c=>kCall P nt c
 |.defer c=>match c.callee with
  |.value x=>match c.args.toList with
   |[]=>.dfr (cO nt x).g
   |_=>.bad
  |_=>.bad
 |_=>.bad
/-! ### open regions: which operation comes when -/
def CK.sole:CK->Bool
 |.pure _=>false
 |.read _=>false
 |.fresh _=>false
 |_=>true
def bindsB(e:Edge):Bool:=match e.ground with
 |.textOnly _=>false
 |.gcOnly _=>false
 |_=>true
def depsIn(m:Nat):List Edge->Bool
 |[]=>true
 |e::l=>cond (bindsB e) (cond (Nat.testBit m e.on) (depsIn m l) false) (depsIn m l)
noncomputable def pickQ (P:Program) (nt m:Nat):List Oper->Nat->Option (Nat×Oper)
 |[],_=>none
 |o::l,i=>cond (Nat.testBit m i) (pickQ P nt m l (i+1)) (cond (cOp P nt o.op).sole (pickQ P nt m l (i+1))
  (cond (depsIn m o.after.toList) (some (i,o)) (pickQ P nt m l (i+1))))
def readyL(m:Nat):List Oper->Nat->List (Nat×Oper)
 |[],_=>[]
 |o::l,i=>cond (Nat.testBit m i) (readyL m l (i+1)) (cond (depsIn m o.after.toList) ((i,o)::readyL m l (i+1)) (readyL m l (i+1)))
noncomputable def sched (P:Program) (nt:Nat) (l:List Oper):Nat->Nat->Option (List (Nat×Oper))
 |0,_=>none
 |f+1,m=>match pickQ P nt m l 0 with
  |some (i,o)=>match sched P nt l f (Nat.lor m (Nat.pow 2 i))with
   |some r=>some ((i,o)::r)
   |none=>none
  |none=>match readyL m l 0 with
   |[]=>some []
   |[(i,o)]=>match sched P nt l f (Nat.lor m (Nat.pow 2 i))with
    |some r=>some ((i,o)::r)
    |none=>none
   |_=>none
/-! ### statements and calls -/
inductive X where
 |normal|exit (id:Nat)|ret
structure IH where
 c:Nat->Option Nat->Nat->Code->St->Option (X×St)
 f:Nat->List SV->H->Option (SV×H)
noncomputable def setD {β:Type} (T:Tr SV) (d:Option Nat) (v:SV) (c:Tr SV->Option β):Option β:=match d with
 |some d=>Tr.set 40 T d v c
 |none=>c T
noncomputable def setPs {β:Type} (T:Tr SV):List Nat->List SV->(Tr SV->Option β)->Option β
 |[],[],c=>c T
 |p::ps,v::vs,c=>Tr.set 40 T p v fun T=>setPs T ps vs c
 |_,_,_=>none
noncomputable def beginR {β:Type} (l:Nat) (h:H) (c:H->Option β):Option SO->Option β
 |some (.loop .ready pe fid nt env ps asg body d)=>h.put l (.loop .busy pe fid nt env ps asg body d) c
 |_=>none
noncomputable def endR {β:Type} (l:Nat) (st:LoopS) (j:Option Code) (h:H) (c:H->Option β):Option SO->Option β
 |some (.loop _ _ fid nt env ps asg body d)=>h.put l (.loop st j fid nt env ps asg body d) c
 |_=>none
noncomputable def round3 (l:Nat) (c:KM St):Option (X×St)->Option St
 |some (x,⟨_,_,h⟩)=>match x with
  |.normal=>endR l .ready none h (fun h=>c (.bool true) h) (h.get l)
  |.ret=>endR l .done (some .ret) h (fun h=>c (.bool false) h) (h.get l)
  |.exit id=>endR l .done (some (.exit id)) h (fun h=>c (.bool false) h) (h.get l)
 |none=>none
noncomputable def round2 (ih:IH) (l fid nt:Nat) (body:Code) (c:KM St):Option (X×St)->Option St
 |some (x,⟨T,ds,h⟩)=>match x with
  |.normal=>beginR l h (fun h=>round3 l c (ih.c fid (some l) nt body ⟨T,ds,h⟩)) (h.get l)
  |_=>none
 |none=>none
noncomputable def round1 (ih:IH) (l:Nat) (args:List SV) (h:H) (c:KM St):Option SO->Option St
 |some (.loop _ _ fid nt env ps asg body d)=>setPs env ps args fun T=>round2 ih l fid nt body c (ih.c fid (some l) nt asg ⟨T,[],h⟩)
 |_=>none
noncomputable def callV (ih:IH) (h:H) (as:Option (List SV)) (c:KM St):Option SV->Option St
 |some (.fn f a cap)=>match as with
  |some vs=>match ih.f f (a++vs++cap) h with
   |some (v,h)=>c v h
   |none=>none
  |none=>none
 |some (.yld l)=>match as with
  |some vs=>round1 ih l vs h c (h.get l)
  |none=>none
 |_=>none
structure CS where
 r:IH->St->Option St
noncomputable def stK (ro:Option Nat) (d:Option Nat):CK->CS
 |.pure f=>⟨fun _ s=>match s with
  |⟨T,ds,h⟩=>match f T with
   |some v=>setD T d v fun T=>some ⟨T,ds,h⟩
   |none=>none⟩
 |.read f=>⟨fun _ s=>match s with
  |⟨T,ds,h⟩=>match f T h with
   |some v=>setD T d v fun T=>some ⟨T,ds,h⟩
   |none=>none⟩
 |.fresh f=>⟨fun _ s=>match s with
  |⟨T,ds,h⟩=>match f T with
   |some (b,nm)=>h.new b fun i h=>setD T d (nm.val i) fun T=>some ⟨T,ds,h⟩
   |none=>none⟩
 |.mem f=>⟨fun _ s=>match s with
  |⟨T,ds,h⟩=>f T h fun v h=>setD T d v fun T=>some ⟨T,ds,h⟩⟩
 |.call g as=>⟨fun ih s=>match s with
  |⟨T,ds,h⟩=>callV ih h (as T) (fun v h=>setD T d v fun T=>some ⟨T,ds,h⟩) (g T)⟩
 |.dfr g=>match ro with
  |some _=>⟨fun _ _=>none⟩
  |none=>⟨fun _ s=>match s with
   |⟨T,ds,h⟩=>match g T with
    |some (.fn f [] cap)=>setD T d (.tup []) fun T=>some ⟨T,.fn f cap::ds,h⟩
    |_=>none⟩
 |.bad=>⟨fun _ _=>none⟩
def wantV(want:Bool):Option SV->Option Bool
 |some (.bool b)=>some (cond b want (not want))
 |some (.tup [])=>some false
 |_=>none
noncomputable def cStep (P:Program) (ro:Option Nat) (nt:Nat) (ops:List Oper) (o:Oper):CS:=match o.guard with
 |none=>stK ro o.dst (cOp P nt o.op)
 |some (j,want)=>match ops[j]? with
  |some oj=>match oj.dst with
   |some t=>⟨fun ih s=>match wantV want ((cO nt (.tmp t)).g s.env)with
    |some true=>(stK ro o.dst (cOp P nt o.op)).r ih s
    |some false=>match s with
     |⟨T,ds,h⟩=>setD T o.dst (.tup []) fun T=>some ⟨T,ds,h⟩
    |none=>none⟩
   |none=>⟨fun _ _=>none⟩
  |none=>⟨fun _ _=>none⟩
noncomputable def cOps (P:Program) (ro:Option Nat) (nt:Nat) (ops:List Oper):List Oper->CS
 |[]=>⟨fun _ s=>some s⟩
 |o::l=>⟨fun ih s=>match (cStep P ro nt ops o).r ih s with
  |some s=>(cOps P ro nt ops l).r ih s
  |none=>none⟩
def beqS:SV->SV->Bool
 |.bool a,.bool b=>cond a b (not b)
 |.int k a,.int k' b=>and (kbeq k k') (ieq a b)
 |.str a,.str b=>beqB a b
 |.ptr i o,.ptr j p=>and (Nat.beq i j) (Nat.beq o p)
 |.pnil,.pnil=>true
 |.slc i e l z,.slc j f m y=>and (and (Nat.beq i j) (Nat.beq e f)) (and (Nat.beq l m) (Nat.beq z y))
 |.esl i e l z,.esl j f m y=>and (and (Nat.beq i j) (Nat.beq e f)) (and (Nat.beq l m) (Nat.beq z y))
 |.asl i e l z,.asl j f m y=>and (and (Nat.beq i j) (Nat.beq e f)) (and (Nat.beq l m) (Nat.beq z y))
 |.snil,.snil=>true
 |.map i,.map j=>Nat.beq i j
 |.mnil,.mnil=>true
 |.yld i,.yld j=>Nat.beq i j
 |.fnil,.fnil=>true
 |.fn f a c,.fn g b d=>and (Nat.beq f g) (and (beqL a b) (beqL c d))
 |.ifc t v,.ifc u w=>and (Nat.beq t u) (beqS v w)
 |.inil,.inil=>true
 |.agg l,.agg m=>beqL l m
 |.tup l,.tup m=>beqL l m
 |_,_=>false
where beqL:List SV->List SV->Bool
 |[],[]=>true
 |a::l,b::m=>and (beqS a b) (beqL l m)
 |_,_=>false
structure WE where
 i:Nat
 f:Tr SV->H->Option SV
 T:Tr SV
 v:SV
def stillW(h:H):List WE->Bool
 |[]=>true
 |⟨_,f,T,v⟩::l=>match f T h with
  |some u=>cond (beqS u v) (stillW h l) false
  |none=>false
def waits(i:Nat):List Edge->Bool
 |[]=>false
 |e::l=>cond (and (bindsB e) (Nat.beq e.on i)) true (waits i l)
/-! what an open region must be: no two operations write a slot; who reads a slot that another writes waits for it, or it for him -/
def tmpsOf:List Operand->List Nat
 |[]=>[]
 |.tmp t::l=>t::tmpsOf l
 |_::l=>tmpsOf l
def rdsOf(ops:List Oper)(o:Oper):List Nat:=match o.guard with
 |none=>tmpsOf o.op.operands.toList
 |some (j,_)=>match ops[j]? with
  |some oj=>match oj.dst with
   |some t=>t::tmpsOf o.op.operands.toList
   |none=>tmpsOf o.op.operands.toList
  |none=>tmpsOf o.op.operands.toList
def memN(d:Nat):List Nat->Bool
 |[]=>false
 |a::l=>cond (Nat.beq a d) true (memN d l)
def dstIs(d:Nat):Option Nat->Bool
 |some a=>Nat.beq a d
 |none=>false
def ok1(ops:List Oper)(k d:Nat)(af:List Edge):List Oper->Nat->Bool
 |[],_=>true
 |o::l,j=>and (cond (memN d (rdsOf ops o)) (or (waits k o.after.toList) (waits j af)) true) (and (or (Nat.beq j k) (not (dstIs d o.dst))) (ok1 ops k d af l (j+1)))
def okS(ops:List Oper):List Oper->Nat->Bool
 |[],_=>true
 |o::l,k=>and (match o.dst with
  |some d=>ok1 ops k d o.after.toList ops 0
  |none=>true) (okS ops l (k+1))
def dropW(af:List Edge):List WE->List WE
 |[]=>[]
 |⟨i,f,T,v⟩::l=>cond (waits i af) (dropW af l) (⟨i,f,T,v⟩::dropW af l)
structure CD where
 r:IH->List WE->St->Option St
noncomputable def dRead (d:Option Nat) (i:Nat) (f:Tr SV->H->Option SV) (next:CD):CD:=⟨fun ih W s=>match s with
 |⟨T,ds,h⟩=>match f T h with
  |some v=>setD T d v fun T'=>next.r ih (⟨i,f,T,v⟩::W) ⟨T',ds,h⟩
  |none=>none⟩
noncomputable def dSole (af:List Edge) (c:CS) (next:CD):CD:=⟨fun ih W s=>match c.r ih s with
 |some s=>match dropW af W with
  |W=>cond (stillW s.h W) (next.r ih W s) none
 |none=>none⟩
noncomputable def dPure (c:CS) (next:CD):CD:=⟨fun ih W s=>match c.r ih s with
 |some s=>next.r ih W s
 |none=>none⟩
noncomputable def dFresh (c:CS) (next:CD):CD:=⟨fun ih W s=>match c.r ih s with
 |some s=>cond (stillW s.h W) (next.r ih W s) none
 |none=>none⟩
noncomputable def dOne (ro:Option Nat) (i:Nat) (o:Oper) (next:CD):CK->CD
 |.read f=>dRead o.dst i f next
 |.pure f=>dPure (stK ro o.dst (.pure f)) next
 |.fresh f=>dFresh (stK ro o.dst (.fresh f)) next
 |k=>dSole o.after.toList (stK ro o.dst k) next
noncomputable def cOpsD (P:Program) (ro:Option Nat) (nt:Nat) (ops:List Oper):List (Nat×Oper)->CD
 |[]=>⟨fun _ _ s=>some s⟩
 |(i,o)::l=>match o.guard with
  |none=>dOne ro i o (cOpsD P ro nt ops l) (cOp P nt o.op)
  |some (j,want)=>match ops[j]? with
   |some oj=>match oj.dst with
    |some t=>⟨fun ih W s=>match wantV want ((cO nt (.tmp t)).g s.env)with
     |some true=>(dOne ro i o (cOpsD P ro nt ops l) (cOp P nt o.op)).r ih W s
     |some false=>match s with
      |⟨T,ds,h⟩=>setD T o.dst (.tup []) fun T=>(cOpsD P ro nt ops l).r ih W ⟨T,ds,h⟩
     |none=>none⟩
    |none=>⟨fun _ _ _=>none⟩
   |none=>⟨fun _ _ _=>none⟩
structure CC where
 r:IH->St->Option (X×St)
def condV(c:Option SV)(a b:Option (X×St)):Option (X×St):=match c with
 |some (.bool t)=>cond t a b
 |_=>none
noncomputable def endLoop (fid:Nat) (ro:Option Nat) (nt l d0:Nat) (ih:IH) (T:Tr SV) (ds:List DF) (h:H):Option SO->Option (X×St)
 |some (.loop st pend fid' nt' env ps asg body d)=>match st with
  |.busy=>none
  |_=>h.put l (.loop .over pend fid' nt' env ps asg body d) fun h=>match pend with
   |none=>some (.normal,⟨T,.mark d0::ds,h⟩)
   |some c=>ih.c fid ro nt c ⟨T,.mark d0::ds,h⟩
 |_=>none
noncomputable def rangeC (fid:Nat) (ro:Option Nat) (nt:Nat) (ps:List Nat) (asg body:Code) (ih:IH) (T:Tr SV) (ds:List DF) (h:H):Option SV->Option (X×St)
 |some (.fn f a cap)=>h.new .dfr fun d h=>h.new (.loop .ready none fid nt T ps asg body d) fun l h=>match ih.f f (a++[.yld l]++cap) h with
  |some (_,h)=>endLoop fid ro nt l d ih T ds h (h.get l)
  |none=>none
 |_=>none
noncomputable def cC (P:Program) (fid:Nat) (ro:Option Nat) (nt:Nat):Code->CC
 |.skip=>⟨fun _ s=>some (.normal,s)⟩
 |.region _ ops draw=>match draw with
  |false=>⟨fun ih s=>match (cOps P ro nt ops.toList ops.toList).r ih s with
   |some s=>some (.normal,s)
   |none=>none⟩
  |true=>cond (okS ops.toList ops.toList 0) (match sched P nt ops.toList (ops.toList.length+1) 0 with
   |some l=>⟨fun ih s=>match (cOpsD P ro nt ops.toList l).r ih [] s with
    |some s=>some (.normal,s)
    |none=>none⟩
   |none=>⟨fun _ _=>none⟩) ⟨fun _ _=>none⟩
 |.seq a b=>⟨fun ih s=>match (cC P fid ro nt a).r ih s with
  |some (.normal,s)=>(cC P fid ro nt b).r ih s
  |r=>r⟩
 |.cond c a b=>⟨fun ih s=>condV ((cO nt c).g s.env) ((cC P fid ro nt a).r ih s) ((cC P fid ro nt b).r ih s)⟩
 |.block id c=>⟨fun ih s=>match (cC P fid ro nt c).r ih s with
  |some (.exit j,s)=>some (cond (Nat.beq j id) .normal (.exit j),s)
  |r=>r⟩
 |.loop c=>⟨fun ih s=>match (cC P fid ro nt c).r ih s with
  |some (.normal,s)=>ih.c fid ro nt (.loop c) s
  |r=>r⟩
 |.exit id=>⟨fun _ s=>some (.exit id,s)⟩
 |.ret=>⟨fun _ s=>some (.ret,s)⟩
 |.rangeFunc g ps asg body=>match ro with
  |some _=>⟨fun _ _=>none⟩
  |none=>⟨fun ih s=>match s with
   |⟨T,ds,h⟩=>rangeC fid ro nt ps.toList asg body ih T ds h ((cO nt g).g T)⟩
 |_=>⟨fun _ _=>none⟩
noncomputable def resS (P:Program) (nt:Nat) (T:Tr SV) (h:H):ResultVar->Option SV
 |.tmp t=>(cO nt (.tmp t)).g T
 |.cell a t=>match aggT P t with
  |some true=>match szOf P t with
   |some s=>loadA s h ((cO nt (.tmp a)).g T)
   |none=>none
  |some false=>loadV h ((cO nt (.tmp a)).g T)
  |none=>none
noncomputable def ressS (P:Program) (nt:Nat) (T:Tr SV) (h:H):List ResultVar->Option (List SV)
 |[]=>some []
 |r::l=>match resS P nt T h r with
  |some v=>match ressS P nt T h l with
   |some vs=>some (v::vs)
   |none=>none
  |none=>none
def recovers:Option Code->Option (Nat×Nat×Code)
 |some (.seq (.region _ ops false) c)=>match ops.toList with
  |[⟨some d1,.call ⟨.builtin .recover,_,_⟩,_,_,_,none⟩,⟨some d2,.assign (.tmp d3),_,_,_,none⟩]=>cond (Nat.beq d1 d3) (some (d1,d2,c)) none
  |_=>none
 |_=>none
def funOf(P:Program)(f:Nat):Option Func:=P.funcs.toList[f]?
noncomputable def defF (ih:IH) (f:Nat) (cap:List SV) (h:H) (fn:Option Func):Option H:=match fn with
 |some fn=>match recovers fn.body with
  |some (d1,d2,c)=>match fn.results.toList with
   |[]=>cond (and (Nat.blt d1 fn.ntmps) (Nat.ble cap.length fn.ntmps)) (setPs .e (List.range cap.length) cap fun T=>Tr.set 40 T d1 .inil fun T=>Tr.set 40 T d2 .inil fun T=>match ih.c f none fn.ntmps c ⟨T,[],h⟩with
    |some (.normal,⟨_,[],h⟩)=>some h
    |some (.ret,⟨_,[],h⟩)=>some h
    |_=>none) none
   |_=>none
  |none=>none
 |none=>none
noncomputable def markS (d:Nat) (h:H):Option SO->Option H
 |some .dfr=>h.put d .gone some
 |_=>none
noncomputable def defS (P:Program) (ih:IH):List DF->H->Option H
 |[],h=>some h
 |.mark d::l,h=>match markS d h (h.get d)with
  |some h=>defS P ih l h
  |none=>none
 |.fn f cap::l,h=>match defF ih f cap h (funOf P f)with
  |some h=>defS P ih l h
  |none=>none
noncomputable def backS (P:Program) (ih:IH) (fn:Func):Option (X×St)->Option (SV×H)
 |some (x,⟨T,ds,h⟩)=>match x with
  |.exit _=>none
  |_=>match defS P ih ds h with
   |some h=>match ressS P fn.ntmps T h fn.results.toList with
    |some [v]=>some (v,h)
    |some vs=>some (.tup vs,h)
    |none=>none
   |none=>none
 |none=>none
noncomputable def callS (P:Program) (ih:IH) (f:Nat) (args:List SV) (h:H):Option Func->Option (SV×H)
 |some fn=>match fn.body with
  |some c=>cond (Nat.ble args.length fn.ntmps) (setPs .e (List.range args.length) args fun T=>backS P ih fn (ih.c f none fn.ntmps c ⟨T,[],h⟩)) none
  |none=>none
 |none=>none
noncomputable def run (P:Program) (orc:Nat->List SV->H->Option (SV×H)):Nat->IH
 |0=>⟨fun _ _ _ _ _=>none,fun _ _ _=>none⟩
 |n+1=>⟨fun fid ro nt c s=>(cC P fid ro nt c).r (run P orc n) s,fun f args h=>match orc f args h with
  |some r=>some r
  |none=>callS P (run P orc n) f args h (funOf P f)⟩
def plainB:Option SO->Bool
 |some (.row _ _ _ k)=>match k with
  |.ro=>false
  |_=>true
 |_=>false
noncomputable def ins1 (e z i l at_ m:Nat) (v:List SV) (h:H):Option SO->Option (SV×H)
 |some (.row t s c k)=>match k with
  |.more=>cond (and (and (Nat.beq (l*z) c.length) (and (Nat.beq s z) (Nat.beq t e))) (and (Nat.blt at_ l) (Nat.blt 0 m))) (cond (and (atoms v) (atoms c))
   (h.put i .gone fun h=>appK (c.take (at_*z)) (v++c.drop (at_*z)) fun r=>h.new (.row t s r .more) fun k h=>some (.slc k 0 (l+m) z,h)) none) none
  |_=>none
 |_=>none
noncomputable def insS (e z:Nat):List SV->H->Option (SV×H)
 |[.slc i 0 l x,.int .i64 (.ofNat at_),.slc j o m y],h=>cond (plainB (h.get j)) (match cellsOf h (.slc j o m y)with
  |some v=>cond (and (not (Nat.beq i j)) (and (and (Nat.beq x z) (Nat.beq y z)) (and (Nat.ble l 100000) (Nat.ble m 100000)))) (ins1 e z i l at_ m v h (h.get i)) none
  |none=>none) none
 |_,_=>none
end Go.Ev
