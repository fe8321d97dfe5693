/-
 A Go program run by a function of its own:values that name blocks by numbers of the run,a heap of the blocks that the run has made,each operation as a function. It speaks of no program.
-/
import Derived.Test.YtmlpcmjmniobdaaGreatZK1
set_option linter.all false
namespace Go.Ev
open Go.Rf Go.RowKit
inductive SV where
 |bool (b:Bool)
 |int (k:IntKind) (n:Int)
 |str (s:List UInt8)
 |ptr (i o:Nat)
 |pnil
 |slc (i e l z:Nat)
 |esl (i e j z:Nat)
 |asl (i o l z:Nat)
 |snil
 |map (i:Nat)
 |mnil
 |fn (f:Nat) (a c:List SV)
 |yld (i:Nat)
 |fnil
 |ifc (t:Nat) (v:SV)
 |inil
 |agg (l:List SV)
 |tup (l:List SV)
inductive Tr (α:Type) where
 |e
 |n (v:Option α) (a b c d:Tr α)
def sel4{β:Type}(m:Nat)(a b c d:β):β:=match m with
 |0=>a
 |1=>b
 |2=>c
 |_=>d
noncomputable def Tr.get {α:Type} (t:Tr α):Nat->Option α:=
 Tr.rec (motive:=fun _=>Nat->Option α) (fun _=>none) (fun v _ _ _ _ ga gb gc gd k=>Nat.rec (motive:=fun _=>Option α) v (fun k _=>sel4 (Nat.mod k 4) (ga (Nat.div k 4)) (gb (Nat.div k 4)) (gc (Nat.div k 4)) (gd (Nat.div k 4))) k) t
def Tr.v{α:Type}:Tr α->Option α
 |.e=>none
 |.n v _ _ _ _=>v
def Tr.a{α:Type}:Tr α->Tr α
 |.e=>.e
 |.n _ a _ _ _=>a
def Tr.b{α:Type}:Tr α->Tr α
 |.e=>.e
 |.n _ _ b _ _=>b
def Tr.c{α:Type}:Tr α->Tr α
 |.e=>.e
 |.n _ _ _ c _=>c
def Tr.d{α:Type}:Tr α->Tr α
 |.e=>.e
 |.n _ _ _ _ d=>d
structure SE (α β:Type) where
 s:Tr α->α->(Tr α->Option β)->Option β
noncomputable def sA {α β:Type} (i:SE α β):SE α β:=⟨fun t x k=>Tr.rec (motive:=fun _=>Option β) (i.s .e x fun a=>k (.n none a .e .e .e)) (fun v a b c d _ _ _ _=>i.s a x fun a=>k (.n v a b c d)) t⟩
noncomputable def sB {α β:Type} (i:SE α β):SE α β:=⟨fun t x k=>Tr.rec (motive:=fun _=>Option β) (i.s .e x fun b=>k (.n none .e b .e .e)) (fun v a b c d _ _ _ _=>i.s b x fun b=>k (.n v a b c d)) t⟩
noncomputable def sC {α β:Type} (i:SE α β):SE α β:=⟨fun t x k=>Tr.rec (motive:=fun _=>Option β) (i.s .e x fun c=>k (.n none .e .e c .e)) (fun v a b c d _ _ _ _=>i.s c x fun c=>k (.n v a b c d)) t⟩
noncomputable def sD {α β:Type} (i:SE α β):SE α β:=⟨fun t x k=>Tr.rec (motive:=fun _=>Option β) (i.s .e x fun d=>k (.n none .e .e .e d)) (fun v a b c d _ _ _ _=>i.s d x fun d=>k (.n v a b c d)) t⟩
noncomputable def cS (α β:Type):Nat->Nat->SE α β
 |0,_=>⟨fun _ _ _=>none⟩
 |f+1,k=>match k with
  |0=>⟨fun t x k=>Tr.rec (motive:=fun _=>Option β) (k (.n (some x) .e .e .e .e)) (fun _ a b c d _ _ _ _=>k (.n (some x) a b c d)) t⟩
  |k+1=>sel4 (Nat.mod k 4) (sA (cS α β f (Nat.div k 4))) (sB (cS α β f (Nat.div k 4))) (sC (cS α β f (Nat.div k 4))) (sD (cS α β f (Nat.div k 4)))
noncomputable def Tr.set {α β:Type} (f:Nat) (t:Tr α) (k:Nat) (x:α) (c:Tr α->Option β):Option β:=(cS α β f k).s t x c
noncomputable def appK {α β:Type} (l:List α):List α->(List α->β)->β:=
 List.rec (motive:=fun _=>List α->(List α->β)->β) (fun m c=>c m) (fun x _ ih m c=>ih m fun r=>c (x::r)) l
inductive Kd where
 |full|more|ro
inductive LoopS where
 |ready|busy|done|over
inductive SO where
 |row (ty sz:Nat) (l:List SV) (k:Kd)
 |map (es:List (SV×SV×Nat)) (clock:Nat)
 |mit (i k:Nat)
 |loop (st:LoopS) (pend:Option Code) (fid:Nat) (nt:Nat) (env:Tr SV) (ps:List Nat) (asg body:Code) (d:Nat)
 |dfr
 |gone
structure H where
 nx:Nat
 t:Tr SO
inductive DF where
 |fn (f:Nat) (c:List SV)
 |mark (i:Nat)
structure St where
 env:Tr SV
 ds:List DF
 h:H
/-! ### constants -/
def ofA:Value->Option SV
 |.bool b=>some (.bool b)
 |.int k n=>some (.int k n)
 |.string s=>some (.str s.data.toList)
 |.pointer none=>some .pnil
 |.slice none 0 0=>some .snil
 |.map none=>some .mnil
 |.nilFunc=>some .fnil
 |.nilIface=>some .inil
 |_=>none
def ofL:List Value->Option (List SV)
 |[]=>some []
 |v::l=>match ofA v with
  |some s=>match ofL l with
   |some r=>some (s::r)
   |none=>none
  |none=>none
def ofV:Value->Option SV
 |.agg cs=>match ofL cs.toList with
  |some l=>some (.agg l)
  |none=>none
 |v=>ofA v
structure CO where
 g:Tr SV->Option SV
def cG:Nat->Nat->CO
 |0,_=>⟨fun _=>none⟩
 |f+1,k=>match k with
  |0=>⟨fun T=>T.v⟩
  |k+1=>sel4 (Nat.mod k 4) ⟨fun T=>(cG f (Nat.div k 4)).g T.a⟩ ⟨fun T=>(cG f (Nat.div k 4)).g T.b⟩ ⟨fun T=>(cG f (Nat.div k 4)).g T.c⟩ ⟨fun T=>(cG f (Nat.div k 4)).g T.d⟩
def cO(nt:Nat):Operand->CO
 |.tmp t=>cond (Nat.blt t nt) (cG 40 t) ⟨fun _=>none⟩
 |.const v=>match ofV v with
  |some s=>⟨fun _=>some s⟩
  |none=>⟨fun _=>none⟩
 |.func f=>⟨fun _=>some (.fn f [] [])⟩
 |.global _=>⟨fun _=>none⟩
structure CL where
 g:Tr SV->Option (List SV)
noncomputable def cL (nt:Nat):List Operand->CL
 |[]=>⟨fun _=>some []⟩
 |o::l=>⟨fun T=>match (cO nt o).g T with
  |some v=>match (cL nt l).g T with
   |some r=>some (v::r)
   |none=>none
  |none=>none⟩
structure CP where
 g:Tr SV->Option (List (Nat×SV))
noncomputable def cP (nt:Nat):List (Nat×Operand)->CP
 |[]=>⟨fun _=>some []⟩
 |(i,o)::l=>⟨fun T=>match (cO nt o).g T with
  |some v=>match (cP nt l).g T with
   |some r=>some ((i,v)::r)
   |none=>none
  |none=>none⟩
structure CN where
 g:Tr SV->Option (Option Nat)
def toN:SV->Option Nat
 |.int _ (.ofNat n)=>some n
 |_=>none
noncomputable def cN (nt:Nat):Option Operand->CN
 |none=>⟨fun _=>some none⟩
 |some o=>⟨fun T=>match (cO nt o).g T with
  |some v=>match toN v with
   |some n=>some (some n)
   |none=>none
  |none=>none⟩
def SV.cells:SV->List SV
 |.agg l=>l
 |v=>[v]
def SV.atom:SV->Bool
 |.agg _=>false
 |.tup _=>false
 |_=>true
def atoms:List SV->Bool
 |[]=>true
 |v::l=>cond v.atom (atoms l) false
/-! ### types -/
def szOf(P:Program)(t:Nat):Option Nat:=match P.info? t with
 |some i=>some i.size
 |none=>none
def byOf(P:Program)(t:Nat):Option Nat:=match P.info? t with
 |some i=>some i.bytes
 |none=>none
def zeroOf(P:Program)(t:Nat):Option SV:=match P.info? t with
 |some i=>match i.zero with
  |some v=>ofV v
  |none=>none
 |none=>none
def aggT(P:Program)(t:Nat):Option Bool:=match P.underlying t with
 |some d=>some (aggD d)
 |none=>none
def elemOf(P:Program)(t:Nat):Option Nat:=match P.underlying t with
 |some (.slice e)=>some e
 |_=>none
def fieldOf(P:Program)(t i:Nat):Option (Nat×Nat):=match P.underlying t with
 |some (.struct fs)=>match fs.toList[i]? with
  |some f=>some (f.type,f.offset)
  |none=>none
 |_=>none
/-! ### numbers -/
def md(n:Int)(m:Nat):Nat:=match n with
 |.ofNat a=>a%m
 |.negSucc a=>m-1-a%m
def wr(k:IntKind)(n:Int):Int:=match k with
 |.u8=>.ofNat (md n 256)
 |.u16=>.ofNat (md n 65536)
 |.u32=>.ofNat (md n 4294967296)
 |.u64=>.ofNat (md n 18446744073709551616)
 |.i8=>match md n 256 with|m=>cond (Nat.ble 128 m) (.negSucc (255-m)) (.ofNat m)
 |.i16=>match md n 65536 with|m=>cond (Nat.ble 32768 m) (.negSucc (65535-m)) (.ofNat m)
 |.i32=>match md n 4294967296 with|m=>cond (Nat.ble 2147483648 m) (.negSucc (4294967295-m)) (.ofNat m)
 |.i64=>match md n 18446744073709551616 with|m=>cond (Nat.ble 9223372036854775808 m) (.negSucc (18446744073709551615-m)) (.ofNat m)
def kbeq:IntKind->IntKind->Bool
 |.i8,.i8=>true|.i16,.i16=>true|.i32,.i32=>true|.i64,.i64=>true
 |.u8,.u8=>true|.u16,.u16=>true|.u32,.u32=>true|.u64,.u64=>true
 |_,_=>false
def kmod:IntKind->Nat
 |.i8=>256|.u8=>256|.i16=>65536|.u16=>65536|.i32=>4294967296|.u32=>4294967296|.i64=>18446744073709551616|.u64=>18446744073709551616
def kbits:IntKind->Nat
 |.i8=>8|.u8=>8|.i16=>16|.u16=>16|.i32=>32|.u32=>32|.i64=>64|.u64=>64
def ilt:Int->Int->Bool
 |.ofNat a,.ofNat b=>Nat.blt a b
 |.negSucc _,.ofNat _=>true
 |.ofNat _,.negSucc _=>false
 |.negSucc a,.negSucc b=>Nat.blt b a
def ieq:Int->Int->Bool
 |.ofNat a,.ofNat b=>Nat.beq a b
 |.negSucc a,.negSucc b=>Nat.beq a b
 |_,_=>false
def beqB:List UInt8->List UInt8->Bool
 |[],[]=>true
 |a::l,b::m=>cond (Nat.beq a.toNat b.toNat) (beqB l m) false
 |_,_=>false
def ltB:List UInt8->List UInt8->Bool
 |_,[]=>false
 |[],_::_=>true
 |a::x,b::y=>cond (Nat.blt a.toNat b.toNat) true (cond (Nat.beq a.toNat b.toNat) (ltB x y) false)
def iop(op:BinOp)(k:IntKind)(a b:Int):Option SV:=match op with
 |.add=>some (.int k (wr k (a+b)))
 |.sub=>some (.int k (wr k (a-b)))
 |.mul=>some (.int k (wr k (a*b)))
 |.quo=>cond (ieq b 0) none (some (.int k (wr k (a.tdiv b))))
 |.rem=>cond (ieq b 0) none (some (.int k (a.tmod b)))
 |.and=>some (.int k (wr k (.ofNat (Nat.land (md a (kmod k)) (md b (kmod k))))))
 |.or=>some (.int k (wr k (.ofNat (Nat.lor (md a (kmod k)) (md b (kmod k))))))
 |.xor=>some (.int k (wr k (.ofNat (Nat.xor (md a (kmod k)) (md b (kmod k))))))
 |.eql=>some (.bool (ieq a b))
 |.neq=>some (.bool (not (ieq a b)))
 |.lss=>some (.bool (ilt a b))
 |.leq=>some (.bool (not (ilt b a)))
 |.gtr=>some (.bool (ilt b a))
 |.geq=>some (.bool (not (ilt a b)))
 |_=>none
def sop(op:BinOp)(a b:List UInt8):Option SV:=match op with
 |.add=>cond (Nat.ble (a.length+b.length) 1000000) (some (.str (a++b))) none
 |.eql=>some (.bool (beqB a b))
 |.neq=>some (.bool (not (beqB a b)))
 |.lss=>some (.bool (ltB a b))
 |.leq=>some (.bool (or (ltB a b) (beqB a b)))
 |.gtr=>some (.bool (not (or (ltB a b) (beqB a b))))
 |.geq=>some (.bool (not (ltB a b)))
 |_=>none
def nilEq(P:Program)(t:Nat)(a b:SV):Option Bool:=match P.underlying t with
 |some (.pointer _)=>match a,b with
  |.pnil,.pnil=>some true
  |.pnil,.ptr _ _=>some false
  |.ptr _ _,.pnil=>some false
  |_,_=>none
 |some (.slice _)=>match a,b with
  |.snil,.snil=>some true
  |.snil,.slc _ _ _ _=>some false
  |.snil,.esl _ _ _ _=>some false
  |.slc _ _ _ _,.snil=>some false
  |.esl _ _ _ _,.snil=>some false
  |_,_=>none
 |some (.func _ _ _)=>match a,b with
  |.fnil,.fnil=>some true
  |.fnil,.fn _ _ _=>some false
  |.fn _ _ _,.fnil=>some false
  |_,_=>none
 |some (.interface _)=>match a,b with
  |.inil,.ifc _ _=>some false
  |.ifc _ _,.inil=>some false
  |_,_=>none
 |some .bool=>match a,b with
  |.bool x,.bool y=>some (cond x y (not y))
  |_,_=>none
 |_=>none
def arrEq(P:Program)(t:Nat)(a b:List SV):Option Bool:=match P.underlying t with
 |some (.array 2 e)=>match P.underlying e with
  |some (.int _)=>match szOf P e with
   |some 1=>match a,b with
    |[.int k x,.int l y],[.int k' x',.int l' y']=>cond (and (kbeq k k') (kbeq l l')) (some (and (ieq x x') (ieq y y'))) none
    |_,_=>none
   |_=>none
  |_=>none
 |_=>none
def isConst:Operand->Bool
 |.const _=>true
 |_=>false
def eqS(P:Program)(t:Nat)(x y:Operand)(a b:SV):Option Bool:=match a,b with
 |.agg l,.agg m=>arrEq P t l m
 |.inil,.inil=>cond (or (isConst x) (isConst y)) (match P.underlying t with|some (.interface _)=>some true|_=>none) none
 |_,_=>nilEq P t a b
def bin(P:Program)(op:BinOp)(t:Nat)(x y:Operand)(a b:SV):Option SV:=match a,b with
 |.int k m,.int k' n=>match op with
  |.shl=>cond (ilt n 0) none (some (.int k (wr k (m*((2^(min n.toNat (kbits k)):Nat):Int)))))
  |.shr=>cond (ilt n 0) none (some (.int k (m.fdiv ((2^(min n.toNat (kbits k)):Nat):Int))))
  |op=>cond (kbeq k k') (iop op k m n) none
 |.str a,.str b=>sop op a b
 |a,b=>match op with
  |.eql=>match eqS P t x y a b with
   |some r=>some (.bool r)
   |none=>none
  |.neq=>match eqS P t x y a b with
   |some r=>some (.bool (not r))
   |none=>none
  |_=>none
/-! ### what only moves -/
def fillS(place:Nat->Option (Nat×Nat)):List SV->List (Nat×SV)->Option (List SV)
 |cs,[]=>some cs
 |cs,(i,v)::r=>match place i with
  |none=>none
  |some (off,size)=>match v.cells with
   |vc=>cond (and (Nat.beq vc.length size) (Nat.ble (off+vc.length) cs.length)) (fillS place (cs.take off++vc++cs.drop (off+vc.length)) r) none
def placesOf(P:Program)(t:Nat):Option (List (Nat×Nat)):=match P.underlying t with
 |some (.struct fs)=>go fs.toList
 |_=>none
where go:List Field->Option (List (Nat×Nat))
 |[]=>some []
 |f::l=>match szOf P f.type with
  |some s=>match go l with
   |some r=>some ((f.offset,s)::r)
   |none=>none
  |none=>none
def partS(P:Program)(t:Nat)(l:List SV)(off:Nat):Option SV:=match aggT P t with
 |some true=>match szOf P t with
  |some s=>some (.agg ((l.take (off+s)).drop off))
  |none=>none
 |some false=>l[off]?
 |none=>none
def lenS(P:Program)(t:Nat)(v:SV):Option Nat:=match v with
 |.str s=>match P.underlying t with
  |some .string=>some s.length
  |_=>none
 |.slc _ _ l _=>match P.underlying t with
  |some (.slice _)=>some l
  |_=>none
 |.esl _ _ _ _=>match P.underlying t with
  |some (.slice _)=>some 0
  |_=>none
 |.asl _ _ l _=>match P.underlying t with
  |some (.slice _)=>some l
  |_=>none
 |.snil=>match P.underlying t with
  |some (.slice _)=>some 0
  |_=>none
 |_=>none
def sliceS(P:Program)(t:Nat)(v:SV)(lo:Option Nat)(hi:Option Nat):Option SV:=match v with
 |.str s=>match P.underlying t with
  |some .string=>match lo.getD 0,hi.getD s.length with
   |a,b=>cond (and (Nat.ble a b) (Nat.ble b s.length)) (some (.str ((s.take b).drop a))) none
  |_=>none
 |.slc i e l z=>match elemOf P t with
  |some el=>match szOf P el with
   |some s=>match lo.getD 0,hi.getD l with
    |a,b=>cond (and (Nat.beq s z) (and (Nat.ble a b) (Nat.ble b l))) (cond (and (Nat.beq a b) (not (Nat.beq a 0))) (some (.esl i e a z)) (some (.slc i (e+a) (b-a) z))) none
   |none=>none
  |none=>none
 |.esl i e j z=>match elemOf P t with
  |some el=>match szOf P el with
   |some _=>match lo.getD 0,hi.getD 0 with
    |a,b=>cond (and (Nat.beq a 0) (Nat.beq b 0)) (some (.esl i e j z)) none
   |none=>none
  |none=>none
 |.snil=>match elemOf P t with
  |some el=>match szOf P el with
   |some _=>match lo.getD 0,hi.getD 0 with
    |a,b=>cond (and (Nat.beq a 0) (Nat.beq b 0)) (some .snil) none
   |none=>none
  |none=>none
 |.ptr i o=>match lo,hi with
  |none,none=>match P.underlying t with
   |some (.array (n+1) el)=>match szOf P el with
    |some z=>some (.asl i o (n+1) z)
    |none=>none
   |_=>none
  |_,_=>none
 |_=>none
/-! ### the parts of operations -/
def pickV(c:Option SV)(a b:Option SV):Option SV:=match c with
 |some (.bool t)=>cond t a b
 |_=>none
def nilV:Option SV->Option SV
 |some (.ptr i o)=>some (.ptr i o)
 |some (.fn f a c)=>some (.fn f a c)
 |some (.yld i)=>some (.yld i)
 |_=>none
def offV(n:Nat):Option SV->Option SV
 |some (.ptr i o)=>some (.ptr i (o+n))
 |_=>none
def partV(P:Program)(t off:Nat):Option SV->Option SV
 |some (.agg l)=>partS P t l off
 |_=>none
def binV(P:Program)(op:BinOp)(t:Nat)(x y:Operand)(a b:Option SV):Option SV:=match a with
 |some a=>match b with
  |some b=>bin P op t x y a b
  |none=>none
 |none=>none
def notV:Option SV->Option SV
 |some (.bool b)=>some (.bool (not b))
 |_=>none
def negV:Option SV->Option SV
 |some (.int k n)=>some (.int k (wr k (0-n)))
 |_=>none
def convV(k:IntKind):Option SV->Option SV
 |some (.int _ n)=>some (.int k (wr k n))
 |_=>none
def strV:Option SV->Option SV
 |some (.str b)=>some (.str b)
 |_=>none
def ifcV(t:Nat):Option SV->Option SV
 |some v=>some (.ifc t v)
 |none=>none
def fnV(g:Nat)(a c:Option (List SV)):Option SV:=match a with
 |some a=>match c with
  |some c=>some (.fn g a c)
  |none=>none
 |none=>none
def extV(i:Nat):Option SV->Option SV
 |some (.tup l)=>l[i]?
 |_=>none
def buildV(pl:Nat->Option (Nat×Nat))(z:List SV):Option (List (Nat×SV))->Option SV
 |some ps=>match fillS pl z ps with
  |some l=>some (.agg l)
  |none=>none
 |none=>none
def idxSlc(s:Nat)(x i:Option SV):Option SV:=match x with
 |some (.slc b e l z)=>match i with
  |some (.int _ (.ofNat n))=>cond (and (Nat.beq s z) (Nat.blt n l)) (some (.ptr b (e*z+n*s))) none
  |_=>none
 |some (.asl b o l z)=>match i with
  |some (.int _ (.ofNat n))=>cond (and (Nat.beq s z) (Nat.blt n l)) (some (.ptr b (o+n*s))) none
  |_=>none
 |_=>none
def idxArr(len s:Nat)(x i:Option SV):Option SV:=match x with
 |some (.ptr b o)=>match i with
  |some (.int _ (.ofNat n))=>cond (Nat.blt n len) (some (.ptr b (o+n*s))) none
  |_=>none
 |_=>none
def idxAgg(P:Program)(len el s:Nat)(x i:Option SV):Option SV:=match x with
 |some (.agg l)=>match i with
  |some (.int _ (.ofNat n))=>cond (Nat.blt n len) (partS P el l (n*s)) none
  |_=>none
 |_=>none
def idxStr(x i:Option SV):Option SV:=match x with
 |some (.str l)=>match i with
  |some (.int _ (.ofNat n))=>match l[n]? with
   |some b=>some (.int .u8 (.ofNat b.toNat))
   |none=>none
  |_=>none
 |_=>none
def sliceV(P:Program)(t:Nat)(x:Option SV)(lo hi:Option (Option Nat)):Option SV:=match lo with
 |some lo=>match hi with
  |some hi=>match x with
   |some v=>sliceS P t v lo hi
   |none=>none
  |none=>none
 |none=>none
def assertV(t:Nat)(ok:Bool):Option SV->Option SV
 |some (.ifc u v)=>cond (Nat.beq u t) (some (cond ok (.tup [v,.bool true]) v)) none
 |_=>none
def lenV(P:Program)(t:Nat):Option SV->Option SV
 |some v=>match lenS P t v with
  |some n=>some (.int .i64 (.ofNat n))
  |none=>none
 |none=>none
def minV(a b:Option SV):Option SV:=match a with
 |some (.int k a)=>match b with
  |some (.int k' b)=>cond (kbeq k k') (some (.int k (cond (ilt b a) b a))) none
  |_=>none
 |_=>none
def maxV(a b:Option SV):Option SV:=match a with
 |some (.int k a)=>match b with
  |some (.int k' b)=>cond (kbeq k k') (some (.int k (cond (ilt a b) b a))) none
  |_=>none
 |_=>none
end Go.Ev
