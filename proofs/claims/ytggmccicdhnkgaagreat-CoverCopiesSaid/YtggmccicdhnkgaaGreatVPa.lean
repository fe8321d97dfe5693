/-
 Modules of the document's language as data:types,expressions,generators,declarations;how they lie in memory.
-/
import Derived.Test.YtggmccicdhnkgaaGreatVK1
set_option linter.all false
namespace Go.Rf
open Go.RowKit
section
variable{S T:List Nat}{cs ys:List Value}{c e i m:Nat}{ao:Option Addr}{w w':World}
/-! ### rows of cells -/
inductive Rws {α:Type} (R:α->List Value->Prop):List α->List Value->Prop
 |nil:Rws R [] []
 |cons {x:α} {cs:List Value} {l:List α} {ys:List Value}:R x cs->Rws R l ys->Rws R (x::l) (cs++ys)
section
variable{α:Type}{R R':α->List Value->Prop}{l l':List α}{ys zL:List Value}{k:Nat}
theorem Rws.imp(h:∀x cs,x∈l->R x cs->R' x cs)(hr:Rws R l ys):Rws R' l ys:=by
 induction hr with
 |nil=>exact .nil
 |cons h1 _ ih=>exact .cons (h _ _ ap h1) (ih (fun x cs hx=>h x cs lA))
theorem Rws.len(hk:∀x cs,R x cs->cs.length=k)(hr:Rws R l ys):ys.length=l.length*k:=by
 induction hr with
 |nil=>simp
 |cons h1 _ ih=>simp[ih,hk _ _ h1,Nat.add_mul];omega
theorem Rws.app(h:Rws R l ys)(h':Rws R l' zL):Rws R (l++l') (ys++zL):=by
 induction h with
 |nil=>simpa using h'
 |cons h1 _ ih=>rw[List.append_assoc];exact .cons h1 ih
theorem Rws.one{x:α}(h:R x cs):Rws R [x] cs:=by
 have:=Rws.cons h (Rws.nil (R:=R))
 rwa [Ce]at this
theorem Rws.get(hk:∀x cs,R x cs->cs.length=k)(hr:Rws R l ys):∀{i:Nat} (hi:i<l.length),∃cs,R l[i] cs/\(ys.drop (i*k)).take k=cs:=by
 induction hr with
 |nil=>intro i hi;simp at hi
 |cons h1 _ ih=>
  intro i hi;have hl:=hk _ _ h1;cases i with
  |zero=>exact⟨_,h1,by simp[<-hl]⟩
  |succ i=>
   obtain⟨cs,h2,h3⟩:=ih (i:=i) tY;refine⟨cs,by simpa using h2,?_⟩;rw[<-h3,DN,D7,<-hl,F5,Ci (Nat.le_add_right _ _)];simp
theorem Rws.take(hk:∀x cs,R x cs->cs.length=k)(hr:Rws R l ys):∀(m:Nat),Rws R (l.take m) (ys.take (m*k)):=by
 induction hr with
 |nil=>intro m;simp;exact .nil
 |cons h1 _ ih=>
  intro m;have hl:=hk _ _ h1;cases m with
  |zero=>simp;exact .nil
  |succ m=>
   simp only[DT];rw[DN,D7,<-hl,List.take_append];have:(‹List Value›).take (m*(‹List Value›).length)=(‹List Value›).take (m*(‹List Value›).length):=rfl;have e:∀cs:List Value,cs.take (cs.length+m*cs.length)=cs:=fun cs=>SQ ab
   rw[e];have:=ih m;rw[<-hl]at this;simpa using Rws.cons h1 this
theorem Rws.drop(hk:∀x cs,R x cs->cs.length=k)(hr:Rws R l ys):∀(m:Nat),Rws R (l.drop m) (ys.drop (m*k)):=by
 induction hr with
 |nil=>intro m;simp;exact .nil
 |cons h1 h2 ih=>
  intro m;have hl:=hk _ _ h1;cases m with
  |zero=>simpa using Rws.cons h1 h2
  |succ m=>
   simp only[Fb];rw[DN,D7,<-hl,F5];simp only[Eo];have e:∀cs:List Value,cs.drop (cs.length+m*cs.length)=[]:=fun cs=>Ci ab
   rw[e,CO,hl];exact ih m
theorem Rws.set(hk:∀x cs,R x cs->cs.length=k)(hr:Rws R l ys){x:α}(hx:R x cs)(hi:i<l.length):Rws R (l.set i x) (ys.take (i*k)++cs++ys.drop ((i+1)*k)):=by
 rw[List.set_eq_take_append_cons_drop,Cb hi,List.append_assoc];exact(hr.take hk i).app (.cons hx (hr.drop hk (i+1)))
theorem Rws.mem1(h1:∀x cs,R x cs->∀u∈cs,u.oneCell'=true)(hr:Rws R l ys):∀u∈ys,u.oneCell'=true:=by
 induction hr with
 |nil=>simp
 |cons h2 _ ih=>
  intro u hu;rcases SE.1 hu with h|h
  .exact h1 _ _ h2 u h
  .exact ih u h
end
/-! ### values -/
structure V where
 kind:Int
 n:Int
 s:ByteArray
 kids:List V
def vc(v:V)(sl:Value):List Value:=[.int .i64 v.kind,.int .i64 v.n,.string v.s,sl]
inductive VS (w:World) (S:List Nat):List V->Value->Prop
 |mk {l:List V} {sl:Value} (k9:List Value) (ys:List Value):l.length<=1000000000000->k9.length=l.length->ys=(List.zipWith vc l k9).flatten->Src w sl l.length ys->mn sl ys S->(∀i (h:i<l.length) (h':i<k9.length),VS w S l[i].kids k9[i])->VS w S l sl
theorem VS.slice{l:List V}{sl:Value}(h:VS w S l sl):∃ao c,sl=.slice ao l.length c/\l.length<=c:=by
 cases h with
 |mk k9 ys _ _ _ hs _ _=>obtain⟨ao,c,rfl,h1,_⟩:=hs;exact⟨ao,c,rfl,h1⟩
theorem VS.one{l:List V}{sl:Value}(h:VS w S l sl):sl.oneCell'=true:=by
 obtain⟨ao,c,rfl,_⟩:=h.slice;rfl
theorem VS.nil(w:World)(S:List Nat):VS w S [] (.slice none 0 0):=.mk [] [] ap rfl rfl (Src.nil w) (fun _ _ _ e=>by cases e) (fun i h=>by simp at h)
theorem VS.empty(h:ao=none->c=0):VS w S [] (.slice ao 0 c):=
 .mk [] [] ap rfl rfl ⟨ao,c,rfl,SL _,fun e=>⟨rfl,h e,rfl⟩,fun ad _ j u hu=>by simp at hu⟩ (fun _ _ _ _ h=>by simp at h) (fun i h=>by simp at h)
theorem VS.tr{l:List V}{sl:Value}(h:VS w S l sl)(hf:Fr S w w'):VS w' S l sl:=by
 induction h with
 |mk k9 ys h0 h1 h2 h3 h4 _ ih=>exact .mk k9 ys h0 h1 h2 (h3.tr hf h4) h4 ih
theorem VS.mono{l:List V}{sl:Value}(h:VS w S l sl)(hT:∀k∈T,k∈S\/w.heap.size<=k):VS w T l sl:=by
 induction h with
 |mk k9 ys h0 h1 h2 h3 h4 _ ih=>exact .mk k9 ys h0 h1 h2 h3 (mn.mono h3 h4 hT) ih
theorem VS.old{l:List V}{sl:Value}(h:VS w S l sl)(hf:Fr T w w')(hT:∀k∈T,k∈S\/w.heap.size<=k):VS w' S l sl:=by
 have h1:VS w (S++T) l sl:=h.mono Ykb;have sA:Fr (S++T) w w':=hf.mono (fun k hk=>.inl yB);have h2:=h1.tr sA;exact h2.mono (fun k hk=>.inl yB)
theorem VS.turn{l:List V}{sl:Value}(h:VS w S l sl)(hf:Fr S w w')(hT:∀k∈T,k∈S\/w.heap.size<=k):VS w' T l sl:=by
 have h1:VS w (S++T) l sl:=h.mono Ykb;have sA:Fr (S++T) w w':=hf.mono (fun k hk=>.inl yB);exact(h1.tr sA).mono (fun k hk=>.inl yB)
theorem VS.tr0{l:List V}{sl:Value}(h:VS w S l sl)(hf:Fr [] w w'):VS w' S l sl:=h.old hf ap
theorem VS.off{l:List V}{sl:Value}(h:VS w [] l sl)(hS:∀k∈S,w.heap.size<=k):VS w S l sl:=h.mono (fun k hk=>.inr (hS k hk))
theorem VS.any{l:List V}{sl:Value}(h:VS w S l sl):VS w [] l sl:=h.mono ap
def VR(w:World)(S:List Nat)(v:V)(cs:List Value):Prop:=∃sl,cs=vc v sl/\VS w S v.kids sl
theorem VR.len:∀(v:V) (cs:List Value),VR w S v cs->cs.length=4:=by rintro v _ ⟨sl,rfl,_⟩;rfl
theorem VR.mem1:∀(v:V) (cs:List Value),VR w S v cs->∀u∈cs,u.oneCell'=true:=by
 rintro v _ ⟨sl,rfl,h⟩ u hu;simp only[vc,SC,S9,CU]at hu;rcases hu with rfl|rfl|rfl|rfl
 .rfl
 .rfl
 .rfl
 .exact h.one
theorem JbK:∀(l:List V) (k9:List Value),k9.length=l.length->(∀i (h:i<l.length) (h':i<k9.length),VS w S l[i].kids k9[i])->Rws (VR w S) l (List.zipWith vc l k9).flatten
 |[],_,_,_=>by simp;exact .nil
 |v::l,[],h,_=>by simp at h
 |v::l,s::k9,h,hk=>by
  simp only[List.zipWith_cons_cons,List.flatten_cons];exact .cons ⟨s,rfl,hk 0 ap ap⟩ (JbK l k9 mE (fun i h1 h2=>hk (i+1) aZ aZ))
theorem Jc0{l:List V}(h:Rws (VR w S) l ys):∃k9:List Value,k9.length=l.length/\ys=(List.zipWith vc l k9).flatten/\∀i (h:i<l.length) (h':i<k9.length),VS w S l[i].kids k9[i]:=by
 induction h with
 |nil=>exact⟨[],rfl,rfl,fun i h=>by simp at h⟩
 |cons h1 _ ih=>
  obtain⟨sl,rfl,hv⟩:=h1;obtain⟨k9,h2,h3,h4⟩:=ih;refine⟨sl::k9,by simp[h2],by simp[h3],fun i h h'=>?_⟩;cases i with
  |zero=>simpa using hv
  |succ i=>simpa using h4 i mE (by simpa using h')
theorem VS.rows{l:List V}{sl:Value}(h:VS w S l sl):∃ys,Src w sl l.length ys/\mn sl ys S/\Rws (VR w S) l ys:=by
 cases h with
 |mk k9 ys h0 h1 h2 h3 h4 h5=>exact⟨ys,h3,h4,by rw[h2];exact JbK l k9 h1 h5⟩
theorem VS.bound{l:List V}{sl:Value}(h:VS w S l sl):l.length<=1000000000000:=by
 cases h with
 |mk k9 ys h0 h1 h2 h3 h4 h5=>exact h0
theorem VS.of{l:List V}{sl:Value}(h0:l.length<=1000000000000)(h1:Src w sl l.length ys)(h2:mn sl ys S)(h3:Rws (VR w S) l ys):VS w S l sl:=by
 obtain⟨k9,h4,h5,h6⟩:=Jc0 h3;exact .mk k9 ys h0 h4 h5 h1 h2 h6
/-! ### rN of rows -/
def Sl{α:Type}(w:World)(S:List Nat)(R:α->List Value->Prop)(l:List α)(sl:Value):Prop:=∃ys,Src w sl l.length ys/\mn sl ys S/\Rws R l ys
section
variable{α:Type}{R R':α->List Value->Prop}{l l':List α}{w w':World}{S:List Nat}{sl:Value}{k:Nat}
theorem Sl.slice(h:Sl w S R l sl):∃ao c,sl=.slice ao l.length c/\l.length<=c:=by
 obtain⟨ys,⟨ao,c,rfl,h1,_⟩,_⟩:=h;exact⟨ao,c,rfl,h1⟩
theorem Sl.one(h:Sl w S R l sl):sl.oneCell'=true:=by obtain⟨ao,c,rfl,_⟩:=h.slice;rfl
theorem Sl.at(h:Sl w S R l (.slice ao m c))(hk:∀x cs,R x cs->cs.length=k)(hi:i<l.length):∃ad cs,ao=some ad/\R l[i] cs/\Cells w (ad.add (i*k)) cs:=by
 obtain⟨ys,hs,_,hr⟩:=h;obtain⟨cs,h1,h2⟩:=hr.get hk hi;have hm:m=l.length:=by obtain⟨_,_,e,_⟩:=hs;simp only[Value.slice.injEq]at e;exact e.2.1
 subst hm;have hlen:=hr.len hk;cases ao with
 |none=>
  obtain⟨pS,c',e,_,hn,_⟩:=hs;simp only[Value.slice.injEq]at e;obtain⟨h3,_⟩:=hn e.1.symm;omega
 |some ad=>
  refine⟨ad,cs,rfl,h1,?_⟩;have:=(Cells.Jid hs).sub (i*k) k
  rwa [h2]at this
theorem Sl.imp(h:∀x cs,x∈l->R x cs->R' x cs)(hs:Sl w S R l sl):Sl w S R' l sl:=by
 obtain⟨ys,h1,h2,h3⟩:=hs;exact⟨ys,h1,h2,h3.imp h⟩
theorem Sl.nil:Sl w S R [] (.slice none 0 0):=⟨[],Src.nil w,(fun _ _ _ e=>by cases e),.nil⟩
theorem Sl.tr(hs:Sl w S R l sl)(hf:Fr S w w'):Sl w' S R l sl:=by obtain⟨ys,h1,h2,h3⟩:=hs;exact⟨ys,h1.tr hf h2,h2,h3⟩
theorem Sl.tr0(hs:Sl w S R l sl)(hf:Fr [] w w'):Sl w' S R l sl:=by obtain⟨ys,h1,h2,h3⟩:=hs;exact⟨ys,h1.tr0 hf,h2,h3⟩
theorem Sl.old(hs:Sl w S R l sl)(hf:Fr T w w')(hT:∀k∈T,w.heap.size<=k):Sl w' S R l sl:=by obtain⟨ys,h1,h2,h3⟩:=hs;exact⟨ys,h1.old hf hT,h2,h3⟩
theorem Sl.mono(hs:Sl w S R l sl)(hT:∀k∈T,k∈S\/w.heap.size<=k):Sl w T R l sl:=by obtain⟨ys,h1,h2,h3⟩:=hs;exact⟨ys,h1,mn.mono h1 h2 hT,h3⟩
theorem Sl.Jie(h:bx w e k sl l.length ys)(hr:Rws R l ys):Sl w [] R l sl:=⟨ys,h.src,fun _ _ _ _ _=>by simp,hr⟩
end
theorem VS.sl{l:List V}{sl:Value}(h:VS w S l sl):Sl w S (VR w S) l sl:=h.rows
theorem VS.Jhn{l:List V}{sl:Value}(h0:l.length<=1000000000000)(h:Sl w S (VR w S) l sl):VS w S l sl:=by obtain⟨ys,h1,h2,h3⟩:=h;exact VS.of h0 h1 h2 h3
theorem VR.tr{v:V}(h:VR w S v cs)(hf:Fr S w w'):VR w' S v cs:=by obtain⟨sl,h1,h2⟩:=h;exact⟨sl,h1,h2.tr hf⟩
theorem VR.old{v:V}(h:VR w S v cs)(hf:Fr T w w')(hT:∀k∈T,k∈S\/w.heap.size<=k):VR w' S v cs:=by obtain⟨sl,h1,h2⟩:=h;exact⟨sl,h1,h2.old hf hT⟩
theorem VR.mono{v:V}(h:VR w S v cs)(hT:∀k∈T,k∈S\/w.heap.size<=k):VR w T v cs:=by obtain⟨sl,h1,h2⟩:=h;exact⟨sl,h1,h2.mono hT⟩
end
section
variable{S T:List Nat}{cs z:List Value}{eZ e m:Nat}{α:Type}{xv:Value}{w w':World}
structure Stab {α:Type} (R:World->List Nat->α->List Value->Prop) (k:Nat):Prop where
 tr:∀{w w' S x cs},R w S x cs->Fr S w w'->R w' S x cs
 mono:∀{w S T x cs},R w S x cs->(∀b∈T,b∈S\/w.heap.size<=b)->R w T x cs
 len:∀{w S x cs},R w S x cs->cs.length=k
 one:∀{w S x cs},R w S x cs->∀u∈cs,u.oneCell'=true
section
variable{α:Type}{R:World->List Nat->α->List Value->Prop}{k:Nat}
theorem Stab.turn(h:Stab R k){x:α}(hr:R w S x cs)(hf:Fr S w w')(hT:∀b∈T,b∈S\/w.heap.size<=b):R w' T x cs:=by
 exact Yby
theorem Stab.old(h:Stab R k){x:α}(hr:R w S x cs)(hf:Fr T w w')(hT:∀b∈T,b∈S\/w.heap.size<=b):R w' S x cs:=by
 exact Yby
theorem Stab.any(h:Stab R k){x:α}(hr:R w S x cs):R w [] x cs:=h.mono hr ap
def WE(w:World)(e k:Nat)(R:World->List Nat->α->List Value->Prop)(l:List α)(v:Value):Prop:=∃ys,bx w e k v l.length ys/\Rws (R w (ag v)) l ys
variable{w w':World}{e:Nat}{l:List α}{v:Value}
theorem WE.nil(w:World)(e k:Nat)(R:World->List Nat->α->List Value->Prop):WE w e k R [] (.slice none 0 0):=⟨[],bx.nil _ _ _,.nil⟩
theorem WE.old(h:WE w e k R l v)(hs:Stab R k)(hf:Fr T w w')(hT:∀b∈T,w.heap.size<=b):WE w' e k R l v:=by
 obtain⟨ys,h1,h2⟩:=h;exact⟨ys,h1.old hf hT,h2.imp (fun x cs _ hr=>hs.old hr hf (fun b hb=>.inr (hT b hb)))⟩
theorem WE.tr0(h:WE w e k R l v)(hs:Stab R k)(hf:Fr [] w w'):WE w' e k R l v:=h.old hs hf ap
theorem WE.slice(h:WE w e k R l v):∃ao c,v=.slice ao l.length c:=by obtain⟨ys,h1,_⟩:=h;exact h1.slice
theorem WE.one(h:WE w e k R l v):v.oneCell'=true:=by obtain⟨ys,h1,_⟩:=h;exact h1.one
theorem WE.lt(h:WE w e k R l v):∀b∈ag v,b<w.heap.size:=by obtain⟨ys,h1,_⟩:=h;exact h1.lt
theorem WE.sl(h:WE w e k R l v)(hs:Stab R k):Sl w [] (R w []) l v:=by
 obtain⟨ys,h1,h2⟩:=h;exact⟨ys,h1.src,fun _ _ _ _ _=>by simp,h2.imp (fun x cs _ hr=>hs.any hr)⟩
end
theorem Jcc{size:Nat}{v:Value}(hz:z.length=size)(hc:cs.length=size)(hv:v.cells=cs.toArray):Xr (fun i=>some (i*size,size)) (bG z 1) [(0,v)]=some cs:=by
 have e:v.cells.toList=cs:=by rw[hv]
 have e2:v.cells.size=size:=by rw[hv];simpa using hc
 have hb:Nat.ble size size=true:=Dv (SX _);simp[Xr,bG,e,e2,hc,hz,Ci,hb]
section
variable{P:Program}{ops:Array Oper}{Q:Exit->Act->World->Prop}{rest:List Oper}{n:Nat}{f:Env}{w:World}
variable{d d2:Nat}{ty Tn:TypeId}{ps To:String}{af Tq:Array Edge}{x y s:Operand}{t t2:Nat}
theorem Jdu{R:World->List Nat->α->List Value->Prop}{size:Nat}{l:List α}{v:Value}{a:α}[RZ:RowZ P t e size eZ z]
 (hR:WE w e size R l v) (hs:Stab R size) (pH:ev n f s=v) (hx:ev n f x=xv) (κ:xv.cells=cs.toArray) (ha:R w (ag v) a cs) (hd:ev n (bz f d (.slice (some ⟨w.heap.size,0,none⟩) 1 1)) s=v) (qM:Nat.blt d n=true) (fA:Nat.ble size 16777216=true)
 (jW:l.length+1<=maxLen) (hb:(l.length+1)*eZ<=140737488355328)
 (h:∀v' w',WE w' e size R (l++[a]) v'->Fr (ag v) w w'->(∀b∈ag v',b∈ag v\/w.heap.size<=b)->wpList P ops Q rest (A n (bz (bz f d (.slice (some ⟨w.heap.size,0,none⟩) 1 1)) d2 v')) w'):
 wpList P ops Q (⟨some d,.buildSlice t 1 #[(0,x)],ty,ps,af,none⟩::⟨some d2,.call {callee:=.builtin .append,args:=#[s,.tmp d],argTypes:=#[t,t]},Tn,To,Tq,none⟩::rest) (A n f) w:=by
 obtain⟨ys,ho,hr⟩:=hR;have Rr:=RZ.row;have oo:z.length=size:=by obtain⟨i,v,_,_,_,h⟩:=RZ.z;exact h
 have fg:=hs.len ha;subst hx;refine J3 (z:=z) (parts:=[(0,x)]) cs (by simpa using fA) rfl (Jcc oo fg κ) (by simpa using fg) (fun w1 ef aj bh=>?_);have hlen:=Rws.len (k:=size) (fun x cs h=>hs.len h) hr;refine JC (R:=Rr) (ho.tr0 aj) hd ef.src ?_ (by simpa using fg) (hs.one ha) jW hb (fun v' w' RW sA nA _=>?_)
 .show cond (Nat.blt d n) (bz f d _ d) undef=_;rw[qM,iY];rfl
 have hF:Fr (ag v) w w':=(aj.mono ap).trans sA (fun b hb=>.inl hb);refine h v' w' ⟨ys++cs,by rw[Sm];exact RW,?_⟩ hF (fun b hb=>?_)
 .have cu:∀b∈ag v',b∈ag v\/w.heap.size<=b:=fun b hb=>by
   rcases nA b hb with h|h
   .exact .inl h
   .right;omega
  exact(hr.imp fun x cs _ h=>hs.turn h hF cu).app (Rws.one (hs.turn ha hF cu))
 .rcases nA b hb with h|h
  .exact .inl h
  .right;omega
theorem Jfn{R:World->List Nat->α->List Value->Prop}{size:Nat}{l al:List α}{v:Value}[Rr:RowT P t e size eZ]
 (hR:WE w e size R l v) (hs:Stab R size) (pH:ev n f s=v) (hx:ev n f x=xv) (eo:Src w xv m cs) (ha:Rws (R w (ag v)) al cs) (hm:al.length=m) (jW:l.length+m<=maxLen) (hb:(l.length+m)*eZ<=140737488355328)
 (h:∀v' w',WE w' e size R (l++al) v'->Fr (ag v) w w'->(∀b∈ag v',b∈ag v\/w.heap.size<=b)->(v'=.slice none 0 0↔v=.slice none 0 0/\m=0)->wpList P ops Q rest (A n (bz f d v')) w'):
 wpList P ops Q (⟨some d,.call {callee:=.builtin .append,args:=#[s,x],argTypes:=#[t,t]},ty,ps,af,none⟩::rest) (A n f) w:=by
 obtain⟨ys,ho,hr⟩:=hR;have hlen:=Rws.len (k:=size) (fun x cs h=>hs.len h) ha;refine JC ho pH eo hx (by rw[hlen,hm]) (Rws.mem1 (fun x cs h=>hs.one h) ha) jW hb (fun v' w' RW sA nA PF=>?_);refine h v' w' ⟨ys++cs,by rw[Sm,hm];exact RW,?_⟩ sA nA PF;exact(hr.imp fun x cs _ h=>hs.turn h sA nA).app (ha.imp fun x cs _ h=>hs.turn h sA nA)
end
theorem WE.vs{l:List V}{v:Value}(h:WE w e 4 VR l v)(hl:l.length<=1000000000000)(hS:∀b∈ag v,b∉S)(hr:∀x cs,x∈l->VR w (ag v) x cs->VR w S x cs):VS w S l v:=by
 obtain⟨ys,h1,h2⟩:=h;refine VS.of hl h1.src (fun ad n c e hp hm=>?_) (h2.imp hr);refine hS ad.block ?_ hm;rcases h1.2 with⟨hv,h0⟩|⟨g,cap,eS,hv,_⟩
 .rw [hv]at e;cases e
 .subst hv;simp only[Value.slice.injEq,Sj]at e;rw[<-e.1];simp[ag,Value.ownBlock]
end
section
variable{K:Act->World->Prop}{x:Bool}{i m:Nat}{w:World}
def Vl(P:Program)(md:Region.Mode)(ops:Array Oper)(Q:Exit->Act->World->Prop)(k:Nat)(S:World->Prop):Nat->Array Bool->Act->World->Prop
 |0,au,a,w=>Region.ready md ops au=[]/\Q .normal a w
 |fuel+1,au,a,w=>
  (Region.ready md ops au=[]->Q .normal a w)/\
  ∀i∈Region.ready md ops au,wpOp P ops Q i (fun a' w'=>((au.setIfInBounds i true).getD k true=true\/S w')/\Vl P md ops Q k S fuel (au.setIfInBounds i true) a' w') a w
section
variable{P:Program}{ops:Array Oper}{Q:Exit->Act->World->Prop}{md:Region.Mode}{k:Nat}{S:World->Prop}
theorem Np:∀(fuel:Nat) (au:Array Bool) (a:Act) (w:World),Vl P md ops Q k S fuel au a w->wpAny P md ops Q fuel au a w
 |0,_,_,_,h=>h
 |fuel+1,_,_,_,h=>⟨h.1,fun i hi=>wpOp_mono (fun a' w' h'=>Np fuel _ a' w' h'.2) (h.2 i hi)⟩
def waits(md:Region.Mode)(ops:Array Oper)(k i:Nat):Bool:=match ops[k]? with
 |some o=>o.after.any fun e=>Region.binds md e&&e.on==i
 |none=>false
theorem JaD{oi:Oper}{v:Value}(hi:ops[i]?=some oi)(ibs:∀(j:Nat) (o:Oper) cs b,ops[j]?=some o->o.op≠.select cs b)
 (hQ:∀c a w,Q (.panic c) (a.put oi.dst v) w->Q (.panic c) a w) (hk:waits md ops k i=true) (yn:k≠i):
 ∀(fuel:Nat) (au:Array Bool) (a:Act) (w:World),
  (∀j oj,ops[j]?=some oj->j≠i->au.getD j true=false->(∀e∈oj.after,Region.binds md e=true->e.on≠i)->oi.apart ops oj=true)->
  i∈Region.ready md ops au->YieldsIf P ops S oi v a->S w->au.getD k true=false->
  Vl P md ops Q k S fuel (au.setIfInBounds i true) (a.put oi.dst v) w->Vl P md ops Q k S (fuel+1) au a w:=by
 intro fuel
 induction fuel with
 |zero=>
  intro au a w _ hr hy hS hku H;refine⟨fun h=>(by rw[h]at hr;cases hr),fun j hj=>?_⟩;by_cases PU:j=i
  .subst PU;exact hy.wpOp hi hS ⟨.inr hS,H⟩
  .have:=ready_mono hj PU;rw[H.1]at this;cases this
 |succ fuel ih=>
  intro au a w sf hr hy hS hku H;refine⟨fun h=>(by rw[h]at hr;cases hr),fun j hj=>?_⟩;by_cases PU:j=i
  .subst PU;exact hy.wpOp hi hS ⟨.inr hS,H⟩
  .have h1:=H.2 j (ready_mono hj PU);obtain⟨ibt,oj,hoj,rI⟩:=mem_ready.1 hj;have ibu:∀e∈oj.after,Region.binds md e=true->e.on≠i:=fun e he hb heq=>by
    have h1:=rI e he hb;have h0:=(mem_ready.1 hr).1;rw[heq]at h1;rcases DF i au.size with h'|h'
    .simp [h']at h0 h1;rw[h0]at h1;cases h1
    .simp [FW h']at h1
   have hkj:k≠j:=by
    rintro rfl;unfold waits at hk;rw[hoj]at hk;simp only[Array.any_eq_true']at hk;obtain⟨e,he,hb⟩:=hk;simp only[CV,Hy]at hb;exact ibu e he hb.1 hb.2
   have h2:=wpOp_putIf hoj (sf j oj hoj PU ibt ibu) (fun cs b=>ibs i oi cs b hi) (fun cs b=>ibs j oj cs b hoj) hQ hy h1;have YB:∀k ok,ops[k]?=some ok->k≠i->(au.setIfInBounds j true).getD k true=false->
    (∀e∈ok.after,Region.binds md e=true->e.on≠i)->oi.apart ops ok=true:=fun k ok hk yn hun PV=>by
    refine sf k ok hk yn ?_ PV;by_cases R7:j=k
    .subst R7;exact ibt
    .rw [getD_set_ne true R7]at hun;exact hun
   have id0:(au.setIfInBounds j true).getD k true=false:=by rw[getD_set_ne true (I7 hkj)];exact hku
   refine wpOp_mono (fun a' w' h3=>?_) h2;obtain⟨h3y,h3s,h3w⟩:=h3;have hS':S w':=by
    rcases h3s with h|h
    .rw [getD_set_ne true (I7 hkj),getD_set_ne true (I7 yn),hku]at h;cases h
    .exact h
   refine⟨.inr hS',ih (au.setIfInBounds j true) a' w' YB (ready_mono hr (I7 PU)) h3y hS' id0 ?_⟩;rw[Array.setIfInBounds_comm _ _ PU];exact h3w
theorem Nq{rs:List Nat}{fuel:Nat}{au:Array Bool}{a:Act}(hr:Region.ready md ops au=rs)(iz:rs≠[])
 (h:∀i∈rs,wpOp P ops Q i (fun a' w'=>((au.setIfInBounds i true).getD k true=true\/S w')/\Vl P md ops Q k S fuel (au.setIfInBounds i true) a' w') a w):Vl P md ops Q k S (fuel+1) au a w:=
 ⟨fun h0=>absurd (hr▸h0) iz,hr▸h⟩
theorem Jbs{au:Array Bool}{a:Act}(hr:Region.ready md ops au=[])(h:Q .normal a w):
 ∀fuel,Vl P md ops Q k S fuel au a w
 |0=>⟨hr,h⟩
 |_+1=>⟨fun _=>h,by rw[hr];simp⟩
end
section
variable{D:Dfs}
variable{P:Program}{Q:Exit->Act->World->Prop}{k:Nat}{S:World->Prop}{n:Nat}{f:Env}{w:World}{l:List Oper}{fuel:Nat}{au:Array Bool}
theorem Kr{id:Nat}(k:Nat)(S:World->Prop)(hm:P.follows .mixedOrders=true)(hl:l.length=m)(h:Vl P .any l.toArray Q k S m (Array.replicate m false) (A n f) w.drew):(Code.region id l.toArray true).wp P Q (A n f) w:=by
 subst hl;exact wp_region_any hm (Np _ _ _ _ mE)
theorem Jp{d:Nat}{op:Op}{ty:TypeId}{ps:String}{af:Array Edge}{v:Value}[hQ:PanicOk Q](i:Nat)(hS:S w)
 (h:Vl P .any l.toArray Q k S fuel (au.setIfInBounds i true) (A n (bz f d v)) w)
 (hi:l[i]?=some ⟨some d,op,ty,ps,af,none⟩:=by exact rfl)
 (hs:Region.noSelect l.toArray=true:=by kernel_rfl) (hf:Region.free .any l.toArray au i=true:=by kernel_rfl) (hr:(Region.ready .any l.toArray au).contains i=true:=by kernel_rfl)
 (hk:waits .any l.toArray k i=true:=by kernel_rfl) (yn:Nat.beq k i=false:=by kernel_rfl) (hku:au.getD k true=false:=by kernel_rfl)
 (aw:∀u,S u->(execOp (ev n f) ⟨some d,op,ty,ps,af,none⟩).run P u=.ok (.value v) u:=by exact dqx):Vl P .any l.toArray Q k S (fuel+1) au (A n f) w:=by
 have hi':l.toArray[i]?=some ⟨some d,op,ty,ps,af,none⟩:=by simpa using hi
 refine JaD (i:=i) (v:=v) hi' (Region.noSelect_spec hs) (fun c a w=>hQ.ok c a w (some d) v) hk (fun e=>by rw[e]at yn;simp at yn) fuel au _ _ (Region.free_spec hi' hf) (by simpa using hr) ?_ hS hku ?_
 .exact .inl ⟨rfl,fun u hu=>by rw[Zy];exact aw u hu⟩
 .rw [MK];exact h
theorem KH{o:Oper}(hi:l[i]?=some o)(hr:Region.ready .any l.toArray au=[i])
 (h:wpList P l.toArray (Exit.then (fun a' w'=>((au.setIfInBounds i true).getD k true=true\/S w')/\Vl P .any l.toArray Q k S fuel (au.setIfInBounds i true) a' w') Q) [o] (A n f) w):Vl P .any l.toArray Q k S (fuel+1) au (A n f) w:=by
 refine Nq hr ap fun j hj=>?_
 simp only[Sv]at hj;subst hj;exact KC hi h
theorem Xz{a:Act}(hS:S w)(h:K a w):Exit.then (fun a' w'=>(x=true\/S w')/\K a' w') Q .normal a w:=⟨.inr hS,h⟩
theorem JiQ{a:Act}(h:K a w)(hx:x=true:=by kernel_rfl):Exit.then (fun a' w'=>(x=true\/S w')/\K a' w') Q .normal a w:=⟨.inl hx,h⟩
theorem Je8(hr:Region.ready .any l.toArray au=[])(h:Q .normal (A n f) w):Vl P .any l.toArray Q k S fuel au (A n f) w:=Jbs hr h fuel
end
end
section
section
variable{D:Dfs}
variable{P:Program}{Q:Exit->Act->World->Prop}{S:World->Prop}{n:Nat}{f:Env}{w:World}{l:List Oper}{fuel:Nat}{au:Array Bool}
end
end
section
inductive Dt
 |c (v:Value)
 |l (rows:List (List Dt))
inductive DR (w:World) (S:List Nat):Dt->Value->Prop
 |c {v:Value}:v.oneCell'=true->DR w S (.c v) v
 |l {rows:List (List Dt)} {sl:Value} (k:Nat) (ys:List Value):rows.length<=1000000000000->(∀r∈rows,r.length=k)->ys.length=rows.length*k->Src w sl rows.length ys->mn sl ys S->
  (∀i j (hi:i<rows.length) (hj:j<rows[i].length) (hq:i*k+j<ys.length),DR w S rows[i][j] ys[i*k+j])->DR w S (.l rows) sl
inductive RD (w:World) (S:List Nat):List Dt->List Value->Prop
 |nil:RD w S [] []
 |cons {d:Dt} {v:Value} {ds:List Dt} {vs:List Value}:DR w S d v->RD w S ds vs->RD w S (d::ds) (v::vs)
section
variable{w w':World}{S T:List Nat}{d:Dt}{v:Value}{ds:List Dt}{vs:List Value}
theorem DR.tr(h:DR w S d v)(hf:Fr S w w'):DR w' S d v:=by
 induction h with
 |c h=>exact .c h
 |l k ys h0 h1 h2 h3 h4 _ ih=>exact .l k ys h0 h1 h2 (h3.tr hf h4) h4 ih
theorem DR.mono(h:DR w S d v)(hT:∀b∈T,b∈S\/w.heap.size<=b):DR w T d v:=by
 induction h with
 |c h=>exact .c h
 |l k ys h0 h1 h2 h3 h4 _ ih=>exact .l k ys h0 h1 h2 h3 (mn.mono h3 h4 hT) ih
theorem DR.old(h:DR w S d v)(hf:Fr T w w')(hT:∀b∈T,b∈S\/w.heap.size<=b):DR w' S d v:=by
 have h1:DR w (S++T) d v:=h.mono Ykc;exact(h1.tr (hf.mono (fun b hb=>.inl lr))).mono (fun b hb=>.inl lr)
theorem DR.tr0(h:DR w S d v)(hf:Fr [] w w'):DR w' S d v:=h.old hf ap
theorem DR.one(h:DR w S d v):v.oneCell'=true:=by
 cases h with
 |c h=>exact h
 |l k ys h0 h1 h2 h3 h4 _=>obtain⟨ao,c,rfl,_⟩:=h3;rfl
theorem DR.cell{x v:Value}(h:DR w S (.c x) v):v=x:=by cases h;rfl
theorem DR.slice{rows:List (List Dt)}(h:DR w S (.l rows) v):∃ao c,v=.slice ao rows.length c/\rows.length<=c:=by
 cases h with
 |l k ys h0 h1 h2 h3 h4 _=>obtain⟨ao,c,rfl,h,_⟩:=h3;exact⟨ao,c,rfl,h⟩
theorem DR.bound{rows:List (List Dt)}(h:DR w S (.l rows) v):rows.length<=1000000000000:=by
 cases h with
 |l k ys h0 h1 h2 h3 h4 _=>exact h0
theorem DR.nil:DR w S (.l []) (zS):=.l 0 [] ap ap rfl (Src.nil w) (fun _ _ _ e=>by cases e) (fun i j h=>by simp at h)
theorem RD.tr(h:RD w S ds vs)(hf:Fr S w w'):RD w' S ds vs:=by
 induction h with
 |nil=>exact .nil
 |cons h1 _ ih=>exact .cons (h1.tr hf) ih
theorem RD.mono(h:RD w S ds vs)(hT:∀b∈T,b∈S\/w.heap.size<=b):RD w T ds vs:=by
 induction h with
 |nil=>exact .nil
 |cons h1 _ ih=>exact .cons (h1.mono hT) ih
theorem RD.len(h:RD w S ds vs):vs.length=ds.length:=by
 induction h with
 |nil=>rfl
 |cons h1 _ ih=>simp[ih]
theorem RD.one(h:RD w S ds vs):∀u∈vs,u.oneCell'=true:=by
 induction h with
 |nil=>intro u hu;simp at hu
 |cons h1 _ ih=>
  intro u hu;rcases SC.1 hu with rfl|hu
  .exact h1.one
  .exact ih u hu
theorem RD.old(h:RD w S ds vs)(hf:Fr T w w')(hT:∀b∈T,b∈S\/w.heap.size<=b):RD w' S ds vs:=by
 induction h with
 |nil=>exact .nil
 |cons h1 _ ih=>exact .cons (h1.old hf hT) ih
theorem RD.tr0(h:RD w S ds vs)(hf:Fr [] w w'):RD w' S ds vs:=h.old hf ap
theorem RD.inv(h:RD w S (d::ds) vs):∃v vA,vs=v::vA/\DR w S d v/\RD w S ds vA:=by
 cases h with
 |cons h1 h2=>exact⟨_,_,rfl,h1,h2⟩
theorem RD.inv0(h:RD w S [] vs):vs=[]:=by cases h;rfl
theorem RD.JI{x:Value}(h:RD w S (.c x::ds) vs):∃vA,vs=x::vA/\RD w S ds vA:=by
 obtain⟨v,vA,rfl,h1,h2⟩:=h.inv;rw[h1.cell];exact⟨vA,rfl,h2⟩
theorem RD.get(h:RD w S ds vs):∀{j:Nat} (hj:j<ds.length) (t':j<vs.length),DR w S ds[j] vs[j]:=by
 induction h with
 |nil=>intro j hj;simp at hj
 |cons h1 _ ih=>
  intro j hj t';cases j with
  |zero=>exact h1
  |succ j=>exact ih (by simpa using hj) (by simpa using t')
theorem RD.Jif:∀{ds:List Dt} {vs:List Value},vs.length=ds.length->(∀j (hj:j<ds.length) (t':j<vs.length),DR w S ds[j] vs[j])->RD w S ds vs
 |[],[],_,_=>.nil
 |[],v::vs,h,_=>by simp at h
 |d::ds,[],h,_=>by simp at h
 |d::ds,v::vs,h,hg=>.cons (hg 0 ap ap) (RD.Jif mE (fun j hj t'=>hg (j+1) (by simpa using hj) (by simpa using t')))
theorem RD.app{ra:List Dt}{vA:List Value}(h:RD w S ds vs)(h':RD w S ra vA):RD w S (ds++ra) (vs++vA):=by
 induction h with
 |nil=>exact h'
 |cons h1 _ ih=>exact .cons h1 ih
theorem RD.split:∀{ds ra:List Dt} {vs:List Value},RD w S (ds++ra) vs->∃a b,vs=a++b/\RD w S ds a/\RD w S ra b
 |[],ra,vs,h=>⟨[],vs,rfl,.nil,h⟩
 |d::ds,ra,vs,h=>by
  obtain⟨v,vA,rfl,h1,h2⟩:=RD.inv h;obtain⟨a,b,rfl,h3,h4⟩:=RD.split h2;exact⟨v::a,b,rfl,.cons h1 h3,h4⟩
end
/-! ### typed rows -/
def TR{α:Type}(f:α->List Dt):World->List Nat->α->List Value->Prop:=fun w S x cs=>RD w S (f x) cs
section
variable{α:Type}{f:α->List Dt}{k:Nat}{w w':World}{S T:List Nat}{l:List α}{sl:Value}
theorem Jdz{R:List Dt->List Value->Prop}:∀(rows:List (List Dt)) (ys:List Value),ys.length=rows.length*k->(∀i (hi:i<rows.length),R rows[i] ((ys.drop (i*k)).take k))->Rws R rows ys
 |[],ys,h,_=>by
  have:ys=[]:=Dj mE;subst this;exact .nil
 |r::rows,ys,h,hg=>by
  have h1:R r (ys.take k):=by
   have:=hg 0 ap;rw[D8,D9]at this;exact this
  have h2:=Jdz rows (ys.drop k) (by rw[Dn,h,SI,DN];omega) (fun i hi=>by
   have:=hg (i+1) tY;rw[Iy,show k+i*k=(i+1)*k by rw[DN];omega];simpa using this)
  have:=Rws.cons h1 h2
  rwa [List.take_append_drop]at this
theorem MV{β:Type}{R:β->List Value->Prop}{g:α->β}:∀{l:List α} {ys:List Value},Rws R (l.map g) ys↔Rws (fun x cs=>R (g x) cs) l ys
 |[],ys=>by
  constructor
  .intro h;cases h;exact .nil
  .intro h;cases h;exact .nil
 |x::l,ys=>by
  constructor
  .intro h;cases h with
   |cons h1 h2=>exact .cons h1 (MV.1 h2)
  .intro h;cases h with
   |cons h1 h2=>exact .cons h1 (MV.2 h2)
theorem DR.Jkx{rows:List (List Dt)}(h:DR w S (.l rows) sl):Sl w S (RD w S) rows sl:=by
 cases h with
 |l k ys h0 h1 h2 h3 h4 h5=>
  refine⟨ys,h3,h4,Jdz (k:=k) rows ys h2 (fun i hi=>?_)⟩;have hr:=h1 rows[i] (Cj hi);have hle:i*k+k<=ys.length:=by rw[h2];calc i*k+k=(i+1)*k:=by rw[DN]
   _<=rows.length*k:=Em k ab
  refine RD.Jif (by rw[C9,Dn];omega) (fun j hj t'=>?_);rw[FU,List.getElem_drop];exact h5 i j hi hj ab
theorem DR.Jhn{rows:List (List Dt)}(h0:rows.length<=1000000000000)(hk:∀r∈rows,r.length=k)(h:Sl w S (RD w S) rows sl):DR w S (.l rows) sl:=by
 obtain⟨ys,h1,h2,h3⟩:=h;have hlen:ys.length=rows.length*k:=by
  clear h1 h2 h0
  induction h3 with
  |nil=>simp
  |cons h4 _ ih=>
   rw[Sm,ih (fun r hr=>hk r (by simp[hr])),RD.len h4,hk _ ap,SI,DN];omega
 refine .l k ys h0 hk hlen h1 h2 (fun i j hi hj hq=>?_);clear h1 h2 h0 hlen
 induction h3 generalizing i with
 |nil=>simp at hi
 | @cons r cs rows ys h4 h5 ih=>
  have hr:cs.length=k:=by rw[RD.len h4];exact hk _ ap
  cases i with
  |zero=>
   simp only[List.getElem_cons_zero]at hj ⊢;have t':j<cs.length:=by rw[hr,<-hk r ap];exact hj
   simp only[D8,Di];rw[List.getElem_append_left t'];exact h4.get hj t'
  |succ i=>
   simp only[List.getElem_cons_succ]at hj ⊢;have hJ:cs.length<=(i+1)*k+j:=by rw[DN];omega
   rw[List.getElem_append_right hJ];have e:(i+1)*k+j-cs.length=i*k+j:=by rw[DN];omega
   simp only[e];exact ih (fun r hr=>hk r (by simp[hr])) i tY hj _
theorem DR.typed(h:DR w S (.l (l.map f)) sl):Sl w S (TR f w S) l sl:=by
 obtain⟨ys,h1,h2,h3⟩:=h.Jkx;rw[Sr]at h1;exact⟨ys,h1,h2,(MV (g:=f) (R:=RD w S)).1 h3⟩
theorem DR.ofTyped(hk:∀x,(f x).length=k)(h0:l.length<=1000000000000)(h:Sl w S (TR f w S) l sl):DR w S (.l (l.map f)) sl:=by
 obtain⟨ys,h1,h2,h3⟩:=h;exact DR.Jhn (k:=k) (by rw[Sr];exact h0) (fun r hr=>by obtain⟨x,_,rfl⟩:=Du.1 hr;exact hk x) ⟨ys,by rw[Sr];exact h1,h2,(MV (g:=f) (R:=RD w S)).2 h3⟩
theorem DR.at{ao:Option Addr}{m c:Nat}(hk:∀x,(f x).length=k)(h:DR w S (.l (l.map f)) (.slice ao m c)){i:Nat}(hi:i<l.length):∃ad cs,ao=some ad/\RD w S (f l[i]) cs/\Cells w (ad.add (i*k)) cs:=
 Sl.at h.typed (fun x cs h=>by rw[RD.len h,hk]) hi
end
end
section
structure Ty where
 kind:Int
 name:ByteArray
 kids:List Ty
structure Ex where
 kind:Int
 name:ByteArray
 n:Int
 names:List ByteArray
 binds:List (List ByteArray)
 kids:List Ex
 at_:Int
structure Gn where
 kind:Int
 name:ByteArray
 ws:List Int
 args:List Ex
 kids:List Gn
 at_:Int
structure Pm where
 name:ByteArray
 type:Ty
structure Ct where
 name:ByteArray
 args:List Ty
structure Ck where
 name:ByteArray
 expr:Ex
structure Cl where
 cls:ByteArray
 num:Int
 den:Int
structure Dw where
 name:ByteArray
 type:Ty
 gen:Gn
 ref:Bool
structure Cm where
 name:ByteArray
 draws:List Dw
 pre:Ex
 next:Ex
 post:Ex
structure Ac where
 shared:Ex
 loc:Ex
structure Op where
 name:ByteArray
 params:List Pm
 acts:List Ac
structure De where
 kind:Int
 name:ByteArray
 at_:Int
 ctors:List Ct
 params:List Pm
 type:Ty
 body:Ex
 depth:Int
 gen:Gn
 draws:List Dw
 checks:List Ck
 classes:List Ck
 claims:List Cl
 state:Ty
 init:Ex
 cmds:List Cm
 ops:List Op
 recov:Ex
def ty0:Ty:=⟨0,.empty,[]⟩
def ex0:Ex:=⟨0,.empty,0,[],[],[],0⟩
def AT:Gn:=⟨0,.empty,[],[],[],0⟩
def tI:De:=⟨0,.empty,0,[],[],ty0,ex0,0,AT,[],[],[],[],ty0,ex0,[],[],ex0⟩
/-! ### as data -/
def di(n:Int):Dt:=.c (iV n)
def ds(s:ByteArray):Dt:=.c (.string s)
def db(b:Bool):Dt:=.c (.bool b)
def JV(s:ByteArray):List Dt:=[ds s]
def strs(l:List ByteArray):Dt:=.l (l.map JV)
def JD(l:List ByteArray):List Dt:=[strs l]
def KI(n:Int):List Dt:=[di n]
mutual
def cg:Ty->List Dt
 |⟨k,n,ks⟩=>[di k,ds n,.l (JgO ks)]
def JgO:List Ty->List (List Dt)
 |[]=>[]
 |t::l=>cg t::JgO l
end
mutual
def aU:Ex->List Dt
 |⟨k,nm,n,ns,bs,ks,a⟩=>[di k,ds nm,di n,strs ns,.l (bs.map JD),.l (JhC ks),di a]
def JhC:List Ex->List (List Dt)
 |[]=>[]
 |t::l=>aU t::JhC l
end
mutual
def eX:Gn->List Dt
 |⟨k,nm,ws,uj,ks,a⟩=>[di k,ds nm,.l (ws.map KI),.l (uj.map aU),.l (Jhs ks),di a]
def Jhs:List Gn->List (List Dt)
 |[]=>[]
 |t::l=>eX t::Jhs l
end
theorem Jbx:∀l:List Ty,JgO l=l.map cg
 |[]=>rfl
 |t::l=>by rw[JgO,Jbx l];rfl
theorem Jce:∀l:List Ex,JhC l=l.map aU
 |[]=>rfl
 |t::l=>by rw[JhC,Jce l];rfl
theorem Jb7:∀l:List Gn,Jhs l=l.map eX
 |[]=>rfl
 |t::l=>by rw[Jhs,Jb7 l];rfl
theorem Je9(t:Ty):cg t=[di t.kind,ds t.name,.l (t.kids.map cg)]:=by cases t;rw[cg,Jbx]
theorem Jgm(e:Ex):aU e=[di e.kind,ds e.name,di e.n,strs e.names,.l (e.binds.map JD),.l (e.kids.map aU),di e.at_]:=by cases e;rw[aU,Jce]
theorem Jgh(g:Gn):eX g=[di g.kind,ds g.name,.l (g.ws.map KI),.l (g.args.map aU),.l (g.kids.map eX),di g.at_]:=by cases g;rw[eX,Jb7]
def eK(p:Pm):List Dt:=ds p.name::cg p.type
def iP(c:Ct):List Dt:=[ds c.name,.l (c.args.map cg)]
def dM(c:Ck):List Dt:=ds c.name::aU c.expr
def iw(c:Cl):List Dt:=[ds c.cls,di c.num,di c.den]
def fj(d:Dw):List Dt:=ds d.name::(cg d.type++(eX d.gen++[db d.ref]))
def gf(c:Cm):List Dt:=ds c.name::.l (c.draws.map fj)::(aU c.pre++(aU c.next++aU c.post))
def jt(a:Ac):List Dt:=aU a.shared++aU a.loc
def fV(o:Op):List Dt:=[ds o.name,.l (o.params.map eK),.l (o.acts.map jt)]
def eR(d:De):List Dt:=di d.kind::ds d.name::di d.at_::.l (d.ctors.map iP)::.l (d.params.map eK)::(cg d.type++(aU d.body++(di d.depth::(eX d.gen++(.l (d.draws.map fj)::.l (d.checks.map dM)::.l (d.classes.map dM)::.l (d.claims.map iw)::(cg d.state++(aU d.init++(.l (d.cmds.map gf)::.l (d.ops.map fV)::aU d.recov))))))))
theorem XE(s:ByteArray):(JV s).length=1:=rfl
theorem Zz(l:List ByteArray):(JD l).length=1:=rfl
theorem Zq(n:Int):(KI n).length=1:=rfl
theorem QT(t:Ty):(cg t).length=3:=by rw[Je9];rfl
theorem Jq(e:Ex):(aU e).length=7:=by rw[Jgm];rfl
theorem KG(g:Gn):(eX g).length=6:=by rw[Jgh];rfl
theorem Xn(p:Pm):(eK p).length=4:=by simp[eK,QT]
theorem VU(c:Ct):(iP c).length=2:=rfl
theorem QM(c:Ck):(dM c).length=8:=by simp[dM,Jq]
theorem XV(c:Cl):(iw c).length=3:=rfl
theorem VQ(d:Dw):(fj d).length=11:=by simp[fj,QT,KG]
theorem WU(c:Cm):(gf c).length=23:=by simp[gf,Jq]
theorem Wn(a:Ac):(jt a).length=14:=by simp[jt,Jq]
theorem QX(o:Op):(fV o).length=3:=rfl
theorem KL(d:De):(eR d).length=45:=by simp[eR,Jq,QT,KG]
/-! ### tE cells -/
def tyV(t:Ty)(s:Value):List Value:=[iV t.kind,.string t.name,s]
def uS(e:Ex)(s1 s2 s3:Value):List Value:=[iV e.kind,.string e.name,iV e.n,s1,s2,s3,iV e.at_]
def yx(g:Gn)(s1 s2 s3:Value):List Value:=[iV g.kind,.string g.name,s1,s2,s3,iV g.at_]
section
variable{w:World}{S:List Nat}{cs:List Value}
theorem RD.c1{x:Value}{ra:List Dt}{vs:List Value}(hx:x.oneCell'=true)(h:RD w S ra vs):RD w S (.c x::ra) (x::vs):=.cons (.c hx) h
theorem mc{t:Ty}:RD w S (cg t) cs↔∃s,cs=tyV t s/\DR w S (.l (t.kids.map cg)) s:=by
 rw[Je9];constructor
 .intro h;obtain⟨_,rfl,g1⟩:=h.JI;obtain⟨_,rfl,g2⟩:=g1.JI;obtain⟨s,_,rfl,h1,g3⟩:=g2.inv;rw[g3.inv0];exact⟨s,rfl,h1⟩
 .rintro ⟨s,rfl,h⟩;exact .c1 rfl (.c1 rfl (.cons h .nil))
theorem fW{e:Ex}:RD w S (aU e) cs↔∃s1 s2 s3,cs=uS e s1 s2 s3/\DR w S (strs e.names) s1/\DR w S (.l (e.binds.map JD)) s2/\DR w S (.l (e.kids.map aU)) s3:=by
 rw[Jgm];constructor
 .intro h;obtain⟨_,rfl,g1⟩:=h.JI;obtain⟨_,rfl,g2⟩:=g1.JI;obtain⟨_,rfl,g3⟩:=g2.JI;obtain⟨s1,_,rfl,h1,g4⟩:=g3.inv;obtain⟨s2,_,rfl,h2,g5⟩:=g4.inv;obtain⟨s3,_,rfl,h3,g6⟩:=g5.inv;obtain⟨_,rfl,g7⟩:=g6.JI;rw[g7.inv0];exact⟨s1,s2,s3,rfl,h1,h2,h3⟩
 .rintro ⟨s1,s2,s3,rfl,h1,h2,h3⟩;exact .c1 rfl (.c1 rfl (.c1 rfl (.cons h1 (.cons h2 (.cons h3 (.c1 rfl .nil))))))
theorem me{g:Gn}:RD w S (eX g) cs↔∃s1 s2 s3,cs=yx g s1 s2 s3/\DR w S (.l (g.ws.map KI)) s1/\DR w S (.l (g.args.map aU)) s2/\DR w S (.l (g.kids.map eX)) s3:=by
 rw[Jgh];constructor
 .intro h;obtain⟨_,rfl,g1⟩:=h.JI;obtain⟨_,rfl,g2⟩:=g1.JI;obtain⟨s1,_,rfl,h1,g3⟩:=g2.inv;obtain⟨s2,_,rfl,h2,g4⟩:=g3.inv;obtain⟨s3,_,rfl,h3,g5⟩:=g4.inv;obtain⟨_,rfl,g6⟩:=g5.JI;rw[g6.inv0];exact⟨s1,s2,s3,rfl,h1,h2,h3⟩
 .rintro ⟨s1,s2,s3,rfl,h1,h2,h3⟩;exact .c1 rfl (.c1 rfl (.cons h1 (.cons h2 (.cons h3 (.c1 rfl .nil)))))
end
end
end Go.Rf
