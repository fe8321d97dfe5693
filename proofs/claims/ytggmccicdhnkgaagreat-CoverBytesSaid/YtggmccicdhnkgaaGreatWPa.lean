/-
 Modules of the document's language as data:types,expressions,generators,declarations;how they lie in memory.
-/
import Derived.Test.YtggmccicdhnkgaaGreatWK1
set_option linter.all false
namespace Go.Rf
open Go.RowKit
section
variable{S T:List Nat}{cs ys:List Value}{c e i m:Nat}{ao:Option Addr}{w w':World}
/-! ### rows of cells -/
inductive Rws {α:Type} (R:α->List Value->Prop):List α->List Value->Prop
 |nil:Rws R [] []
 |cons {x:α} {cs:List Value} {l:List α} {ys:List Value}:R x cs->Rws R l ys->Rws R (x::l) (cs++ys)
section
variable{α:Type}{R R':α->List Value->Prop}{l l':List α}{ys ys':List Value}{k:Nat}
theorem Rws.imp(h:∀x cs,x∈l->R x cs->R' x cs)(hr:Rws R l ys):Rws R' l ys:=by
 induction hr with
 |nil=>exact .nil
 |cons h1 _ ih=>exact .cons (h _ _ Yhs h1) (ih (fun x cs hx=>h x cs Yix))
theorem Rws.len(hk:∀x cs,R x cs->cs.length=k)(hr:Rws R l ys):ys.length=l.length*k:=by
 induction hr with
 |nil=>simp
 |cons h1 _ ih=>simp[ih,hk _ _ h1,Nat.add_mul];omega
theorem Rws.app(h:Rws R l ys)(h':Rws R l' ys'):Rws R (l++l') (ys++ys'):=by
 induction h with
 |nil=>simpa using h'
 |cons h1 _ ih=>rw[List.append_assoc];exact .cons h1 ih
theorem Rws.one{x:α}(h:R x cs):Rws R [x] cs:=by
 have:=Rws.cons h (Rws.nil (R:=R))
 rwa [Ce]at this
theorem Rws.get(hk:∀x cs,R x cs->cs.length=k)(hr:Rws R l ys):∀{i:Nat} (hi:i<l.length),∃cs,R l[i] cs/\(ys.drop (i*k)).take k=cs:=by
 induction hr with
 |nil=>intro i hi;simp at hi
 |cons h1 _ ih=>
  intro i hi;have hl:=hk _ _ h1;cases i with
  |zero=>exact⟨_,h1,by simp[<-hl]⟩
  |succ i=>
   obtain⟨cs,h2,h3⟩:=ih (i:=i) Yjf;refine⟨cs,by simpa using h2,?_⟩;rw[<-h3,DN,D7,<-hl,F5,Ci (Nat.le_add_right _ _)];simp
theorem Rws.take(hk:∀x cs,R x cs->cs.length=k)(hr:Rws R l ys):∀(m:Nat),Rws R (l.take m) (ys.take (m*k)):=by
 induction hr with
 |nil=>intro m;simp;exact .nil
 |cons h1 _ ih=>
  intro m;have hl:=hk _ _ h1;cases m with
  |zero=>simp;exact .nil
  |succ m=>
   simp only[DT];rw[DN,D7,<-hl,List.take_append];have:(‹List Value›).take (m*(‹List Value›).length)=(‹List Value›).take (m*(‹List Value›).length):=rfl;have e:∀cs:List Value,cs.take (cs.length+m*cs.length)=cs:=fun cs=>SQ Yhn
   rw[e];have:=ih m;rw[<-hl]at this;simpa using Rws.cons h1 this
theorem Rws.drop(hk:∀x cs,R x cs->cs.length=k)(hr:Rws R l ys):∀(m:Nat),Rws R (l.drop m) (ys.drop (m*k)):=by
 induction hr with
 |nil=>intro m;simp;exact .nil
 |cons h1 h2 ih=>
  intro m;have hl:=hk _ _ h1;cases m with
  |zero=>simpa using Rws.cons h1 h2
  |succ m=>
   simp only[Fb];rw[DN,D7,<-hl,F5];simp only[Eo];have e:∀cs:List Value,cs.drop (cs.length+m*cs.length)=[]:=fun cs=>Ci Yhn
   rw[e,CO,hl];exact ih m
theorem Rws.set(hk:∀x cs,R x cs->cs.length=k)(hr:Rws R l ys){x:α}(hx:R x cs)(hi:i<l.length):Rws R (l.set i x) (ys.take (i*k)++cs++ys.drop ((i+1)*k)):=by
 rw[List.set_eq_take_append_cons_drop,Cb hi,List.append_assoc];exact(hr.take hk i).app (.cons hx (hr.drop hk (i+1)))
theorem Rws.mem1(h1:∀x cs,R x cs->∀u∈cs,u.oneCell'=true)(hr:Rws R l ys):∀u∈ys,u.oneCell'=true:=by
 induction hr with
 |nil=>simp
 |cons h2 _ ih=>
  intro u hu;rcases SE.1 hu with h|h
  .exact h1 _ _ h2 u h
  .exact ih u h
end
/-! ### values -/
structure V where
 kind:Int
 n:Int
 s:ByteArray
 kids:List V
def vc(v:V)(sl:Value):List Value:=[.int .i64 v.kind,.int .i64 v.n,.string v.s,sl]
inductive VS (w:World) (S:List Nat):List V->Value->Prop
 |mk {l:List V} {sl:Value} (sls:List Value) (ys:List Value):l.length<=1000000000000->sls.length=l.length->ys=(List.zipWith vc l sls).flatten->Src w sl l.length ys->Off sl ys S->(∀i (h:i<l.length) (h':i<sls.length),VS w S l[i].kids sls[i])->VS w S l sl
theorem VS.slice{l:List V}{sl:Value}(h:VS w S l sl):∃ao c,sl=.slice ao l.length c/\l.length<=c:=by
 cases h with
 |mk sls ys _ _ _ hs _ _=>obtain⟨ao,c,rfl,h1,_⟩:=hs;exact⟨ao,c,rfl,h1⟩
theorem VS.one{l:List V}{sl:Value}(h:VS w S l sl):sl.oneCell'=true:=by
 obtain⟨ao,c,rfl,_⟩:=h.slice;rfl
theorem VS.nil(w:World)(S:List Nat):VS w S [] (.slice none 0 0):=.mk [] [] Yhs rfl rfl (Src.nil w) (fun _ _ _ e=>by cases e) (fun i h=>by simp at h)
theorem VS.empty(h:ao=none->c=0):VS w S [] (.slice ao 0 c):=
 .mk [] [] Yhs rfl rfl ⟨ao,c,rfl,SL _,fun e=>⟨rfl,h e,rfl⟩,fun ad _ j u hu=>by simp at hu⟩ (fun _ _ _ _ h=>by simp at h) (fun i h=>by simp at h)
theorem VS.tr{l:List V}{sl:Value}(h:VS w S l sl)(hf:Fr S w w'):VS w' S l sl:=by
 induction h with
 |mk sls ys h0 h1 h2 h3 h4 _ ih=>exact .mk sls ys h0 h1 h2 (h3.tr hf h4) h4 ih
theorem VS.mono{l:List V}{sl:Value}(h:VS w S l sl)(hT:∀k∈T,k∈S\/w.heap.size<=k):VS w T l sl:=by
 induction h with
 |mk sls ys h0 h1 h2 h3 h4 _ ih=>exact .mk sls ys h0 h1 h2 h3 (Off.mono h3 h4 hT) ih
theorem VS.old{l:List V}{sl:Value}(h:VS w S l sl)(hf:Fr T w w')(hT:∀k∈T,k∈S\/w.heap.size<=k):VS w' S l sl:=by
 have h1:VS w (S++T) l sl:=h.mono Ykb;have hf':Fr (S++T) w w':=hf.mono (fun k hk=>.inl Ykl);have h2:=h1.tr hf';exact h2.mono (fun k hk=>.inl Ykl)
theorem VS.turn{l:List V}{sl:Value}(h:VS w S l sl)(hf:Fr S w w')(hT:∀k∈T,k∈S\/w.heap.size<=k):VS w' T l sl:=by
 have h1:VS w (S++T) l sl:=h.mono Ykb;have hf':Fr (S++T) w w':=hf.mono (fun k hk=>.inl Ykl);exact(h1.tr hf').mono (fun k hk=>.inl Ykl)
theorem VS.tr0{l:List V}{sl:Value}(h:VS w S l sl)(hf:Fr [] w w'):VS w' S l sl:=h.old hf Yhs
theorem VS.off{l:List V}{sl:Value}(h:VS w [] l sl)(hS:∀k∈S,w.heap.size<=k):VS w S l sl:=h.mono (fun k hk=>.inr (hS k hk))
theorem VS.any{l:List V}{sl:Value}(h:VS w S l sl):VS w [] l sl:=h.mono Yhs
def VR(w:World)(S:List Nat)(v:V)(cs:List Value):Prop:=∃sl,cs=vc v sl/\VS w S v.kids sl
theorem VR.len:∀(v:V) (cs:List Value),VR w S v cs->cs.length=4:=by rintro v _ ⟨sl,rfl,_⟩;rfl
theorem VR.mem1:∀(v:V) (cs:List Value),VR w S v cs->∀u∈cs,u.oneCell'=true:=by
 rintro v _ ⟨sl,rfl,h⟩ u hu;simp only[vc,SC,S9,CU]at hu;rcases hu with rfl|rfl|rfl|rfl
 .rfl
 .rfl
 .rfl
 .exact h.one
theorem JbK:∀(l:List V) (sls:List Value),sls.length=l.length->(∀i (h:i<l.length) (h':i<sls.length),VS w S l[i].kids sls[i])->Rws (VR w S) l (List.zipWith vc l sls).flatten
 |[],_,_,_=>by simp;exact .nil
 |v::l,[],h,_=>by simp at h
 |v::l,s::sls,h,hk=>by
  simp only[List.zipWith_cons_cons,List.flatten_cons];exact .cons ⟨s,rfl,hk 0 Yhs Yhs⟩ (JbK l sls Yil (fun i h1 h2=>hk (i+1) Yht Yht))
theorem Jc0{l:List V}(h:Rws (VR w S) l ys):∃sls:List Value,sls.length=l.length/\ys=(List.zipWith vc l sls).flatten/\∀i (h:i<l.length) (h':i<sls.length),VS w S l[i].kids sls[i]:=by
 induction h with
 |nil=>exact⟨[],rfl,rfl,fun i h=>by simp at h⟩
 |cons h1 _ ih=>
  obtain⟨sl,rfl,hv⟩:=h1;obtain⟨sls,h2,h3,h4⟩:=ih;refine⟨sl::sls,by simp[h2],by simp[h3],fun i h h'=>?_⟩;cases i with
  |zero=>simpa using hv
  |succ i=>simpa using h4 i Yil (by simpa using h')
theorem VS.rows{l:List V}{sl:Value}(h:VS w S l sl):∃ys,Src w sl l.length ys/\Off sl ys S/\Rws (VR w S) l ys:=by
 cases h with
 |mk sls ys h0 h1 h2 h3 h4 h5=>exact⟨ys,h3,h4,by rw[h2];exact JbK l sls h1 h5⟩
theorem VS.bound{l:List V}{sl:Value}(h:VS w S l sl):l.length<=1000000000000:=by
 cases h with
 |mk sls ys h0 h1 h2 h3 h4 h5=>exact h0
theorem VS.of{l:List V}{sl:Value}(h0:l.length<=1000000000000)(h1:Src w sl l.length ys)(h2:Off sl ys S)(h3:Rws (VR w S) l ys):VS w S l sl:=by
 obtain⟨sls,h4,h5,h6⟩:=Jc0 h3;exact .mk sls ys h0 h4 h5 h1 h2 h6
/-! ### slices of rows -/
def Sl{α:Type}(w:World)(S:List Nat)(R:α->List Value->Prop)(l:List α)(sl:Value):Prop:=∃ys,Src w sl l.length ys/\Off sl ys S/\Rws R l ys
section
variable{α:Type}{R R':α->List Value->Prop}{l l':List α}{w w':World}{S:List Nat}{sl:Value}{k:Nat}
theorem Sl.slice(h:Sl w S R l sl):∃ao c,sl=.slice ao l.length c/\l.length<=c:=by
 obtain⟨ys,⟨ao,c,rfl,h1,_⟩,_⟩:=h;exact⟨ao,c,rfl,h1⟩
theorem Sl.one(h:Sl w S R l sl):sl.oneCell'=true:=by obtain⟨ao,c,rfl,_⟩:=h.slice;rfl
theorem Sl.at(h:Sl w S R l (.slice ao m c))(hk:∀x cs,R x cs->cs.length=k)(hi:i<l.length):∃ad cs,ao=some ad/\R l[i] cs/\Cells w (ad.add (i*k)) cs:=by
 obtain⟨ys,hs,_,hr⟩:=h;obtain⟨cs,h1,h2⟩:=hr.get hk hi;have hm:m=l.length:=by obtain⟨_,_,e,_⟩:=hs;simp only[Value.slice.injEq]at e;exact e.2.1
 subst hm;have hlen:=hr.len hk;cases ao with
 |none=>
  obtain⟨ao',c',e,_,hn,_⟩:=hs;simp only[Value.slice.injEq]at e;obtain⟨h3,_⟩:=hn e.1.symm;omega
 |some ad=>
  refine⟨ad,cs,rfl,h1,?_⟩;have:=(Cells.Jid hs).sub (i*k) k
  rwa [h2]at this
theorem Sl.imp(h:∀x cs,x∈l->R x cs->R' x cs)(hs:Sl w S R l sl):Sl w S R' l sl:=by
 obtain⟨ys,h1,h2,h3⟩:=hs;exact⟨ys,h1,h2,h3.imp h⟩
theorem Sl.nil:Sl w S R [] (.slice none 0 0):=⟨[],Src.nil w,(fun _ _ _ e=>by cases e),.nil⟩
theorem Sl.tr(hs:Sl w S R l sl)(hf:Fr S w w'):Sl w' S R l sl:=by obtain⟨ys,h1,h2,h3⟩:=hs;exact⟨ys,h1.tr hf h2,h2,h3⟩
theorem Sl.tr0(hs:Sl w S R l sl)(hf:Fr [] w w'):Sl w' S R l sl:=by obtain⟨ys,h1,h2,h3⟩:=hs;exact⟨ys,h1.tr0 hf,h2,h3⟩
theorem Sl.old(hs:Sl w S R l sl)(hf:Fr T w w')(hT:∀k∈T,w.heap.size<=k):Sl w' S R l sl:=by obtain⟨ys,h1,h2,h3⟩:=hs;exact⟨ys,h1.old hf hT,h2,h3⟩
theorem Sl.mono(hs:Sl w S R l sl)(hT:∀k∈T,k∈S\/w.heap.size<=k):Sl w T R l sl:=by obtain⟨ys,h1,h2,h3⟩:=hs;exact⟨ys,h1,Off.mono h1 h2 hT,h3⟩
theorem Sl.Jie(h:Own w e k sl l.length ys)(hr:Rws R l ys):Sl w [] R l sl:=⟨ys,h.src,fun _ _ _ _ _=>by simp,hr⟩
end
theorem VS.sl{l:List V}{sl:Value}(h:VS w S l sl):Sl w S (VR w S) l sl:=h.rows
theorem VS.Jhn{l:List V}{sl:Value}(h0:l.length<=1000000000000)(h:Sl w S (VR w S) l sl):VS w S l sl:=by obtain⟨ys,h1,h2,h3⟩:=h;exact VS.of h0 h1 h2 h3
theorem VR.tr{v:V}(h:VR w S v cs)(hf:Fr S w w'):VR w' S v cs:=by obtain⟨sl,h1,h2⟩:=h;exact⟨sl,h1,h2.tr hf⟩
theorem VR.old{v:V}(h:VR w S v cs)(hf:Fr T w w')(hT:∀k∈T,k∈S\/w.heap.size<=k):VR w' S v cs:=by obtain⟨sl,h1,h2⟩:=h;exact⟨sl,h1,h2.old hf hT⟩
theorem VR.mono{v:V}(h:VR w S v cs)(hT:∀k∈T,k∈S\/w.heap.size<=k):VR w T v cs:=by obtain⟨sl,h1,h2⟩:=h;exact⟨sl,h1,h2.mono hT⟩
end
section
variable{S T:List Nat}{cs z:List Value}{by_ e m:Nat}{α:Type}{xv:Value}{w w':World}
structure Stab {α:Type} (R:World->List Nat->α->List Value->Prop) (k:Nat):Prop where
 tr:∀{w w' S x cs},R w S x cs->Fr S w w'->R w' S x cs
 mono:∀{w S T x cs},R w S x cs->(∀b∈T,b∈S\/w.heap.size<=b)->R w T x cs
 len:∀{w S x cs},R w S x cs->cs.length=k
 one:∀{w S x cs},R w S x cs->∀u∈cs,u.oneCell'=true
section
variable{α:Type}{R:World->List Nat->α->List Value->Prop}{k:Nat}
theorem Stab.turn(h:Stab R k){x:α}(hr:R w S x cs)(hf:Fr S w w')(hT:∀b∈T,b∈S\/w.heap.size<=b):R w' T x cs:=by
 exact Yby
theorem Stab.old(h:Stab R k){x:α}(hr:R w S x cs)(hf:Fr T w w')(hT:∀b∈T,b∈S\/w.heap.size<=b):R w' S x cs:=by
 exact Yby
theorem Stab.any(h:Stab R k){x:α}(hr:R w S x cs):R w [] x cs:=h.mono hr Yhs
def WE(w:World)(e k:Nat)(R:World->List Nat->α->List Value->Prop)(l:List α)(v:Value):Prop:=∃ys,Own w e k v l.length ys/\Rws (R w (blks v)) l ys
variable{w w':World}{e:Nat}{l:List α}{v:Value}
theorem WE.nil(w:World)(e k:Nat)(R:World->List Nat->α->List Value->Prop):WE w e k R [] (.slice none 0 0):=⟨[],Own.nil _ _ _,.nil⟩
theorem WE.old(h:WE w e k R l v)(hs:Stab R k)(hf:Fr T w w')(hT:∀b∈T,w.heap.size<=b):WE w' e k R l v:=by
 obtain⟨ys,h1,h2⟩:=h;exact⟨ys,h1.old hf hT,h2.imp (fun x cs _ hr=>hs.old hr hf (fun b hb=>.inr (hT b hb)))⟩
theorem WE.tr0(h:WE w e k R l v)(hs:Stab R k)(hf:Fr [] w w'):WE w' e k R l v:=h.old hs hf Yhs
theorem WE.slice(h:WE w e k R l v):∃ao c,v=.slice ao l.length c:=by obtain⟨ys,h1,_⟩:=h;exact h1.slice
theorem WE.one(h:WE w e k R l v):v.oneCell'=true:=by obtain⟨ys,h1,_⟩:=h;exact h1.one
theorem WE.lt(h:WE w e k R l v):∀b∈blks v,b<w.heap.size:=by obtain⟨ys,h1,_⟩:=h;exact h1.lt
theorem WE.sl(h:WE w e k R l v)(hs:Stab R k):Sl w [] (R w []) l v:=by
 obtain⟨ys,h1,h2⟩:=h;exact⟨ys,h1.src,fun _ _ _ _ _=>by simp,h2.imp (fun x cs _ hr=>hs.any hr)⟩
end
theorem Jcc{size:Nat}{v:Value}(hz:z.length=size)(hc:cs.length=size)(hv:v.cells=cs.toArray):Xr (fun i=>some (i*size,size)) (zeros z 1) [(0,v)]=some cs:=by
 have e:v.cells.toList=cs:=by rw[hv]
 have e2:v.cells.size=size:=by rw[hv];simpa using hc
 have hb:Nat.ble size size=true:=Dv (SX _);simp[Xr,zeros,e,e2,hc,hz,Ci,hb]
section
variable{P:Program}{ops:Array Oper}{Q:Exit->Act->World->Prop}{rest:List Oper}{n:Nat}{f:Env}{w:World}
variable{d d2:Nat}{ty ty2:TypeId}{ps ps2:String}{af af2:Array Edge}{x y s:Operand}{t t2:Nat}
theorem Jdu{R:World->List Nat->α->List Value->Prop}{size:Nat}{l:List α}{v:Value}{a:α}[RZ:RowZ P t e size by_ z]
 (hR:WE w e size R l v) (hs:Stab R size) (hsv:ev n f s=v) (hx:ev n f x=xv) (hxc:xv.cells=cs.toArray) (ha:R w (blks v) a cs) (hd:ev n (upd f d (.slice (some ⟨w.heap.size,0,none⟩) 1 1)) s=v) (hdn:Nat.blt d n=true) (hsz:Nat.ble size 16777216=true)
 (h63:l.length+1<=maxLen) (hb:(l.length+1)*by_<=140737488355328)
 (h:∀v' w',WE w' e size R (l++[a]) v'->Fr (blks v) w w'->(∀b∈blks v',b∈blks v\/w.heap.size<=b)->wpList P ops Q rest (A n (upd (upd f d (.slice (some ⟨w.heap.size,0,none⟩) 1 1)) d2 v')) w'):
 wpList P ops Q (⟨some d,.buildSlice t 1 #[(0,x)],ty,ps,af,none⟩::⟨some d2,.call {callee:=.builtin .append,args:=#[s,.tmp d],argTypes:=#[t,t]},ty2,ps2,af2,none⟩::rest) (A n f) w:=by
 obtain⟨ys,ho,hr⟩:=hR;have Rr:=RZ.row;have hzl:z.length=size:=by obtain⟨i,v,_,_,_,h⟩:=RZ.z;exact h
 have hcl:=hs.len ha;subst hx;refine J3 (z:=z) (parts:=[(0,x)]) cs (by simpa using hsz) rfl (Jcc hzl hcl hxc) (by simpa using hcl) (fun w1 ho1 hf1 hs1=>?_);have hlen:=Rws.len (k:=size) (fun x cs h=>hs.len h) hr;refine JC (R:=Rr) (ho.tr0 hf1) hd ho1.src ?_ (by simpa using hcl) (hs.one ha) h63 hb (fun v' w' ho' hf' hk' _=>?_)
 .show cond (Nat.blt d n) (upd f d _ d) undef=_;rw[hdn,upd_same];rfl
 have hF:Fr (blks v) w w':=(hf1.mono Yhs).trans hf' (fun b hb=>.inl hb);refine h v' w' ⟨ys++cs,by rw[Sm];exact ho',?_⟩ hF (fun b hb=>?_)
 .have hk2:∀b∈blks v',b∈blks v\/w.heap.size<=b:=fun b hb=>by
   rcases hk' b hb with h|h
   .exact .inl h
   .right;omega
  exact(hr.imp fun x cs _ h=>hs.turn h hF hk2).app (Rws.one (hs.turn ha hF hk2))
 .rcases hk' b hb with h|h
  .exact .inl h
  .right;omega
theorem Jfn{R:World->List Nat->α->List Value->Prop}{size:Nat}{l al:List α}{v:Value}[Rr:RowT P t e size by_]
 (hR:WE w e size R l v) (hs:Stab R size) (hsv:ev n f s=v) (hx:ev n f x=xv) (hsrc:Src w xv m cs) (ha:Rws (R w (blks v)) al cs) (hm:al.length=m) (h63:l.length+m<=maxLen) (hb:(l.length+m)*by_<=140737488355328)
 (h:∀v' w',WE w' e size R (l++al) v'->Fr (blks v) w w'->(∀b∈blks v',b∈blks v\/w.heap.size<=b)->(v'=.slice none 0 0↔v=.slice none 0 0/\m=0)->wpList P ops Q rest (A n (upd f d v')) w'):
 wpList P ops Q (⟨some d,.call {callee:=.builtin .append,args:=#[s,x],argTypes:=#[t,t]},ty,ps,af,none⟩::rest) (A n f) w:=by
 obtain⟨ys,ho,hr⟩:=hR;have hlen:=Rws.len (k:=size) (fun x cs h=>hs.len h) ha;refine JC ho hsv hsrc hx (by rw[hlen,hm]) (Rws.mem1 (fun x cs h=>hs.one h) ha) h63 hb (fun v' w' ho' hf' hk' hn'=>?_);refine h v' w' ⟨ys++cs,by rw[Sm,hm];exact ho',?_⟩ hf' hk' hn';exact(hr.imp fun x cs _ h=>hs.turn h hf' hk').app (ha.imp fun x cs _ h=>hs.turn h hf' hk')
end
theorem WE.vs{l:List V}{v:Value}(h:WE w e 4 VR l v)(hl:l.length<=1000000000000)(hS:∀b∈blks v,b∉S)(hr:∀x cs,x∈l->VR w (blks v) x cs->VR w S x cs):VS w S l v:=by
 obtain⟨ys,h1,h2⟩:=h;refine VS.of hl h1.src (fun ad n c e hp hm=>?_) (h2.imp hr);refine hS ad.block ?_ hm;rcases h1.2 with⟨hv,h0⟩|⟨g,cap,cur,hv,_⟩
 .rw [hv]at e;cases e
 .subst hv;simp only[Value.slice.injEq,Sj]at e;rw[<-e.1];simp[blks,Value.ownBlock]
end
section
variable{K:Act->World->Prop}{x:Bool}{i m:Nat}{w:World}
def Vl(P:Program)(md:Region.Mode)(ops:Array Oper)(Q:Exit->Act->World->Prop)(k:Nat)(S:World->Prop):Nat->Array Bool->Act->World->Prop
 |0,listed,a,w=>Region.ready md ops listed=[]/\Q .normal a w
 |fuel+1,listed,a,w=>
  (Region.ready md ops listed=[]->Q .normal a w)/\
  ∀i∈Region.ready md ops listed,wpOp P ops Q i (fun a' w'=>((listed.setIfInBounds i true).getD k true=true\/S w')/\Vl P md ops Q k S fuel (listed.setIfInBounds i true) a' w') a w
section
variable{P:Program}{ops:Array Oper}{Q:Exit->Act->World->Prop}{md:Region.Mode}{k:Nat}{S:World->Prop}
theorem Np:∀(fuel:Nat) (listed:Array Bool) (a:Act) (w:World),Vl P md ops Q k S fuel listed a w->wpAny P md ops Q fuel listed a w
 |0,_,_,_,h=>h
 |fuel+1,_,_,_,h=>⟨h.1,fun i hi=>wpOp_mono (fun a' w' h'=>Np fuel _ a' w' h'.2) (h.2 i hi)⟩
def waits(md:Region.Mode)(ops:Array Oper)(k i:Nat):Bool:=match ops[k]? with
 |some o=>o.after.any fun e=>Region.binds md e&&e.on==i
 |none=>false
theorem JaD{oi:Oper}{v:Value}(hi:ops[i]?=some oi)(hsel:∀(j:Nat) (o:Oper) cs b,ops[j]?=some o->o.op≠.select cs b)
 (hQ:∀c a w,Q (.panic c) (a.put oi.dst v) w->Q (.panic c) a w) (hk:waits md ops k i=true) (hki:k≠i):
 ∀(fuel:Nat) (listed:Array Bool) (a:Act) (w:World),
  (∀j oj,ops[j]?=some oj->j≠i->listed.getD j true=false->(∀e∈oj.after,Region.binds md e=true->e.on≠i)->oi.apart ops oj=true)->
  i∈Region.ready md ops listed->YieldsIf P ops S oi v a->S w->listed.getD k true=false->
  Vl P md ops Q k S fuel (listed.setIfInBounds i true) (a.put oi.dst v) w->Vl P md ops Q k S (fuel+1) listed a w:=by
 intro fuel
 induction fuel with
 |zero=>
  intro listed a w _ hr hy hS hku H;refine⟨fun h=>(by rw[h]at hr;cases hr),fun j hj=>?_⟩;by_cases hji:j=i
  .subst hji;exact hy.wpOp hi hS ⟨.inr hS,H⟩
  .have:=ready_mono hj hji;rw[H.1]at this;cases this
 |succ fuel ih=>
  intro listed a w hfree hr hy hS hku H;refine⟨fun h=>(by rw[h]at hr;cases hr),fun j hj=>?_⟩;by_cases hji:j=i
  .subst hji;exact hy.wpOp hi hS ⟨.inr hS,H⟩
  .have h1:=H.2 j (ready_mono hj hji);obtain⟨hjun,oj,hoj,hall⟩:=mem_ready.1 hj;have hnot:∀e∈oj.after,Region.binds md e=true->e.on≠i:=fun e he hb heq=>by
    have h1:=hall e he hb;have h0:=(mem_ready.1 hr).1;rw[heq]at h1;rcases DF i listed.size with h'|h'
    .simp [h']at h0 h1;rw[h0]at h1;cases h1
    .simp [FW h']at h1
   have hkj:k≠j:=by
    rintro rfl;unfold waits at hk;rw[hoj]at hk;simp only[Array.any_eq_true']at hk;obtain⟨e,he,hb⟩:=hk;simp only[CV,Hy]at hb;exact hnot e he hb.1 hb.2
   have h2:=wpOp_putIf hoj (hfree j oj hoj hji hjun hnot) (fun cs b=>hsel i oi cs b hi) (fun cs b=>hsel j oj cs b hoj) hQ hy h1;have hfree':∀k ok,ops[k]?=some ok->k≠i->(listed.setIfInBounds j true).getD k true=false->
    (∀e∈ok.after,Region.binds md e=true->e.on≠i)->oi.apart ops ok=true:=fun k ok hk hki hun hno=>by
    refine hfree k ok hk hki ?_ hno;by_cases hjk:j=k
    .subst hjk;exact hjun
    .rw [getD_set_ne true hjk]at hun;exact hun
   have hku1:(listed.setIfInBounds j true).getD k true=false:=by rw[getD_set_ne true (I7 hkj)];exact hku
   refine wpOp_mono (fun a' w' h3=>?_) h2;obtain⟨h3y,h3s,h3w⟩:=h3;have hS':S w':=by
    rcases h3s with h|h
    .rw [getD_set_ne true (I7 hkj),getD_set_ne true (I7 hki),hku]at h;cases h
    .exact h
   refine⟨.inr hS',ih (listed.setIfInBounds j true) a' w' hfree' (ready_mono hr (I7 hji)) h3y hS' hku1 ?_⟩;rw[Array.setIfInBounds_comm _ _ hji];exact h3w
theorem Nq{rs:List Nat}{fuel:Nat}{listed:Array Bool}{a:Act}(hr:Region.ready md ops listed=rs)(hne:rs≠[])
 (h:∀i∈rs,wpOp P ops Q i (fun a' w'=>((listed.setIfInBounds i true).getD k true=true\/S w')/\Vl P md ops Q k S fuel (listed.setIfInBounds i true) a' w') a w):Vl P md ops Q k S (fuel+1) listed a w:=
 ⟨fun h0=>absurd (hr▸h0) hne,hr▸h⟩
theorem Jbs{listed:Array Bool}{a:Act}(hr:Region.ready md ops listed=[])(h:Q .normal a w):
 ∀fuel,Vl P md ops Q k S fuel listed a w
 |0=>⟨hr,h⟩
 |_+1=>⟨fun _=>h,by rw[hr];simp⟩
end
section
variable{D:Dfs}
variable{P:Program}{Q:Exit->Act->World->Prop}{k:Nat}{S:World->Prop}{n:Nat}{f:Env}{w:World}{l:List Oper}{fuel:Nat}{listed:Array Bool}
theorem Kr{id:Nat}(k:Nat)(S:World->Prop)(hm:P.follows .mixedOrders=true)(hl:l.length=m)(h:Vl P .any l.toArray Q k S m (Array.replicate m false) (A n f) w.drew):(Code.region id l.toArray true).wp P Q (A n f) w:=by
 subst hl;exact wp_region_any hm (Np _ _ _ _ Yil)
theorem Jp{d:Nat}{op:Op}{ty:TypeId}{ps:String}{af:Array Edge}{v:Value}[hQ:PanicOk Q](i:Nat)(hS:S w)
 (h:Vl P .any l.toArray Q k S fuel (listed.setIfInBounds i true) (A n (upd f d v)) w)
 (hi:l[i]?=some ⟨some d,op,ty,ps,af,none⟩:=by exact rfl)
 (hs:Region.noSelect l.toArray=true:=by kernel_rfl) (hf:Region.free .any l.toArray listed i=true:=by kernel_rfl) (hr:(Region.ready .any l.toArray listed).contains i=true:=by kernel_rfl)
 (hk:waits .any l.toArray k i=true:=by kernel_rfl) (hki:Nat.beq k i=false:=by kernel_rfl) (hku:listed.getD k true=false:=by kernel_rfl)
 (hrun:∀u,S u->(execOp (ev n f) ⟨some d,op,ty,ps,af,none⟩).run P u=.ok (.value v) u:=by exact dqx):Vl P .any l.toArray Q k S (fuel+1) listed (A n f) w:=by
 have hi':l.toArray[i]?=some ⟨some d,op,ty,ps,af,none⟩:=by simpa using hi
 refine JaD (i:=i) (v:=v) hi' (Region.noSelect_spec hs) (fun c a w=>hQ.ok c a w (some d) v) hk (fun e=>by rw[e]at hki;simp at hki) fuel listed _ _ (Region.free_spec hi' hf) (by simpa using hr) ?_ hS hku ?_
 .exact .inl ⟨rfl,fun u hu=>by rw[Zy];exact hrun u hu⟩
 .rw [MK];exact h
theorem KH{o:Oper}(hi:l[i]?=some o)(hr:Region.ready .any l.toArray listed=[i])
 (h:wpList P l.toArray (Exit.then (fun a' w'=>((listed.setIfInBounds i true).getD k true=true\/S w')/\Vl P .any l.toArray Q k S fuel (listed.setIfInBounds i true) a' w') Q) [o] (A n f) w):Vl P .any l.toArray Q k S (fuel+1) listed (A n f) w:=by
 refine Nq hr Yhs fun j hj=>?_
 simp only[Sv]at hj;subst hj;exact KC hi h
theorem Xz{a:Act}(hS:S w)(h:K a w):Exit.then (fun a' w'=>(x=true\/S w')/\K a' w') Q .normal a w:=⟨.inr hS,h⟩
theorem JiQ{a:Act}(h:K a w)(hx:x=true:=by kernel_rfl):Exit.then (fun a' w'=>(x=true\/S w')/\K a' w') Q .normal a w:=⟨.inl hx,h⟩
theorem Je8(hr:Region.ready .any l.toArray listed=[])(h:Q .normal (A n f) w):Vl P .any l.toArray Q k S fuel listed (A n f) w:=Jbs hr h fuel
end
end
section
section
variable{D:Dfs}
variable{P:Program}{Q:Exit->Act->World->Prop}{S:World->Prop}{n:Nat}{f:Env}{w:World}{l:List Oper}{fuel:Nat}{listed:Array Bool}
end
end
section
inductive Dt
 |c (v:Value)
 |l (rows:List (List Dt))
inductive DR (w:World) (S:List Nat):Dt->Value->Prop
 |c {v:Value}:v.oneCell'=true->DR w S (.c v) v
 |l {rows:List (List Dt)} {sl:Value} (k:Nat) (ys:List Value):rows.length<=1000000000000->(∀r∈rows,r.length=k)->ys.length=rows.length*k->Src w sl rows.length ys->Off sl ys S->
  (∀i j (hi:i<rows.length) (hj:j<rows[i].length) (hq:i*k+j<ys.length),DR w S rows[i][j] ys[i*k+j])->DR w S (.l rows) sl
inductive RD (w:World) (S:List Nat):List Dt->List Value->Prop
 |nil:RD w S [] []
 |cons {d:Dt} {v:Value} {ds:List Dt} {vs:List Value}:DR w S d v->RD w S ds vs->RD w S (d::ds) (v::vs)
section
variable{w w':World}{S T:List Nat}{d:Dt}{v:Value}{ds:List Dt}{vs:List Value}
theorem DR.tr(h:DR w S d v)(hf:Fr S w w'):DR w' S d v:=by
 induction h with
 |c h=>exact .c h
 |l k ys h0 h1 h2 h3 h4 _ ih=>exact .l k ys h0 h1 h2 (h3.tr hf h4) h4 ih
theorem DR.mono(h:DR w S d v)(hT:∀b∈T,b∈S\/w.heap.size<=b):DR w T d v:=by
 induction h with
 |c h=>exact .c h
 |l k ys h0 h1 h2 h3 h4 _ ih=>exact .l k ys h0 h1 h2 h3 (Off.mono h3 h4 hT) ih
theorem DR.old(h:DR w S d v)(hf:Fr T w w')(hT:∀b∈T,b∈S\/w.heap.size<=b):DR w' S d v:=by
 have h1:DR w (S++T) d v:=h.mono Ykc;exact(h1.tr (hf.mono (fun b hb=>.inl Yii))).mono (fun b hb=>.inl Yii)
theorem DR.tr0(h:DR w S d v)(hf:Fr [] w w'):DR w' S d v:=h.old hf Yhs
theorem DR.one(h:DR w S d v):v.oneCell'=true:=by
 cases h with
 |c h=>exact h
 |l k ys h0 h1 h2 h3 h4 _=>obtain⟨ao,c,rfl,_⟩:=h3;rfl
theorem DR.cell{x v:Value}(h:DR w S (.c x) v):v=x:=by cases h;rfl
theorem DR.slice{rows:List (List Dt)}(h:DR w S (.l rows) v):∃ao c,v=.slice ao rows.length c/\rows.length<=c:=by
 cases h with
 |l k ys h0 h1 h2 h3 h4 _=>obtain⟨ao,c,rfl,h,_⟩:=h3;exact⟨ao,c,rfl,h⟩
theorem DR.bound{rows:List (List Dt)}(h:DR w S (.l rows) v):rows.length<=1000000000000:=by
 cases h with
 |l k ys h0 h1 h2 h3 h4 _=>exact h0
theorem DR.nil:DR w S (.l []) (zS):=.l 0 [] Yhs Yhs rfl (Src.nil w) (fun _ _ _ e=>by cases e) (fun i j h=>by simp at h)
theorem RD.tr(h:RD w S ds vs)(hf:Fr S w w'):RD w' S ds vs:=by
 induction h with
 |nil=>exact .nil
 |cons h1 _ ih=>exact .cons (h1.tr hf) ih
theorem RD.mono(h:RD w S ds vs)(hT:∀b∈T,b∈S\/w.heap.size<=b):RD w T ds vs:=by
 induction h with
 |nil=>exact .nil
 |cons h1 _ ih=>exact .cons (h1.mono hT) ih
theorem RD.len(h:RD w S ds vs):vs.length=ds.length:=by
 induction h with
 |nil=>rfl
 |cons h1 _ ih=>simp[ih]
theorem RD.one(h:RD w S ds vs):∀u∈vs,u.oneCell'=true:=by
 induction h with
 |nil=>intro u hu;simp at hu
 |cons h1 _ ih=>
  intro u hu;rcases SC.1 hu with rfl|hu
  .exact h1.one
  .exact ih u hu
theorem RD.old(h:RD w S ds vs)(hf:Fr T w w')(hT:∀b∈T,b∈S\/w.heap.size<=b):RD w' S ds vs:=by
 induction h with
 |nil=>exact .nil
 |cons h1 _ ih=>exact .cons (h1.old hf hT) ih
theorem RD.tr0(h:RD w S ds vs)(hf:Fr [] w w'):RD w' S ds vs:=h.old hf Yhs
theorem RD.inv(h:RD w S (d::ds) vs):∃v vs',vs=v::vs'/\DR w S d v/\RD w S ds vs':=by
 cases h with
 |cons h1 h2=>exact⟨_,_,rfl,h1,h2⟩
theorem RD.inv0(h:RD w S [] vs):vs=[]:=by cases h;rfl
theorem RD.JI{x:Value}(h:RD w S (.c x::ds) vs):∃vs',vs=x::vs'/\RD w S ds vs':=by
 obtain⟨v,vs',rfl,h1,h2⟩:=h.inv;rw[h1.cell];exact⟨vs',rfl,h2⟩
theorem RD.get(h:RD w S ds vs):∀{j:Nat} (hj:j<ds.length) (hj':j<vs.length),DR w S ds[j] vs[j]:=by
 induction h with
 |nil=>intro j hj;simp at hj
 |cons h1 _ ih=>
  intro j hj hj';cases j with
  |zero=>exact h1
  |succ j=>exact ih (by simpa using hj) (by simpa using hj')
theorem RD.Jif:∀{ds:List Dt} {vs:List Value},vs.length=ds.length->(∀j (hj:j<ds.length) (hj':j<vs.length),DR w S ds[j] vs[j])->RD w S ds vs
 |[],[],_,_=>.nil
 |[],v::vs,h,_=>by simp at h
 |d::ds,[],h,_=>by simp at h
 |d::ds,v::vs,h,hg=>.cons (hg 0 Yhs Yhs) (RD.Jif Yil (fun j hj hj'=>hg (j+1) (by simpa using hj) (by simpa using hj')))
theorem RD.app{ds':List Dt}{vs':List Value}(h:RD w S ds vs)(h':RD w S ds' vs'):RD w S (ds++ds') (vs++vs'):=by
 induction h with
 |nil=>exact h'
 |cons h1 _ ih=>exact .cons h1 ih
theorem RD.split:∀{ds ds':List Dt} {vs:List Value},RD w S (ds++ds') vs->∃a b,vs=a++b/\RD w S ds a/\RD w S ds' b
 |[],ds',vs,h=>⟨[],vs,rfl,.nil,h⟩
 |d::ds,ds',vs,h=>by
  obtain⟨v,vs',rfl,h1,h2⟩:=RD.inv h;obtain⟨a,b,rfl,h3,h4⟩:=RD.split h2;exact⟨v::a,b,rfl,.cons h1 h3,h4⟩
end
/-! ### typed rows -/
def TR{α:Type}(f:α->List Dt):World->List Nat->α->List Value->Prop:=fun w S x cs=>RD w S (f x) cs
section
variable{α:Type}{f:α->List Dt}{k:Nat}{w w':World}{S T:List Nat}{l:List α}{sl:Value}
theorem Jdz{R:List Dt->List Value->Prop}:∀(rows:List (List Dt)) (ys:List Value),ys.length=rows.length*k->(∀i (hi:i<rows.length),R rows[i] ((ys.drop (i*k)).take k))->Rws R rows ys
 |[],ys,h,_=>by
  have:ys=[]:=Dj Yil;subst this;exact .nil
 |r::rows,ys,h,hg=>by
  have h1:R r (ys.take k):=by
   have:=hg 0 Yhs;rw[D8,D9]at this;exact this
  have h2:=Jdz rows (ys.drop k) (by rw[Dn,h,SI,DN];omega) (fun i hi=>by
   have:=hg (i+1) Yjf;rw[Iy,show k+i*k=(i+1)*k by rw[DN];omega];simpa using this)
  have:=Rws.cons h1 h2
  rwa [List.take_append_drop]at this
theorem MV{β:Type}{R:β->List Value->Prop}{g:α->β}:∀{l:List α} {ys:List Value},Rws R (l.map g) ys↔Rws (fun x cs=>R (g x) cs) l ys
 |[],ys=>by
  constructor
  .intro h;cases h;exact .nil
  .intro h;cases h;exact .nil
 |x::l,ys=>by
  constructor
  .intro h;cases h with
   |cons h1 h2=>exact .cons h1 (MV.1 h2)
  .intro h;cases h with
   |cons h1 h2=>exact .cons h1 (MV.2 h2)
theorem DR.Jkx{rows:List (List Dt)}(h:DR w S (.l rows) sl):Sl w S (RD w S) rows sl:=by
 cases h with
 |l k ys h0 h1 h2 h3 h4 h5=>
  refine⟨ys,h3,h4,Jdz (k:=k) rows ys h2 (fun i hi=>?_)⟩;have hr:=h1 rows[i] (Cj hi);have hle:i*k+k<=ys.length:=by rw[h2];calc i*k+k=(i+1)*k:=by rw[DN]
   _<=rows.length*k:=Em k Yhn
  refine RD.Jif (by rw[C9,Dn];omega) (fun j hj hj'=>?_);rw[FU,List.getElem_drop];exact h5 i j hi hj Yhn
theorem DR.Jhn{rows:List (List Dt)}(h0:rows.length<=1000000000000)(hk:∀r∈rows,r.length=k)(h:Sl w S (RD w S) rows sl):DR w S (.l rows) sl:=by
 obtain⟨ys,h1,h2,h3⟩:=h;have hlen:ys.length=rows.length*k:=by
  clear h1 h2 h0
  induction h3 with
  |nil=>simp
  |cons h4 _ ih=>
   rw[Sm,ih (fun r hr=>hk r (by simp[hr])),RD.len h4,hk _ Yhs,SI,DN];omega
 refine .l k ys h0 hk hlen h1 h2 (fun i j hi hj hq=>?_);clear h1 h2 h0 hlen
 induction h3 generalizing i with
 |nil=>simp at hi
 | @cons r cs rows ys h4 h5 ih=>
  have hr:cs.length=k:=by rw[RD.len h4];exact hk _ Yhs
  cases i with
  |zero=>
   simp only[List.getElem_cons_zero]at hj ⊢;have hj':j<cs.length:=by rw[hr,<-hk r Yhs];exact hj
   simp only[D8,Di];rw[List.getElem_append_left hj'];exact h4.get hj hj'
  |succ i=>
   simp only[List.getElem_cons_succ]at hj ⊢;have hge:cs.length<=(i+1)*k+j:=by rw[DN];omega
   rw[List.getElem_append_right hge];have e:(i+1)*k+j-cs.length=i*k+j:=by rw[DN];omega
   simp only[e];exact ih (fun r hr=>hk r (by simp[hr])) i Yjf hj _
theorem DR.typed(h:DR w S (.l (l.map f)) sl):Sl w S (TR f w S) l sl:=by
 obtain⟨ys,h1,h2,h3⟩:=h.Jkx;rw[Sr]at h1;exact⟨ys,h1,h2,(MV (g:=f) (R:=RD w S)).1 h3⟩
theorem DR.ofTyped(hk:∀x,(f x).length=k)(h0:l.length<=1000000000000)(h:Sl w S (TR f w S) l sl):DR w S (.l (l.map f)) sl:=by
 obtain⟨ys,h1,h2,h3⟩:=h;exact DR.Jhn (k:=k) (by rw[Sr];exact h0) (fun r hr=>by obtain⟨x,_,rfl⟩:=Du.1 hr;exact hk x) ⟨ys,by rw[Sr];exact h1,h2,(MV (g:=f) (R:=RD w S)).2 h3⟩
theorem DR.at{ao:Option Addr}{m c:Nat}(hk:∀x,(f x).length=k)(h:DR w S (.l (l.map f)) (.slice ao m c)){i:Nat}(hi:i<l.length):∃ad cs,ao=some ad/\RD w S (f l[i]) cs/\Cells w (ad.add (i*k)) cs:=
 Sl.at h.typed (fun x cs h=>by rw[RD.len h,hk]) hi
end
end
section
structure Ty where
 kind:Int
 name:ByteArray
 kids:List Ty
structure Ex where
 kind:Int
 name:ByteArray
 n:Int
 names:List ByteArray
 binds:List (List ByteArray)
 kids:List Ex
 at_:Int
structure Gn where
 kind:Int
 name:ByteArray
 ws:List Int
 args:List Ex
 kids:List Gn
 at_:Int
structure Pm where
 name:ByteArray
 type:Ty
structure Ct where
 name:ByteArray
 args:List Ty
structure Ck where
 name:ByteArray
 expr:Ex
structure Cl where
 cls:ByteArray
 num:Int
 den:Int
structure Dw where
 name:ByteArray
 type:Ty
 gen:Gn
 ref:Bool
structure Cm where
 name:ByteArray
 draws:List Dw
 pre:Ex
 next:Ex
 post:Ex
structure Ac where
 shared:Ex
 loc:Ex
structure Op where
 name:ByteArray
 params:List Pm
 acts:List Ac
structure De where
 kind:Int
 name:ByteArray
 at_:Int
 ctors:List Ct
 params:List Pm
 type:Ty
 body:Ex
 depth:Int
 gen:Gn
 draws:List Dw
 checks:List Ck
 classes:List Ck
 claims:List Cl
 state:Ty
 init:Ex
 cmds:List Cm
 ops:List Op
 recov:Ex
def ty0:Ty:=⟨0,.empty,[]⟩
def ex0:Ex:=⟨0,.empty,0,[],[],[],0⟩
def gn0:Gn:=⟨0,.empty,[],[],[],0⟩
def de0:De:=⟨0,.empty,0,[],[],ty0,ex0,0,gn0,[],[],[],[],ty0,ex0,[],[],ex0⟩
/-! ### as data -/
def di(n:Int):Dt:=.c (iV n)
def ds(s:ByteArray):Dt:=.c (.string s)
def db(b:Bool):Dt:=.c (.bool b)
def JV(s:ByteArray):List Dt:=[ds s]
def strs(l:List ByteArray):Dt:=.l (l.map JV)
def JD(l:List ByteArray):List Dt:=[strs l]
def KI(n:Int):List Dt:=[di n]
mutual
def tyC:Ty->List Dt
 |⟨k,n,ks⟩=>[di k,ds n,.l (JgO ks)]
def JgO:List Ty->List (List Dt)
 |[]=>[]
 |t::l=>tyC t::JgO l
end
mutual
def exC:Ex->List Dt
 |⟨k,nm,n,ns,bs,ks,a⟩=>[di k,ds nm,di n,strs ns,.l (bs.map JD),.l (JhC ks),di a]
def JhC:List Ex->List (List Dt)
 |[]=>[]
 |t::l=>exC t::JhC l
end
mutual
def gnC:Gn->List Dt
 |⟨k,nm,ws,as_,ks,a⟩=>[di k,ds nm,.l (ws.map KI),.l (as_.map exC),.l (Jhs ks),di a]
def Jhs:List Gn->List (List Dt)
 |[]=>[]
 |t::l=>gnC t::Jhs l
end
theorem Jbx:∀l:List Ty,JgO l=l.map tyC
 |[]=>rfl
 |t::l=>by rw[JgO,Jbx l];rfl
theorem Jce:∀l:List Ex,JhC l=l.map exC
 |[]=>rfl
 |t::l=>by rw[JhC,Jce l];rfl
theorem Jb7:∀l:List Gn,Jhs l=l.map gnC
 |[]=>rfl
 |t::l=>by rw[Jhs,Jb7 l];rfl
theorem Je9(t:Ty):tyC t=[di t.kind,ds t.name,.l (t.kids.map tyC)]:=by cases t;rw[tyC,Jbx]
theorem Jgm(e:Ex):exC e=[di e.kind,ds e.name,di e.n,strs e.names,.l (e.binds.map JD),.l (e.kids.map exC),di e.at_]:=by cases e;rw[exC,Jce]
theorem Jgh(g:Gn):gnC g=[di g.kind,ds g.name,.l (g.ws.map KI),.l (g.args.map exC),.l (g.kids.map gnC),di g.at_]:=by cases g;rw[gnC,Jb7]
def pmC(p:Pm):List Dt:=ds p.name::tyC p.type
def ctC(c:Ct):List Dt:=[ds c.name,.l (c.args.map tyC)]
def ckC(c:Ck):List Dt:=ds c.name::exC c.expr
def clC(c:Cl):List Dt:=[ds c.cls,di c.num,di c.den]
def dwC(d:Dw):List Dt:=ds d.name::(tyC d.type++(gnC d.gen++[db d.ref]))
def cmC(c:Cm):List Dt:=ds c.name::.l (c.draws.map dwC)::(exC c.pre++(exC c.next++exC c.post))
def acC(a:Ac):List Dt:=exC a.shared++exC a.loc
def opC(o:Op):List Dt:=[ds o.name,.l (o.params.map pmC),.l (o.acts.map acC)]
def deC(d:De):List Dt:=di d.kind::ds d.name::di d.at_::.l (d.ctors.map ctC)::.l (d.params.map pmC)::(tyC d.type++(exC d.body++(di d.depth::(gnC d.gen++(.l (d.draws.map dwC)::.l (d.checks.map ckC)::.l (d.classes.map ckC)::.l (d.claims.map clC)::(tyC d.state++(exC d.init++(.l (d.cmds.map cmC)::.l (d.ops.map opC)::exC d.recov))))))))
theorem XE(s:ByteArray):(JV s).length=1:=rfl
theorem Zz(l:List ByteArray):(JD l).length=1:=rfl
theorem Zq(n:Int):(KI n).length=1:=rfl
theorem QT(t:Ty):(tyC t).length=3:=by rw[Je9];rfl
theorem Jq(e:Ex):(exC e).length=7:=by rw[Jgm];rfl
theorem KG(g:Gn):(gnC g).length=6:=by rw[Jgh];rfl
theorem Xn(p:Pm):(pmC p).length=4:=by simp[pmC,QT]
theorem VU(c:Ct):(ctC c).length=2:=rfl
theorem QM(c:Ck):(ckC c).length=8:=by simp[ckC,Jq]
theorem XV(c:Cl):(clC c).length=3:=rfl
theorem VQ(d:Dw):(dwC d).length=11:=by simp[dwC,QT,KG]
theorem WU(c:Cm):(cmC c).length=23:=by simp[cmC,Jq]
theorem Wn(a:Ac):(acC a).length=14:=by simp[acC,Jq]
theorem QX(o:Op):(opC o).length=3:=rfl
theorem KL(d:De):(deC d).length=45:=by simp[deC,Jq,QT,KG]
/-! ### the cells -/
def tyV(t:Ty)(s:Value):List Value:=[iV t.kind,.string t.name,s]
def exV(e:Ex)(s1 s2 s3:Value):List Value:=[iV e.kind,.string e.name,iV e.n,s1,s2,s3,iV e.at_]
def gnV(g:Gn)(s1 s2 s3:Value):List Value:=[iV g.kind,.string g.name,s1,s2,s3,iV g.at_]
section
variable{w:World}{S:List Nat}{cs:List Value}
theorem RD.c1{x:Value}{ds':List Dt}{vs:List Value}(hx:x.oneCell'=true)(h:RD w S ds' vs):RD w S (.c x::ds') (x::vs):=.cons (.c hx) h
theorem tyR{t:Ty}:RD w S (tyC t) cs↔∃s,cs=tyV t s/\DR w S (.l (t.kids.map tyC)) s:=by
 rw[Je9];constructor
 .intro h;obtain⟨_,rfl,g1⟩:=h.JI;obtain⟨_,rfl,g2⟩:=g1.JI;obtain⟨s,_,rfl,h1,g3⟩:=g2.inv;rw[g3.inv0];exact⟨s,rfl,h1⟩
 .rintro ⟨s,rfl,h⟩;exact .c1 rfl (.c1 rfl (.cons h .nil))
theorem exR{e:Ex}:RD w S (exC e) cs↔∃s1 s2 s3,cs=exV e s1 s2 s3/\DR w S (strs e.names) s1/\DR w S (.l (e.binds.map JD)) s2/\DR w S (.l (e.kids.map exC)) s3:=by
 rw[Jgm];constructor
 .intro h;obtain⟨_,rfl,g1⟩:=h.JI;obtain⟨_,rfl,g2⟩:=g1.JI;obtain⟨_,rfl,g3⟩:=g2.JI;obtain⟨s1,_,rfl,h1,g4⟩:=g3.inv;obtain⟨s2,_,rfl,h2,g5⟩:=g4.inv;obtain⟨s3,_,rfl,h3,g6⟩:=g5.inv;obtain⟨_,rfl,g7⟩:=g6.JI;rw[g7.inv0];exact⟨s1,s2,s3,rfl,h1,h2,h3⟩
 .rintro ⟨s1,s2,s3,rfl,h1,h2,h3⟩;exact .c1 rfl (.c1 rfl (.c1 rfl (.cons h1 (.cons h2 (.cons h3 (.c1 rfl .nil))))))
theorem gnR{g:Gn}:RD w S (gnC g) cs↔∃s1 s2 s3,cs=gnV g s1 s2 s3/\DR w S (.l (g.ws.map KI)) s1/\DR w S (.l (g.args.map exC)) s2/\DR w S (.l (g.kids.map gnC)) s3:=by
 rw[Jgh];constructor
 .intro h;obtain⟨_,rfl,g1⟩:=h.JI;obtain⟨_,rfl,g2⟩:=g1.JI;obtain⟨s1,_,rfl,h1,g3⟩:=g2.inv;obtain⟨s2,_,rfl,h2,g4⟩:=g3.inv;obtain⟨s3,_,rfl,h3,g5⟩:=g4.inv;obtain⟨_,rfl,g6⟩:=g5.JI;rw[g6.inv0];exact⟨s1,s2,s3,rfl,h1,h2,h3⟩
 .rintro ⟨s1,s2,s3,rfl,h1,h2,h3⟩;exact .c1 rfl (.c1 rfl (.cons h1 (.cons h2 (.cons h3 (.c1 rfl .nil)))))
end
end
end Go.Rf
