/-
 The reference's parser:lists of expressions,bounds,operators.
-/
import Derived.Test.YtmlpcmjmniobdaaGreatZQi
set_option linter.all false
namespace Go.Rf
open Go.RowKit
variable{t:Bs}{S0 T Y:List Nat}{r r':List Tk}{c2 c3 cs l z:List Value}{by_ i k m n p q s:Nat}{α:Type}{u xv:Value}{w w' w0 w1:World}
def rg(w:World):List Nat:=List.range w.heap.size
theorem rg_mem:k∈rg w↔k<w.heap.size:=List.mem_range
theorem RD.keep{ds:List Dt}{vs:List Value}(h:RD w (rg w0) ds vs)(hf:Fr T w w')(hT:∀b∈T,b<w0.heap.size\/w.heap.size<=b):RD w' (rg w0) ds vs:=h.old hf Ykd
theorem RD.down{ds:List Dt}{vs:List Value}(h:RD w (rg w1) ds vs)(hl:w0.heap.size<=w1.heap.size):RD w (rg w0) ds vs:=h.mono (fun b hb=>.inl (rg_mem.2 (by have:=rg_mem.1 hb;omega)))
theorem DR.keep{d:Dt}{v:Value}(h:DR w (rg w0) d v)(hf:Fr T w w')(hT:∀b∈T,b<w0.heap.size\/w.heap.size<=b):DR w' (rg w0) d v:=h.old hf Ykd
theorem DR.down{d:Dt}{v:Value}(h:DR w (rg w1) d v)(hl:w0.heap.size<=w1.heap.size):DR w (rg w0) d v:=h.mono (fun b hb=>.inl (rg_mem.2 (by have:=rg_mem.1 hb;omega)))
theorem drOne{e:Nat}{v:Value}{d:List Dt}(ho:Own w e k v 1 cs)(hr:RD w (rg w0) d cs)(hn:∀b∈blks v,w0.heap.size<=b):DR w (rg w0) (.l [d]) v:=by
 refine DR.ofSl (k:=d.length) Yhs Yhs ⟨cs,ho.src,fun ad n c e _ hm=>?_,?_⟩
 .have h1:=hn ad.block Yio;have:=rg_mem.1 hm;omega
 .have:=Rws.cons (R:=RD w (rg w0)) hr .nil
  rwa [List.append_nil]at this
/-! ### lists that are being made -/
theorem one_in{X:List Nat}(h:p∈X):∀b∈[p],b∈X\/n<=b:=fun b hb=>by rw[List.mem_singleton.1 hb];exact .inl h
def LR{α:Type}(X:List Nat)(C:α->List Dt):World->List Nat->α->List Value->Prop:=fun w S x cs=>RD w (S++X) (C x) cs
theorem lrStab{X:List Nat}{C:α->List Dt}(hk:∀x,(C x).length=k):Stab (LR X C) k where
 tr:=fun h hf=>RD.old h hf (fun b hb=>.inl Yii)
 mono:=fun h hT=>RD.mono h (fun b hb=>by
  rcases List.mem_append.1 hb with hb|hb
  .rcases hT b hb with h|h
   .exact .inl (by simp[h])
   .exact .inr h
  .exact .inl Yii)
 len:=fun h=>by rw[RD.len h,hk]
 one:=fun h=>RD.one h
def LS{α:Type}(X:List Nat)(w:World)(e k:Nat)(C:α->List Dt)(l:List α)(v:Value):Prop:=OwnR w e k (LR X C) l v/\∀b∈blks v,b∉X
section
variable{α:Type}{X T:List Nat}{w w':World}{e k:Nat}{C:α->List Dt}{l:List α}{v:Value}
theorem LS.nil:LS X w e k C [] (zS):=⟨OwnR.nil _ _ _ _,fun b hb=>by simp[blks,Value.ownBlock]at hb⟩
theorem LS.lt(h:LS X w e k C l v):∀b∈blks v,b<w.heap.size:=h.1.lt
theorem LS.slice(h:LS X w e k C l v):∃ao c,v=.slice ao l.length c:=h.1.slice
theorem LS.keep(h:LS X w e k C l v)(hf:Fr T w w')(hT:∀b∈T,b∈X\/w.heap.size<=b):LS X w' e k C l v:=by
 obtain⟨⟨ys,h1,h2⟩,h3⟩:=h;refine⟨⟨ys,h1.tr hf (fun b hb hm=>?_),h2.imp (fun x cs _ hr=>RD.old hr hf (fun b hb=>?_))⟩,h3⟩
 .rcases hT b hm with h|h
  .exact h3 b hb h
  .have:=h1.lt b hb;omega
 .rcases hT b hb with h|h
  .exact .inl (by simp[h])
  .exact .inr h
theorem LS.ge(h:LS X w e k C l v)(hX:∀b,b<w0.heap.size->b∈X):∀b∈blks v,w0.heap.size<=b:=fun b hb=>Nat.le_of_not_lt fun hlt=>h.2 b hb (hX b hlt)
theorem LS.tr0(h:LS X w e k C l v)(hf:Fr [] w w'):LS X w' e k C l v:=h.keep hf Yhs
theorem LS.mono(h:LS X w e k C l v)(hY:∀b∈Y,b∈X\/w.heap.size<=b):LS Y w e k C l v:=by
 obtain⟨⟨ys,h1,h2⟩,h3⟩:=h;refine⟨⟨ys,h1,h2.imp (fun x cs _ hr=>RD.mono hr (fun b hb=>?_))⟩,fun b hb hm=>?_⟩
 .rcases List.mem_append.1 hb with h|h
  .exact .inl (by simp[h])
  .rcases hY b h with h|h
   .exact .inl (by simp[h])
   .exact .inr h
 .rcases hY b hm with h|h
  .exact h3 b hb h
  .have:=h1.lt b hb;omega
theorem LS.dr(h:LS X w e k C l v)(hk:∀x,(C x).length=k)(hl:l.length<=1000000000000):DR w X (.l (l.map C)) v:=by
 obtain⟨⟨ys,h1,h2⟩,h3⟩:=h;refine DR.ofTyped hk hl ⟨ys,h1.src,fun ad n c e _ hm=>?_,h2.imp (fun x cs _ hr=>RD.mono hr (fun b hb=>.inl Yii))⟩;exact h3 ad.block Yio hm
end
section
variable{P:Program}{ops:Array Oper}{Q:Exit->Act->World->Prop}{rest:List Oper}{n:Nat}{f:Env}{w:World}
variable{d d2:Nat}{ty ty2:TypeId}{ps ps2:String}{af af2:Array Edge}{x s:Operand}{t t2:Nat}
theorem s_pushL{X:List Nat}{C:α->List Dt}{e size:Nat}{l:List α}{v:Value}{a:α}[RZ:RowZ P t e size by_ z]
 (hR:LS X w e size C l v) (hs:∀x,(C x).length=size) (hsv:ev n f s=v) (hx:ev n f x=xv) (hxc:xv.cells=cs.toArray) (ha:RD w S0 (C a) cs) (hS:∀b,b∈blks v\/b∈X->b∈S0\/w.heap.size<=b) (hd:ev n (upd f d (.slice (some ⟨w.heap.size,0,none⟩) 1 1)) s=v) (hdn:Nat.blt d n=true) (hsz:Nat.ble size 16777216=true)
 (h63:l.length+1<=maxLen) (hb:(l.length+1)*by_<=140737488355328) (hX:∀b∈X,b<w.heap.size)
 (h:∀v' w',LS X w' e size C (l++[a]) v'->Fr (blks v) w w'->(∀b∈blks v',b∈blks v\/w.heap.size<=b)->wpList P ops Q rest (A n (upd (upd f d (.slice (some ⟨w.heap.size,0,none⟩) 1 1)) d2 v')) w'):
 wpList P ops Q (⟨some d,.buildSlice t 1 #[(0,x)],ty,ps,af,none⟩::⟨some d2,.call {callee:=.builtin .append,args:=#[s,.tmp d],argTypes:=#[t,t]},ty2,ps2,af2,none⟩::rest) (A n f) w:=by
 refine s_pushA hR.1 (lrStab hs) hsv hx hxc (RD.mono ha (fun b hb=>hS b Yks)) hd hdn hsz h63 hb (fun v' w' ho hf hk=>?_);exact Ygb
end
theorem LS.other{v1 v1':Value}{X:List Nat}{e:Nat}{C:α->List Dt}{l:List α}{v:Value}(h:LS X w e k C l v)(hf:Fr (blks v1) w w')(h1:∀b∈blks v1,b∈X)(hk:∀b∈blks v1',b∈blks v1\/w.heap.size<=b)(hY:∀b∈Y,b∈X\/b∈blks v1'):LS Y w' e k C l v:=
 ((h.mono (Y:=X++blks v1') (fun b hb=>(List.mem_append.1 hb).elim .inl (fun h'=>(hk b h').elim (fun h=>.inl (h1 b h)) .inr))).keep hf (fun b hb=>.inl (by simp[h1 b hb]))).mono (fun b hb=>.inl (by have:=hY b hb;simp[this]))
theorem LS.first{X:List Nat}{e:Nat}{C:α->List Dt}{x:α}{v:Value}(ho:Own w e k v 1 cs)(hr:RD w S0 (C x) cs)(hS:∀b,b∈blks v\/b∈X->b∈S0\/w.heap.size<=b)(hn:∀b∈blks v,b∉X):LS X w e k C [x] v:=
 ⟨⟨cs,ho,.one (RD.mono hr (fun b hb=>hS b Yks))⟩,hn⟩
def L3{α β γ:Type}(X:List Nat)(w:World)(e1 e2 e3 k1 k2 k3:Nat)(C1:α->List Dt)(C2:β->List Dt)(C3:γ->List Dt)(l1:List α)(l2:List β)(l3:List γ)(v1 v2 v3:Value):Prop:=
 LS (X++(blks v2++blks v3)) w e1 k1 C1 l1 v1/\LS (X++(blks v1++blks v3)) w e2 k2 C2 l2 v2/\LS (X++(blks v1++blks v2)) w e3 k3 C3 l3 v3
section
variable{α β γ:Type}{X T:List Nat}{w w':World}{e1 e2 e3 k1 k2 k3:Nat}{C1:α->List Dt}{C2:β->List Dt}{C3:γ->List Dt}{l1 l1':List α}{l2 l2':List β}{l3 l3':List γ}{v1 v2 v3 v':Value}
theorem L3.keep(h:L3 X w e1 e2 e3 k1 k2 k3 C1 C2 C3 l1 l2 l3 v1 v2 v3)(hf:Fr T w w')(hT:∀b∈T,b∈X\/w.heap.size<=b):L3 X w' e1 e2 e3 k1 k2 k3 C1 C2 C3 l1 l2 l3 v1 v2 v3:=
 ⟨h.1.keep hf (fun b hb=>(hT b hb).imp (fun h=>by simp[h]) id),h.2.1.keep hf (fun b hb=>(hT b hb).imp (fun h=>by simp[h]) id),h.2.2.keep hf (fun b hb=>(hT b hb).imp (fun h=>by simp[h]) id)⟩
theorem L3.sz1(h:L3 X w e1 e2 e3 k1 k2 k3 C1 C2 C3 l1 l2 l3 v1 v2 v3)(hX:∀b∈X,b<w.heap.size):∀b∈X++(blks v2++blks v3),b<w.heap.size:=fun b hb=>by
 rcases List.mem_append.1 hb with hb|hb
 .exact hX b hb
 .exact (List.mem_append.1 hb).elim (h.2.1.lt b) (h.2.2.lt b)
theorem L3.sz2(h:L3 X w e1 e2 e3 k1 k2 k3 C1 C2 C3 l1 l2 l3 v1 v2 v3)(hX:∀b∈X,b<w.heap.size):∀b∈X++(blks v1++blks v3),b<w.heap.size:=fun b hb=>by
 rcases List.mem_append.1 hb with hb|hb
 .exact hX b hb
 .exact (List.mem_append.1 hb).elim (h.1.lt b) (h.2.2.lt b)
theorem L3.sz3(h:L3 X w e1 e2 e3 k1 k2 k3 C1 C2 C3 l1 l2 l3 v1 v2 v3)(hX:∀b∈X,b<w.heap.size):∀b∈X++(blks v1++blks v2),b<w.heap.size:=fun b hb=>by
 rcases List.mem_append.1 hb with hb|hb
 .exact hX b hb
 .exact (List.mem_append.1 hb).elim (h.1.lt b) (h.2.1.lt b)
theorem L3.put1(h:L3 X w e1 e2 e3 k1 k2 k3 C1 C2 C3 l1 l2 l3 v1 v2 v3)(hL:LS (X++(blks v2++blks v3)) w' e1 k1 C1 l1' v')(hf:Fr (blks v1) w w')(hk:∀b∈blks v',b∈blks v1\/w.heap.size<=b):L3 X w' e1 e2 e3 k1 k2 k3 C1 C2 C3 l1' l2 l3 v' v2 v3:=
 ⟨hL,h.2.1.other hf Yjm hk Yif,h.2.2.other hf Yjm hk Yif⟩
theorem L3.put2(h:L3 X w e1 e2 e3 k1 k2 k3 C1 C2 C3 l1 l2 l3 v1 v2 v3)(hL:LS (X++(blks v1++blks v3)) w' e2 k2 C2 l2' v')(hf:Fr (blks v2) w w')(hk:∀b∈blks v',b∈blks v2\/w.heap.size<=b):L3 X w' e1 e2 e3 k1 k2 k3 C1 C2 C3 l1 l2' l3 v1 v' v3:=
 ⟨h.1.other hf Yjm hk Yif,hL,h.2.2.other hf Yjm hk Yif⟩
theorem L3.put3(h:L3 X w e1 e2 e3 k1 k2 k3 C1 C2 C3 l1 l2 l3 v1 v2 v3)(hL:LS (X++(blks v1++blks v2)) w' e3 k3 C3 l3' v')(hf:Fr (blks v3) w w')(hk:∀b∈blks v',b∈blks v3\/w.heap.size<=b):L3 X w' e1 e2 e3 k1 k2 k3 C1 C2 C3 l1 l2 l3' v1 v2 v':=
 ⟨h.1.other hf Yjm hk Yif,h.2.1.other hf Yjm hk Yif,hL⟩
end
section
variable{P:Program}{ops:Array Oper}{Q:Exit->Act->World->Prop}{rest:List Oper}{n:Nat}{f:Env}{w:World}
variable{d:Nat}{ty:TypeId}{ps:String}{af:Array Edge}{x s:Operand}{t:Nat}
theorem s_appL{X:List Nat}{C:α->List Dt}{e size:Nat}{l:List α}{v:Value}{a:α}[Rr:RowT P t e size by_]
 (hR:LS X w e size C l v) (hs:∀x,(C x).length=size) (hsv:ev n f s=v) (hx:ev n f x=xv) (hsrc:Src w xv 1 cs) (ha:RD w S0 (C a) cs) (hS:∀b,b∈blks v\/b∈X->b∈S0\/w.heap.size<=b) (h63:l.length+1<=maxLen) (hb:(l.length+1)*by_<=140737488355328) (hX:∀b∈X,b<w.heap.size)
 (h:∀v' w',LS X w' e size C (l++[a]) v'->Fr (blks v) w w'->(∀b∈blks v',b∈blks v\/w.heap.size<=b)->wpList P ops Q rest (A n (upd f d v')) w'):
 wpList P ops Q (⟨some d,.call {callee:=.builtin .append,args:=#[s,x],argTypes:=#[t,t]},ty,ps,af,none⟩::rest) (A n f) w:=by
 refine s_appR (al:=[a]) hR.1 (lrStab hs) hsv hx hsrc (.one (RD.mono ha (fun b hb=>hS b Yks))) rfl h63 hb (fun v' w' ho hf hk _=>?_);exact Ygb
end
section
variable{P:Program}{Q:Exit->Act->World->Prop}{k:Nat}{S:World->Prop}{n:Nat}{f:Env}{w:World}{l:List Oper}{fuel:Nat}{listed:Array Bool}
theorem u_two{j:Nat}{o o':Oper}(hi:l[i]?=some o)(hj:l[j]?=some o')(hr:Region.ready .any l.toArray listed=[i,j])
 (h1:wpList P l.toArray (Exit.then (fun a' w'=>((listed.setIfInBounds i true).getD k true=true\/S w')/\wpAnyU P .any l.toArray Q k S fuel (listed.setIfInBounds i true) a' w') Q) [o] (A n f) w)
 (h2:wpList P l.toArray (Exit.then (fun a' w'=>((listed.setIfInBounds j true).getD k true=true\/S w')/\wpAnyU P .any l.toArray Q k S fuel (listed.setIfInBounds j true) a' w') Q) [o'] (A n f) w):wpAnyU P .any l.toArray Q k S (fuel+1) listed (A n f) w:=by
 refine wpAnyU_all hr Yhs fun m hm=>?_
 simp only[List.mem_cons,List.not_mem_nil,or_false]at hm;rcases hm with rfl|rfl
 .exact wpOp_of_list hi h1
 .exact wpOp_of_list hj h2
end
/-! ### a field of a value -/
class FldT (P:Program) (s i:Nat) (off:outParam Nat):Prop where
 f:∃fs fd,P.underlying s=some (.struct fs)/\fs[i]?=some fd/\fd.offset=off/\OneT P fd.type
section
variable{P:Program}{ops:Array Oper}{Q:Exit->Act->World->Prop}{rest:List Oper}{n:Nat}{f:Env}{w:World}
variable{d:Nat}{ty:TypeId}{ps:String}{af:Array Edge}{x:Operand}{gd:Option (Nat×Bool)}
theorem r_fieldV{off:Nat}[F:FldT P s i off](hx:ev n f x=.agg l.toArray)(hu:l[off]?=some u):
 (execOp (ev n f) ⟨some d,.field s x i,ty,ps,af,gd⟩).run P w=.ok (.value u) w:=by
 obtain⟨fs,fd,h1,h2,h3,h4⟩:=F.f;obtain⟨d,hd,ha⟩:=h4.agg;simp[execOp,hx,Instr.field,run_underlying h1,h2,h3,part,run_isAgg hd,ha,asAgg,hu]
theorem s_fieldV{off:Nat}[F:FldT P s i off](hx:ev n f x=.agg l.toArray)(hu:l[off]?=some u)(h:wpList P ops Q rest (A n (upd f d u)) w):
 wpList P ops Q (⟨some d,.field s x i,ty,ps,af,none⟩::rest) (A n f) w:=s_run (r_fieldV hx hu) h
end
/-! ### rows from values of structs -/
theorem fill_two{size:Nat}{c1:List Value}(hz:z.length=size)(h1:c1.length=size)(h2:c2.length=size):fillL (fun i=>some (i*size,size)) (zeros z 2) [(0,.agg c1.toArray),(1,.agg c2.toArray)]=some (c1++c2):=by
 have e1:(Value.agg c1.toArray).cells.toList=c1:=rfl;have e2:(Value.agg c2.toArray).cells.toList=c2:=rfl;have b1:Nat.beq size size=true:=Nat.beq_refl size;have b2:Nat.ble size (size+size)=true:=Nat.ble_eq_true_of_le Yhn;have b3:Nat.ble (size+size) (size+size)=true:=Nat.ble_eq_true_of_le Yhn;have d1:List.drop size (z++z)=z:=by rw[List.drop_append_of_le_length Yhn,List.drop_eq_nil_of_le Yhn];rfl
 simp only[fillL,zeros,e1,e2,h1,h2,b1,List.append_nil,List.length_append,hz,Nat.zero_mul,Nat.zero_add,Nat.one_mul,b2,b3,List.take_zero,List.nil_append,d1,Bool.and_self,cond_true];rw[List.take_append_of_le_length Yhn,List.take_of_length_le Yhn,List.drop_eq_nil_of_le Yht,List.append_nil]
theorem fill_three{size:Nat}{c1:List Value}(hz:z.length=size)(h1:c1.length=size)(h2:c2.length=size)(h3:c3.length=size):fillL (fun i=>some (i*size,size)) (zeros z 3) [(0,.agg c1.toArray),(1,.agg c2.toArray),(2,.agg c3.toArray)]=some (c1++c2++c3):=by
 have e1:(Value.agg c1.toArray).cells.toList=c1:=rfl;have e2:(Value.agg c2.toArray).cells.toList=c2:=rfl;have e3:(Value.agg c3.toArray).cells.toList=c3:=rfl;have b1:Nat.beq size size=true:=Nat.beq_refl size;have b2:Nat.ble size (size+(size+size))=true:=Nat.ble_eq_true_of_le Yhn;have b3:Nat.ble (size+size) (size+(size+size))=true:=Nat.ble_eq_true_of_le Yhn;have b4:Nat.ble (2*size+size) (size+size+size)=true:=Nat.ble_eq_true_of_le Yhn;have d1:List.drop size (z++(z++z))=z++z:=by rw[List.drop_append_of_le_length Yhn,List.drop_eq_nil_of_le Yhn];rfl
 have t1:List.take size (c1++(z++z))=c1:=by rw[List.take_append_of_le_length Yhn,List.take_of_length_le Yhn]
 have d2:List.drop (size+size) (c1++(z++z))=z:=by
  rw[<-List.append_assoc,List.drop_append_of_le_length Yht,List.drop_eq_nil_of_le Yht];rfl
 have t3:List.take (2*size) (c1++c2++z)=c1++c2:=by rw[List.take_append_of_le_length Yht,List.take_of_length_le Yht]
 have d3:List.drop (2*size+size) (c1++c2++z)=[]:=List.drop_eq_nil_of_le Yht;simp only[fillL,zeros,e1,e2,e3,h1,h2,h3,b1,List.append_nil,List.length_append,hz,Nat.zero_mul,Nat.zero_add,Nat.one_mul,b2,b3,List.take_zero,List.nil_append,d1,Bool.and_self,cond_true,t1,d2,t3,d3,b4]
section
variable{P:Program}{ops:Array Oper}{Q:Exit->Act->World->Prop}{rest:List Oper}{n:Nat}{f:Env}{w:World}
variable{d:Nat}{ty ty2:TypeId}{ps ps2:String}{af af2:Array Edge}{x y x2 x3:Operand}{t t2:Nat}
theorem s_rows1{e size:Nat}{c1:List Value}[R:RowZ P t e size by_ z](hx:ev n f x=.agg c1.toArray)(h1:c1.length=size)(hsz:Nat.ble size 16777216=true)
 (hk:∀w' q,q=w.heap.size->Own w' e size (.slice (some ⟨q,0,none⟩) 1 1) 1 c1->Fr [] w w'->w'.heap.size=w.heap.size+1->wpList P ops Q rest (A n (upd f d (.slice (some ⟨q,0,none⟩) 1 1))) w'):
 wpList P ops Q (⟨some d,.buildSlice t 1 #[(0,x)],ty,ps,af,none⟩::rest) (A n f) w:=by
 have hzl:z.length=size:=by obtain⟨i,v,_,_,_,h⟩:=R.z;exact h
 refine s_buildS (z:=z) (parts:=[(0,x)]) c1 (by simpa using hsz) rfl ?_ (by simpa using h1) (fun w' ho hf hs=>hk w' _ rfl ho hf hs);simp only[zipP,hx];exact fill_one hzl h1 rfl
theorem s_rows2{e size:Nat}{c1:List Value}[R:RowZ P t e size by_ z](hx:ev n f x=.agg c1.toArray)(hx2:ev n f x2=.agg c2.toArray)(h1:c1.length=size)(h2:c2.length=size)(hsz:Nat.ble (2*size) 16777216=true)
 (hk:∀w' q,q=w.heap.size->Own w' e size (.slice (some ⟨q,0,none⟩) 2 2) 2 (c1++c2)->Fr [] w w'->w'.heap.size=w.heap.size+1->wpList P ops Q rest (A n (upd f d (.slice (some ⟨q,0,none⟩) 2 2))) w'):
 wpList P ops Q (⟨some d,.buildSlice t 2 #[(0,x),(1,x2)],ty,ps,af,none⟩::rest) (A n f) w:=by
 have hzl:z.length=size:=by obtain⟨i,v,_,_,_,h⟩:=R.z;exact h
 refine s_buildS (z:=z) (parts:=[(0,x),(1,x2)]) (c1++c2) hsz rfl ?_ Yht (fun w' ho hf hs=>hk w' _ rfl ho hf hs);simp only[zipP,hx,hx2];exact fill_two hzl h1 h2
theorem s_rows3{e size:Nat}{c1:List Value}[R:RowZ P t e size by_ z](hx:ev n f x=.agg c1.toArray)(hx2:ev n f x2=.agg c2.toArray)(hx3:ev n f x3=.agg c3.toArray)(h1:c1.length=size)(h2:c2.length=size)(h3:c3.length=size)(hsz:Nat.ble (3*size) 16777216=true)
 (hk:∀w' q,q=w.heap.size->Own w' e size (.slice (some ⟨q,0,none⟩) 3 3) 3 (c1++c2++c3)->Fr [] w w'->w'.heap.size=w.heap.size+1->wpList P ops Q rest (A n (upd f d (.slice (some ⟨q,0,none⟩) 3 3))) w'):
 wpList P ops Q (⟨some d,.buildSlice t 3 #[(0,x),(1,x2),(2,x3)],ty,ps,af,none⟩::rest) (A n f) w:=by
 have hzl:z.length=size:=by obtain⟨i,v,_,_,_,h⟩:=R.z;exact h
 refine s_buildS (z:=z) (parts:=[(0,x),(1,x2),(2,x3)]) (c1++c2++c3) hsz rfl ?_ Yht (fun w' ho hf hs=>hk w' _ rfl ho hf hs);simp only[zipP,hx,hx2,hx3];exact fill_three hzl h1 h2 h3
theorem s_var{e:Nat}{z:Value}[Z:ZeroT P e z][G:AggT P e m](hz:z.cells=l.toArray)(hl:l.length=m)(hc:cs.length=m)(h1:∀c∈cs,c.oneCell'=true)(hdn:Nat.blt d n=true)
 (hy:∀v,ev n (upd f d v) y=.agg cs.toArray) (h:∀w' q,q=w.heap.size->Blk w' q cs e->Fr [] w w'->w'.heap.size=w.heap.size+1->wpList P ops Q rest (A n (upd f d (.pointer (some ⟨q,0,none⟩)))) w'):
 wpList P ops Q (⟨some d,.alloc e,ty,ps,af,none⟩::⟨none,.store e (.tmp d) y,ty2,ps2,af2,none⟩::rest) (A n f) w:=by
 refine s_alloc hz (fun w1 hb hf hs=>?_);refine s_storeAggB ?_ (hy _) hb h1 hl hc (fun w2 hb2 hf2 hs2=>h w2 _ rfl hb2 ?_ Yhn)
 .show cond (Nat.blt d n) (upd f d _ d) undef=_;rw[hdn,upd_same];rfl
 .exact hf.trans hf2 (fun x hx=>.inr (by rw[List.mem_singleton.1 hx];exact Nat.le_refl _))
end
theorem retB{P:Program}{fn:Func}{R:Ending->World->Prop}{f:Env}{t ty tb:Nat}[G:AggT P ty m](hr:fn.results=#[.cell t ty])(hv:ev n f (.tmp t)=.pointer (some ⟨q,0,none⟩))(hb:Blk w q cs tb)(hl:cs.length=m)
 (h:R (.returned (.agg cs.toArray)) w):bodyPost P fn R .ret (A n f) w:=retc hr hv (AggT.load _ cs hl (fun j x hx=>by rw[add_lit];exact hb.cell (by simpa using hx))) h
theorem in_cons{X:List Nat}{a:Nat}(h:w.heap.size<=a):∀b∈a::X,b∈X\/w.heap.size<=b:=fun b hb=>by
 rcases List.mem_cons.1 hb with rfl|hb
 .exact .inr h
 .exact .inl hb
theorem RD.tell{X:List Nat}{ds:List Dt}{vs:List Value}(h:RD w X ds vs)(hY:∀b∈Y,b∈X\/w.heap.size<=b)(hf:Fr [] w w'):RD w' Y ds vs:=(h.mono hY).tr0 hf
theorem DR.tell{X:List Nat}{d:Dt}{v:Value}(h:DR w X d v)(hY:∀b∈Y,b∈X\/w.heap.size<=b)(hf:Fr [] w w'):DR w' Y d v:=(h.mono hY).tr0 hf
theorem drOwn{X:List Nat}{e:Nat}{v:Value}{rows:List (List Dt)}{ys:List Value}(ho:Own w e k v rows.length ys)(hr:Rws (RD w X) rows ys)(hk:∀r∈rows,r.length=k)(hl:rows.length<=1000000000000)(hn:∀b∈blks v,b∉X):DR w X (.l rows) v:=
 DR.ofSl hl hk ⟨ys,ho.src,fun ad n c e _ hm=>hn ad.block Yio hm,hr⟩
theorem in_rg{u:World}(h:p<u.heap.size):∀b∈[p],b∈rg u\/n<=b:=fun b hb=>.inl (rg_mem.2 (by rw[List.mem_singleton.1 hb];exact h))
theorem bind_some{β:Type}{o:Option α}{f:α->Option β}{y:β}(h:o.bind f=some y):∃x,o=some x/\f x=some y:=Option.bind_eq_some_iff.1 h
theorem takeT_some(h:takeT t r=some r'):isT t r=true/\r'=r.tail:=by
 unfold takeT at h
 split at h
 .exact ⟨by assumption,by simpa using h.symm⟩
 .cases h
theorem tokT_some{t:Tk}(h:tokT k r=some (t,r')):r=t::r'/\kindT k (t::r')=true:=by
 cases r with
 |nil=>simp[tokT]at h
 |cons a r=>
  simp only[tokT]at h
  split at h
  .simp only[Option.some.injEq,Prod.mk.injEq]at h;obtain⟨rfl,rfl⟩:=h;exact⟨rfl,by assumption⟩
  .cases h
end Go.Rf
namespace Go.Proofs.YtmlpcmjmniobdaaGreat
open Go.Proofs.Tryz
open Go.Rf Go.RowKit
section
variable{t:Bs}{r r':List Tk}{cs:List Value}{bd k p q:Nat}{α:Type}{w w0:World}
attribute [local irreducible] Code.wp wpList Exit.then Exit.inBlock bodyPost A Calls execOp Addr.add
instance:FldT prog 155 2 2:=⟨⟨_,_,underlying155,rfl,rfl,(inferInstance:OneT prog 3)⟩⟩
instance:FldT prog 155 3 3:=⟨⟨_,_,underlying155,rfl,rfl,(inferInstance:OneT prog 9)⟩⟩
def PC{α:Type}(fid:Nat)(al:List Value)(g:Int->List Tk->Option (α×List Tk))(C:α->List Dt):Prop:=∀(bd p:Nat) (n:Int) (r:List Tk) (w:World) (x:α) (r':List Tk),PS bd w p n r->g n r=some (x,r')->
 Calls prog fid (Value.pointer (some ⟨p,0,none⟩)::al).toArray w fun e w'=>∃cs,e=.returned (.agg cs.toArray)/\RD w' (rg w) (C x) cs/\PS bd w' p n r'/\Fr [p] w w'
theorem cTake{n:Int}(h:PS bd w p n r)(ht:takeT t r=some r'):
 Calls prog 63 #[.pointer (some ⟨p,0,none⟩),.string (bst t)] w fun e w'=>e=.returned (.tuple #[])/\PS bd w' p n r'/\Fr [p] w w':=by
 obtain⟨h1,rfl⟩:=takeT_some ht;exact pTake t p n r w h h1
theorem cTok{n:Int}{t:Tk}(h:PS bd w p n r)(ht:tokT k r=some (t,r')):
 Calls prog 62 #[.pointer (some ⟨p,0,none⟩),iV k] w fun e w'=>e=.returned (.agg (tkC t).toArray)/\PS bd w' p n r'/\Fr [p] w w':=by
 obtain⟨rfl,h1⟩:=tokT_some ht;exact pToken k p n t r' w h h1
def PL{α:Type}(fid:Nat)(al:List Value)(g:Int->List Tk->Option (α×List Tk))(C:α->List (List Dt)):Prop:=∀(bd p:Nat) (n:Int) (r:List Tk) (w:World) (x:α) (r':List Tk),PS bd w p n r->g n r=some (x,r')->
 Calls prog fid (Value.pointer (some ⟨p,0,none⟩)::al).toArray w fun e w'=>∃v,e=.returned v/\DR w' (rg w) (.l (C x)) v/\PS bd w' p n r'/\Fr [p] w w'
theorem outC{C:α->List Dt}{n:Int}{u u':World}{x:α}(hq:q=w.heap.size)(hw0:q<w0.heap.size)(hle:w.heap.size<=w0.heap.size)(hbd:bd<=q)(hP:PS bd u p n r)(hF:Fr [p] w u)(hf:Fr [q] u u')(hd:RD u (rg w0) (C x) cs):
 ∃cs',Ending.returned (.agg cs.toArray)=.returned (.agg cs'.toArray)/\RD u' (rg w) (C x) cs'/\PS bd u' p n r/\Fr [p] w u':=
 ⟨cs,rfl,(hd.keep hf (fun b hb=>.inl (by rw[List.mem_singleton.1 hb];exact hw0))).down hle,hP.tr hf (fun k hk=>by rw[List.mem_singleton.1 hk];exact hbd),hF.trans hf (fun k hk=>.inr (by rw[List.mem_singleton.1 hk,hq];exact Nat.le_refl _))⟩
def LI{α:Type}(bd p:Nat)(n:Int)(w:World)(X:List Nat)(e k:Nat)(C:α->List Dt)(go:Nat->List Tk->Option (List α×List Tk))(l:List α)(r1:List Tk)(f:Nat)(acc:List α)(r:List Tk)(b:Bool)(u:World)(v:Value):Prop:=
 PS bd u p n r/\Fr [p] w u/\LS X u e k C acc v/\acc.length+f<=1000000/\(b=true->∃l',go f r=some (l',r1)/\acc++l'=l)/\(b=false->acc=l/\r=r1)
theorem li_end{go:Nat->List Tk->Option (List α×List Tk)}{f:Nat}{x:α}{acc l l':List α}{b:Bool}{r3 r1:List Tk}(hgo:(if b=true then(go f r3.tail).bind fun y=>some (x::y.1,y.2) else some ([x],r3))=some (l',r1))(hacc:acc++l'=l):
 (b=true->∃l',go f (nextP b r3)=some (l',r1)/\(acc++[x])++l'=l)/\(b=false->acc++[x]=l/\nextP b r3=r1):=by
 cases b with
 |true=>
  refine⟨fun _=>?_,fun h=>by cases h⟩;rw[if_pos rfl]at hgo;obtain⟨⟨l2,r4⟩,h1,h2⟩:=bind_some hgo;simp only[Option.some.injEq,Prod.mk.injEq]at h2;obtain⟨rfl,rfl⟩:=h2;exact⟨l2,h1,by rw[<-hacc];simp⟩
 |false=>
  refine⟨fun h=>Yiw,fun _=>?_⟩;rw[if_neg Yhs]at hgo;simp only[Option.some.injEq,Prod.mk.injEq]at hgo;obtain⟨rfl,rfl⟩:=hgo;exact⟨hacc,rfl⟩
end
section
attribute [local irreducible] Code.wp wpList Exit.then Exit.inBlock bodyPost A Calls execOp Addr.add
theorem pTypC:∀f,PC 66 [] (fun _=>pTyp f) tyC
 |0,bd,p,n,r,w,x,r',hP,hg=>by simp[pTyp]at hg
 |f+1,bd,p,n,r,w,x,r',hP,hg=>by
  refine enter func66 rfl ntmps66 rfl ?_;refine rx ?_;refine s_allocN (l:=[zI,zT,zS]) rfl (fun w0 q hqq hbq hf0 hs0=>?_);have hP0:=hP.tr0 hf0;have hF0:Fr [p] w w0:=hf0.mono Yhs;have hbd:bd<=w.heap.size:=hP.le;have hpw:p<w.heap.size:=Nat.lt_of_lt_of_le hP.lt hbd;simp only[pTyp]at hg;refine rx ?_;refine s_cE (pSkip [105,110,116] p n _ _ hP0) ?_;rintro w1 ⟨hP1,hf1⟩;have hF1:=hF0.trans hf1 Yhm;have hs1:=hf1.size;have hbq:=hbq.tr hf1 Yho;cases h1:isT [105,110,116] r with
  |true=>
   simp only[h1,nextP,if_true,Option.some.injEq,Prod.mk.injEq]at hg hP1;obtain⟨rfl,rfl⟩:=hg;refine rx ?_;refine s_build [zI,zT,zS] rfl ?_;refine rx ?_;refine s_storeAggB (cs:=[zI,zT,zS]) rfl rfl hbq Yhu rfl rfl (fun u hu hfu hsu=>?_);refine rx ?_;exact retB rfl rfl hu rfl (outC (w0:=w0) hqq Yhn Yhn Yhn hP1 hF1 hfu (tyR.2 ⟨_,rfl,.nil⟩))
  |false=>
  simp only[h1,nextP,Bool.false_eq_true,if_false]at hg hP1;refine rx ?_;refine s_cE (pSkip [98,111,111,108] p n _ _ hP1) ?_;rintro w2 ⟨hP2,hf2⟩;have hF2:=hF1.trans hf2 Yhm;have hs2:=hf2.size;have hbq:=hbq.tr hf2 Yho;cases h2:isT [98,111,111,108] r with
  |true=>
   simp only[h2,nextP,if_true,Option.some.injEq,Prod.mk.injEq]at hg hP2;obtain⟨rfl,rfl⟩:=hg;refine rx ?_;refine s_build [iV 1,zT,zS] rfl ?_;refine rx ?_;refine s_storeAggB (cs:=[iV 1,zT,zS]) rfl rfl hbq Yhu rfl rfl (fun u hu hfu hsu=>?_);refine rx ?_;exact retB rfl rfl hu rfl (outC (w0:=w0) hqq Yhn Yhn Yhn hP2 hF2 hfu (tyR.2 ⟨_,rfl,.nil⟩))
  |false=>
  simp only[h2,nextP,Bool.false_eq_true,if_false]at hg hP2;refine rx ?_;refine s_cE (pSkip [91] p n _ _ hP2) ?_;rintro w3 ⟨hP3,hf3⟩;have hF3:=hF2.trans hf3 Yhm;have hs3:=hf3.size;have hbq:=hbq.tr hf3 Yho;cases h3:isT [91] r with
  |true=>
   simp only[h3,nextP,if_true]at hg hP3;obtain⟨⟨t,r1⟩,h4,hg⟩:=bind_some hg;obtain⟨r2,h5,hg⟩:=bind_some hg;simp only[Option.some.injEq,Prod.mk.injEq]at hg;obtain⟨rfl,rfl⟩:=hg;refine rx ?_;refine s_c1 ((pTypC f) bd p n _ _ _ _ hP3 h4) ?_;rintro cs w4 ⟨hd,hP4,hf4⟩;have hF4:=hF3.trans hf4 Yhm;have hs4:=hf4.size;have hl:cs.length=3:=by rw[hd.len,tyC_len]
   have hbq:=hbq.tr hf4 Yho;refine s_var (l:=[zI,zT,zS]) (cs:=cs) rfl rfl hl hd.one rfl (fun v=>rfl) (fun w5 a hqa hba hf5 hs5=>?_);have hP5:=hP4.tr0 hf5;have hF5:=hF4.trans0 hf5;have hbq:=hbq.tr hf5 Yho;have hd:=RD.keep hd hf5 Yho;refine rx ?_;refine s_cE (cTake hP5 h5) ?_;rintro w6 ⟨hP6,hf6⟩;have hF6:=hF5.trans hf6 Yhm;have hs6:=hf6.size;have hbq:=hbq.tr hf6 Yho;have hba:=hba.tr hf6 Yho;have hd:=RD.keep hd hf6 Yho;refine rx ?_;refine s_loadAggB rfl hba hl ?_;refine s_rows1 rfl hl rfl (fun w7 k hk ho hf7 hs7=>?_);have hP7:=hP6.tr0 hf7;have hF7:=hF6.trans0 hf7;have hbq:=hbq.tr hf7 Yho;have hd:=RD.keep hd hf7 Yho;refine rx ?_;refine s_build [iV 2,zT,.slice (some ⟨k,0,none⟩) 1 1] rfl ?_;have hd7:RD w7 (rg w0) (tyC ⟨2,bst [],[t]⟩) [iV 2,zT,.slice (some ⟨k,0,none⟩) 1 1]:=tyR.2 ⟨_,rfl,drOne ho (hd.down Yhn) Yjo⟩;refine rx ?_;refine s_storeAggB (cs:=[iV 2,zT,.slice (some ⟨k,0,none⟩) 1 1]) rfl rfl hbq Yhu rfl rfl (fun u hu hfu hsu=>?_);refine rx ?_;exact retB rfl rfl hu rfl (outC (w0:=w0) hqq Yhn Yhn Yhn hP7 hF7 hfu hd7)
  |false=>
  simp only[h3,nextP,Bool.false_eq_true,if_false]at hg hP3;obtain⟨⟨t,r1⟩,h4,hg⟩:=bind_some hg;simp only[Option.some.injEq,Prod.mk.injEq]at hg;obtain⟨rfl,rfl⟩:=hg;refine rx ?_;refine s_cE (cTok hP3 h4) ?_;rintro w4 ⟨hP4,hf4⟩;have hF4:=hF3.trans hf4 Yhm;have hs4:=hf4.size;have hbq:=hbq.tr hf4 Yho;refine Yex ?_;refine s_build [iV 3,.string (bst t.text),zS] rfl ?_;refine rx ?_;refine s_storeAggB (cs:=[iV 3,.string (bst t.text),zS]) rfl rfl hbq Yhu rfl rfl (fun u hu hfu hsu=>?_);refine rx ?_;exact retB rfl rfl hu rfl (outC (w0:=w0) hqq Yhn Yhn Yhn hP4 hF4 hfu (tyR.2 ⟨_,rfl,.nil⟩))
theorem pNamesC(f:Nat)(hf:f<=1000000):PL 207 [] (fun _=>pNames f) (fun l=>l.map fun t=>strR (bst t)):=by
 intro bd p n r w x r' hP0 hg;have hbd:bd<=w.heap.size:=hP0.le;have hpw:p<w.heap.size:=Nat.lt_of_lt_of_le hP0.lt hbd;have hF0:Fr [p] w w:=Fr.refl _ _;refine enter func207 rfl ntmps207 rfl ?_;refine rx ?_;simp only[pNames]at hg;refine s_cE (pSkip [40] p n _ _ hP0) ?_;rintro w1 ⟨hP1,hf1⟩;have hF1:=hF0.trans hf1 Yhm;have hs1:=hf1.size;cases h1:isT [40] r with
 |false=>
  simp only[h1,nextP,Bool.false_eq_true,if_false,Option.some.injEq,Prod.mk.injEq]at hg hP1;obtain⟨rfl,rfl⟩:=hg;refine Yeo ?_;exact⟨_,rfl,.nil,hP1,hF1⟩
 |true=>
 simp only[h1,nextP,if_true]at hg hP1;obtain⟨⟨l,r1⟩,h2,hg⟩:=bind_some hg;obtain⟨r2,h3,hg⟩:=bind_some hg;simp only[Option.some.injEq,Prod.mk.injEq]at hg;obtain⟨rfl,rfl⟩:=hg;refine rx ?_;refine c_loopK 5 [3,4] (σ:=Nat×List Bs×List Tk×Bool) (fun s g u=>∃v,g 3=v/\g 4=.bool s.2.2.2/\LI bd p n w (rg w) 9 1 (fun t=>strR (bst t)) pNmGo l r1 s.1 s.2.1 s.2.2.1 s.2.2.2 u v) (fun s=>2*s.1+s.2.2.2.toNat) (f,[],r.tail,true) ⟨_,rfl,rfl,hP1,hF1,.nil,by simpa using hf,fun _=>⟨l,h2,rfl⟩,fun h=>by cases h⟩ ?_;rintro⟨f,acc,r,b⟩ g u ⟨v,h4,h5,hP2,hF2,hL,hlen,ht,hfl⟩;simp only at hP2 hF2 hL hlen ht hfl;rw[eq_upd h4,eq_upd h5];have hs2:=hF2.size;obtain⟨S0,T0,ao0,c0,i0,hb0,_⟩:=id hP2;cases b with
 |false=>
  obtain⟨rfl,rfl⟩:=hfl rfl;refine rx ?_;refine s_cE (cTake hP2 h3) ?_;rintro w3 ⟨hP3,hf3⟩;have hF3:=hF2.trans hf3 Yhm;have hs3:=hf3.size;have hL:=LS.keep hL hf3 Yih;refine Yeo ?_;have hd:=LS.dr hL (k:=1) (fun _=>rfl) Yhn;exact⟨_,rfl,hd,hP3,hF3⟩
 |true=>
 obtain⟨l',hgo,hacc⟩:=ht rfl;cases f with
 |zero=>simp[pNmGo]at hgo
 |succ f=>
 simp only[pNmGo]at hgo;obtain⟨⟨t,r3⟩,h6,hgo⟩:=bind_some hgo;refine rx ?_;refine s_cE (cTok hP2 h6) ?_;rintro w3 ⟨hP3,hf3⟩;have hF3:=hF2.trans hf3 Yhm;have hs3:=hf3.size;have hL:=LS.keep hL hf3 Yih;refine s_fieldV (l:=tkC t) rfl rfl ?_;refine s_pushL hL (fun _=>rfl) rfl rfl rfl (S0:=blks v++rg w) (a:=t.text) (.cons (.c rfl) .nil) (fun b hb=>.inl Yks) rfl rfl rfl Yhv Yhn Yjy (fun v' w4 hL' hf4 hk4=>?_);have hge4:=LS.ge hL (w0:=w) Yin;have hP4:=hP3.tr hf4 (fun k hk=>Nat.le_trans hbd (hge4 k hk));have hF4:=hF3.trans hf4 (fun k hk=>.inr (hge4 k hk));have hs4:=hf4.size;refine rx ?_;refine s_cE (pSkip [44] p n _ _ hP4) ?_;rintro w5 ⟨hP5,hf5⟩;have hF5:=hF4.trans hf5 Yhm;have hs5:=hf5.size;have hL':=LS.keep hL' hf5 Yih;refine rx ?_;obtain⟨e1,e2⟩:=li_end (go:=pNmGo) hgo hacc;exact q_roundK (f,acc++[t.text],nextP (isT [44] r3) r3,isT [44] r3) Yhr ⟨_,rfl,rfl,hP5,hF5,hL',by simp only[List.length_append,List.length_cons,List.length_nil];omega,e1,e2⟩ (by cases isT [44] r3<;>simp<;>omega)
end
section
attribute [local irreducible] Code.wp wpList Exit.then Exit.inBlock bodyPost A Calls execOp Addr.add
theorem pExprsC(f:Nat)(hf:f+1<=1000000)(ih:∀f'<f,PC 68 [] (fun n=>pExpr n f') exC)(e:Bs):PL 206 [.string (bst e)] (fun n=>pExprs n (f+1) e) (fun l=>l.map exC):=by
 intro bd p n r w x r' hP0 hg;have hbd:bd<=w.heap.size:=hP0.le;have hpw:p<w.heap.size:=Nat.lt_of_lt_of_le hP0.lt hbd;have hF0:Fr [p] w w:=Fr.refl _ _;refine enter func206 rfl ntmps206 rfl ?_;refine rx ?_;simp only[pExprs]at hg;refine s_cE (pSkip e p n _ _ hP0) ?_;rintro w1 ⟨hP1,hf1⟩;have hF1:=hF0.trans hf1 Yhm;have hs1:=hf1.size;cases h1:isT e r with
 |true=>
  simp only[h1,nextP,if_true,Option.some.injEq,Prod.mk.injEq]at hg hP1;obtain⟨rfl,rfl⟩:=hg;refine Yeo ?_;exact⟨_,rfl,.nil,hP1,hF1⟩
 |false=>
 simp only[h1,nextP,Bool.false_eq_true,if_false]at hg hP1;obtain⟨⟨l,r1⟩,h2,hg⟩:=bind_some hg;obtain⟨r2,h3,hg⟩:=bind_some hg;simp only[Option.some.injEq,Prod.mk.injEq]at hg;obtain⟨rfl,rfl⟩:=hg;refine rx ?_;refine c_loopK 7 [5,6] (σ:=Nat×List Ex×List Tk×Bool) (fun s g u=>∃v,g 5=v/\g 6=.bool s.2.2.2/\s.1<=f/\LI bd p n w (rg w) 43 7 exC (pExGo n) l r1 s.1 s.2.1 s.2.2.1 s.2.2.2 u v) (fun s=>2*s.1+s.2.2.2.toNat) (f,[],r,true) ⟨_,rfl,rfl,Nat.le_refl _,hP1,hF1,.nil,by simp only[List.length_nil];omega,fun _=>⟨l,h2,rfl⟩,fun h=>by cases h⟩ ?_;rintro⟨f',acc,r,b⟩ g u ⟨v,h4,h5,hff,hP2,hF2,hL,hlen,ht,hfl⟩;simp only at hff hP2 hF2 hL hlen ht hfl;rw[eq_upd h4,eq_upd h5];have hs2:=hF2.size;obtain⟨S0,T0,ao0,c0,i0,hb0,_⟩:=id hP2;cases b with
 |false=>
  obtain⟨rfl,rfl⟩:=hfl rfl;refine rx ?_;refine s_cE (cTake hP2 h3) ?_;rintro w3 ⟨hP3,hf3⟩;have hF3:=hF2.trans hf3 Yhm;have hs3:=hf3.size;have hL:=LS.keep hL hf3 Yih;refine Yeo ?_;have hd:=LS.dr hL (k:=7) exC_len Yhn;exact⟨_,rfl,hd,hP3,hF3⟩
 |true=>
 obtain⟨l',hgo,hacc⟩:=ht rfl;cases f' with
 |zero=>simp[pExGo]at hgo
 |succ f'=>
 simp only[pExGo]at hgo;obtain⟨⟨t,r3⟩,h6,hgo⟩:=bind_some hgo;have hlt:=hL.lt;refine rx ?_;refine s_c1 ((ih f' Yhn) bd p n _ _ _ _ hP2 h6) ?_;rintro cs w3 ⟨hd,hP3,hf3⟩;have hF3:=hF2.trans hf3 Yhm;have hs3:=hf3.size;have hL:=LS.keep hL hf3 Yih;refine s_pushL hL exC_len rfl rfl rfl hd (fun b hb=>.inl (rg_mem.2 (hb.elim (fun h=>hlt b h) (fun h=>by have:=rg_mem.1 h;omega)))) rfl rfl rfl Yhv Yhn Yjy (fun v' w4 hL' hf4 hk4=>?_);have hge4:=LS.ge hL (w0:=w) Yin;have hP4:=hP3.tr hf4 (fun k hk=>Nat.le_trans hbd (hge4 k hk));have hF4:=hF3.trans hf4 (fun k hk=>.inr (hge4 k hk));have hs4:=hf4.size;refine rx ?_;refine s_cE (pSkip [44] p n _ _ hP4) ?_;rintro w5 ⟨hP5,hf5⟩;have hF5:=hF4.trans hf5 Yhm;have hs5:=hf5.size;have hL':=LS.keep hL' hf5 Yih;refine rx ?_;obtain⟨e1,e2⟩:=li_end (go:=pExGo n) hgo hacc;exact q_roundK (f',acc++[t],nextP (isT [44] r3) r3,isT [44] r3) Yhr ⟨_,rfl,rfl,by simp only;omega,hP5,hF5,hL',by simp only[List.length_append,List.length_cons,List.length_nil];omega,e1,e2⟩ (by cases isT [44] r3<;>simp<;>omega)
theorem pBoundsC(f:Nat)(ih:PC 68 [] (fun n=>pExpr n f) exC):PL 205 [] (fun n=>pBounds n f) (fun l=>l.map exC):=by
 intro bd p n r w x r' hP0 hg;have hbd:bd<=w.heap.size:=hP0.le;have hpw:p<w.heap.size:=Nat.lt_of_lt_of_le hP0.lt hbd;have hF0:Fr [p] w w:=Fr.refl _ _;refine enter func205 rfl ntmps205 rfl ?_;refine rx ?_;simp only[pBounds]at hg;obtain⟨⟨t1,r1⟩,h1,hg⟩:=bind_some hg;obtain⟨r2,h2,hg⟩:=bind_some hg;obtain⟨⟨t2,r3⟩,h3,hg⟩:=bind_some hg;simp only[Option.some.injEq,Prod.mk.injEq]at hg;obtain⟨rfl,rfl⟩:=hg;refine s_c1 (ih bd p n _ _ _ _ hP0 h1) ?_;rintro cs w1 ⟨hd,hP1,hf1⟩;have hF1:=hF0.trans hf1 Yhm;have hs1:=hf1.size;have hl:cs.length=7:=by rw[hd.len,exC_len]
 refine s_var (l:=[zI,zT,zI,zS,zS,zS,zI]) (cs:=cs) rfl rfl hl hd.one rfl (fun v=>rfl) (fun w2 a hqa hba hf2 hs2=>?_);have hP2:=hP1.tr0 hf2;have hF2:=hF1.trans0 hf2;have hd:=RD.keep hd hf2 Yho;refine rx ?_;refine s_cE (cTake hP2 h2) ?_;rintro w3 ⟨hP3,hf3⟩;have hF3:=hF2.trans hf3 Yhm;have hs3:=hf3.size;have hba:=hba.tr hf3 Yho;have hd:=RD.keep hd hf3 Yho;refine rx ?_
 ((refine d_begin (fun z=>Fr [p] w3 z) Yhp rfl ?_);obtain⟨w4,hw4⟩:=exq w3.drew;rw[<-hw4];have hf4:Fr [] w3 w4:=hw4▸Fr.drew _ _;have hS4:Fr [p] w3 w4:=hf4.mono Yhs;have hP4:=hP3.tr0 hf4;have hF4:=hF3.trans0 hf4;have hs4:=hf4.size)
 refine d_tx 0 hS4 ?_ (hrun:=by(intro u hu;exact(r_loadC rfl (Cells.ofBlk (hba.tr hu Yho)) hl)));refine d_z 1 hS4 ?_;have hd:=RD.keep hd hf4 Yho;refine d_one (i:=2) rfl Yhp ?_;refine s_c1 (ih bd p n _ _ _ _ hP4 h3) ?_;rintro cs2 w5 ⟨hd2,hP5,hf5⟩;have hF5:=hF4.trans hf5 Yhm;have hs5:=hf5.size;have hl2:cs2.length=7:=by rw[hd2.len,exC_len]
 have hd:=RD.keep hd hf5 Yho;have hS5:=hS4.trans hf5 Yhs;refine wpList_nil (q_held hS5 ?_);refine d_one (i:=3) rfl Yhp ?_;refine s_rows2 rfl rfl hl hl2 rfl (fun w6 k hk ho hf6 hs6=>?_);have hP6:=hP5.tr0 hf6;have hF6:=hF5.trans0 hf6;have hd:=RD.keep hd hf6 Yho;have hd2:=RD.keep hd2 hf6 Yho;have hS6:=hS5.trans hf6 Yhs;refine wpList_nil (q_held hS6 ?_);refine d_one (i:=4) rfl Yhp ?_;refine rx ?_;refine q_held hS6 ?_;refine Yfx ?_;refine Yeo ?_;exact⟨_,rfl,drOwn (rows:=[exC t1,exC t2]) ho (.cons (hd.down Yhn) (.one (hd2.down Yhn))) (by simp[exC_len]) Yhs Yig,hP6,hF6⟩
theorem operatorsC(k:Nat)(h1:1<=k)(h6:k<=6)(w:World):Calls prog 277 #[iV k] w fun e w'=>∃v,e=.returned v/\Own w' 9 1 v (opsR k).length ((opsR k).map fun t=>.string (bst t))/\Fr [] w w':=by
 have hk:k=1\/k=2\/k=3\/k=4\/k=5\/k=6:=by omega
 rcases hk with rfl|rfl|rfl|rfl|rfl|rfl<;>refine enter func277 rfl ntmps277 rfl ?_<;>refine rx ?_
 .refine s_buildS ((opsR 1).map fun t=>.string (bst t)) rfl rfl rfl rfl (fun u ho hf hs=>?_);exact Ybe
 .refine s_buildS ((opsR 2).map fun t=>.string (bst t)) rfl rfl rfl rfl (fun u ho hf hs=>?_);exact Ybe
 . (apply ret1;exact rfl;(conv=>lhs;whnf))
   exact⟨_,rfl,Own.nil _ _ _,Fr.refl _ _⟩
 .refine s_buildS ((opsR 4).map fun t=>.string (bst t)) rfl rfl rfl rfl (fun u ho hf hs=>?_);exact Ybe
 .refine s_buildS ((opsR 5).map fun t=>.string (bst t)) rfl rfl rfl rfl (fun u ho hf hs=>?_);exact Ybe
 .refine s_buildS ((opsR 6).map fun t=>.string (bst t)) rfl rfl rfl rfl (fun u ho hf hs=>?_);exact Ybe
theorem pOperC(k:Nat)(h1:1<=k)(h6:k<=6)(bd p:Nat)(n:Int)(r:List Tk)(w:World)(hP:PS bd w p n r):
 Calls prog 209 #[.pointer (some ⟨p,0,none⟩),iV k] w fun e w'=>e=.returned (.string (bst ((operT k r).getD [])))/\Fr [] w w':=by
 refine enter func209 rfl ntmps209 rfl ?_;refine rx ?_;refine s_c1 (operatorsC k h1 h6 w) ?_;rintro v w1 ⟨ho,hf1⟩;obtain⟨ao,c,rfl⟩:=ho.slice;have hlen:(opsR k).length<=4:=by
  have hk:k=1\/k=2\/k=3\/k=4\/k=5\/k=6:=by omega
  rcases hk with rfl|rfl|rfl|rfl|rfl|rfl<;>decide
 refine rx ?_;refine c_loopK 7 [6] (σ:=Nat) (fun i g u=>g 6=iV i/\i<=(opsR k).length/\((opsR k).drop i).find? (fun o=>isT o r)=operT k r/\Fr [] w1 u) (fun i=>(opsR k).length-i) 0 ⟨rfl,by omega,by simp[operT],Fr.refl _ _⟩ ?_;rintro i g u ⟨h5,hi,he,hfu⟩;rw[eq_upd h5];by_cases hlt:i<(opsR k).length
 case neg=>
  refine Yeo ?_;rw[<-he,List.drop_eq_nil_of_le Yhn];exact⟨rfl,hf1.trans0 hfu⟩
 obtain⟨ad,had,hcell⟩:=src_at (j:=i) (u:=.string (bst (opsR k)[i])) (ho.src.tr0 hfu) (by simp[hlt]);subst had;rw[List.drop_eq_getElem_cons hlt,List.find?_cons]at he;refine rx ?_;rw[Nat.mul_one];refine Ymx ?_;refine s_cE (isC (opsR k)[i] p n r u ((hP.tr0 hf1).tr0 hfu)) ?_;rintro u2 hf2;have hcell2:=(src_at (j:=i) (u:=.string (bst (opsR k)[i])) ((ho.src.tr0 hfu).tr0 hf2) (by simp[hlt]));obtain⟨ad2,had2,hcell2⟩:=hcell2;simp only[Option.some.injEq]at had2;subst had2;cases hq:isT (opsR k)[i] r with
 |true=>
  rw[hq]at he;refine rx ?_;rw[Nat.mul_one];refine s_load rfl hcell2 ?_;refine Yeo ?_;rw[<-he];exact⟨rfl,hf1.trans0 (hfu.trans0 hf2)⟩
 |false=>
  rw[hq]at he;refine rx ?_;exact q_roundK (i+1) Yhr ⟨rfl,by omega,he,hfu.trans0 hf2⟩ Yhn
end
end Go.Proofs.YtmlpcmjmniobdaaGreat
