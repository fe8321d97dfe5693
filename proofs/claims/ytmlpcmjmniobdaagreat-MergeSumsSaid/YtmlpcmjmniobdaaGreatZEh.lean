/-
 Open regions:what the run has checked. It speaks of no program.
-/
import Derived.Test.YtmlpcmjmniobdaaGreatZEb
import Derived.OrdersIn
set_option linter.all false
namespace Go.Ev
open Go.Rf Go.RowKit
section
variable{f:Env}{l m:List Operand}{β:Type}
theorem set_ex{α:Type}(f:Nat):∀(t:Tr α) (k:Nat) (x:α) (c:Tr α->Option β) (r:β),Tr.set f t k x c=some r->∀{γ:Type} (u:Tr α) (y:α) (q:γ),∃u',∀c':Tr α->Option γ,Tr.set f u k y c'=c' u':=by
 induction f with
 |zero=>intro t k x c r h;cases h
 |succ f ih=>
  intro t k x c r h γ u y q;cases k with
  |zero=>cases u with
   |e=>exact⟨_,fun c'=>rfl⟩
   |n v a b d e=>exact⟨_,fun c'=>rfl⟩
  |succ k=>
   have hm:k%4<4:=Nat.mod_lt _ Yhy;have hd:Nat.div k 4=k/4:=rfl;have hmm:Nat.mod k 4=k%4:=rfl;unfold Tr.set cS at h ⊢;simp only[hd,hmm]at h ⊢;rcases sel4_cases (k%4) (sA (cS α β f (k/4))) (sB (cS α β f (k/4))) (sC (cS α β f (k/4))) (sD (cS α β f (k/4))) hm with⟨e,e'⟩|⟨e,e'⟩|⟨e,e'⟩|⟨e,e'⟩
   all_goals
    rw[e']at h;rw[e];simp only[sel4];have h0:∃t' c',Tr.set f t' (k/4) x c'=some r:=by
     cases t with
     |e=>exact⟨_,_,h⟩
     |n v a b c d=>exact⟨_,_,h⟩
    obtain⟨t',c',h1⟩:=h0;cases u with
    |e=>
     obtain⟨u',h2⟩:=ih _ _ _ _ _ h1 (γ:=γ) .e y q;exact⟨_,fun c'=>h2 _⟩
    |n v a b c d=>first
     |(obtain⟨u',h2⟩:=ih _ _ _ _ _ h1 (γ:=γ) a y q;exact⟨.n v u' b c d,fun c'=>h2 _⟩)
     |(obtain⟨u',h2⟩:=ih _ _ _ _ _ h1 (γ:=γ) b y q;exact⟨.n v a u' c d,fun c'=>h2 _⟩)
     |(obtain⟨u',h2⟩:=ih _ _ _ _ _ h1 (γ:=γ) c y q;exact⟨.n v a b u' d,fun c'=>h2 _⟩)
     |(obtain⟨u',h2⟩:=ih _ _ _ _ _ h1 (γ:=γ) d y q;exact⟨.n v a b c u',fun c'=>h2 _⟩)
def Upd(d:Option Nat)(v:SV)(T T':Tr SV):Prop:=∀k,T'.get k=if d=some k then some v else T.get k
theorem setD_two{r:β}{T:Tr SV}{d:Option Nat}{v:SV}{c:Tr SV->Option β}(h:setD T d v c=some r):(∃T',c T'=some r/\Upd d v T T')/\∀U u,∃U',Upd d u U U':=by
 cases d with
 |none=>exact⟨⟨T,h,fun k=>by simp⟩,fun U u=>⟨U,fun k=>by simp⟩⟩
 |some d=>
  refine⟨?_,fun U u=>?_⟩
  .obtain ⟨T',h1,h2⟩:=set_spec _ _ _ _ _ _ h;exact⟨T',h1,fun k=>by rw[h2];simp only[Option.some.injEq,eq_comm]⟩
  .obtain ⟨U',h1⟩:=set_ex _ _ _ _ _ _ h (γ:=Unit) U u ();obtain⟨t',h2,h3⟩:=set_spec 40 U d u (fun _=>some ()) () (h1 _);exact⟨t',fun k=>by rw[h3];simp only[Option.some.injEq,eq_comm]⟩
theorem Upd.er{L:Lay}{T T':Tr SV}{d:Option Nat}{v:SV}{x:Value}(h:Upd d v T T')(hE:ER L T f)(hv:den L v=some x):ER L T' (updo f d x):=by
 cases d with
 |none=>intro k u e;rw[h]at e;simp at e;exact hE k u e
 |some d=>exact hE.upd (fun j=>by rw[h];simp only[Option.some.injEq,eq_comm]) hv
theorem ER.of{L:Lay}{T T':Tr SV}(h:ER L T f)(e:∀k,T'.get k=T.get k):ER L T' f:=fun k v hk=>h k v (by rw[<-e];exact hk)
/-! ### operands -/
theorem cG_get(f:Nat):∀k,(∀T:Tr SV,(cG f k).g T=T.get k)\/(∀T:Tr SV,(cG f k).g T=none):=by
 induction f with
 |zero=>intro k;exact .inr fun T=>rfl
 |succ f ih=>
  intro k;cases k with
  |zero=>exact .inl fun T=>by cases T<;>rfl
  |succ k=>
   have hm:k%4<4:=Nat.mod_lt _ Yhy;have hd:Nat.div k 4=k/4:=rfl;have hmm:Nat.mod k 4=k%4:=rfl;unfold cG;simp only[hd,hmm];rcases ih (k/4)with h|h
   .left;intro T;rcases sel4_cases (k%4) (⟨fun T=>(cG f (k/4)).g T.a⟩:CO) ⟨fun T=>(cG f (k/4)).g T.b⟩ ⟨fun T=>(cG f (k/4)).g T.c⟩ ⟨fun T=>(cG f (k/4)).g T.d⟩ hm with⟨e,e'⟩|⟨e,e'⟩|⟨e,e'⟩|⟨e,e'⟩<;>rw[e']<;>simp only[h]<;>cases T<;>simp[get_e,get_s,e,Tr.a,Tr.b,Tr.c,Tr.d,sel4]
   .right;intro T;rcases sel4_cases (k%4) (⟨fun T=>(cG f (k/4)).g T.a⟩:CO) ⟨fun T=>(cG f (k/4)).g T.b⟩ ⟨fun T=>(cG f (k/4)).g T.c⟩ ⟨fun T=>(cG f (k/4)).g T.d⟩ hm with⟨e,e'⟩|⟨e,e'⟩|⟨e,e'⟩|⟨e,e'⟩<;>rw[e']<;>exact h _
def Agr(T U:Tr SV)(l:List Nat):Prop:=∀t∈l,T.get t=U.get t
section
variable{P:Program}{nt:Nat}{T U:Tr SV}
theorem cO_congr{x:Operand}(h:Agr T U (tmpsOf [x])):(cO nt x).g T=(cO nt x).g U:=by
 cases x with
 |tmp t=>
  have:=h t (by simp[tmpsOf]);show(cond (Nat.blt t nt) (cG 40 t) ⟨fun _=>none⟩).g T=(cond (Nat.blt t nt) (cG 40 t) ⟨fun _=>none⟩).g U;cases Nat.blt t nt with
  |false=>rfl
  |true=>
   rcases cG_get 40 t with e|e
   .exact (e T).trans (this.trans (e U).symm)
   .exact (e T).trans (e U).symm
 |const v=>simp only[cO];cases ofV v<;>rfl
 |_=>rfl
theorem tmpsOf_app:∀(l m:List Operand),tmpsOf (l++m)=tmpsOf l++tmpsOf m
 |[],m=>rfl
 |.tmp t::l,m=>by simp[tmpsOf,tmpsOf_app l m]
 |.const _::l,m=>by simp[tmpsOf,tmpsOf_app l m]
 |.func _::l,m=>by simp[tmpsOf,tmpsOf_app l m]
 |.global _::l,m=>by simp[tmpsOf,tmpsOf_app l m]
theorem Agr.left(h:Agr T U (tmpsOf (l++m))):Agr T U (tmpsOf l):=fun t ht=>h t (by rw[tmpsOf_app];exact List.mem_append_left _ ht)
theorem Agr.right(h:Agr T U (tmpsOf (l++m))):Agr T U (tmpsOf m):=fun t ht=>h t (by rw[tmpsOf_app];exact List.mem_append_right _ ht)
theorem Agr.of(h:Agr T U (tmpsOf m))(hs:∃a b,m=a++l++b):Agr T U (tmpsOf l):=by
 obtain⟨a,b,rfl⟩:=hs;exact h.left.right
theorem cL_congr:∀{l:List Operand},Agr T U (tmpsOf l)->(cL nt l).g T=(cL nt l).g U
 |[],_=>rfl
 |o::l,h=>by
  have h1:=cO_congr (nt:=nt) (Agr.left (l:=[o]) (m:=l) h);have h2:=cL_congr (l:=l) (Agr.right (l:=[o]) (m:=l) h);simp only[cL,h1,h2]
theorem cP_congr:∀{l:List (Nat×Operand)},Agr T U (tmpsOf (l.map (·.2)))->(cP nt l).g T=(cP nt l).g U
 |[],_=>rfl
 |(i,o)::l,h=>by
  have h1:=cO_congr (nt:=nt) (Agr.left (l:=[o]) (m:=l.map (·.2)) h);have h2:=cP_congr (l:=l) (Agr.right (l:=[o]) (m:=l.map (·.2)) h);simp only[cP,h1,h2]
theorem cN_congr{x:Option Operand}(h:Agr T U (tmpsOf x.toList)):(cN nt x).g T=(cN nt x).g U:=by
 cases x with
 |none=>rfl
 |some x=>
  have h1:=cO_congr (nt:=nt) (x:=x) h;simp only[cN,h1]
def CKeq(T U:Tr SV):CK->Prop
 |.pure g=>g T=g U
 |.read g=>g T=g U
 |.fresh g=>g T=g U
 |.mem g=>g T=g U
 |.call g as=>g T=g U/\as T=as U
 |.dfr g=>g T=g U
 |.bad=>True
theorem CKeq.cond{b:Bool}{k:CK}(h:CKeq T U k):CKeq T U (cond b k .bad):=by cases b;exact trivial;exact h
theorem cOp_congr{op:Op}(h:Agr T U (tmpsOf op.operands.toList)):CKeq T U (cOp P nt op):=by
 have one:∀x l m,op.operands.toList=l++[x]++m->(cO nt x).g T=(cO nt x).g U:=fun x l m e=>cO_congr (h.of ⟨l,m,e⟩)
 cases op with
 |move x=>exact one x [] [] rfl
 |assign x=>exact one x [] [] rfl
 |nilCheck x=>have:=one x [] [] rfl;simp only[cOp,CKeq,this]
 |extract x i=>have:=one x [] [] rfl;simp only[cOp,CKeq,this]
 |box t x=>have:=one x [] [] rfl;simp only[cOp,CKeq,this]
 |next x b=>have:=one x [] [] rfl;cases b<;>simp only[cOp,CKeq,this]
 |range t x=>have:=one x [] [] rfl;simp only[cOp,kRange];split<;>simp only[CKeq,this]
 |load t x=>
  have:=one x [] [] rfl;simp only[cOp,kLoad];repeat' split
  all_goals simp only[CKeq,this]
 |fieldAddr s x i=>
  have:=one x [] [] rfl;simp only[cOp,kFA];repeat' split
  all_goals simp only[CKeq,this]
 |field s x i=>
  have:=one x [] [] rfl;simp only[cOp,kField];repeat' split
  all_goals simp only[CKeq,this]
 |unOp o t x=>have:=one x [] [] rfl;simp only[cOp];split<;>simp only[CKeq,this]
 |makeInterface t x=>have:=one x [] [] rfl;simp only[cOp,kIfc];split<;>simp only[CKeq,this]
 |typeAssert x xt t ok=>have:=one x [] [] rfl;simp only[cOp,kAssert];split<;>simp only[CKeq,this]
 |convert s d x=>
  have:=one x [] [] rfl;simp only[cOp,kConv]
  repeat' split
  all_goals simp only[CKeq,this]
 |pick c a b=>
  have h1:=one c [] [a,b] rfl;have h2:=one a [c] [b] rfl;have h3:=one b [c,a] [] rfl;simp only[cOp,CKeq,h1,h2,h3]
 |store t a v=>
  have h1:=one a [] [v] rfl;have h2:=one v [a] [] rfl;simp only[cOp,kStore];split<;>simp only[CKeq,h1,h2]
 |binOp o t a v t2=>
  have h1:=one a [] [v] rfl;have h2:=one v [a] [] rfl;simp only[cOp,CKeq,h1,h2]
 |makeSlice t a v=>
  have h1:=one a [] [v] rfl;have h2:=one v [a] [] rfl;simp only[cOp,kMake]
  repeat' split
  all_goals first|trivial|(refine CKeq.cond ?_;simp only[CKeq,h1,h2])
 |indexAddr t a v=>
  have h1:=one a [] [v] rfl;have h2:=one v [a] [] rfl;simp only[cOp,kIdxA]
  repeat' split
  all_goals simp only[CKeq,h1,h2]
 |index t a v=>
  have h1:=one a [] [v] rfl;have h2:=one v [a] [] rfl;simp only[cOp,kIdx]
  repeat' split
  all_goals simp only[CKeq,h1,h2]
 |lookup t a v ok=>
  have h1:=one a [] [v] rfl;have h2:=one v [a] [] rfl;simp only[cOp,kLookup];split<;>simp only[CKeq,h1,h2]
 |mapUpdate t m k v=>
  have h1:=one m [] [k,v] rfl;have h2:=one k [m] [v] rfl;have h3:=one v [m,k] [] rfl;simp only[cOp,kUpd];split<;>simp only[CKeq,h1,h2,h3]
 |insert t m k v=>
  have h1:=one m [] [k,v] rfl;have h2:=one k [m] [v] rfl;have h3:=one v [m,k] [] rfl;simp only[cOp,kUpd];split<;>simp only[CKeq,h1,h2,h3]
 |build t ps=>
  have h1:(cP nt ps.toList).g T=(cP nt ps.toList).g U:=cP_congr (by simpa[Op.operands]using h);simp only[cOp,kBuild]
  repeat' split
  all_goals simp only[CKeq,h1]
 |buildSlice t n ps=>
  have h1:(cP nt ps.toList).g T=(cP nt ps.toList).g U:=cP_congr (by simpa[Op.operands]using h);simp only[cOp,kRow]
  repeat' split
  all_goals first|trivial|(refine CKeq.cond ?_;simp only[CKeq,h1])
 |makeFunc fn a c=>
  have e:(Op.makeFunc fn a c).operands.toList=a.toList++c.toList:=by simp[Op.operands]
  rw[e]at h;have h1:=cL_congr (nt:=nt) h.left;have h2:=cL_congr (nt:=nt) h.right;cases fn<;>simp only[cOp,CKeq,h1,h2]
 |makeMap t r=>cases r<;>simp only[cOp,CKeq]
 |alloc t=>simp only[cOp];split<;>simp only[CKeq]
 |slice t x lo hi mx=>
  cases mx with
  |some m=>trivial
  |none=>
   have e:(Op.slice t x lo hi none).operands.toList=[x]++lo.toList++hi.toList:=by simp[Op.operands]
   rw[e]at h;have h1:=cO_congr (nt:=nt) h.left.left;have h2:=cN_congr (nt:=nt) h.left.right;have h3:=cN_congr (nt:=nt) h.right;simp only[cOp,CKeq,h1,h2,h3]
 |defer c=>
  obtain⟨callee,args,ats⟩:=c;cases callee with
  |value x=>
   have e:(Op.defer {callee:=.value x,args:=args,argTypes:=ats}).operands.toList=[x]++args.toList:=by simp[Op.operands,Call.operands]
   rw[e]at h;have h1:=cO_congr (nt:=nt) h.left;simp only[cOp]
   split<;>simp only[CKeq,h1]
  |_=>trivial
 |call c=>
  obtain⟨callee,args,ats⟩:=c;cases callee with
  |value x=>
   have e:(Op.call {callee:=.value x,args:=args,argTypes:=ats}).operands.toList=[x]++args.toList:=by simp[Op.operands,Call.operands]
   rw[e]at h;exact⟨cO_congr h.left,cL_congr h.right⟩
  |invoke x m=>trivial
  |builtin b=>
   have e:(Op.call {callee:=.builtin b,args:=args,argTypes:=ats}).operands.toList=args.toList:=by simp[Op.operands,Call.operands]
   rw[e]at h;simp only[cOp,kCall]
   split
   .rename_i x t hx ht;rw[hx]at h;have h1:=cO_congr (nt:=nt) h
    split
    .simp only[kLen];split<;>simp only[CKeq,h1]
    .trivial
   .rename_i x y t u hx ht;rw[hx]at h;have h1:=cO_congr (nt:=nt) (Agr.left (l:=[x]) (m:=[y]) h);have h2:=cO_congr (nt:=nt) (Agr.right (l:=[x]) (m:=[y]) h)
    split
    .simp only[kApp]
     repeat' split
     all_goals first|trivial|(refine CKeq.cond ?_;simp only[CKeq,h1,h2])
    .simp only[kCopy]
     repeat' split
     all_goals simp only[CKeq,h1,h2]
    .simp only[CKeq,h1,h2]
    .simp only[CKeq,h1,h2]
    .trivial
   .trivial
 |_=>trivial
end
end
section
variable{af:Array Edge}{f:Env}{Q:Exit->Act->World->Prop}{s s':St}{ps:String}{w:World}
section
variable{P:Program}{ih:IH}{nt:Nat}{ro:Option Nat}{r:Option Nat}
theorem cOp_defer{op:Op}{k:CK}(h:cOp P nt op=k)(hd:∃c,op=.defer c):(∃g,k=.dfr g)\/k=.bad:=by
 obtain⟨c,rfl⟩:=hd;simp only[cOp]at h
 repeat' split at h
 all_goals first|exact .inl ⟨_,h.symm⟩|exact .inr h.symm
def CK.cd:CK->Bool
 |.call _ _=>true
 |.dfr _=>true
 |_=>false
theorem cOp_other{op:Op}{k:CK}(hc:cOp P nt op=k)(h1:∀c,op≠.call c)(h2:∀c,op≠.defer c):k.cd=false:=by
 cases op with
 |call c=>exact absurd rfl (h1 c)
 |defer c=>exact absurd rfl (h2 c)
 |fieldAddr s x i=>
  simp only[cOp,kFA]at hc;repeat' split at hc
  all_goals (subst hc;rfl)
 |field s x i=>
  simp only[cOp,kField]at hc;repeat' split at hc
  all_goals (subst hc;rfl)
 |unOp op t x=>simp only[cOp]at hc;split at hc<;>(subst hc;rfl)
 |makeInterface t x=>simp only[cOp,kIfc]at hc;split at hc<;>(subst hc;rfl)
 |makeFunc fn a c=>cases fn<;>(subst hc;rfl)
 |build t ps=>
  simp only[cOp,kBuild]at hc;repeat' split at hc
  all_goals (subst hc;rfl)
 |indexAddr t x i=>
  simp only[cOp,kIdxA]at hc;repeat' split at hc
  all_goals (subst hc;rfl)
 |index t x i=>
  simp only[cOp,kIdx]at hc;repeat' split at hc
  all_goals (subst hc;rfl)
 |slice t x lo hi mx=>cases mx<;>(subst hc;rfl)
 |typeAssert x xt t ok=>simp only[cOp,kAssert]at hc;split at hc<;>(subst hc;rfl)
 |load t x=>
  simp only[cOp,kLoad]at hc;repeat' split at hc
  all_goals (subst hc;rfl)
 |lookup t x k ok=>simp only[cOp,kLookup]at hc;split at hc<;>(subst hc;rfl)
 |alloc t=>simp only[cOp]at hc;split at hc<;>(subst hc;rfl)
 |buildSlice t n ps=>
  simp only[cOp,kRow]at hc
  repeat' split at hc
  all_goals first|(subst hc;rfl)|(unfold cond at hc;split at hc<;>(subst hc;rfl))
 |makeSlice t n c=>
  simp only[cOp,kMake]at hc
  repeat' split at hc
  all_goals first|(subst hc;rfl)|(unfold cond at hc;split at hc<;>(subst hc;rfl))
 |makeMap t r=>cases r<;>(subst hc;rfl)
 |convert s t x=>
  simp only[cOp,kConv]at hc
  repeat' split at hc
  all_goals (subst hc;rfl)
 |store t a x=>simp only[cOp,kStore]at hc;split at hc<;>(subst hc;rfl)
 |mapUpdate t m k x=>simp only[cOp,kUpd]at hc;split at hc<;>(subst hc;rfl)
 |insert t m k x=>simp only[cOp,kUpd]at hc;split at hc<;>(subst hc;rfl)
 |range t x=>simp only[cOp,kRange]at hc;split at hc<;>(subst hc;rfl)
 |next it b=>cases b<;>(subst hc;rfl)
 |_=>subst hc;rfl
theorem sem_eq{op:Op}{d:Option Tmp}{ty:TypeId}{gd:Option (Nat×Bool)}(ρ:Operand->Value)(h:∀c,op≠.defer c):Oper.semAt r ρ ⟨d,op,ty,ps,af,gd⟩=execOp ρ ⟨d,op,ty,ps,af,gd⟩:=by
 cases r with
 |none=>exact Oper.semAt_none _ _
 |some l=>exact Oper.semAt_some l ρ _ h
theorem op_sound2(I:IHok P ih){L:Lay}{T Tr:Tr SV}{ds:List DF}{h:H}{D:List Deferred}{op:Op}{d:Option Tmp}{ty:TypeId}{gd:Option (Nat×Bool)}{next:Act->World->Prop}
 (S:Sim L ⟨Tr,ds,h⟩ f D w) (hag:Agr T Tr (tmpsOf op.operands.toList)) (hro:RoR L ro r) (hk:(stK ro d (cOp P nt op)).r ih ⟨T,ds,h⟩=some s')
 (hn:∀L' f' D' w' Tr' v,Sim L' ⟨Tr',s'.ds,s'.h⟩ f' D' w'->Upd d v T s'.env->Upd d v Tr Tr'->Ext L h w L' s'.h w'->next (@A nt f' ⟨D'⟩) w'):
 Oper.uponIn (Fc r) 0 P ⟨d,op,ty,ps,af,gd⟩ (@A nt f ⟨D⟩) next Q ((Oper.semAt (Fc r).round (@A nt f ⟨D⟩).eval ⟨d,op,ty,ps,af,gd⟩).run P w):=by
 have hcg:=cOp_congr (P:=P) (nt:=nt) hag;obtain⟨hE,hD,R⟩:=S;simp only at hE hD R;have hev:(@A nt f ⟨D⟩).eval=ev nt f:=A_eval (D:=⟨D⟩) nt f;rw[hev];have hput:∀x,(@A nt f ⟨D⟩).put d x= @A nt (updo f d x) ⟨D⟩:=fun x=>A_put (D:=⟨D⟩) nt f d x
 have val:∀(x:Value) (w':World) (L':Lay) (v:SV) (h':H),(∀c,op≠.defer c)->(execOp (ev nt f) ⟨d,op,ty,ps,af,gd⟩).run P w=.ok (.value x) w'->den L' v=some x->Rep L' h' w'->Ext L h w L' h' w'->(setD T d v fun T=>some ⟨T,ds,h'⟩)=some s'->
  Oper.uponIn (Fc r) 0 P ⟨d,op,ty,ps,af,gd⟩ (@A nt f ⟨D⟩) next Q ((Oper.semAt (Fc r).round (ev nt f) ⟨d,op,ty,ps,af,gd⟩).run P w):=by
  intro x w' L' v h' hnd hr hv hR hX hs;obtain⟨⟨T',e,hu⟩,hex⟩:=setD_two hs;cases e
  obtain⟨Tr',hu'⟩:=hex Tr v;rw[sem_eq _ hnd,hr];show next ((@A nt f ⟨D⟩).put d x) w';rw[hput];exact hn L' _ D w' Tr' v ⟨hu'.er (hE.mono hX.le) hv,hD.mono hX.le,hR⟩ hu hu' hX
 generalize hc:cOp P nt op=k at hk hcg;have hnd:(∀g,k≠.dfr g)->k≠.bad->∀c,op≠.defer c:=fun h1 h2 c e=>by
  rcases cOp_defer hc ⟨c,e⟩with⟨g,hg⟩|hg
  .exact h1 g hg
  .exact h2 hg
 cases k with
 |bad=>simp only[stK]at hk;cases hk
 |pure g=>
  simp only[stK]at hk;rw[show g T=g Tr from hcg]at hk
  split at hk
  .rename_i v hv;obtain⟨x,h1,h2⟩:=pure_spec hc hE hv;exact val x w L v h (hnd Yhs Yhs) (h2 _ _ _ _ _ _) h1 R (Ext.refl _ _ _) hk
  .cases hk
 |read g=>
  simp only[stK]at hk;rw[show g T=g Tr from hcg]at hk
  split at hk
  .rename_i v hv;obtain⟨x,h1,h2⟩:=read_spec hc hE R hv;exact val x w L v h (hnd Yhs Yhs) (h2 _ _ _ _ _) h1 R (Ext.refl _ _ _) hk
  .cases hk
 |fresh g=>
  simp only[stK]at hk;rw[show g T=g Tr from hcg]at hk
  split at hk
  .rename_i b nm hv;obtain⟨h',hk,hn',hg'⟩:=new_spec hk;obtain⟨w',c,x,F⟩:=fresh_spec hc hE hv w;have hL:=R.no (i:=h.nx) (Nat.le_refl _);obtain⟨q1,q2⟩:=F.rep (updL L h.nx (w.heap.size,c)) h.nx (updL_le hL) (updL_same _ _ _);obtain⟨R',X'⟩:=R.new' (Nat.le_refl _) F.size hn' hg' F.fr q1;exact val x w' _ _ h' (hnd Yhs Yhs) (F.run _ _ _ _ _) q2 R' X' hk
  .cases hk
 |mem g=>
  simp only[stK]at hk;rw[show g T=g Tr from hcg]at hk;obtain⟨v,h',L',w',x,e,R',X',hv,hr⟩:=mut_spec hc hE R hk;rcases hr with hr|⟨rfl,hr⟩
  .exact val x w' L' v h' (hnd Yhs Yhs) (hr _ _ _ _ _) hv R' X' e
  .obtain ⟨⟨T',e,hu⟩,hex⟩:=setD_two e;cases e
   obtain⟨Tr',hu'⟩:=hex Tr v;rw[sem_eq _ (hnd Yhs Yhs),hr];show next ((@A nt f ⟨D⟩).put d undef) w';rw[hput];exact hn L' _ D w' Tr' v ⟨hu'.er (hE.mono X'.le) hv,hD.mono X'.le,R'⟩ hu hu' X'
 |call g as=>
  simp only[stK]at hk;rw[show g T=g Tr from hcg.1,show as T=as Tr from hcg.2]at hk;have hcall:∃x args ats,op=.call {callee:=.value x,args:=args,argTypes:=ats}/\g=(cO nt x).g/\as=(cL nt args.toList).g:=by
   by_cases hcl:∃c,op=.call c
   .obtain ⟨⟨callee,args,ats⟩,rfl⟩:=hcl;cases callee with
    |value x=>simp only[cOp,kCall]at hc;cases hc;exact⟨x,args,ats,rfl,rfl,rfl⟩
    |invoke x m=>simp only[cOp,kCall]at hc;cases hc
    |builtin b=>
     simp only[cOp,kCall]at hc
     split at hc
     .split at hc
      .simp only[kLen]at hc
       split at hc<;>cases hc
      .cases hc
     .split at hc
      .simp only[kApp]at hc;exact Ymd
      .simp only[kCopy]at hc
       repeat' split at hc
       all_goals cases hc
      .cases hc
      .cases hc
      .cases hc
     .cases hc
   .have:=cOp_other hc (fun c e=>hcl ⟨c,e⟩) (hnd Yhs Yhs);cases this
  obtain⟨x,args,ats,rfl,rfl,rfl⟩:=hcall;have hnd':=hnd Yhs Yhs;rw[sem_eq _ hnd'];unfold callV at hk
  split at hk
  .rename_i k a cap hx
   split at hk
   .rename_i vs hvs
    split at hk
    .rename_i v h' hf;obtain⟨xa,xc,d1,d2,d3⟩:=den_fn (cO_spec hE hx);have d4:=cL_spec hE hvs;obtain⟨⟨fn,g1,g2,g3⟩,hC⟩:=I.f _ _ _ _ _ hf L w _ R (denL_app (denL_app d1 d4) d2);have g2':¬fn.name= "runtime.NumGoroutine":=by simpa using g2
     have g3':¬fn.body=none:=by intro e;rw[e]at g3;cases g3
     have hr:(execOp (ev nt f) ⟨d,.call {callee:=.value x,args:=args,argTypes:=ats},ty,ps,af,gd⟩).run P w=.ok (.enter k (xa++args.toList.map (ev nt f)++xc).toArray) w:=by
      have e1:args.map (ev nt f)=(args.toList.map (ev nt f)).toArray:=by rw[<-Array.toList_map,Array.toArray_toList]
      simp only[execOp,resolve,d3,Deferred.ofValue];simp[invoke,callFunc,g1,g2',g3',e1]
     rw[hr];refine⟨fun hd=>by simp[Fence.wide]at hd,?_⟩;have hC':CallsIn (Fc r) (0-1) P k (xa++args.toList.map (ev nt f)++xc).toArray w _:=(callsIn_wide (n:=0-1)).2 hC;refine CallsIn.mono hC' ?_;rintro e w' ⟨L',y,rfl,q1,q2,q3⟩;obtain⟨⟨T',e,hu⟩,hex⟩:=setD_two hk;exact Ymj
    .cases hk
   .cases hk
  .rename_i l hx
   split at hk
   .rename_i vs hvs;obtain⟨b,d1,d2⟩:=den_yld (cO_spec hE hx);have d4:=cL_spec hE hvs;obtain⟨fn,tmps,asg,body,hy,hR⟩:=round_spec (r:=r) I R d1 d4 hk;have hr:(execOp (ev nt f) ⟨d,.call {callee:=.value x,args:=args,argTypes:=ats},ty,ps,af,gd⟩).run P w=.ok (.round b.1 fn tmps asg body) w:=by
     have e1:args.map (ev nt f)=(args.toList.map (ev nt f)).toArray:=by rw[<-Array.toList_map,Array.toArray_toList]
     simp only[execOp,resolve,d2,Deferred.ofValue];simp[invoke,e1,hy]
    rw[hr];refine⟨fun hd=>by simp[Fence.wide]at hd,?_⟩;refine RoundIn.mono hR ?_;rintro e w' ⟨L',v,y,h',rfl,q1,q2,q3,q4⟩;obtain⟨⟨T',e,hu⟩,hex⟩:=setD_two q4;exact Ymj
   .cases hk
  .cases hk
 |dfr g=>
  cases ro with
  |some l=>simp only[stK]at hk;cases hk
  |none=>
   have hr0:r=none:=hro;subst hr0;simp only[stK]at hk;rw[show g T=g Tr from hcg]at hk
   split at hk
   .rename_i k cap hx;have hdf:∃x ats,op=.defer {callee:=.value x,args:=#[],argTypes:=ats}/\g=(cO nt x).g:=by
     by_cases hdl:∃c,op=.defer c
     .obtain ⟨⟨callee,args,ats⟩,rfl⟩:=hdl;cases callee with
      |value x=>
       simp only[cOp]at hc
       split at hc
       .rename_i ha;cases hc
        have:args=#[]:=by rw[<-Array.toList_inj];simpa using ha
        subst this;exact⟨x,ats,rfl,rfl⟩
       .cases hc
      |_=>cases hc
     .by_cases hcl:∃c,op=.call c
      .obtain ⟨⟨callee,args,ats⟩,rfl⟩:=hcl;simp only[cOp,kCall]at hc
       repeat' split at hc
       all_goals first|(cases hc;done)|skip
       all_goals first|(simp only[kLen]at hc;split at hc<;>cases hc)|(simp only[kApp]at hc;repeat' split at hc)|(simp only[kCopy]at hc;repeat' split at hc)
       all_goals first|(cases hc;done)|(unfold cond at hc;split at hc<;>cases hc)
      .have:=cOp_other hc (fun c e=>hcl ⟨c,e⟩) (fun c e=>hdl ⟨c,e⟩);cases this
    obtain⟨x,ats,rfl,rfl⟩:=hdf;obtain⟨xa,xc,d1,d2,d3⟩:=den_fn (cO_spec hE hx);have:xa=[]:=by rw[denL_nil]at d1;simpa using d1.symm
    subst this;have hr:(execOp (ev nt f) ⟨d,.defer {callee:=.value x,args:=#[],argTypes:=ats},ty,ps,af,gd⟩).run P w=.ok (.defer {target:=.fn (.func k) xc.toArray,args:=#[]}) w:=by
     simp[execOp,resolve,d3,Deferred.ofValue]
    obtain⟨⟨T',e,hu⟩,hex⟩:=setD_two hk;cases e
    obtain⟨Tr',hu'⟩:=hex Tr (.tup []);rw[show Oper.semAt (Fc none).round (ev nt f) _=_ from Oper.semAt_none _ _,hr];show next (({@A nt f ⟨D⟩with defers:=_::D}:Act).put d undef) w;have h1:(({@A nt f ⟨D⟩with defers:={target:=.fn (.func k) xc.toArray,args:=#[]}::D}:Act).put d undef)= @A nt (updo f d undef) ⟨{target:=.fn (.func k) xc.toArray,args:=#[]}::D⟩:=A_put (D:=⟨{target:=.fn (.func k) xc.toArray,args:=#[]}::D⟩) nt f d undef;rw[h1];exact hn L _ _ w Tr' _ ⟨hu'.er hE (den_undef L),.fn d2 hD,R⟩ hu hu' (Ext.refl _ _ _)
   .cases hk
theorem op_sound(I:IHok P ih){L:Lay}{D:List Deferred}{op:Op}{d:Option Tmp}{ty:TypeId}{gd:Option (Nat×Bool)}{next:Act->World->Prop}
 (S:Sim L s f D w) (hro:RoR L ro r) (hk:(stK ro d (cOp P nt op)).r ih s=some s')
 (hn:∀L' f' D' w',Sim L' s' f' D' w'->Ext L s.h w L' s'.h w'->next (@A nt f' ⟨D'⟩) w'):
 Oper.uponIn (Fc r) 0 P ⟨d,op,ty,ps,af,gd⟩ (@A nt f ⟨D⟩) next Q ((Oper.semAt (Fc r).round (@A nt f ⟨D⟩).eval ⟨d,op,ty,ps,af,gd⟩).run P w):=by
 refine op_sound2 (T:=s.env) (Tr:=s.env) (ds:=s.ds) (h:=s.h) I S (fun _ _=>rfl) hro hk fun L' f' D' w' Tr' v S' hu hu' X'=>hn L' f' D' w' ⟨S'.e.of fun k=>(hu k).trans (hu' k).symm,S'.d,S'.r⟩ X'
/-! ### guards, lists -/
theorem want_spec{L:Lay}{T:Tr SV}{D:List Deferred}{ops:Array Oper}{o oj:Oper}{j t:Nat}{want q:Bool}(hE:ER L T f)(hg:o.guard=some (j,want))(hj:ops.toList[j]?=some oj)(ht:oj.dst=some t)(h:wantV want ((cO nt (.tmp t)).g T)=some q):Region.wanted o (yielded ops (@A nt f ⟨D⟩).tmps)=q:=by
 have hy:=yld_eq (D:=⟨D⟩) ops.toList nt f j;rw[Array.toArray_toList]at hy;unfold Region.wanted;rw[hg];show(yielded ops (@A nt f ⟨D⟩).tmps j==some want)=q;rw[hy];unfold yld;rw[hj];simp only[ht];unfold wantV at h
 split at h
 .rename_i b hb;cases h
  have h1:=den_bool (cO_spec hE hb);have h2:cond (Nat.blt t nt) (f t) undef=.bool b:=h1;cases hlt:Nat.blt t nt with
  |false=>rw[hlt]at h2;cases h2
  |true=>
   rw[hlt]at h2;simp only[cond_true]at h2 ⊢;rw[h2];cases b<;>cases want<;>rfl
 .rename_i hb;cases h
  have h1:=cO_spec hE hb;have h2:cond (Nat.blt t nt) (f t) undef=undef:=by
   have:=(den_undef L).symm.trans h1;exact(Option.some.inj this).symm
  cases hlt:Nat.blt t nt with
  |false=>simp
  |true=>
   rw[hlt]at h2;simp only[cond_true]at h2 ⊢;rw[h2];rfl
 .cases h
theorem step_sound(I:IHok P ih){L:Lay}{D:List Deferred}{ops:Array Oper}{o:Oper}{K:Act->World->Prop}(S:Sim L s f D w)(hro:RoR L ro r)(hk:(cStep P ro nt ops.toList o).r ih s=some s')
 (hn:∀L' f' D' w',Sim L' s' f' D' w'->Ext L s.h w L' s'.h w'->K (@A nt f' ⟨D'⟩) w'):
 if Region.wanted o (yielded ops (@A nt f ⟨D⟩).tmps) then o.wpIn (Fc r) 0 P (@A nt f ⟨D⟩) w K Q else(∀g,o.about P w (@A nt f ⟨D⟩).eval=some g->(Fc r).fn g)/\K ((@A nt f ⟨D⟩).put o.dst undef) w:=by
 obtain⟨d,op,ty,ps,af,gd⟩:=o;unfold cStep at hk;cases gd with
 |none=>
  simp only[Region.wanted,if_true];exact⟨fun _ _=>trivial,op_sound I S hro hk hn⟩
 |some jw=>
  obtain⟨j,want⟩:=jw;simp only at hk;cases hj:ops.toList[j]? with
  |none=>rw[hj]at hk;cases hk
  |some oj=>
   rw[hj]at hk;simp only at hk;cases ht:oj.dst with
   |none=>rw[ht]at hk;cases hk
   |some t=>
    rw[ht]at hk;simp only at hk;cases hq:wantV want ((cO nt (.tmp t)).g s.env)with
    |none=>rw[hq]at hk;cases hk
    |some q=>
     rw[hq]at hk;have hw:=want_spec (D:=D) (o:=⟨d,op,ty,ps,af,some (j,want)⟩) S.e rfl hj ht hq;rw[hw];cases q with
     |true=>
      simp only[if_true];exact⟨fun _ _=>trivial,op_sound I S hro hk hn⟩
     |false=>
      simp only[Bool.false_eq_true,if_false];refine⟨fun _ _=>trivial,?_⟩;obtain⟨T,ds,h⟩:=s;simp only at hk;obtain⟨T',e,hE'⟩:=setD_spec hk S.e (den_undef L);cases e
      have hput:(@A nt f ⟨D⟩).put d undef= @A nt (updo f d undef) ⟨D⟩:=A_put (D:=⟨D⟩) nt f d undef;rw[hput];exact hn L _ D w ⟨hE',S.d,S.r⟩ (Ext.refl _ _ _)
theorem list_sound(I:IHok P ih){ops:Array Oper}:∀{l:List Oper} {L:Lay} {s s':St} {f:Env} {D:List Deferred} {w:World},Sim L s f D w->RoR L ro r->(cOps P ro nt ops.toList l).r ih s=some s'->
 (∀L' f' D' w',Sim L' s' f' D' w'->Ext L s.h w L' s'.h w'->Q .normal (@A nt f' ⟨D'⟩) w')->wpListIn (Fc r) 0 P ops Q l (@A nt f ⟨D⟩) w
 |[],L,s,s',f,D,w,S,hro,hk,hn=>by
  cases hk
  exact hn L f D w S (Ext.refl _ _ _)
 |o::l,L,s,s',f,D,w,S,hro,hk,hn=>by
  unfold cOps at hk;simp only at hk
  split at hk
  .rename_i s1 h1;show(if _ then _ else _);exact step_sound I S hro h1 fun L1 f1 D1 w1 S1 X1=>list_sound I S1 (hro.mono X1.le) hk fun L' f' D' w' S' X'=>hn L' f' D' w' S' (X1.trans X')
  .cases hk
end
end
section
variable{ops:List Oper}{i m:Nat}
mutual
theorem beqS_eq:(a b:SV)->beqS a b=true->a=b
 |.bool a,b,h=>by cases b<;>first|(simp[beqS]at h;done)|(rename_i c;cases a<;>cases c<;>first|rfl|(simp[beqS]at h;done))
 |.int k n,b,h=>by
  cases b<;>first|(simp[beqS]at h;done)|skip
  rename_i k' n';simp only[beqS,Bool.and_eq_true,ieq_eq,decide_eq_true_eq]at h;obtain⟨h1,h2⟩:=h;rw[kbeq_eq h1,h2]
 |.str s,b,h=>by
  cases b<;>first|(simp[beqS]at h;done)|skip
  rename_i u;simp only[beqS,beqB_eq,decide_eq_true_eq]at h;rw[h]
 |.ptr i o,b,h=>by
  cases b<;>first|(simp[beqS]at h;done)|skip
  simp only[beqS,Bool.and_eq_true,nbeq,decide_eq_true_eq]at h;rw[h.1,h.2]
 |.pnil,b,h=>by cases b<;>first|rfl|(simp[beqS]at h;done)
 |.slc i e l z,b,h=>by
  cases b<;>first|(simp[beqS]at h;done)|skip
  simp only[beqS,Bool.and_eq_true,nbeq,decide_eq_true_eq]at h;rw[h.1.1,h.1.2,h.2.1,h.2.2]
 |.esl i e l z,b,h=>by
  cases b<;>first|(simp[beqS]at h;done)|skip
  simp only[beqS,Bool.and_eq_true,nbeq,decide_eq_true_eq]at h;rw[h.1.1,h.1.2,h.2.1,h.2.2]
 |.asl i e l z,b,h=>by
  cases b<;>first|(simp[beqS]at h;done)|skip
  simp only[beqS,Bool.and_eq_true,nbeq,decide_eq_true_eq]at h;rw[h.1.1,h.1.2,h.2.1,h.2.2]
 |.snil,b,h=>by cases b<;>first|rfl|(simp[beqS]at h;done)
 |.map i,b,h=>by
  cases b<;>first|(simp[beqS]at h;done)|skip
  simp only[beqS,nbeq,decide_eq_true_eq]at h;rw[h]
 |.mnil,b,h=>by cases b<;>first|rfl|(simp[beqS]at h;done)
 |.yld i,b,h=>by
  cases b<;>first|(simp[beqS]at h;done)|skip
  simp only[beqS,nbeq,decide_eq_true_eq]at h;rw[h]
 |.fnil,b,h=>by cases b<;>first|rfl|(simp[beqS]at h;done)
 |.fn f a c,b,h=>by
  cases b<;>first|(simp[beqS]at h;done)|skip
  rename_i g a' c';simp only[beqS,Bool.and_eq_true,nbeq,decide_eq_true_eq]at h;rw[h.1,beqL_eq a a' h.2.1,beqL_eq c c' h.2.2]
 |.ifc t v,b,h=>by
  cases b<;>first|(simp[beqS]at h;done)|skip
  rename_i t' v';simp only[beqS,Bool.and_eq_true,nbeq,decide_eq_true_eq]at h;rw[h.1,beqS_eq v v' h.2]
 |.inil,b,h=>by cases b<;>first|rfl|(simp[beqS]at h;done)
 |.agg l,b,h=>by
  cases b<;>first|(simp[beqS]at h;done)|skip
  rename_i l';simp only[beqS]at h;rw[beqL_eq l l' h]
 |.tup l,b,h=>by
  cases b<;>first|(simp[beqS]at h;done)|skip
  rename_i l';simp only[beqS]at h;rw[beqL_eq l l' h]
theorem beqL_eq:(a b:List SV)->beqS.beqL a b=true->a=b
 |[],b,h=>by cases b<;>first|rfl|(simp[beqS.beqL]at h;done)
 |x::l,b,h=>by
  cases b<;>first|(simp[beqS.beqL]at h;done)|skip
  rename_i y m;simp only[beqS.beqL,Bool.and_eq_true]at h;rw[beqS_eq x y h.1,beqL_eq l m h.2]
end
theorem binds_any(e:Edge):Region.binds .any e=bindsB e:=by
 unfold Region.binds bindsB;cases e.ground<;>rfl
theorem depsIn_spec:∀{l:List Edge},depsIn m l=true↔∀e∈l,bindsB e=true->Nat.testBit m e.on=true
 |[]=>by simp[depsIn]
 |e::l=>by
  unfold depsIn;cases hb:bindsB e with
  |false=>simp only[cond_false,depsIn_spec (l:=l),List.mem_cons,forall_eq_or_imp,hb];simp
  |true=>
   cases ht:Nat.testBit m e.on with
   |false=>simp[hb,ht]
   |true=>simp only[cond_true,depsIn_spec (l:=l),List.mem_cons,forall_eq_or_imp,hb,ht];simp
theorem waits_spec:∀{l:List Edge},waits i l=true↔∃e∈l,bindsB e=true/\e.on=i
 |[]=>by simp[waits]
 |e::l=>by
  unfold waits;cases hb:bindsB e with
  |false=>simp[waits_spec (l:=l),hb]
  |true=>
   by_cases h:e.on=i
   .simp [h,hb,nbeq]
   .simp [h,hb,nbeq,waits_spec (l:=l)]
theorem memN_spec{d:Nat}:∀{l:List Nat},memN d l=true↔d∈l
 |[]=>by simp[memN]
 |a::l=>by
  unfold memN;by_cases h:a=d
  .simp [h,nbeq]
  .simp [h,nbeq,memN_spec (l:=l),Ne.symm h]
theorem dstIs_spec{d:Nat}{x:Option Nat}:dstIs d x=true↔x=some d:=by
 cases x with
 |none=>simp[dstIs]
 |some a=>simp[dstIs,nbeq]
def Apart(ops:List Oper):Prop:=∀k ok s,ops[k]?=some ok->ok.dst=some s->∀j oj,ops[j]?=some oj->(s∈rdsOf ops oj->waits k oj.after.toList=true\/waits j ok.after.toList=true)/\(oj.dst=some s->j=k)
theorem ok1_spec{k d:Nat}{af:List Edge}:∀{l:List Oper} {n:Nat},ok1 ops k d af l n=true->∀q o,l[q]?=some o->(d∈rdsOf ops o->waits k o.after.toList=true\/waits (n+q) af=true)/\(o.dst=some d->n+q=k)
 |[],n,h,q,o,hq=>by simp at hq
 |a::l,n,h,q,o,hq=>by
  simp only[ok1,Bool.and_eq_true]at h;obtain⟨h1,h2,h3⟩:=h;cases q with
  |zero=>
   simp only[List.getElem?_cons_zero,Option.some.injEq]at hq;subst hq;refine⟨fun hm=>?_,fun hd=>?_⟩
   .rw [memN_spec.2 hm]at h1;simpa using h1
   .rw [dstIs_spec.2 hd]at h2;simpa[nbeq]using h2
  |succ q=>
   rw[List.getElem?_cons_succ]at hq;have:=ok1_spec h3 q o hq;rw[show n+(q+1)=n+1+q by omega];exact this
theorem okS_spec:∀{l:List Oper} {n:Nat},okS ops l n=true->∀q ok s,l[q]?=some ok->ok.dst=some s->∀j oj,ops[j]?=some oj->(s∈rdsOf ops oj->waits (n+q) oj.after.toList=true\/waits j ok.after.toList=true)/\(oj.dst=some s->j=n+q)
 |[],n,h,q,ok,s,hq,hs,j,oj,hj=>by simp at hq
 |a::l,n,h,q,ok,s,hq,hs,j,oj,hj=>by
  simp only[okS,Bool.and_eq_true]at h;cases q with
  |zero=>
   simp only[List.getElem?_cons_zero,Option.some.injEq]at hq;subst hq;have h1:=h.1;rw[hs]at h1;have:=ok1_spec h1 j oj hj;simpa using this
  |succ q=>
   rw[List.getElem?_cons_succ]at hq;have:=okS_spec h.2 q ok s hq hs j oj hj;rw[show n+(q+1)=n+1+q by omega];exact this
theorem apart_of(h:okS ops ops 0=true):Apart ops:=fun k ok s hk hs j oj hj=>by
 have:=okS_spec h k ok s hk hs j oj hj
 rwa [Nat.zero_add]at this
section
variable{P:Program}{nt:Nat}
theorem pickQ_spec:∀{l:List Oper} {n i:Nat} {o:Oper},pickQ P nt m l n=some (i,o)->∃q,i=n+q/\l[q]?=some o/\Nat.testBit m i=false/\(cOp P nt o.op).sole=false/\depsIn m o.after.toList=true
 |[],n,i,o,h=>by cases h
 |a::l,n,i,o,h=>by
  have rec_:pickQ P nt m l (n+1)=some (i,o)->∃q,i=n+q/\(a::l)[q]?=some o/\Nat.testBit m i=false/\(cOp P nt o.op).sole=false/\depsIn m o.after.toList=true:=fun h=>by
   obtain⟨q,h1,h2⟩:=pickQ_spec h;exact⟨q+1,by omega,by rw[List.getElem?_cons_succ];exact h2⟩
  unfold pickQ at h;cases h1:Nat.testBit m n with
  |true=>rw[h1]at h;exact rec_ h
  |false=>
   cases h2:(cOp P nt a.op).sole with
   |true=>rw[h1,h2]at h;exact rec_ h
   |false=>
    cases h3:depsIn m a.after.toList with
    |false=>rw[h1,h2,h3]at h;exact rec_ h
    |true=>rw[h1,h2,h3]at h;cases h;exact⟨0,rfl,rfl,h1,h2,h3⟩
theorem readyL_mem:∀{l:List Oper} {n q:Nat} {o:Oper},l[q]?=some o->Nat.testBit m (n+q)=false->depsIn m o.after.toList=true->(n+q,o)∈readyL m l n
 |[],n,q,o,h,_,_=>by simp at h
 |a::l,n,q,o,h,h1,h2=>by
  unfold readyL;cases q with
  |zero=>
   simp only[List.getElem?_cons_zero,Option.some.injEq]at h;subst h;rw[show n+0=n from rfl]at h1 ⊢;rw[h1,h2];exact List.mem_cons_self ..
  |succ q=>
   rw[List.getElem?_cons_succ]at h;have:=readyL_mem (n:=n+1) h (by rw[show n+1+q=n+(q+1) by omega];exact h1) h2;rw[show n+1+q=n+(q+1) by omega]at this;cases Nat.testBit m n with
   |true=>exact this
   |false=>
    cases depsIn m a.after.toList with
    |true=>exact List.mem_cons_of_mem _ this
    |false=>exact this
theorem readyL_spec:∀{l:List Oper} {n i:Nat} {o:Oper},(i,o)∈readyL m l n->∃q,i=n+q/\l[q]?=some o/\Nat.testBit m i=false/\depsIn m o.after.toList=true
 |[],n,i,o,h=>by cases h
 |a::l,n,i,o,h=>by
  have rec_:(i,o)∈readyL m l (n+1)->∃q,i=n+q/\(a::l)[q]?=some o/\Nat.testBit m i=false/\depsIn m o.after.toList=true:=fun h=>by
   obtain⟨q,h1,h2⟩:=readyL_spec h;exact⟨q+1,by omega,by rw[List.getElem?_cons_succ];exact h2⟩
  unfold readyL at h;cases h1:Nat.testBit m n with
  |true=>rw[h1]at h;exact rec_ h
  |false=>
   cases h3:depsIn m a.after.toList with
   |false=>rw[h1,h3]at h;exact rec_ h
   |true=>
    rw[h1,h3]at h;rcases List.mem_cons.1 h with e|h
    .cases e;exact⟨0,rfl,rfl,h1,h3⟩
    .exact rec_ h
theorem sched_next{l:List Oper}{f:Nat}{lst:List (Nat×Oper)}(h:sched P nt l f m=some lst):(lst=[]/\readyL m l 0=[])\/∃i o r f',lst=(i,o)::r/\l[i]?=some o/\Nat.testBit m i=false/\depsIn m o.after.toList=true/\sched P nt l f' (Nat.lor m (Nat.pow 2 i))=some r/\((cOp P nt o.op).sole=false\/readyL m l 0=[(i,o)]):=by
 cases f with
 |zero=>cases h
 |succ f=>
  unfold sched at h
  split at h
  .rename_i i o hp
   split at h
   .rename_i r hr;cases h
    obtain⟨q,h1,h2,h3,h4,h5⟩:=pickQ_spec hp;rw[Nat.zero_add]at h1;subst h1;exact .inr ⟨i,o,r,f,rfl,h2,h3,h5,hr,.inl h4⟩
   .cases h
  .split at h
   .rename_i hr;cases h
    exact .inl ⟨rfl,hr⟩
   .rename_i i o hr
    split at h
    .rename_i r hr';cases h
     obtain⟨q,h1,h2,h3,h5⟩:=readyL_spec (l:=l) (m:=m) (n:=0) (i:=i) (o:=o) (by rw[hr];exact List.mem_cons_self ..);rw[Nat.zero_add]at h1;subst h1;exact .inr ⟨i,o,r,f,rfl,h2,h3,h5,hr',.inr hr⟩
    .cases h
   .cases h
theorem lor_bit(m i j:Nat):Nat.testBit (Nat.lor m (Nat.pow 2 i)) j=(Nat.testBit m j||decide (i=j)):=by
 show Nat.testBit (m|||2^i) j=_;rw[Nat.testBit_or,Nat.testBit_two_pow]
/-! ### the guard -/
noncomputable def gdV (nt:Nat) (ops:List Oper) (o:Oper) (T:Tr SV):Option Bool:=match o.guard with
 |none=>some true
 |some (j,want)=>match ops[j]? with
  |some oj=>match oj.dst with
   |some t=>wantV want ((cO nt (.tmp t)).g T)
   |none=>none
  |none=>none
theorem rds_op{T U:Tr SV}{o:Oper}(h:Agr T U (rdsOf ops o)):Agr T U (tmpsOf o.op.operands.toList):=by
 unfold rdsOf at h
 split at h
 .exact h
 .split at h
  .split at h
   .exact fun t ht=>h t (List.mem_cons_of_mem _ ht)
   .exact h
  .exact h
theorem gdV_congr{T U:Tr SV}{o:Oper}(h:Agr T U (rdsOf ops o)):gdV nt ops o T=gdV nt ops o U:=by
 unfold gdV;unfold rdsOf at h
 split
 .rfl
 .rename_i j want hg;rw[hg]at h;simp only at h
  split
  .rename_i oj hj;rw[hj]at h;simp only at h
   split
   .rename_i t ht;rw[ht]at h;simp only at h;rw[cO_congr (nt:=nt) (x:=.tmp t) (T:=T) (U:=U) (fun s hs=>h s (by
     have:s=t:=by simpa[tmpsOf]using hs
     subst this;exact List.mem_cons_self ..))]
   .rfl
  .rfl
theorem gdV_wanted{L:Lay}{T:Tr SV}{f:Env}{D:List Deferred}{ops:Array Oper}{o:Oper}{q:Bool}(hE:ER L T f)(h:gdV nt ops.toList o T=some q):Region.wanted o (yielded ops (@A nt f ⟨D⟩).tmps)=q:=by
 unfold gdV at h
 split at h
 .rename_i hg;cases h
  unfold Region.wanted;rw[hg]
 .rename_i j want hg
  split at h
  .rename_i oj hj
   split at h
   .rename_i t ht;exact want_spec hE hg hj ht h
   .cases h
  .cases h
theorem cOpsD_cons{ro:Option Nat}{ih:IH}{o:Oper}{l:List (Nat×Oper)}{W:List WE}{T:Tr SV}{ds:List DF}{h:H}{s':St}(hk:(cOpsD P ro nt ops ((i,o)::l)).r ih W ⟨T,ds,h⟩=some s'):
 (gdV nt ops o T=some true/\(dOne ro i o (cOpsD P ro nt ops l) (cOp P nt o.op)).r ih W ⟨T,ds,h⟩=some s')\/(gdV nt ops o T=some false/\(setD T o.dst (.tup []) fun T=>(cOpsD P ro nt ops l).r ih W ⟨T,ds,h⟩)=some s'):=by
 unfold cOpsD at hk;unfold gdV
 split at hk
 .rename_i hg;rw[hg];exact .inl ⟨rfl,hk⟩
 .rename_i j want hg;rw[hg];simp only
  split at hk
  .rename_i oj hj
   split at hk
   .rename_i t ht;simp only[hj,ht]at hk ⊢
    split at hk
    .rename_i hw;exact .inl ⟨hw,hk⟩
    .rename_i hw;exact .inr ⟨hw,hk⟩
    .cases hk
   .cases hk
  .cases hk
/-! ### what was read -/
theorem stillW_spec{h:H}:∀{W:List WE},stillW h W=true->∀e∈W,e.f e.T h=some e.v
 |[],_,e,he=>by cases he
 |⟨i,f,T,v⟩::l,hs,e,he=>by
  unfold stillW at hs
  split at hs
  .rename_i u hu;cases hb:beqS u v with
   |false=>rw[hb]at hs;cases hs
   |true=>
    rw[hb]at hs;rcases List.mem_cons.1 he with rfl|he
    .rw [<-beqS_eq _ _ hb];exact hu
    .exact stillW_spec hs e he
  .cases hs
theorem mem_dropW{af:List Edge}:∀{W:List WE} {e:WE},e∈W->waits e.i af=false->e∈dropW af W
 |[],e,he,_=>by cases he
 |⟨i,f,T,v⟩::l,e,he,hw=>by
  unfold dropW;rcases List.mem_cons.1 he with rfl|he
  .rw [hw];exact List.mem_cons_self ..
  .have:=mem_dropW he hw;cases waits i af with
   |true=>exact this
   |false=>exact List.mem_cons_of_mem _ this
end
end
end Go.Ev
