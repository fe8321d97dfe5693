/-
 What an operation is,as the run looks through it:pure ones. It speaks of no program.
-/
import Derived.Test.YtmlpcmjmniobdaaGreatZE4
set_option linter.all false
namespace Go.Ev
open Go.Rf Go.RowKit
section
variable{r:Bool}{f:Env}{k q:IntKind}{ft i n nt s t:Nat}{x y:Operand}{va vb:Value}
section
variable{P:Program}{nt:Nat}{L:Lay}{T:Tr SV}{f:Env}
theorem szOf_spec(h:szOf P t=some s):∃i,P.info? t=some i/\i.size=s:=by
 unfold szOf at h;exact Ymo
theorem byOf_spec(h:byOf P t=some s):∃i,P.info? t=some i/\i.bytes=s:=by
 unfold byOf at h;exact Ymo
theorem zeroOf_spec{v:SV}(h:zeroOf P t=some v):∃i z,P.info? t=some i/\i.zero=some z/\∀L,den L v=some z:=by
 unfold zeroOf at h;cases e:P.info? t with
 |none=>rw[e]at h;cases h
 |some i=>
  rw[e]at h;simp only at h;cases e':i.zero with
  |none=>rw[e']at h;cases h
  |some z=>rw[e']at h;exact⟨i,z,rfl,e',fun L=>ofV_spec h⟩
theorem aggT_spec{b:Bool}(h:aggT P t=some b):∃d,P.underlying t=some d/\aggD d=b:=by
 unfold aggT at h;cases e:P.underlying t with
 |none=>rw[e]at h;cases h
 |some d=>rw[e]at h;exact⟨d,rfl,by simpa using h⟩
theorem elemOf_spec{e:Nat}(h:elemOf P t=some e):P.underlying t=some (.slice e):=by
 unfold elemOf at h
 split at h
 .rename_i e' he;cases h;exact he
 .cases h
theorem fieldOf_spec{off:Nat}(h:fieldOf P t i=some (ft,off)):∃fs fd,P.underlying t=some (.struct fs)/\fs[i]?=some fd/\fd.type=ft/\fd.offset=off:=by
 unfold fieldOf at h
 split at h
 .rename_i fs he;cases e:fs.toList[i]? with
  |none=>rw[e]at h;cases h
  |some fd=>
   rw[e]at h;simp only[Option.some.injEq,Prod.mk.injEq]at h;exact⟨fs,fd,he,by simpa using e,h.1,h.2⟩
 .cases h
/-! ### arithmetic -/
theorem int_land(k:IntKind)(a b:Int):((Nat.land (md a (kmod k)) (md b (kmod k)):Nat):Int)=((BitVec.ofInt k.bits a&&& BitVec.ofInt k.bits b).toNat:Int):=by
 rw[BitVec.toNat_and,toNat_ofInt,toNat_ofInt];rfl
theorem int_lor(k:IntKind)(a b:Int):((Nat.lor (md a (kmod k)) (md b (kmod k)):Nat):Int)=((BitVec.ofInt k.bits a|||BitVec.ofInt k.bits b).toNat:Int):=by
 rw[BitVec.toNat_or,toNat_ofInt,toNat_ofInt];rfl
theorem int_xor(k:IntKind)(a b:Int):((Nat.xor (md a (kmod k)) (md b (kmod k)):Nat):Int)=((BitVec.ofInt k.bits a^^^BitVec.ofInt k.bits b).toNat:Int):=by
 rw[BitVec.toNat_xor,toNat_ofInt,toNat_ofInt];rfl
def PV(P:Program)(L:Lay)(m:Sem Value)(v:SV):Prop:=∃x,den L v=some x/\∀w,m.run P w=.ok x w
theorem den_int'(L:Lay)(k:IntKind)(n:Int):den L (.int k n)=some (.int k n):=by unfold den;rfl
theorem den_bool'(L:Lay)(b:Bool):den L (.bool b)=some (.bool b):=by unfold den;rfl
theorem den_str'(L:Lay)(s:List UInt8):den L (.str s)=some (.string (bA s)):=by unfold den;rfl
theorem iop_spec{op:BinOp}{a b:Int}{v:SV}(h:iop op k a b=some v)(h1:op≠.shl)(h2:op≠.shr)(t:Nat):PV P L (binOp op t (.int k a) (.int k b)) v:=by
 have e1:(a==b)=decide (a=b):=by rfl
 have e2:(a != b)= !decide (a=b):=by rfl
 have e3:decide (a<=b)= !decide (b<a):=by rw[<-decide_not];congr 1;apply propext;omega
 have e4:decide (b<=a)= !decide (a<b):=by rw[<-decide_not];congr 1;apply propext;omega
 cases op<;>simp only[iop,ieq_eq,ilt_eq,wr_eq]at h
 case add=>cases h;exact⟨_,den_int' _ _ _,fun w=>by simp[binOp,Op.intArith]⟩
 case sub=>cases h;exact⟨_,den_int' _ _ _,fun w=>by simp[binOp,Op.intArith]⟩
 case mul=>cases h;exact⟨_,den_int' _ _ _,fun w=>by simp[binOp,Op.intArith]⟩
 case eql=>cases h;exact⟨_,den_bool' _ _,fun w=>by simp[binOp,Op.intCmp,e1]⟩
 case neq=>cases h;exact⟨_,den_bool' _ _,fun w=>by simp[binOp,Op.intCmp,e2]⟩
 case lss=>cases h;exact⟨_,den_bool' _ _,fun w=>by simp[binOp,Op.intCmp]⟩
 case leq=>cases h;exact⟨_,den_bool' _ _,fun w=>by simp[binOp,Op.intCmp,e3]⟩
 case gtr=>cases h;exact⟨_,den_bool' _ _,fun w=>by simp[binOp,Op.intCmp]⟩
 case geq=>cases h;exact⟨_,den_bool' _ _,fun w=>by simp[binOp,Op.intCmp,e4]⟩
 case quo=>
  by_cases hb:b=0
  .rw [decide_eq_true hb]at h;cases h
  .rw [decide_eq_false hb]at h;cases h;exact⟨_,den_int' _ _ _,fun w=>by simp[binOp,Op.intDiv,hb]⟩
 case rem=>
  by_cases hb:b=0
  .rw [decide_eq_true hb]at h;cases h
  .rw [decide_eq_false hb]at h;cases h;exact⟨_,den_int' _ _ _,fun w=>by simp[binOp,Op.intDiv,hb]⟩
 case and=>cases h;exact⟨_,den_int' _ _ _,fun w=>by rw[show Int.ofNat ((md a (kmod k)).land (md b (kmod k)))=_ from int_land k a b];simp only[binOp,Op.intBits];simp⟩
 case or=>cases h;exact⟨_,den_int' _ _ _,fun w=>by rw[show Int.ofNat ((md a (kmod k)).lor (md b (kmod k)))=_ from int_lor k a b];simp only[binOp,Op.intBits];simp⟩
 case xor=>cases h;exact⟨_,den_int' _ _ _,fun w=>by rw[show Int.ofNat ((md a (kmod k)).xor (md b (kmod k)))=_ from int_xor k a b];simp only[binOp,Op.intBits];simp⟩
 all_goals first|(cases h;done)|exact absurd rfl h1|exact absurd rfl h2
theorem bA_append(a b:List UInt8):bA a++bA b=bA (a++b):=by
 rw[<-toList_inj];simp[ByteArray.toList_eq,bA]
theorem sop_spec{op:BinOp}{a b:List UInt8}{v:SV}(h:sop op a b=some v)(t:Nat):PV P L (binOp op t (.string (bA a)) (.string (bA b))) v:=by
 have e1:(a==b)=decide (a=b):=beq_dec a b;cases op<;>simp only[sop,beqB_eq,ltB_eq]at h
 case eql=>cases h;exact⟨_,den_bool' _ _,fun w=>by simp[binOp,Op.stringOp,bytes_toList,e1]⟩
 case neq=>cases h;exact⟨_,den_bool' _ _,fun w=>by simp[binOp,Op.stringOp,bytes_toList,e1]⟩
 case lss=>cases h;exact⟨_,den_bool' _ _,fun w=>by simp[binOp,Op.stringOp,bytes_toList]⟩
 case leq=>cases h;exact⟨_,den_bool' _ _,fun w=>by simp[binOp,Op.stringOp,bytes_toList,e1]⟩
 case gtr=>cases h;exact⟨_,den_bool' _ _,fun w=>by simp[binOp,Op.stringOp,bytes_toList,e1]⟩
 case geq=>cases h;exact⟨_,den_bool' _ _,fun w=>by simp[binOp,Op.stringOp,bytes_toList]⟩
 case add=>
  rw[nble]at h;by_cases hb:a.length+b.length<=1000000
  .rw [decide_eq_true hb]at h;cases h
   have ha:(bA a).size=a.length:=rfl;have hb':(bA b).size=b.length:=rfl;have hm:¬(IntKind.i64.max<((a.length:Int)+(b.length:Int))):=by
    have:IntKind.i64.max=9223372036854775807:=rfl;omega
   refine⟨_,den_str' _ _,fun w=>?_⟩;have hm':¬(9223372036854775807<((a.length:Int)+(b.length:Int))):=hm;simp[binOp,Op.stringOp,ha,hb',hm,hm',bA_append]
   try omega
  .rw [decide_eq_false hb]at h;cases h
 all_goals (cases h;done)
theorem eq_of{w:World}(hG:∀op,(eqGuard op t x y va vb).run P w=.ok () w)(hB:binOp .eql t va vb=(do pure (.bool (<-Op.equal t va vb))))(hB':binOp .neq t va vb=(do pure (.bool (!(<-Op.equal t va vb)))))
 (hq:(Op.equal t va vb).run P w=.ok r w):(do eqGuard .eql t x y va vb;binOp .eql t va vb:Sem Value).run P w=.ok (.bool r) w/\(do eqGuard .neq t x y va vb;binOp .neq t va vb:Sem Value).run P w=.ok (.bool !r) w:=by
 constructor
 .rw [Sem.run_bind,hG,Result.andThen_ok,hB,Sem.run_bind,hq];rfl
 .rw [Sem.run_bind,hG,Result.andThen_ok,hB',Sem.run_bind,hq];rfl
theorem nilEq_spec{a b:SV}(h:nilEq P t a b=some r)(ha:den L a=some va)(hb:den L b=some vb)(w:World):
 (do eqGuard .eql t x y va vb;binOp .eql t va vb:Sem Value).run P w=.ok (.bool r) w/\(do eqGuard .neq t x y va vb;binOp .neq t va vb:Sem Value).run P w=.ok (.bool !r) w:=by
 unfold nilEq at h
 split at h
 all_goals try(cases h;done)
 all_goals rename_i hu
 all_goals split at h
 all_goals try(cases h;done)
 all_goals cases h
 all_goals first
  |(obtain⟨_,_,rfl⟩:=den_at ha)
  |(obtain⟨_,_,_,rfl⟩:=den_slc ha)
  |(obtain⟨_,_,rfl⟩:=den_esl ha)
  |(obtain⟨_,_,_,_,rfl⟩:=den_fn ha)
  |(obtain⟨_,_,rfl⟩:=den_ifc ha)
  |(have:=den_bool ha;subst va)
  |(unfold den at ha;cases ha)
 all_goals first
  |(obtain⟨_,_,rfl⟩:=den_at hb)
  |(obtain⟨_,_,_,rfl⟩:=den_slc hb)
  |(obtain⟨_,_,rfl⟩:=den_esl hb)
  |(obtain⟨_,_,_,_,rfl⟩:=den_fn hb)
  |(obtain⟨_,_,rfl⟩:=den_ifc hb)
  |(have:=den_bool hb;subst vb)
  |(unfold den at hb;cases hb)
 all_goals refine eq_of (fun op=>by cases op<;>rfl) rfl rfl ?_
 all_goals show(Op.equalIn (9999+1) t _ _).run P w=_
 all_goals unfold Op.equalIn
 all_goals rw[Sem.run_bind,run_underlying hu,Result.andThen_ok]
 all_goals first
  |rfl
  |(rename_i p q;cases p<;>cases q<;>rfl)
theorem equalIn_num(d:Nat){e:Nat}(he:P.underlying e=some (.int q))(x y:Int)(w:World):(Op.equalIn (d+1) e (.int k x) (.int k y)).run P w=.ok (x==y) w:=by
 simp[Op.equalIn,run_underlying he]
theorem equal2{e:Nat}{k':IntKind}{i:TypeInfo}(hu:P.underlying t=some (.array 2 e))(he:P.underlying e=some (.int q))(hi:P.info? e=some i)(hc:P.cellsOf e=1)(a b a' b':Int)(w:World):
 (Op.equal t (.agg #[.int k a,.int k' b]) (.agg #[.int k a',.int k' b'])).run P w=.ok (decide (a=a'/\b=b')) w:=by
 show(Op.equalIn (9999+1) t _ _).run P w=_;rw[run_equalIn_array w 9999 _ _ hu hi,hc];have r2:List.range 2=[0,1]:=rfl;have hp:∀(cs:Array Value) (j:Nat) (v:Value),cs[j]?=some v->(part e cs j).run P w=.ok v w:=fun cs j v h=>by simp[part,isAgg,run_underlying he,h]
 have hq:∀(k:IntKind) (x y:Int),(Op.equalIn 9999 e (.int k x) (.int k y)).run P w=.ok (x==y) w:=fun k x y=>equalIn_num 9998 he x y w
 rw[r2];simp only[Op.eqItems,Sem.run_bind,Nat.mul_one];rw[hp _ 0 (.int k a) rfl,Result.andThen_ok,hp _ 0 (.int k a') rfl,Result.andThen_ok,hq,Result.andThen_ok];by_cases h1:a=a'
 case neg=>simp[h1]
 rw[if_neg (by simp[h1])];simp only[Sem.run_bind];rw[hp _ 1 (.int k' b) rfl,Result.andThen_ok,hp _ 1 (.int k' b') rfl,Result.andThen_ok,hq,Result.andThen_ok];by_cases h2:b=b'
 case neg=>simp[h2]
 simp[h1,h2]
theorem arrEq_spec{a b:List SV}(h:arrEq P t a b=some r)(ha:den L (.agg a)=some va)(hb:den L (.agg b)=some vb)(w:World):
 (do eqGuard .eql t x y va vb;binOp .eql t va vb:Sem Value).run P w=.ok (.bool r) w/\(do eqGuard .neq t x y va vb;binOp .neq t va vb:Sem Value).run P w=.ok (.bool !r) w:=by
 unfold arrEq at h
 split at h
 case h_2=>cases h
 rename_i e hu
 split at h
 case h_2=>cases h
 rename_i q he
 split at h
 case h_2=>cases h
 rename_i hs;obtain⟨i,hi,hs⟩:=szOf_spec hs
 split at h
 case h_2=>cases h
 rename_i k m l n k' m' l' n';cases hk:kbeq k k' with
 |false=>rw[hk]at h;cases h
 |true=>
  cases hl:kbeq l l' with
  |false=>rw[hk,hl]at h;cases h
  |true=>
   rw[hk,hl]at h;cases h
   have:=kbeq_eq hk;subst this;have:=kbeq_eq hl;subst this;obtain⟨xs,h1,rfl⟩:=den_agg ha;obtain⟨ys,h2,rfl⟩:=den_agg hb;have e1:xs=[.int k m,.int l n]:=by
    have:=(denL_cons.2 ⟨_,_,den_int' L k m,denL_one (den_int' L l n),rfl⟩).symm.trans h1;simpa using this.symm
   have e2:ys=[.int k m',.int l n']:=by
    have:=(denL_cons.2 ⟨_,_,den_int' L k m',denL_one (den_int' L l n'),rfl⟩).symm.trans h2;simpa using this.symm
   subst e1 e2;have hg:P.eqGuardType P.depth t=false:=by
    show P.eqGuardType (2*(P.types.size+Made.depth)+1+1) t=false;simp[Program.eqGuardType,hu,he]
   have hq:=equal2 (k:=k) (k':=l) hu he hi (by simp[Program.cellsOf,hi,hs]) m n m' n' w;have hr:decide (m=m'/\n=n')=(ieq m m'&&ieq n n'):=by simp[ieq_eq]
   rw[hr]at hq;constructor
   .simp [eqGuard,binOp,hg,hq]
   .simp [eqGuard,binOp,hg,hq]
theorem eqS_spec{a b:SV}(h:eqS P t x y a b=some r)(ha:den L a=some va)(hb:den L b=some vb)(w:World):
 (do eqGuard .eql t x y va vb;binOp .eql t va vb:Sem Value).run P w=.ok (.bool r) w/\(do eqGuard .neq t x y va vb;binOp .neq t va vb:Sem Value).run P w=.ok (.bool !r) w:=by
 unfold eqS at h
 split at h
 .exact arrEq_spec h ha hb w
 .unfold den at ha hb;cases ha;cases hb
  cases hc:(isConst x||isConst y)with
  |false=>rw[hc]at h;cases h
  |true=>
   rw[hc]at h;simp only[cond_true]at h
   split at h
   .rename_i hu;cases h
    have hG:∀op,(eqGuard op t x y .nilIface .nilIface).run P w=.ok () w:=by
     intro op;cases x<;>cases y<;>first|(cases op<;>rfl)|exact absurd hc Bool.false_ne_true
    refine eq_of hG rfl rfl ?_;show(Op.equalIn (9999+1) t _ _).run P w=_;unfold Op.equalIn;rw[Sem.run_bind,run_underlying hu,Result.andThen_ok];rfl
   .cases h
 .exact nilEq_spec h ha hb w
theorem bin_spec{op:BinOp}{a b v:SV}(h:bin P op t x y a b=some v)(ha:den L a=some va)(hb:den L b=some vb):PV P L (do eqGuard op t x y va vb;binOp op t va vb) v:=by
 unfold bin at h
 split at h
 .rename_i k m k' n;have:=den_int ha;have:=den_int hb;subst va vb
  split at h
  .cases hn:ilt n 0 with
   |true=>rw[hn]at h;cases h
   |false=>
    rw[hn]at h;cases h
    rw[ilt_eq]at hn;have hn':¬n<0:=by simpa using hn
    exact⟨_,den_int' _ _ _,fun w=>by simp[eqGuard,binOp,Op.shift,hn',wr_eq,kbits_eq]⟩
  .cases hn:ilt n 0 with
   |true=>rw[hn]at h;cases h
   |false=>
    rw[hn]at h;cases h
    rw[ilt_eq]at hn;have hn':¬n<0:=by simpa using hn
    exact⟨_,den_int' _ _ _,fun w=>by simp[eqGuard,binOp,Op.shift,hn',kbits_eq]⟩
  .rename_i h1 h2;cases hk:kbeq k k' with
   |false=>rw[hk]at h;cases h
   |true=>
    rw[hk]at h;have:=kbeq_eq hk;subst this;obtain⟨r,h3,h4⟩:=iop_spec (P:=P) (L:=L) h (fun e=>h1 e) (fun e=>h2 e) t;refine⟨r,h3,fun w=>?_⟩;have:(eqGuard op t x y (.int k m) (.int k n)).run P w=.ok () w:=by cases op<;>simp[eqGuard]
    rw[Sem.run_bind,this];exact h4 w
 .rename_i s u;have:=den_str ha;have:=den_str hb;subst va vb;obtain⟨r,h3,h4⟩:=sop_spec (P:=P) (L:=L) h t;refine⟨r,h3,fun w=>?_⟩;have:(eqGuard op t x y (.string (bA s)) (.string (bA u))).run P w=.ok () w:=by cases op<;>simp[eqGuard]
  rw[Sem.run_bind,this];exact h4 w
 .split at h
  .cases e:eqS P t x y a b with
   |none=>rw[e]at h;cases h
   |some r=>rw[e]at h;cases h;exact⟨_,den_bool' _ _,fun w=>(eqS_spec e ha hb w).1⟩
  .cases e:eqS P t x y a b with
   |none=>rw[e]at h;cases h
   |some r=>rw[e]at h;cases h;exact⟨_,den_bool' _ _,fun w=>(eqS_spec e ha hb w).2⟩
  .cases h
/-! ### the parts -/
def PP(L:Lay):List (Nat×SV)->List (Nat×Value)->Prop
 |[],[]=>True
 |p::ps,q::qs=>p.1=q.1/\den L p.2=some q.2/\PP L ps qs
 |_,_=>False
theorem fillS_spec(place:Nat->Option (Nat×Nat)):∀(ps:List (Nat×SV)) (qs:List (Nat×Value)) (cs l:List SV) (xs:List Value),PP L ps qs->denL L cs=some xs->fillS place cs ps=some l->∃ys,denL L l=some ys/\fillL place xs qs=some ys
 |[],[],cs,l,xs,_,hc,h=>by cases h;exact⟨xs,hc,rfl⟩
 |[],_::_,_,_,_,hp,_,_=>hp.elim
 |_::_,[],_,_,_,hp,_,_=>hp.elim
 |(i,v)::ps,(i',u)::qs,cs,l,xs,hp,hc,h=>by
  obtain⟨e1,e2,hp⟩:=hp;simp only at e1 e2;subst e1;unfold fillS at h;unfold fillL;cases hpl:place i with
  |none=>rw[hpl]at h;cases h
  |some os=>
   obtain⟨off,size⟩:=os;rw[hpl]at h;simp only at h ⊢;have hv:=den_cells e2;have hlv:=denL_len hv;have hlc:=denL_len hc;rw[hlv,hlc];cases hb:(Nat.beq v.cells.length size&&Nat.ble (off+v.cells.length) cs.length)with
   |false=>rw[hb]at h;cases h
   |true=>
    rw[hb]at h;simp only[cond_true]at h ⊢;exact fillS_spec place ps qs _ l _ hp (denL_app (denL_app (denL_take _ hc) hv) (denL_drop _ hc)) h
theorem cP_spec{T:Tr SV}(hE:ER L T f):∀{l:List (Nat×Operand)} {vs:List (Nat×SV)},(cP nt l).g T=some vs->PP L vs (zipP nt f l)
 |[],vs,h=>by cases h;exact trivial
 |(i,o)::l,vs,h=>by
  unfold cP at h;simp only at h;cases e:(cO nt o).g T with
  |none=>rw[e]at h;cases h
  |some v=>cases e':(cP nt l).g T with
   |none=>rw[e,e']at h;cases h
   |some r=>
    rw[e,e']at h;cases h
    exact⟨rfl,cO_spec hE e,cP_spec hE e'⟩
theorem partS_spec{off:Nat}{l:List SV}{xs:List Value}{v:SV}(h:partS P t l off=some v)(hl:denL L l=some xs):∃x,den L v=some x/\∀w,(part t xs.toArray off).run P w=.ok x w:=by
 unfold partS at h;cases ha:aggT P t with
 |none=>rw[ha]at h;cases h
 |some b=>
  obtain⟨d,hd,hb⟩:=aggT_spec ha;rw[ha]at h;cases b with
  |true=>
   simp only at h;cases hs:szOf P t with
   |none=>rw[hs]at h;cases h
   |some s=>
    rw[hs]at h;cases h
    obtain⟨i,hi,rfl⟩:=szOf_spec hs;refine⟨_,den_agg' (denL_drop _ (denL_take _ hl)),fun w=>?_⟩;simp[part,run_isAgg hd,hb,sizeOf,typeInfo,hi];rw[List.drop_take,Nat.add_sub_cancel_left]
  |false=>
   simp only at h;obtain⟨x,h1,h2⟩:=denL_get off hl h;exact⟨x,h2,fun w=>by simp[part,run_isAgg hd,hb,h1]⟩
def PO(P:Program)(L:Lay)(nt:Nat)(f:Env)(op:Op)(v:SV):Prop:=∃x,den L v=some x/\∀d ty ps af gd w,(execOp (ev nt f) ⟨d,op,ty,ps,af,gd⟩).run P w=.ok (.value x) w
section
variable{nt:Nat}{T:Tr SV}{f:Env}(hE:ER L T f)
include hE
theorem o_move{v:SV}(h:(cO nt x).g T=some v):PO P L nt f (.move x) v:=⟨_,cO_spec hE h,fun d ty ps af gd w=>by simp[execOp]⟩
theorem o_assign{v:SV}(h:(cO nt x).g T=some v):PO P L nt f (.assign x) v:=⟨_,cO_spec hE h,fun d ty ps af gd w=>by simp[execOp]⟩
theorem o_pick{c a b:Operand}{v:SV}(h:pickV ((cO nt c).g T) ((cO nt a).g T) ((cO nt b).g T)=some v):PO P L nt f (.pick c a b) v:=by
 unfold pickV at h
 split at h
 .rename_i t e;have:=den_bool (cO_spec hE e);cases t with
  |true=>exact⟨_,cO_spec hE h,fun d ty ps af gd w=>by simp[execOp,this,asBool]⟩
  |false=>exact⟨_,cO_spec hE h,fun d ty ps af gd w=>by simp[execOp,this,asBool]⟩
 .cases h
theorem o_nil{v:SV}(h:nilV ((cO nt x).g T)=some v):PO P L nt f (.nilCheck x) v:=by
 unfold nilV at h
 split at h
 .rename_i i o e;cases h
  obtain⟨b,h1,h2⟩:=den_at (cO_spec hE e);exact⟨_,den_at' h1,fun d ty ps af gd w=>by simp[execOp,h2]⟩
 .rename_i g a c e;cases h
  obtain⟨xs,ys,h1,h2,h3⟩:=den_fn (cO_spec hE e);exact⟨_,den_fn' h1 h2,fun d ty ps af gd w=>by simp[execOp,h3]⟩
 .rename_i i e;cases h
  obtain⟨b,h1,h2⟩:=den_yld (cO_spec hE e);exact⟨_,by unfold den;rw[h1],fun d ty ps af gd w=>by simp[execOp,h2]⟩
 .cases h
theorem o_fa{off:Nat}{v:SV}(hf:fieldOf P s i=some (ft,off))(hs:szOf P ft=some (n+1))(h:offV off ((cO nt x).g T)=some v):PO P L nt f (.fieldAddr s x i) v:=by
 unfold offV at h
 split at h
 .rename_i b o e;cases h
  obtain⟨y,h1,h2⟩:=den_at (cO_spec hE e);obtain⟨fs,fd,h3,h4,rfl,rfl⟩:=fieldOf_spec hf;obtain⟨j,h5,h6⟩:=szOf_spec hs;exact⟨_,den_at' h1,fun d ty ps af gd w=>by simp[execOp,h2,Instr.fieldAt,run_underlying h3,h4,Instr.sureAddr,fieldPlace,sizeOf,typeInfo,h5,h6,add_lit]⟩
 .cases h
theorem o_field{off:Nat}{v:SV}(hf:fieldOf P t i=some (ft,off))(h:partV P ft off ((cO nt x).g T)=some v):PO P L nt f (.field t x i) v:=by
 unfold partV at h
 split at h
 .rename_i l e;obtain⟨xs,h1,h2⟩:=den_agg (cO_spec hE e);obtain⟨fs,fd,h3,h4,rfl,rfl⟩:=fieldOf_spec hf;obtain⟨y,h5,h6⟩:=partS_spec h h1;exact⟨y,h5,fun d ty ps af gd w=>by simp[execOp,h2,Instr.field,run_underlying h3,h4,asAgg,h6]⟩
 .cases h
theorem o_bin{op:BinOp}{t2:Nat}{v:SV}(h:binV P op t x y ((cO nt x).g T) ((cO nt y).g T)=some v):PO P L nt f (.binOp op t x y t2) v:=by
 unfold binV at h
 split at h
 .rename_i a e
  split at h
  .rename_i b e';obtain⟨r,h1,h2⟩:=bin_spec h (cO_spec hE e) (cO_spec hE e');exact⟨r,h1,fun d ty ps af gd w=>by simp only[execOp];rw[Sem.run_bind,h2 w];rfl⟩
  .cases h
 .cases h
theorem o_not{v:SV}(h:notV ((cO nt x).g T)=some v):PO P L nt f (.unOp .not t x) v:=by
 unfold notV at h
 split at h
 .rename_i b e;cases h
  have:=den_bool (cO_spec hE e);exact⟨_,den_bool' _ _,fun d ty ps af gd w=>by simp[execOp,Op.unary,this]⟩
 .cases h
theorem o_neg{v:SV}(h:negV ((cO nt x).g T)=some v):PO P L nt f (.unOp .neg t x) v:=by
 unfold negV at h
 split at h
 .rename_i k n e;cases h
  have:=den_int (cO_spec hE e);exact⟨_,den_int' _ _ _,fun d ty ps af gd w=>by simp only[execOp,Op.unary,Op.intArith,this,wr_eq];simp⟩
 .cases h
theorem o_conv{k0:IntKind}{v:SV}(hs:P.underlying s=some (.int k0))(ht:P.underlying t=some (.int k))(h:convV k ((cO nt x).g T)=some v):PO P L nt f (.convert s t x) v:=by
 unfold convV at h
 split at h
 .rename_i k1 n e;cases h
  have:=den_int (cO_spec hE e);exact⟨_,den_int' _ _ _,fun d ty ps af gd w=>by simp[execOp,convert,run_underlying hs,run_underlying ht,Conv.intToInt,this,wr_eq]⟩
 .cases h
theorem o_convS{v:SV}(hs:P.underlying s=some .string)(ht:P.underlying t=some .string)(h:strV ((cO nt x).g T)=some v):PO P L nt f (.convert s t x) v:=by
 unfold strV at h
 split at h
 .rename_i b e;cases h
  have:=den_str (cO_spec hE e);exact⟨_,den_str' _ _,fun d ty ps af gd w=>by simp[execOp,convert,run_underlying hs,run_underlying ht,this]⟩
 .cases h
theorem o_ifc{dd:TypeDesc}{v:SV}(ht:P.underlying t=some dd)(hd:∀ms,dd≠.interface ms)(h:ifcV t ((cO nt x).g T)=some v):PO P L nt f (.makeInterface t x) v:=by
 unfold ifcV at h
 split at h
 .rename_i u e;cases h
  refine⟨_,den_ifc' (cO_spec hE e),fun d ty ps af gd w=>?_⟩;cases dd<;>first|exact absurd rfl (hd _)|simp[execOp,Instr.makeInterface,run_underlying ht]
 .cases h
theorem o_fn{g:Nat}{a c:Array Operand}{v:SV}(h:fnV g ((cL nt a.toList).g T) ((cL nt c.toList).g T)=some v):PO P L nt f (.makeFunc (.func g) a c) v:=by
 unfold fnV at h
 split at h
 .rename_i va e
  split at h
  .rename_i vc e';cases h
   refine⟨_,den_fn' (cL_spec hE e) (cL_spec hE e'),fun d ty ps af gd w=>?_⟩;simp only[execOp,Instr.makeFunc,<-Array.toList_map,Array.toArray_toList];simp
  .cases h
 .cases h
theorem o_ext{v:SV}(h:extV i ((cO nt x).g T)=some v):PO P L nt f (.extract x i) v:=by
 unfold extV at h
 split at h
 .rename_i l e;obtain⟨xs,h1,h2⟩:=den_tup (cO_spec hE e);obtain⟨y,h3,h4⟩:=denL_get i h1 h;exact⟨y,h4,fun d ty ps af gd w=>by simp[execOp,Instr.extract,h2,h3]⟩
 .cases h
theorem placesOf_spec{pl:List (Nat×Nat)}(h:placesOf P t=some pl):∃fs,P.underlying t=some (.struct fs)/\∀w,(fs.mapM (m:=Sem) fun f=>do pure (f.offset,<-sizeOf f.type)).run P w=.ok pl.toArray w:=by
 unfold placesOf at h
 split at h
 .rename_i fs hu;refine⟨fs,hu,fun w=>?_⟩;have key:∀(l:List Field) (r:List (Nat×Nat)),placesOf.go P l=some r->(l.mapM (m:=Sem) fun f=>do pure (f.offset,<-sizeOf f.type)).run P w=.ok r w:=by
   intro l
   induction l with
   |nil=>intro r h;cases h;simp
   |cons q l ih=>
    intro r h;unfold placesOf.go at h;cases e:szOf P q.type with
    |none=>rw[e]at h;cases h
    |some s=>cases e':placesOf.go P l with
     |none=>rw[e,e']at h;cases h
     |some r'=>
      rw[e,e']at h;cases h
      obtain⟨i,hi,rfl⟩:=szOf_spec e;have hq:(do pure (q.offset,<-sizeOf q.type):Sem (Nat×Nat)).run P w=.ok (q.offset,i.size) w:=by simp[sizeOf,typeInfo,hi]
      rw[List.mapM_cons,Sem.run_bind,hq,Result.andThen_ok,Sem.run_bind,ih _ e',Result.andThen_ok];rfl
  have:=key fs.toList pl h;rw[Array.mapM_eq_mapM_toList];simp only[bind_pure_comp]at this ⊢;simp[this]
 .cases h
theorem o_build{z:List SV}{pl:List (Nat×Nat)}{ps:Array (Nat×Operand)}{v:SV}(hz:zeroOf P t=some (.agg z))(hp:placesOf P t=some pl)(h:buildV (fun i=>pl[i]?) z ((cP nt ps.toList).g T)=some v):PO P L nt f (.build t ps) v:=by
 unfold buildV at h
 split at h
 .rename_i qs e
  split at h
  .rename_i l e';cases h
   obtain⟨i,zv,h1,h2,h3⟩:=zeroOf_spec hz;obtain⟨zs,h4,rfl⟩:=den_agg (h3 L);obtain⟨ys,h5,h6⟩:=fillS_spec _ _ _ _ _ _ (cP_spec hE e) h4 e';have hf:=fill_list _ _ _ _ h6;obtain⟨fs,hu,hpl⟩:=placesOf_spec hE hp;refine⟨_,den_agg' h5,fun d ty pos af gd w=>?_⟩;have hz':=zipP_map nt f ps.toList;have hps:ps=ps.toList.toArray:=rfl;rw[hps];simp only[execOp,Instr.build,List.map_toArray,hz'];have:=hpl w;simp only[bind_pure_comp]at this;simp[zeroValue,typeInfo,h1,h2,Value.cells,run_underlying hu,this,hf]
  .cases h
 .cases h
theorem o_buildA{e:Nat}{z:List SV}{ps:Array (Nat×Operand)}{v:SV}(hz:zeroOf P t=some (.agg z))(hu:P.underlying t=some (.array n e))(hs:szOf P e=some s)(h:buildV (fun i=>some (i*s,s)) z ((cP nt ps.toList).g T)=some v):PO P L nt f (.build t ps) v:=by
 unfold buildV at h
 split at h
 .rename_i qs e1
  split at h
  .rename_i l e';cases h
   obtain⟨i,zv,h1,h2,h3⟩:=zeroOf_spec hz;obtain⟨j,h7,rfl⟩:=szOf_spec hs;obtain⟨zs,h4,rfl⟩:=den_agg (h3 L);obtain⟨ys,h5,h6⟩:=fillS_spec _ _ _ _ _ _ (cP_spec hE e1) h4 e';have hf:=fill_list _ _ _ _ h6;refine⟨_,den_agg' h5,fun d ty pos af gd w=>?_⟩;have hz':=zipP_map nt f ps.toList;have hps:ps=ps.toList.toArray:=rfl;rw[hps];simp only[execOp,Instr.build,List.map_toArray,hz'];simp[zeroValue,typeInfo,h1,h2,Value.cells,run_underlying hu,sizeOf,h7,hf]
  .cases h
 .cases h
theorem o_idxSlc{e:Nat}{i:Operand}{v:SV}(hu:P.underlying t=some (.slice e))(hs:szOf P e=some s)(h:idxSlc s ((cO nt x).g T) ((cO nt i).g T)=some v):PO P L nt f (.indexAddr t x i) v:=by
 obtain⟨j,hj,rfl⟩:=szOf_spec hs;unfold idxSlc at h
 split at h
 .rename_i b e' l z ex
  split at h
  .rename_i kk n en;rw[nbeq,nblt]at h;by_cases hc:j.size=z/\n<l
   .obtain ⟨rfl,hl⟩:=hc;rw[decide_eq_true rfl,decide_eq_true hl]at h;cases h
    obtain⟨y,h1,_,h2⟩:=den_slc (cO_spec hE ex);exact Ymg
   .have:(decide (j.size=z)&&decide (n<l))=false:=by simpa using hc
    rw[show(and (decide (j.size=z)) (decide (n<l)))=false from this]at h;cases h
  .cases h
 .rename_i b o l z ex
  split at h
  .rename_i kk n en;rw[nbeq,nblt]at h;by_cases hc:j.size=z/\n<l
   .obtain ⟨rfl,hl⟩:=hc;rw[decide_eq_true rfl,decide_eq_true hl]at h;cases h
    obtain⟨y,h1,h2⟩:=den_asl (cO_spec hE ex);exact Ymg
   .have:(decide (j.size=z)&&decide (n<l))=false:=by simpa using hc
    rw[show(and (decide (j.size=z)) (decide (n<l)))=false from this]at h;cases h
  .cases h
 .cases h
theorem o_idxArr{e len:Nat}{i:Operand}{v:SV}(hu:P.underlying t=some (.array len e))(hs:szOf P e=some s)(h:idxArr len s ((cO nt x).g T) ((cO nt i).g T)=some v):PO P L nt f (.indexAddr t x i) v:=by
 obtain⟨j,hj,rfl⟩:=szOf_spec hs;unfold idxArr at h
 split at h
 .rename_i b o ex
  split at h
  .rename_i kk n en;rw[nblt]at h;by_cases hl:n<len
   .rw [decide_eq_true hl]at h;cases h
    obtain⟨y,h1,h2⟩:=den_at (cO_spec hE ex);have h3:=den_int (cO_spec hE en);exact⟨_,den_at' h1,fun d ty ps af gd w=>by simp[execOp,Instr.indexAt,h2,h3,asIntOf,run_underlying hu,hl,sizeOf,typeInfo,hj,Instr.sureAddr,add_lit]⟩
   .rw [decide_eq_false hl]at h;cases h
  .cases h
 .cases h
theorem o_idxAgg{e len:Nat}{i:Operand}{v:SV}(hu:P.underlying t=some (.array len e))(hs:szOf P e=some s)(h:idxAgg P len e s ((cO nt x).g T) ((cO nt i).g T)=some v):PO P L nt f (.index t x i) v:=by
 obtain⟨j,hj,rfl⟩:=szOf_spec hs;unfold idxAgg at h
 split at h
 .rename_i l ex
  split at h
  .rename_i kk n en;rw[nblt]at h;by_cases hl:n<len
   .rw [decide_eq_true hl]at h;obtain⟨xs,h1,h2⟩:=den_agg (cO_spec hE ex);have h3:=den_int (cO_spec hE en);obtain⟨y,h5,h6⟩:=partS_spec h h1;exact⟨y,h5,fun d ty ps af gd w=>by simp[execOp,Instr.index,h2,h3,asIntOf,run_underlying hu,hl,sizeOf,typeInfo,hj,h6]⟩
   .rw [decide_eq_false hl]at h;cases h
  .cases h
 .cases h
theorem o_idxStr{i:Operand}{v:SV}(hu:P.underlying t=some .string)(h:idxStr ((cO nt x).g T) ((cO nt i).g T)=some v):PO P L nt f (.index t x i) v:=by
 unfold idxStr at h
 split at h
 .rename_i l ex
  split at h
  .rename_i kk n en
   split at h
   .rename_i b hb;cases h
    have h2:=den_str (cO_spec hE ex);have h3:=den_int (cO_spec hE en)
    haveI:StrT P t:=⟨hu⟩
    exact⟨_,den_int' _ _ _,fun d ty ps af gd w=>by
     have hq:(bA l)[n]?=some b:=by
      have hlt:=(List.getElem?_eq_some_iff.1 hb).1;rw[getElem?_pos (bA l) n hlt];obtain⟨h5,h6⟩:=List.getElem?_eq_some_iff.1 hb;simp only[Option.some.injEq];exact h6
     simp[execOp,Instr.index,h2,h3,asIntOf,run_underlying hu,hq]⟩
   .cases h
  .cases h
 .cases h
theorem cN_spec{o:Option Operand}{r:Option Nat}(h:(cN nt o).g T=some r):match o with|some o=>∃n k,r=some n/\ev nt f o=.int k (n:Int)|none=>r=none:=by
 cases o with
 |none=>cases h;rfl
 |some o=>
  simp only[cN]at h;cases e:(cO nt o).g T with
  |none=>rw[e]at h;cases h
  |some v=>
   rw[e]at h;simp only at h;cases e':toN v with
   |none=>rw[e']at h;cases h
   |some n=>
    rw[e']at h;cases h
    unfold toN at e'
    split at e'
    .rename_i k m;cases e'
     have:=cO_spec hE e;exact⟨n,k,rfl,den_int this⟩
    .cases e'
theorem o_sliceStr{lo hi:Option Operand}{l r:Option Nat}{b:List UInt8}(hu:P.underlying t=some .string)(hx:ev nt f x=.string (bA b))(hl:(cN nt lo).g T=some l)(hh:(cN nt hi).g T=some r)
 (h1:l.getD 0<=r.getD b.length) (h2:r.getD b.length<=b.length):PO P L nt f (.slice t x lo hi none) (.str ((b.take (r.getD b.length)).drop (l.getD 0))):=by
 refine⟨_,den_str' _ _,fun d ty ps af gd w=>?_⟩;have hl':=cN_spec hE hl;have hh':=cN_spec hE hh;have hsz:(bA b).size=b.length:=rfl;have hext:∀i j,(bA b).extract i j=bA ((b.take j).drop i):=by
  intro i j;rw[<-toList_inj];simp[ByteArray.toList_eq,bA,List.drop_take]
 cases lo with
 |none=>
  simp only at hl';subst hl';cases hi with
  |none=>simp only at hh';subst hh';simp[execOp,hx,Instr.sliceAt,Instr.slice,run_underlying hu,Instr.sliceBounds,hsz,hext]
  |some o=>obtain⟨n,k,rfl,hk⟩:=hh';simp at h1 h2;simp[execOp,hx,hk,Instr.sliceAt,Instr.slice,run_underlying hu,Instr.sliceBounds,Instr.sliceBound,asIntOf,hsz,hext,h2]
 |some o'=>
  obtain⟨m,k',rfl,hk'⟩:=hl';cases hi with
  |none=>simp only at hh';subst hh';simp at h1 h2;simp[execOp,hx,hk',Instr.sliceAt,Instr.slice,run_underlying hu,Instr.sliceBounds,Instr.sliceBound,asIntOf,hsz,hext,h1]
  |some o=>obtain⟨n,k,rfl,hk⟩:=hh';simp at h1 h2;simp[execOp,hx,hk,hk',Instr.sliceAt,Instr.slice,run_underlying hu,Instr.sliceBounds,Instr.sliceBound,asIntOf,hsz,hext,h1,h2]
theorem run_slice{e:Nat}{i:TypeInfo}{lo hi:Option Operand}{l r:Option Nat}{ao:Option Addr}{len c:Nat}(hu:P.underlying t=some (.slice e))(hi':P.info? e=some i)(hx:ev nt f x=.slice ao len c)(hl:(cN nt lo).g T=some l)(hh:(cN nt hi).g T=some r)
 (h1:l.getD 0<=r.getD len) (h2:r.getD len<=len) (h3:len<=c) (d:Option Tmp) (ty:TypeId) (ps:String) (af:Array Edge) (gd:Option (Nat×Bool)) (w:World):
 (execOp (ev nt f) ⟨d,.slice t x lo hi none,ty,ps,af,gd⟩).run P w=.ok (.value (.slice (if c=l.getD 0 then ao else ao.map (·.add (l.getD 0*i.size))) (r.getD len-l.getD 0) (c-l.getD 0))) w:=by
 have hl':=cN_spec hE hl;have hh':=cN_spec hE hh;have h4:r.getD len<=c:=Nat.le_trans h2 h3;cases lo with
 |none=>
  simp only at hl';subst hl';cases hi with
  |none=>simp only at hh';subst hh';simp[execOp,hx,Instr.sliceAt,Instr.slice,run_underlying hu,Instr.sliceBounds,sizeOf,typeInfo,hi']
  |some o=>obtain⟨n,k,rfl,hk⟩:=hh';simp at h1 h2 h4;simp[execOp,hx,hk,Instr.sliceAt,Instr.slice,run_underlying hu,Instr.sliceBounds,Instr.sliceBound,asIntOf,sizeOf,typeInfo,hi',h4]
 |some o'=>
  obtain⟨m,k',rfl,hk'⟩:=hl';cases hi with
  |none=>simp only at hh';subst hh';simp at h1 h2 h4;simp[execOp,hx,hk',Instr.sliceAt,Instr.slice,run_underlying hu,Instr.sliceBounds,Instr.sliceBound,asIntOf,sizeOf,typeInfo,hi',h1]
  |some o=>obtain⟨n,k,rfl,hk⟩:=hh';simp at h1 h2 h4;simp[execOp,hx,hk,hk',Instr.sliceAt,Instr.slice,run_underlying hu,Instr.sliceBounds,Instr.sliceBound,asIntOf,sizeOf,typeInfo,hi',h1,h4]
end
theorem o_assert{T:Tr SV}(hE:ER L T f){xt:Nat}{dd:TypeDesc}{ok:Bool}{v:SV}(ht:P.underlying t=some dd)(hd:∀ms,dd≠.interface ms)(h:assertV t ok ((cO nt x).g T)=some v):PO P L nt f (.typeAssert x xt t ok) v:=by
 unfold assertV at h
 split at h
 .rename_i u y e;rw[nbeq]at h;by_cases hut:u=t
  .subst hut;rw[decide_eq_true rfl]at h;cases h
   obtain⟨z,h1,h2⟩:=den_ifc (cO_spec hE e);cases ok with
   |true=>
    refine⟨_,den_tup' (denL_cons.2 ⟨_,_,h1,denL_one (den_bool' L true),rfl⟩),fun d ty ps af gd w=>?_⟩;cases dd<;>first|exact absurd rfl (hd _)|simp[execOp,Instr.typeAssert,run_underlying ht,h2]
   |false=>
    refine⟨_,h1,fun d ty ps af gd w=>?_⟩;cases dd<;>first|exact absurd rfl (hd _)|simp[execOp,Instr.typeAssert,run_underlying ht,h2]
  .rw [decide_eq_false hut]at h;cases h
 .cases h
theorem o_len{T:Tr SV}(hE:ER L T f){at_:Array TypeId}{v:SV}(hat:at_.toList=[t])(h:lenV P t ((cO nt x).g T)=some v):PO P L nt f (.call {callee:=.builtin .len,args:=#[x],argTypes:=at_}) v:=by
 have hat':at_=#[t]:=by rw[<-Array.toList_inj];simpa using hat
 subst hat';unfold lenV at h
 split at h
 .rename_i u e
  split at h
  .rename_i n hn;cases h
   refine⟨_,den_int' _ _ _,fun d ty ps af gd w=>?_⟩;have hx:=cO_spec hE e;unfold lenS at hn
   split at hn
   .split at hn
    .rename_i s _ hu;cases hn;have:=den_str hx;simp[execOp,resolve,invoke,builtin,Builtin.len_,run_underlying hu,this,goInt];rfl
    .cases hn
   .split at hn
    .rename_i hu;cases hn;obtain⟨_,_,_,this⟩:=den_slc hx;simp[execOp,resolve,invoke,builtin,Builtin.len_,run_underlying hu,this,goInt]
    .cases hn
   .split at hn
    .rename_i hu;cases hn;obtain⟨_,_,this⟩:=den_esl hx;simp[execOp,resolve,invoke,builtin,Builtin.len_,run_underlying hu,this,goInt]
    .cases hn
   .split at hn
    .rename_i hu;cases hn;obtain⟨_,_,this⟩:=den_asl hx;simp[execOp,resolve,invoke,builtin,Builtin.len_,run_underlying hu,this,goInt]
    .cases hn
   .split at hn
    .rename_i hu;cases hn;have:ev nt f x=zS:=by unfold den at hx;simpa using hx.symm
     simp[execOp,resolve,invoke,builtin,Builtin.len_,run_underlying hu,this,goInt]
    .cases hn
   .cases hn
  .cases h
 .cases h
theorem o_min{T:Tr SV}(hE:ER L T f){at_:Array TypeId}{v:SV}(h:minV ((cO nt x).g T) ((cO nt y).g T)=some v):PO P L nt f (.call {callee:=.builtin .min,args:=#[x,y],argTypes:=at_}) v:=by
 unfold minV at h
 split at h
 .rename_i k a e
  split at h
  .rename_i k' b e';cases hk:kbeq k k' with
   |false=>rw[hk]at h;cases h
   |true=>
    rw[hk]at h;cases h
    have:=kbeq_eq hk;subst this;have h1:=den_int (cO_spec hE e);have h2:=den_int (cO_spec hE e');refine⟨_,den_int' _ _ _,fun d ty ps af gd w=>?_⟩;rw[ilt_eq];by_cases hlt:b<a<;>simp[execOp,resolve,invoke,builtin,Builtin.min_,Builtin.min2,h1,h2,hlt]
  .cases h
 .cases h
theorem o_max{T:Tr SV}(hE:ER L T f){at_:Array TypeId}{v:SV}(h:maxV ((cO nt x).g T) ((cO nt y).g T)=some v):PO P L nt f (.call {callee:=.builtin .max,args:=#[x,y],argTypes:=at_}) v:=by
 unfold maxV at h
 split at h
 .rename_i k a e
  split at h
  .rename_i k' b e';cases hk:kbeq k k' with
   |false=>rw[hk]at h;cases h
   |true=>
    rw[hk]at h;cases h
    have:=kbeq_eq hk;subst this;have h1:=den_int (cO_spec hE e);have h2:=den_int (cO_spec hE e');refine⟨_,den_int' _ _ _,fun d ty ps af gd w=>?_⟩;rw[ilt_eq];by_cases hlt:a<b<;>simp[execOp,resolve,invoke,builtin,Builtin.max_,Builtin.max2,h1,h2,hlt]
  .cases h
 .cases h
theorem add_ite(b o:Nat)(j z c:Nat):(if c=j then(some ⟨b,o,none⟩:Option Addr) else(some ⟨b,o,none⟩:Option Addr).map (·.add (j*z)))=some (if c=j then⟨b,o,none⟩ else⟨b,o+j*z,none⟩):=by
 split<;>simp[add_lit]
theorem o_slice{T:Tr SV}(hE:ER L T f){lo hi:Option Operand}{v:SV}(h:sliceV P t ((cO nt x).g T) ((cN nt lo).g T) ((cN nt hi).g T)=some v):PO P L nt f (.slice t x lo hi none) v:=by
 unfold sliceV at h
 split at h
 case h_2=>cases h
 rename_i l el
 split at h
 case h_2=>cases h
 rename_i r er
 split at h
 case h_2=>cases h
 rename_i u eu;have hx:=cO_spec hE eu;unfold sliceS at h
 split at h
 .split at h
  case h_2=>cases h
  rename_i s _ hu;simp only[nble]at h;by_cases hc:l.getD 0<=r.getD s.length/\r.getD s.length<=s.length
  .obtain ⟨h1,h2⟩:=hc;rw[decide_eq_true h1,decide_eq_true h2]at h;cases h
   exact o_sliceStr hE hu (den_str hx) el er h1 h2
  .have:(and (decide (l.getD 0<=r.getD s.length)) (decide (r.getD s.length<=s.length)))=false:=by simpa using hc
   rw[this]at h;cases h
 .rename_i i e n z
  split at h
  case h_2=>cases h
  rename_i q hq
  split at h
  case h_2=>cases h
  rename_i s hs;obtain⟨j,hj,rfl⟩:=szOf_spec hs;simp only[nble,nbeq]at h;by_cases hc:j.size=z/\l.getD 0<=r.getD n/\r.getD n<=n
  .obtain ⟨h0,h1,h2⟩:=hc;subst h0;rw[decide_eq_true rfl,decide_eq_true h1,decide_eq_true h2]at h;obtain⟨b,hb,hle,hv⟩:=den_slc hx;have hrun:=fun d ty ps af gd w=>run_slice (P:=P) hE (elemOf_spec hq) hj hv el er h1 h2 Yhn d ty ps af gd w
   simp only[add_ite]at hrun;by_cases hab:l.getD 0=r.getD n/\¬l.getD 0=0
   .rw [decide_eq_true hab.1,decide_eq_false hab.2]at h;cases h
    refine⟨_,by unfold den;rw[hb],fun d ty ps af gd w=>?_⟩;rw[hrun,<-hab.1,Nat.sub_self]
   .have:(and (decide (l.getD 0=r.getD n)) (not (decide (l.getD 0=0))))=false:=by
     cases h3:decide (l.getD 0=r.getD n)with
     |false=>rfl
     |true=>cases h4:decide (l.getD 0=0)with
      |true=>rfl
      |false=>exact absurd ⟨of_decide_eq_true h3,of_decide_eq_false h4⟩ hab
    rw[this]at h;cases h
    refine⟨_,den_slc' hb Yhn,fun d ty ps af gd w=>?_⟩;rw[hrun];have e1:(if b.2-e=l.getD 0 then(⟨b.1,e*j.size,none⟩:Addr) else⟨b.1,e*j.size+l.getD 0*j.size,none⟩)=⟨b.1,(e+l.getD 0)*j.size,none⟩:=by
     split
     .have h3:l.getD 0=0:=by
       by_cases hz:l.getD 0=0
       .exact hz
       .exact absurd ⟨by omega,hz⟩ hab
      rw[h3,Nat.add_zero]
     .rw [Nat.add_mul]
    rw[e1,Nat.sub_add_eq]
  .have:(and (decide (j.size=z)) (and (decide (l.getD 0<=r.getD n)) (decide (r.getD n<=n))))=false:=by simpa using hc
   rw[this]at h;cases h
 .rename_i i e jj z
  split at h
  case h_2=>cases h
  rename_i q hq
  split at h
  case h_2=>cases h
  rename_i s hs;obtain⟨j,hj,rfl⟩:=szOf_spec hs;simp only[nbeq]at h;by_cases hc:l.getD 0=0/\r.getD 0=0
  .rw [decide_eq_true hc.1,decide_eq_true hc.2]at h;cases h
   obtain⟨b,hb,hv⟩:=den_esl hx;refine⟨_,hx,fun d ty ps af gd w=>?_⟩;rw[hv];have hrun:=run_slice (P:=P) hE (elemOf_spec hq) hj hv el er Yhn Yhn (Nat.zero_le _) d ty ps af gd w;rw[hrun,hc.1,hc.2];have e1:∀(a:Addr) (c:Nat),(if c=0 then some a else(some a).map (·.add (0*j.size)))=some a:=fun a c=>by split<;>simp[add0]
   rw[e1,Nat.sub_zero,Nat.sub_zero]
  .have:(and (decide (l.getD 0=0)) (decide (r.getD 0=0)))=false:=by simpa using hc
   rw[this]at h;cases h
 .split at h
  case h_2=>cases h
  rename_i q hq
  split at h
  case h_2=>cases h
  rename_i s hs;obtain⟨j,hj,rfl⟩:=szOf_spec hs;simp only[nbeq]at h;by_cases hc:l.getD 0=0/\r.getD 0=0
  .rw [decide_eq_true hc.1,decide_eq_true hc.2]at h;cases h
   have hv:ev nt f x=zS:=by unfold den at hx;simpa using hx.symm
   refine⟨_,by unfold den;rfl,fun d ty ps af gd w=>?_⟩;have hrun:=run_slice (P:=P) hE (elemOf_spec hq) hj hv el er Yhn Yhn (Nat.zero_le _) d ty ps af gd w;rw[hrun,hc.1,hc.2];simp
  .have:(and (decide (l.getD 0=0)) (decide (r.getD 0=0)))=false:=by simpa using hc
   rw[this]at h;cases h
 .rename_i i o
  split at h
  .split at h
   .rename_i n e hu
    split at h
    .rename_i z hz;cases h
     obtain⟨j,hj,rfl⟩:=szOf_spec hz;obtain⟨b,hb,hv⟩:=den_at hx;have hl':=cN_spec hE el;have hh':=cN_spec hE er;have e1:lo=none:=by
      cases lo with
      |none=>rfl
      |some _=>obtain⟨_,_,h3,_⟩:=hl';cases h3
     have e2:hi=none:=by
      cases hi with
      |none=>rfl
      |some _=>obtain⟨_,_,h3,_⟩:=hh';cases h3
     subst e1 e2;refine⟨_,by unfold den;rw[hb],fun d ty ps af gd w=>?_⟩;simp[execOp,hv,Instr.sliceAt,run_underlying hu,Instr.sureAddr,Instr.sliceBounds,sizeOf,typeInfo,hj,add0]
    .cases h
   .cases h
  .cases h
 .cases h
end
end
section
variable{α:Type}
theorem arr1{a:Array α}{x:α}(h:a.toList=[x]):a=#[x]:=by rw[<-Array.toList_inj];simpa using h
theorem arr2{a:Array α}{x y:α}(h:a.toList=[x,y]):a=#[x,y]:=by rw[<-Array.toList_inj];simpa using h
section
variable{P:Program}{nt:Nat}{L:Lay}{T:Tr SV}{f:Env}
theorem pure_spec{op:Op}{g:Tr SV->Option SV}{v:SV}(hc:cOp P nt op=.pure g)(hE:ER L T f)(hg:g T=some v):PO P L nt f op v:=by
 cases op with
 |move x=>cases hc;exact o_move hE hg
 |assign x=>cases hc;exact o_assign hE hg
 |pick c a b=>cases hc;exact o_pick hE hg
 |nilCheck x=>cases hc;exact o_nil hE hg
 |fieldAddr s x i=>
  simp only[cOp,kFA]at hc
  split at hc
  .rename_i ft off hf
   split at hc
   .rename_i n hs;cases hc;exact o_fa hE hf hs hg
   .cases hc
  .cases hc
 |field s x i=>
  simp only[cOp,kField]at hc
  split at hc
  .rename_i ft off hf;cases hc;exact o_field hE hf hg
  .cases hc
 |binOp op t x y t2=>cases hc;exact o_bin hE hg
 |unOp op t x=>
  simp only[cOp]at hc
  split at hc
  .cases hc;exact o_not hE hg
  .cases hc;exact o_neg hE hg
  .cases hc
 |convert s t x=>
  simp only[cOp,kConv]at hc
  split at hc
  .rename_i hs
   split at hc
   .rename_i ht;cases hc;exact o_conv hE hs ht hg
   .cases hc
  .rename_i hs
   split at hc
   .rename_i ht;cases hc;exact o_convS hE hs ht hg
   .split at hc<;>cases hc
   .cases hc
  .split at hc
   .split at hc<;>cases hc
   .cases hc
  .cases hc
 |makeInterface t x=>
  simp only[cOp,kIfc]at hc
  split at hc
  .cases hc
  .rename_i hd ht;cases hc;exact o_ifc hE ht (fun ms e=>hd ms (by rw[<-e])) hg
  .cases hc
 |makeFunc fn a c=>
  cases fn with
  |func k=>cases hc;exact o_fn hE hg
  |_=>cases hc
 |extract x i=>cases hc;exact o_ext hE hg
 |build t ps=>
  simp only[cOp,kBuild]at hc
  split at hc
  .rename_i z hz
   split at hc
   .split at hc
    .rename_i pl hp;cases hc;exact o_build hE hz hp hg
    .cases hc
   .rename_i n e hu
    split at hc
    .rename_i s hs;cases hc;exact o_buildA hE hz hu hs hg
    .cases hc
   .cases hc
  .cases hc
 |indexAddr t x i=>
  simp only[cOp,kIdxA]at hc
  split at hc
  .rename_i hu
   split at hc
   .rename_i hs;cases hc;exact o_idxSlc hE hu hs hg
   .cases hc
  .rename_i hu
   split at hc
   .rename_i hs;cases hc;exact o_idxArr hE hu hs hg
   .cases hc
  .cases hc
 |index t x i=>
  simp only[cOp,kIdx]at hc
  split at hc
  .rename_i hu
   split at hc
   .rename_i hs;cases hc;exact o_idxAgg hE hu hs hg
   .cases hc
  .rename_i hu;cases hc;exact o_idxStr hE hu hg
  .cases hc
 |slice t x lo hi mx=>
  cases mx with
  |none=>cases hc;exact o_slice hE hg
  |some m=>cases hc
 |typeAssert x xt t ok=>
  simp only[cOp,kAssert]at hc
  split at hc
  .cases hc
  .rename_i hd ht;cases hc;exact o_assert hE ht (fun ms e=>hd ms (by rw[<-e])) hg
  .cases hc
 |call c=>
  obtain⟨callee,args,ats⟩:=c;simp only[cOp,kCall]at hc
  split at hc
  .cases hc
  .rename_i b
   split at hc
   .rename_i x t hx ht
    split at hc
    .simp only[kLen]at hc
     split at hc
     .cases hc
     .cases hc
      have:=arr1 hx;subst this;exact o_len hE ht hg
     .cases hc
    .cases hc
   .rename_i x y t u hx ht;have:=arr2 hx;subst this
    split at hc
    .simp only[kApp]at hc;exact Ymd
    .simp only[kCopy]at hc
     repeat' split at hc
     all_goals cases hc
    .cases hc;exact o_min hE hg
    .cases hc;exact o_max hE hg
    .cases hc
   .cases hc
  .cases hc
 |load t x=>
  simp only[cOp,kLoad]at hc
  repeat' split at hc
  all_goals cases hc
 |lookup t x k ok=>
  simp only[cOp,kLookup]at hc
  repeat' split at hc
  all_goals cases hc
 |alloc t=>
  simp only[cOp]at hc
  split at hc<;>cases hc
 |box t x=>cases hc
 |buildSlice t n ps=>
  simp only[cOp,kRow]at hc
  repeat' split at hc
  all_goals first|(cases hc;done)|skip
  all_goals (unfold cond at hc;split at hc<;>cases hc)
 |makeSlice t n c=>
  simp only[cOp,kMake]at hc
  repeat' split at hc
  all_goals first|(cases hc;done)|skip
  all_goals (unfold cond at hc;split at hc<;>cases hc)
 |makeMap t r=>cases r<;>cases hc
 |store t a x=>
  simp only[cOp,kStore]at hc
  split at hc<;>cases hc
 |mapUpdate t m k x=>
  simp only[cOp,kUpd]at hc
  split at hc<;>cases hc
 |insert t m k x=>
  simp only[cOp,kUpd]at hc
  split at hc<;>cases hc
 |range t x=>
  simp only[cOp,kRange]at hc
  split at hc<;>cases hc
 |next it b=>cases b<;>cases hc
 |defer c=>
  simp only[cOp]at hc
  repeat' split at hc
  all_goals cases hc
 |_=>cases hc
end
end
end Go.Ev
