/-
 Package hash:Sum and Bytes.
-/
import Derived.Test.YtmlpcmjmniobdaaGreatZK1
import Derived.RangeFuncSeq
import Derived.RangeFuncLeaves
import Derived.TacticsIn
import Derived.Test.YtmlpcmjmniobdaaGreatZLv
set_option linter.all false
namespace Go.Rf
section
open Go.RowKit
def noDefer:List Oper->Bool
 |[]=>true
 |o::l=>(match o.op with|.defer _=>false|_=>true)&&noDefer l
theorem noDefer_one{o:Oper}{l:List Oper}(h:noDefer (o::l)=true):∀c,o.op≠.defer c:=by
 intro c e;simp[noDefer,e]at h
theorem in_step{P:Program}{ops:Array Oper}{Q:Exit->Act->World->Prop}{rest:List Oper}{o:Oper}{a:Act}{w:World}{ro:Option Nat}{m:Nat}(hn:noDefer [o]=true)
 (h:wpList P ops (Exit.then (wpListIn {Fence.wide with round:=ro} m P ops Q rest) (fun _ _ _=>False)) [o] a w):wpListIn {Fence.wide with round:=ro} m P ops Q (o::rest) a w:=by
 unfold wpList at h;unfold wpListIn
 split
 .rename_i hw;rw[if_pos hw]at h;rcases h with h|⟨_,a',w',h2⟩
  .refine ⟨fun _ _=>trivial,?_⟩;rw[Oper.semAt_eq _ _ _ (noDefer_one hn)];unfold Oper.wp at h;generalize (execOp a.eval o).run P w=r at h ⊢;cases r with
   |ok x w'=>
    cases x with
    |value v=>exact h
    |skip=>exact h
    |defer d=>exact h
    |enter fid args=>
     refine⟨fun hd=>by simp[Fence.wide]at hd,?_⟩;have:=callsIn_wide (n:=m-1) (P:=P).2 h;refine CallsIn.mono (F:={Fence.wide with round:=ro}) this fun e w'' he=>?_
     cases e with
     |returned v=>exact he
     |panicked c=>exact he.elim
     |outgrown=>obtain⟨_,_,hf⟩:=he;exact hf.elim
    |row row args=>
     refine⟨fun hd=>by simp[Fence.wide]at hd,?_⟩;intro c cs _;obtain⟨v,w'',hr,hs⟩:=h c cs;exact⟨v,w'',hr,stepsIn_wide.2 hs⟩
    |_=>exact h.elim
   |halt x w'=>cases x<;>exact h.elim
  .exact h2.elim
 .rename_i hw;rw[if_neg hw]at h;exact⟨fun _ _=>trivial,h⟩
theorem in_list{P:Program}{ops:Array Oper}{Q:Exit->Act->World->Prop}{ro:Option Nat}{m:Nat}:∀(l:List Oper) (a:Act) (w:World),noDefer l=true->wpList P ops (Exit.then (fun a w=>Q .normal a w) (fun _ _ _=>False)) l a w->wpListIn {Fence.wide with round:=ro} m P ops Q l a w
 |[],a,w,_,h=>h
 |o::l,a,w,hn,h=>by
  have hn':noDefer l=true:=by simp only[noDefer,Bool.and_eq_true]at hn;exact hn.2
  have hn1:noDefer [o]=true:=by simp only[noDefer,Bool.and_eq_true]at hn ⊢;exact⟨hn.1,trivial⟩
  refine in_step hn1 ?_;have ih:=fun a w=>in_list (P:=P) (ops:=ops) (Q:=Q) (ro:=ro) (m:=m) l a w hn'
  unfold wpList at h ⊢
  split
  .rename_i hw;rw[if_pos hw]at h;rcases h with h|⟨_,a',w',h2⟩
   .refine .inl ?_;unfold Oper.wp at h ⊢;generalize (execOp a.eval o).run P w=r at h ⊢;cases r with
    |ok x w'=>
     cases x with
     |value v=>exact ih _ _ h
     |skip=>exact ih _ _ h
     |defer d=>exact ih _ _ h
     |enter fid args=>
      refine Calls.mono h fun e w'' he=>?_
      cases e with
      |returned v=>exact ih _ _ he
      |panicked c=>exact he
      |outgrown=>obtain⟨_,_,hf⟩:=he;exact hf.elim
     |row row args=>exact Rows.mono h (fun _ _ he=>ih _ _ he)
     |_=>exact h.elim
    |halt x w'=>cases x<;>exact h.elim
   .exact h2.elim
  .rename_i hw;rw[if_neg hw]at h;exact ih _ _ h
theorem in_region{P:Program}{Q:Exit->Act->World->Prop}{ro:Option Nat}{m id:Nat}{l:List Oper}{a:Act}{w:World}(hn:noDefer l=true)
 (h:wpList P l.toArray (Exit.then (fun a w=>Q .normal a w) (fun _ _ _=>False)) l a w):(Code.region id l.toArray false).wpIn {Fence.wide with round:=ro} m P Q a w:=wpIn_region_lit (in_list l a w hn h)
theorem c_regionIn{P:Program}{Q:Exit->Act->World->Prop}{id:Nat}{l:List Oper}{a:Act}{w:World}(h:wpListIn {Fence.wide with round:=none} 0 P l.toArray Q l a w):(Code.region id l.toArray false).wp P Q a w:=
 wpIn_wide.1 (wpIn_region_lit h)
theorem in_yield{D:Dfs}{P:Program}{ops:Array Oper}{Q:Exit->Act->World->Prop}{rest:List Oper}{n:Nat}{f:Env}{w:World}{d:Nat}{ty:TypeId}{ps:String}{af:Array Edge}{x y:Operand}{at_:Array TypeId}{l:Nat}{v:Value}{R:Ending->World->Prop}
 (hx:ev n f x=.func (.yield l) #[] #[]) (hy:ev n f y=v) (hY:YieldAt Fence.wide 0 P l #[v] w R)
 (h:∀e w',R e w'->∃r,e=.returned r/\wpListIn {Fence.wide with round:=none} 0 P ops Q rest (A n (upd f d r)) w'):
 wpListIn {Fence.wide with round:=none} 0 P ops Q (⟨some d,.call {callee:=.value x,args:=#[y],argTypes:=at_},ty,ps,af,none⟩::rest) (A n f) w:=by
 obtain⟨fn,tmps,assign,body,hy',hR⟩:=hY;unfold wpListIn;rw[if_pos (by simp[Region.wanted])];refine⟨fun _ _=>trivial,?_⟩;have e:(Oper.semAt none (A n f).eval ⟨some d,.call {callee:=.value x,args:=#[y],argTypes:=at_},ty,ps,af,none⟩).run P w=.ok (.round l fn tmps assign body) w:=by
  rw[Oper.semAt_none,A_eval];simp only[execOp,resolve,invoke,hx,Deferred.ofValue];simp[hy,hy']
 show Oper.uponIn _ _ _ _ _ _ _ ((Oper.semAt none (A n f).eval ⟨some d,.call {callee:=.value x,args:=#[y],argTypes:=at_},ty,ps,af,none⟩).run P w);rw[e];refine⟨fun hd=>by simp[Fence.wide]at hd,?_⟩;refine RoundIn.mono (F:={Fence.wide with round:=none}) hR fun e' w' he=>?_
 obtain⟨r,rfl,hk⟩:=h e' w' he;show wpListIn _ _ _ _ _ _ ((A n f).put (some d) r) w';rw[A_put];exact hk
theorem A_round(n:Nat)(f:Env)(p:Nat)(v:Value):({tmps:=((#[p]:Array Tmp).zip #[v]).foldl (fun t (p,v)=>t.setIfInBounds p v) (A n f).tmps,defers:=[]}:Act)=A n (upd f p v):=by
 have h:=A_put (D:=dfs0) n f (some p) v;simp only[Act.put,updo]at h;rw[<-h];have e:(#[p]:Array Nat).zip #[v]=#[(p,v)]:=by simp[Array.zip]
 simp[e];rfl
theorem c_range{D:Dfs}{P:Program}{Q:Exit->Act->World->Prop}{n:Nat}{f:Env}{w:World}{g:Operand}{p gf:Nat}{lb:Array Value}{asg body:Code}[F:FnT P gf](f1:Value->Env)(hg:ev n f g=.func (.func gf) #[] lb)
 (xs:List Value) (I:Nat->World->Prop) (hI:∀k W W',I k W->Fr [w.heap.size+1] W W'->I k W') (h0:∀W,Fr [] w W->I 0 W)
 (hseq:∀(l:Nat) (J:Nat->World->Prop) (W:World),J 0 W->(∀k W1,J k W1->I k W1)->
  (∀k v W1,xs[k]?=some v->J k W1->YieldAt Fence.wide 0 P l #[v] W1 fun e W'=>e=.returned (.bool true)/\J (k+1) W')->
  Calls P gf (#[.func (.yield l) #[] #[]]++lb) W fun e W'=>(∃v,e=.returned v)/\J xs.length W')
 (hasg:∀l v W K,K (@A n (f1 v) dfs0) W->asg.wpIn {Fence.wide with round:=some l} 0 P (Exit.then K (fun _ _ _=>False)) (@A n (upd f p v) dfs0) W)
 (hbody:∀l k v W,xs[k]?=some v->I k W->w.heap.size+1<W.heap.size->body.wpIn {Fence.wide with round:=some l} 0 P (fun e _ W'=>e=.normal/\I (k+1) W'/\W'.heap[w.heap.size]?=W.heap[w.heap.size]?/\W'.heap[w.heap.size+1]?=W.heap[w.heap.size+1]?) (@A n (f1 v) dfs0) W)
 (hdone:∀W,I xs.length W->W.heap[w.heap.size]?=some (.deferred (some []))->Q .normal (@A n f ⟨{target:=.collected w.heap.size,args:=#[]}::D.ds⟩) W):(Code.rangeFunc g #[p] asg body).wp P Q (A n f) w:=by
 refine(wpIn_wide (n:=0)).1 (wpIn_rangeFunc ?_);intro fn hfn;obtain⟨rec,hrec⟩:∃rec:LoopState->Option Code->Loop,rec=fun st pe=>{state:=st,pending:=pe,fn,tmps:=(A n f).tmps,params:=#[p],assign:=asg,body,defers:=w.heap.size}:=⟨_,rfl⟩
 obtain⟨W1,hW1⟩:∃W1,(w.alloc (.deferred (some []))).alloc (.loop (rec .ready none))=W1:=⟨_,rfl⟩;have hL1:W1.heap[w.heap.size+1]?=some (.loop (rec .ready none)):=by
  rw[<-hW1];have:=World.alloc_heap_new (w.alloc (.deferred (some []))) (.loop (rec .ready none));rwa [World.size_alloc]at this
 have hK1:W1.heap[w.heap.size]?=some (.deferred (some [])):=by
  rw[<-hW1];exact(Below.heap_alloc _ _ _ Yhs).trans (World.alloc_heap_new w _)
 have hF1:Fr [] w W1:=by rw[<-hW1];exact(Fr.alloc [] w _).trans0 (Fr.alloc [] _ _)
 have hput:∀(W:World) (o:Obj),Fr [w.heap.size+1] W (W.putObj (w.heap.size+1) o):=fun W o=>⟨rfl,rfl,rfl,by simp,fun k _ hk=>World.putObj_heap_other Yng,Nat.le_refl _⟩
 obtain⟨fn0,hfn0,hnm,hbd⟩:=F.f;refine⟨w.heap.size+1,[{target:=.collected w.heap.size,args:=#[]}],W1,{target:=.fn (.func gf) lb,args:=#[.func (.yield (w.heap.size+1)) #[] #[]]},W1,gf,
  #[.func (.yield (w.heap.size+1)) #[] #[]]++lb,W1,?_,?_,fun _ _=>trivial,?_,fun hd=>by simp[Fence.wide]at hd,?_⟩
 .rw [<-hW1,hrec];exact run_enterLoop_outer _ _ _ _ _
 .simp only[resolve];have e1:Act.eval {A n f with defers:=[{target:=.collected w.heap.size,args:=#[]}]++(A n f).defers}=ev n f:=A_eval (D:=⟨[{target:=.collected w.heap.size,args:=#[]}]++(A n f).defers⟩) n f
  first
   |(rw[e1,hg];simp[go_sem,ev])
   |(simp only[A_eval,hg];simp[go_sem,ev])
 .have hn':¬fn0.name= "runtime.NumGoroutine":=by simpa using hnm
  have hb':¬fn0.body=none:=by intro e;rw[e]at hbd;cases hbd
  simp[invoke,callFunc,go_sem,hfn0,hn',hb']
 .refine callsIn_wide.2 ((hseq (w.heap.size+1) (fun k W=>I k W/\W.heap[w.heap.size+1]?=some (.loop (rec .ready none))/\W.heap[w.heap.size]?=some (.deferred (some []))) W1 ⟨h0 _ hF1,hL1,hK1⟩ (fun k W h=>h.1) ?_).mono ?_)
  .rintro k v W hx ⟨hi,hl,hk⟩;have hlt:w.heap.size+1<W.heap.size:=(Array.getElem?_eq_some_iff.1 hl).1;have hy:=run_yield (P:=P) (args:=#[v]) hl (by rw[hrec];rfl);rw[hrec]at hy;refine⟨fn,_,asg,body,hy,roundIn_of_wpIn hfn ?_⟩;have hl2:(W.putObj (w.heap.size+1) (.loop {rec .ready none with state:=.busy})).heap[w.heap.size+1]?=some (.loop {rec .ready none with state:=.busy}):=World.putObj_heap_same hlt;have hk2:(W.putObj (w.heap.size+1) (.loop {rec .ready none with state:=.busy})).heap[w.heap.size]?=some (.deferred (some [])):=(World.putObj_heap_other Yhn).trans hk;have hb:=hbody (w.heap.size+1) k v _ hx (hI _ _ _ hi (hput W (.loop {rec .ready none with state:=.busy}))) (by simpa using hlt);have key:asg.wpIn (Fence.wide.inRound (w.heap.size+1)) 0 P (Exit.then (fun a₁ w₁=>∃w₂,(Instr.beginRound (w.heap.size+1)).run P w₁=.ok () w₂/\body.wpIn (Fence.wide.inRound (w.heap.size+1)) 0 P (roundPost P (w.heap.size+1) (fun e W'=>e=.returned (.bool true)/\I (k+1) W'/\W'.heap[w.heap.size+1]?=some (.loop (rec .ready none))/\W'.heap[w.heap.size]?=some (.deferred (some [])))) a₁ w₂) (fun _ _ _=>False)) (@A n (upd f p v) dfs0) W:=by
    refine hasg _ v W _ ⟨_,run_beginRound hl (by rw[hrec]),?_⟩;refine wpIn_mono hb ?_;rintro e a3 W3 ⟨rfl,hi3,hd3,hl3⟩;have hl3':=hl3.trans hl2;refine⟨_,_,run_endRound none hl3',rfl,hI _ _ _ hi3 (hput _ _),?_,?_⟩
    .have:=World.putObj_heap_same (w:=W3) (o:=.loop (rec .ready none)) (Array.getElem?_eq_some_iff.1 hl3').1;rw[hrec]at this ⊢;exact this
    .exact (World.putObj_heap_other Yhn).trans (hd3.trans hk2)
   rw[<-A_round n f p v]at key;exact key
  .rintro e W2 ⟨⟨v,rfl⟩,hi,hl,hk⟩;refine⟨none,_,by have:=run_endLoop (P:=P) hl (by rw[hrec];simp);rw[hrec]at this;exact this,?_⟩;exact hdone _ (hI _ _ _ hi (hput _ _)) ((World.putObj_heap_other Yhn).trans hk)
theorem c_rangeD{D:Dfs}{P:Program}{Q:Exit->Act->World->Prop}{n:Nat}{f:Env}{w:World}{g:Operand}{p d gf id:Nat}{ty:TypeId}{ps:String}{af:Array Edge}{lb:List Value}{body:Code}[F:FnT P gf](hg:ev n f g=.func (.func gf) #[] lb.toArray)
 (xs:List Value) (I:Nat->World->Prop) (hI:∀k W W',I k W->Fr [w.heap.size+1] W W'->I k W') (h0:∀W,Fr [] w W->I 0 W)
 (hseq:∀(l:Nat) (J:Nat->World->Prop) (W:World),J 0 W->(∀k W1,J k W1->I k W1)->
  (∀k v W1,xs[k]?=some v->J k W1->YieldAt Fence.wide 0 P l #[v] W1 fun e W'=>e=.returned (.bool true)/\J (k+1) W')->
  Calls P gf (.func (.yield l) #[] #[]::lb).toArray W fun e W'=>(∃v,e=.returned v)/\J xs.length W')
 (hbody:∀l k v W,xs[k]?=some v->I k W->w.heap.size+1<W.heap.size->body.wpIn {Fence.wide with round:=some l} 0 P (fun e _ W'=>e=.normal/\I (k+1) W'/\W'.heap[w.heap.size]?=W.heap[w.heap.size]?/\W'.heap[w.heap.size+1]?=W.heap[w.heap.size+1]?) (@A n (upd (upd f p v) d v) dfs0) W)
 (hdone:∀W,I xs.length W->W.heap[w.heap.size]?=some (.deferred (some []))->Q .normal (@A n f ⟨{target:=.collected w.heap.size,args:=#[]}::D.ds⟩) W) (hp:Nat.blt p n=true:=by rfl):
 (Code.rangeFunc g #[p] (Code.region id [⟨some d,.assign (.tmp p),ty,ps,af,none⟩].toArray false) body).wp P Q (A n f) w:=by
 refine c_range (fun v=>upd (upd f p v) d v) hg xs I hI h0 ?_ ?_ hbody hdone
 .intro l J W h1 h2 h3;have:=hseq l J W h1 h2 h3;simpa using this
 .intro l v W K hK;refine in_region rfl ?_;refine s_assignV (v:=v) ?_ (wpList_nil hK);simp only[ev,hp,cond_true,upd_same]
/-! ### a function with such a statement: its beginning and end -/
theorem enterM{P:Program}{fid:FuncId}{fn:Func}{c:Code}{l:List Value}{w:World}{R:Ending->World->Prop}{n:Nat}
 (hf:P.funcs[fid]?=some fn) (hb:fn.body=some c) (hn:fn.ntmps=n) (hl:Nat.ble l.length n=true)
 (h:c.wp P (bodyPostM Fence.wide 0 P fn R) (A n (envL 0 l)) w):Calls P fid l.toArray w R:=by
 refine(callsIn_wide (n:=0)).1 (callsIn_of_wp_marks hf hb trivial ?_);rw[enter_act hn hl];exact wpIn_wide.2 h
def Mark(b:Nat):Deferred:={target:=.collected b,args:=#[]}
theorem retM1{P:Program}{fn:Func}{R:Ending->World->Prop}{n:Nat}{f:Env}{w:World}{b t:Nat}{v:Value}(hr:fn.results=#[.tmp t])(hD:w.heap[b]?=some (.deferred (some [])))(hv:ev n f (.tmp t)=v)
 (h:∀w',Fr [b] w w'->R (.returned v) w'):bodyPostM Fence.wide 0 P fn R .ret (@A n f ⟨[Mark b]⟩) w:=by
 refine⟨by simp,.inl ⟨b,_,rfl,run_takeDeferred hD,?_⟩⟩;refine⟨v,?_,h _ ⟨rfl,rfl,rfl,by simp,fun k _ hk=>World.putObj_heap_other Yng,Nat.le_refl _⟩⟩;have e:(A n f).tmps.getD t undef=v:=by rw[A_getD];exact hv
 rw[Array.getD_eq_getD_getElem?]at e;have e':(@A n f ⟨[Mark b]⟩).tmps=(A n f).tmps:=rfl;simp[results,hr,e',e]
/-! ### equality of truth values -/
theorem equalIn_bool{P:Program}{w:World}{t:Nat}(dd:Nat){a b:Bool}(hu:P.underlying t=some .bool):(Op.equalIn (dd+1) t (.bool a) (.bool b)).run P w=.ok (a==b) w:=by
 simp[Op.equalIn,run_underlying hu]
end
abbrev hF:BitVec 64:=11400714819323198485#64
def mixB(s w:BitVec 64):BitVec 64:=((s^^^w)*hF)^^^(((s^^^w)*hF)>>>32)
/-! the model's numbers -/
theorem ofI_toNat(x:BitVec 64):BitVec.ofInt 64 (x.toNat:Int)=x:=by simp
theorem wrapB(x:BitVec 64):IntKind.u64.wrap (x.toNat:Int)=(x.toNat:Int):=by
 have:=x.isLt;rw[u64_wrap];omega
theorem xorB(x y:BitVec 64):IntKind.u64.wrap ((BitVec.ofInt IntKind.u64.bits (x.toNat:Int)^^^BitVec.ofInt IntKind.u64.bits (y.toNat:Int)).toNat:Int)=((x^^^y).toNat:Int):=by
 show IntKind.u64.wrap ((BitVec.ofInt 64 (x.toNat:Int)^^^BitVec.ofInt 64 (y.toNat:Int)).toNat:Int)=_;rw[ofI_toNat,ofI_toNat,wrapB]
theorem mulB(x:BitVec 64):IntKind.u64.wrap ((x.toNat:Int)*11400714819323198485)=((x*hF).toNat:Int):=by
 rw[u64_wrap,BitVec.toNat_mul];have:hF.toNat=11400714819323198485:=by decide
 rw[this];omega
theorem shrB(x:BitVec 64):((x.toNat:Int)).fdiv (2^(min (32:Int).toNat IntKind.u64.bits))=((x>>>32).toNat:Int):=by
 have h:=shrN x.toNat 32 Yhn;have e:(((32:Nat):Int))=32:=rfl;rw[e]at h;rw[h,BitVec.toNat_ushiftRight,Nat.shiftRight_eq_div_pow]
/-! words of bytes -/
def wN:List Int->Nat
 |[]=>0
 |b::l=>b.toNat+256*wN l
theorem wN_lt:∀(l:List Int),Bys l->wN l<256^l.length
 |[],_=>by simp[wN]
 |b::l,h=>by
  have ih:=wN_lt l (fun x hx=>h x (by simp[hx]));have hb:=h b Yhs;simp only[wN,List.length_cons,Nat.pow_succ];omega
theorem shl8{u:Nat}(h:u<72057594037927936):IntKind.u64.wrap ((u:Int)*2^(min (8:Int).toNat IntKind.u64.bits))=((u*256:Nat):Int):=by
 have e:min (8:Int).toNat IntKind.u64.bits=8:=by decide
 rw[e,u64_wrap];have:(2:Int)^8=256:=by decide
 rw[this];omega
theorem or8{u c:Nat}(h:u<72057594037927936)(hc:c<256):
 IntKind.u64.wrap ((BitVec.ofInt IntKind.u64.bits ((u*256:Nat):Int)|||BitVec.ofInt IntKind.u64.bits (c:Int)).toNat:Int)=((u*256+c:Nat):Int):=by
 show IntKind.u64.wrap ((BitVec.ofInt 64 ((u*256:Nat):Int)|||BitVec.ofInt 64 (c:Int)).toNat:Int)=_;have e:(u*256)|||c=u*256+c:=by
  have:=Nat.two_pow_add_eq_or_of_lt (i:=8) (b:=c) Yhn u;rw[show(2:Nat)^8=256 from rfl]at this;rw[Nat.mul_comm,<-this]
 rw[BitVec.toNat_or,ofInt64 _ Yhn Yhn,ofInt64 _ Yhn Yhn,Int.toNat_natCast,Int.toNat_natCast,e,u64_wrap];omega
end Go.Rf
namespace Go.Proofs.YtmlpcmjmniobdaaGreat
open Go.Proofs.Tryz
open Go.Rf Go.RowKit
variable{bs:List Int}
attribute [local irreducible] Code.wp wpList Exit.then Exit.inBlock bodyPost A Calls execOp Addr.add
theorem mixC(s x:BitVec 64)(w:World):Calls prog 38 #[.int .u64 s.toNat,.int .u64 x.toNat] w fun e w'=>e=.returned (.int .u64 (mixB s x).toNat)/\w=w':=by
 refine enter func38 rfl ntmps38 rfl ?_;refine rn ?_;refine s_xor rfl rfl (xorB s x) ?_;refine s_mul rfl rfl (mulB _) ?_;refine rn ?_;refine s_shr rfl rfl Yhn (shrB _) ?_;refine s_xor rfl rfl (xorB _ _) ?_;refine rn ?_;exact Yeb
theorem groupsC(v:Value)(w:World)(hv:v.oneCell'=true):Calls prog 34 #[v] w fun e w'=>∃b,e=.returned (.func (.func 75) #[] #[.pointer (some ⟨b,0,none⟩)])/\Blk w' b [v] 67/\Fr [] w w'/\b=w.heap.size/\w'.heap.size=w.heap.size+1:=by
 refine enter func34 rfl ntmps34 rfl ?_;refine rn ?_;have hc:v.cells=[v].toArray:=by cases v<;>simp_all [Value.cells,Value.oneCell']
 refine s_box (v:=v) (l:=[v]) rfl hc (fun w1 hb1 hf1 hs1=>?_);refine rn ?_;refine s_makeFunc (a:=[]) (b:=[.pointer (some ⟨w.heap.size,0,none⟩)]) rfl rfl ?_;refine Yll ?_;exact⟨_,rfl,hb1,hf1,rfl,hs1⟩
def gnat(bs:List Int):List Nat:=(List.range ((bs.length+7)/8)).map fun k=>wN ((bs.drop (8*k)).take 8)
theorem gnat_len(bs:List Int):(gnat bs).length=(bs.length+7)/8:=by simp[gnat]
theorem gnat_get{k:Nat}(h:8*k<bs.length):(gnat bs)[k]?=some (wN ((bs.drop (8*k)).take 8)):=by
 simp only[gnat,List.getElem?_map];rw[List.getElem?_range Yhn];rfl
theorem wN_step{q m:Nat}(hq:q<bs.length):wN ((bs.drop q).take (m+1))=(bs[q]).toNat+256*wN ((bs.drop (q+1)).take m):=by
 rw[List.drop_eq_getElem_cons hq,List.take_succ_cons];rfl
theorem gnat_lt(hB:Bys bs):∀x∈gnat bs,x<18446744073709551616:=by
 intro x hx;simp only[gnat,List.mem_map]at hx;obtain⟨k,_,rfl⟩:=hx;have h:=wN_lt _ ((hB.drop (8*k)).take 8);have h2:((bs.drop (8*k)).take 8).length<=8:=by simp;omega
 have h3:256^((bs.drop (8*k)).take 8).length<=256^8:=Nat.pow_le_pow_right Yhn h2;have:(256:Nat)^8=18446744073709551616:=by decide
 omega
theorem groups1(l b:Nat)(ao:Option Addr)(m c:Nat)(bs:List Int)(hB:Bys bs)(hm:bs.length=m)(hlen:m<=1000000000000)(J:Nat->World->Prop)(W:World)(h0:J 0 W)
 (hr:∀k W1,J k W1->Blk W1 b [.slice ao m c] 67/\Src W1 (.slice ao m c) m (bs.map (.int .u8)))
 (hy:∀k v W1,((gnat bs).map fun x=>Value.int .u64 (x:Nat))[k]?=some v->J k W1->YieldAt Fence.wide 0 prog l #[v] W1 fun e W'=>e=.returned (.bool true)/\J (k+1) W'):
 Calls prog 75 #[.func (.yield l) #[] #[],.pointer (some ⟨b,0,none⟩)] W fun e W'=>(∃v,e=.returned v)/\J (gnat bs).length W':=by
 refine enter func75 rfl ntmps75 rfl ?_;refine rn ?_;refine c_loop (σ:=Nat) (fun k g z=>g 0=.func (.yield l) #[] #[]/\g 1=.pointer (some ⟨b,0,none⟩)/\g 3=iV ((8*k:Nat):Int)/\J k z/\k<=(m+7)/8) (fun k=>(m+8)/8+8-k) 0 ⟨rfl,rfl,rfl,h0,Nat.zero_le _⟩ ?_;rintro k g z ⟨g0,g1,g3,hJ,hk⟩;rw[eq_upd g0,eq_upd g1,eq_upd g3];obtain⟨hb,hs⟩:=hr k z hJ;refine rn ?_;refine s_lss rfl rfl (fun hlt=>?_) (fun hge=>?_)
 case refine_2=>
  refine rn ?_;refine end0 rfl ⟨⟨_,rfl⟩,?_⟩;rw[gnat_len,hm];have:k=(m+7)/8:=by omega
  rw[<-this];exact hJ
 have hlt':8*k<bs.length:=by omega
 obtain⟨ad,had,_⟩:=src_at (j:=8*k) (u:=.int .u8 bs[8*k]) hs (by simp[hlt']);subst had;refine rn ?_;obtain⟨e,he⟩:∃e:Nat,e=min (8*k+8) m:=⟨_,rfl⟩;refine s_min (r:=(e:Int)) rfl rfl Ykk ?_;have he1:8*k+1<=e:=by omega
 have he2:e<=8*k+8:=by omega
 have he3:e<=bs.length:=by omega
 refine rr ?_;refine wpList_nil ?_;refine q_then ?_;refine c_cut (fun g u=>g 0=.func (.yield l) #[] #[]/\g 1=.pointer (some ⟨b,0,none⟩)/\g 3=iV ((8*k:Nat):Int)/\g 4=.int .u64 (wN ((bs.drop (8*k)).take (e-8*k)):Nat)/\u=z) ?_ ?_
 .refine rn ?_;refine c_loop (σ:=Nat) (fun q g u=>g 0=.func (.yield l) #[] #[]/\g 1=.pointer (some ⟨b,0,none⟩)/\g 3=iV ((8*k:Nat):Int)/\g 4=.int .u64 (wN ((bs.drop q).take (e-q)):Nat)/\g 5=iV ((q:Int)-1)/\8*k<=q/\q<=e/\u=z) (fun q=>q) e ⟨rfl,rfl,rfl,by rw[Nat.sub_self,List.take_zero];rfl,rfl,by omega,Nat.le_refl _,rfl⟩ ?_;rintro q g u ⟨g0,g1,g3,g4,g5,hq1,hq2,rfl⟩;rw[eq_upd g0,eq_upd g1,eq_upd g3,eq_upd g4,eq_upd g5];refine rn ?_;refine s_geq rfl rfl (fun hc=>?_) (fun hc=>?_)
  case refine_2=>
   refine rn ?_;have:q=8*k:=by omega
   subst this;exact q_cut ⟨rfl,rfl,rfl,rfl,rfl⟩
  obtain⟨q,rfl⟩:∃p,q=p+1:=⟨q-1,by omega⟩;have hqb:q<bs.length:=by omega
  have hw7:wN ((bs.drop (q+1)).take (e-(q+1)))<72057594037927936:=by
   have h:=wN_lt _ ((hB.drop (q+1)).take (e-(q+1)));have h2:((bs.drop (q+1)).take (e-(q+1))).length<=7:=by simp;omega
   have h3:256^((bs.drop (q+1)).take (e-(q+1))).length<=256^7:=Nat.pow_le_pow_right Yhn h2;have:(256:Nat)^7=72057594037927936:=by decide
   omega
  obtain⟨y,hyv⟩:∃y:Nat,bs[q]=(y:Int):=⟨bs[q].toNat,by have:=(hB _ (List.getElem_mem hqb)).1;omega⟩;have hy256:y<256:=by have:=(hB _ (List.getElem_mem hqb)).2;omega
  have hcell:=src_cell (j:=q) (u:=.int .u8 (y:Int)) hs (by simp[hqb,hyv]);refine rn ?_;refine s_shl rfl rfl Yhn (shl8 hw7) ?_;refine rn ?_;refine s_indexAddr (j:=q) rfl rfl Yhn Yhn rfl ?_;rw[Nat.mul_one];refine Ymx ?_;refine rn ?_;refine s_or rfl rfl (or8 hw7 hy256) ?_;refine rn ?_;refine q_round q ⟨rfl,rfl,rfl,?_,by simp only[upd_same];congr 1;omega,by omega,by omega,rfl⟩ Yhn;have hst:=wN_step (bs:=bs) (q:=q) (m:=e-(q+1)) hqb;rw[show e-(q+1)+1=e-q by omega]at hst;rw[hst,hyv,Int.toNat_natCast,show y+256*wN ((bs.drop (q+1)).take (e-(q+1)))=wN ((bs.drop (q+1)).take (e-(q+1)))*256+y by omega];rfl
 .rintro g u ⟨g0,g1,g3,g4,rfl⟩;rw[eq_upd g0,eq_upd g1,eq_upd g3,eq_upd g4];have hwe:wN ((bs.drop (8*k)).take (e-8*k))=wN ((bs.drop (8*k)).take 8):=by
   by_cases h8:e=8*k+8
   .rw [h8];congr 2;omega
   .have hl:(bs.drop (8*k)).length=e-8*k:=by simp;omega
    rw[List.take_of_length_le Yhn,List.take_of_length_le Yhn]
  rw[hwe];have hget:((gnat bs).map fun x=>Value.int .u64 (x:Nat))[k]?=some (.int .u64 (wN ((bs.drop (8*k)).take 8):Nat)):=by
   rw[List.getElem?_map,gnat_get hlt'];rfl
  repeat(first|with_reducible refine wp_seq ?_|with_reducible refine wp_block ?_|with_reducible refine wpList_nil ?_|with_reducible refine wp_skip ?_|with_reducible refine wp_exit ?_|with_reducible refine wp_ret ?_|with_reducible refine q_then ?_|with_reducible refine q_then_exit ?_|with_reducible refine q_then_ret ?_|with_reducible refine q_blk ?_|with_reducible refine q_blk_ret ?_|with_reducible refine q_blk_eq ?_|refine q_blk_ne rfl ?_|refine c_true rfl ?_|refine c_false rfl ?_)
  refine c_regionIn ?_;refine in_step rfl ?_;refine rn ?_;refine q_then_k ?_;refine in_step rfl ?_;refine rn ?_;refine q_then_k ?_;refine in_yield rfl rfl (hy k _ _ hget hJ) ?_;rintro _ w' ⟨rfl,hJ'⟩;refine⟨_,rfl,?_⟩;refine in_step rfl ?_;refine rn ?_;refine q_then_k ?_;refine wpListIn_nil ?_;refine rn ?_;refine q_round (k+1) ⟨rfl,rfl,by simp only[upd_same];congr 1<;>omega,hJ',by omega⟩ Yhn
end Go.Proofs.YtmlpcmjmniobdaaGreat
namespace Go.Rf
open Go.RowKit
theorem s_make0{D:Dfs}{P:Program}{ops:Array Oper}{Q:Exit->Act->World->Prop}{rest:List Oper}{n:Nat}{f:Env}{w:World}{d:Nat}{ty:TypeId}{ps:String}{af:Array Edge}{x y:Operand}{t:Nat}
 {e size by_ k:Nat} {z:List Value} {kl kc:IntKind} [R:RowZ P t e size by_ z] (hx:ev n f x=.int kl 0) (hy:ev n f y=.int kc (k:Int)) (hb:by_*k<=281474976710656) (h63:k<=maxLen)
 (h:∀w',Own w' e size (.slice (some ⟨w.heap.size,0,none⟩) 0 k) 0 []->Fr [] w w'->w'.heap.size=w.heap.size+1->wpList P ops Q rest (A n (upd f d (.slice (some ⟨w.heap.size,0,none⟩) 0 k))) w'):
 wpList P ops Q (⟨some d,.makeSlice t x y,ty,ps,af,none⟩::rest) (A n f) w:=by
 have Rr:=R.row;obtain⟨i0,z0,hi0,hz0,hs,hbb,hzs⟩:=Rr.inf;obtain⟨i,v,hi,hz,hc,hzl⟩:=R.z;rw[hi0]at hi;simp only[Option.some.injEq]at hi;subst hi;have h63':(k:Int)<=9223372036854775807:=by
  have h:=h63;simp[maxLen]at h;omega
 have hb':(i0.bytes:Int)*(k:Int)<=281474976710656:=by
  have h:((i0.bytes*k:Nat):Int)<=281474976710656:=by rw[hbb];omega
  rwa [Int.natCast_mul]at h
 have hr:=run_make (P:=P) w t e i0 v Rr.und hi0 hz kl kc 0 k Yhn Yhn hb' h63';simp only[Int.toNat_natCast]at hr;rw[hc,hs]at hr;refine s_run (by simp only[execOp,hx,hy];rw[Sem.run_bind,hr];rfl) (h _ ⟨by simp,.inr ⟨w.heap.size,k,_,rfl,Nat.zero_le _,heap_alloc_new w _,Nat.zero_le _,h63,by simp[madeCells],by simp⟩⟩ (Fr.alloc _ _ _) Yhs)
end Go.Rf
namespace Go.Proofs.YtmlpcmjmniobdaaGreat
open Go.Proofs.Tryz
open Go.Rf Go.RowKit
attribute [local irreducible] Code.wp wpList Exit.then Exit.inBlock bodyPost A Calls execOp Addr.add
def foldM(s:BitVec 64)(l:List (BitVec 64)):BitVec 64:=l.foldl mixB s
def gB(bs:List Int):List (BitVec 64):=(gnat bs).map (BitVec.ofNat 64)
def sumH(bs:List Int)(ns:List Int):BitVec 64:=
 mixB (foldM (mixB (mixB (foldM 0 (gB bs)) (BitVec.ofNat 64 bs.length)) (BitVec.ofNat 64 ns.length)) (ns.map (BitVec.ofInt 64))) 0
theorem foldM_snoc{l:List (BitVec 64)}{s:BitVec 64}{k:Nat}{x:BitVec 64}(h:l[k]?=some x):foldM s (l.take (k+1))=mixB (foldM s (l.take k)) x:=by
 obtain⟨hk,rfl⟩:=List.getElem?_eq_some_iff.1 h;unfold foldM;rw[List.take_succ_eq_append_getElem hk,List.foldl_append];rfl
theorem ofNat_toNat{x:Nat}(h:x<18446744073709551616):(BitVec.ofNat 64 x).toNat=x:=by rw[BitVec.toNat_ofNat];omega
theorem u64_ofI(n:Int):IntKind.u64.wrap n=((BitVec.ofInt 64 n).toNat:Int):=by
 rw[u64_wrap,BitVec.toNat_ofInt];have:(0:Int)<=n%18446744073709551616:=by omega
 show n%18446744073709551616=(((n%((2:Int)^64)).toNat:Nat):Int);have e:(2:Int)^64=18446744073709551616:=by decide
 rw[e];omega
theorem sb_bys(s:ByteArray):Bys (sb s):=by
 intro b hb;simp only[sb,List.mem_map]at hb;obtain⟨c,_,rfl⟩:=hb;have:=c.toNat_lt;omega
theorem sumC(s:ByteArray)(ns:List Int)(ao:Option Addr)(c:Nat)(w:World)(hs:s.size<=1000000000)(hn:∀n∈ns,InI64 n)(hc:ns.length<=1000000000)(hsl:Src w (.slice ao ns.length c) ns.length (ns.map (.int .i64))):
 Calls prog 15 #[.string s,.slice ao ns.length c] w fun e w'=>e=.returned (.int .u64 (sumH (sb s) ns).toNat)/\Fr [] w w':=by
 refine enterM func15 rfl ntmps15 rfl ?_;refine rn ?_;refine s_alloc (l:=[.int .u64 0]) rfl (fun w1 hb1 hf1 hs1=>?_);obtain⟨p,hp⟩:∃p,w.heap.size=p:=⟨_,rfl⟩;rw[hp]at hb1 ⊢;refine rn ?_;refine s_fromStr rfl (fun cb w2 hcb hsrc2 hf2=>?_);have hsb:(s.data.toList.map fun b=>Value.int .u8 b.toNat)=(sb s).map (.int .u8):=by simp[sb]
 rw[hsb]at hsrc2;have hb2:=hb1.tr0 hf2;have hpw1:=hb1.lt;have hpw2:=hb2.lt;refine rn ?_;refine s_c1 (groupsC _ w2 rfl) ?_;rintro bx w3 ⟨hbx,hf3,hbx0,hs3⟩;have hsrc3:=hsrc2.tr0 hf3;have hb3:=hb2.tr0 hf3;have hpw3:=hb3.lt;have hF3:Fr [] w w3:=(hf1.trans0 hf2).trans0 hf3;have hpx:bx≠p:=by omega
 repeat(first|with_reducible refine wp_seq ?_|with_reducible refine wp_block ?_|with_reducible refine wpList_nil ?_|with_reducible refine wp_skip ?_|with_reducible refine wp_exit ?_|with_reducible refine wp_ret ?_|with_reducible refine q_then ?_|with_reducible refine q_then_exit ?_|with_reducible refine q_then_ret ?_|with_reducible refine q_blk ?_|with_reducible refine q_blk_ret ?_|with_reducible refine q_blk_eq ?_|refine q_blk_ne rfl ?_|refine c_true rfl ?_|refine c_false rfl ?_)
 refine c_rangeD rfl ((gnat (sb s)).map fun x=>Value.int .u64 (x:Nat)) (fun k W=>Blk W p [.int .u64 (foldM 0 ((gB (sb s)).take k)).toNat] 58/\Fr [p] w3 W) ?_ ?_ ?_ ?_ ?_
 .rintro k W W' ⟨h1,h2⟩ hf;refine⟨h1.tr hf Yht,h2.trans hf (fun x hx=>.inr ?_)⟩;simp only[List.mem_singleton]at hx;omega
 .intro W hf;exact⟨hb3.tr0 hf,hf.mono Yhs⟩
 .intro l J W h1 h2 h3;have:=groups1 l bx (some ⟨w1.heap.size,0,none⟩) s.size cb (sb s) (sb_bys s) (sb_len s) Yhn J W h1 (fun k W1 hJ=>?_) h3
  .rw [List.length_map];exact this
  .obtain ⟨h4,h5⟩:=h2 k W1 hJ;refine⟨hbx.tr h5 (by simpa using hpx),hsrc3.tr h5 ?_⟩;rintro ad _ _ e _;simp only[Value.slice.injEq,Option.some.injEq]at e;obtain⟨rfl,_⟩:=e;simp only[List.mem_singleton];omega
 .rintro l k v W hx ⟨hbW,hfW⟩ hlt;rw[List.getElem?_map]at hx;obtain⟨x,hx2,rfl⟩:=Option.map_eq_some_iff.1 hx;have hxl:=gnat_lt (sb_bys s) x (List.mem_of_getElem? hx2);have hgx:(gB (sb s))[k]?=some (BitVec.ofNat 64 x):=by simp only[gB,List.getElem?_map,hx2];rfl
  refine wpIn_block ?_;refine in_region rfl ?_;refine rn ?_;have hm:=mixC (foldM 0 ((gB (sb s)).take k)) (BitVec.ofNat 64 x) W;rw[ofNat_toNat hxl,<-foldM_snoc hgx]at hm;refine s_cE hm ?_;rintro _ rfl
  ((with_reducible apply s_storeB);exact rfl;(conv=>lhs;whnf);exact rfl;exact hbW;exact rfl)
  intro W' hbW' hf' hs';refine wpList_nil ?_;refine q_then_k ?_;refine q_blk ?_;refine⟨rfl,⟨hbW',hfW.trans hf' Yhs⟩,hf'.block _ Yhn Yht,hf'.block _ Yhn Yht⟩
 rintro W ⟨hbW,hfW⟩ hD;have hlg:(gnat (sb s)).length=(gB (sb s)).length:=by simp[gB]
 rw[List.length_map,hlg,List.take_length]at hbW;have hdk:w3.heap.size<W.heap.size:=(Array.getElem?_eq_some_iff.1 hD).1;have hFW:Fr [p] w W:=(hF3.mono Yhs).trans hfW Yhs;obtain⟨dk,hdk0⟩:∃dk,w3.heap.size=dk:=⟨_,rfl⟩;rw[hdk0]at hD hdk ⊢;have hpd:dk≠p:=by omega
 unfold sumH;generalize foldM 0 (gB (sb s))=st at hbW ⊢;refine rn ?_;have hm:=mixC st (BitVec.ofNat 64 s.size) W;rw[ofNat_toNat Yhn]at hm;refine s_cE hm ?_;rintro _ rfl
 ((with_reducible apply s_storeB);exact rfl;(conv=>lhs;whnf);exact rfl;exact hbW;exact rfl)
 intro u1 hbu1 hfu1 hsu1;have hD1:u1.heap[dk]?=some (.deferred (some [])):=(hfu1.block _ Yhn (by simpa using hpd)).trans hD;have hF1:Fr [p] w u1:=hFW.trans hfu1 Yhs;rw[sb_len];generalize mixB st (BitVec.ofNat 64 s.size)=st1 at hbu1 ⊢;refine rn ?_;have hm:=mixC st1 (BitVec.ofNat 64 ns.length) u1;rw[ofNat_toNat Yhn]at hm;refine s_cE hm ?_;rintro _ rfl
 ((with_reducible apply s_storeB);exact rfl;(conv=>lhs;whnf);exact rfl;exact hbu1;exact rfl)
 intro u2 hbu2 hfu2 hsu2;have hD2:u2.heap[dk]?=some (.deferred (some [])):=(hfu2.block _ Yhn (by simpa using hpd)).trans hD1;have hF2:Fr [p] w u2:=hF1.trans hfu2 Yhs;generalize mixB st1 (BitVec.ofNat 64 ns.length)=st2 at hbu2 ⊢;refine rn ?_;refine c_loop (σ:=Nat) (fun k g z=>g 5=.pointer (some ⟨p,0,none⟩)/\g 26=.slice ao ns.length c/\g 27=iV ns.length/\g 28=iV k/\k<=ns.length/\Blk z p [.int .u64 (foldM st2 ((ns.map (BitVec.ofInt 64)).take k)).toNat] 58/\z.heap[dk]?=some (.deferred (some []))/\Fr [p] w z) (fun k=>ns.length-k) 0 ⟨rfl,rfl,rfl,rfl,Nat.zero_le _,hbu2,hD2,hF2⟩ ?_;rintro k g z ⟨g5,g26,g27,g28,hk,hbz,hDz,hFz⟩;rw[eq_upd g5,eq_upd g26,eq_upd g27,eq_upd g28];have hdz:dk<z.heap.size:=(Array.getElem?_eq_some_iff.1 hDz).1;refine rn ?_;refine s_lss rfl rfl (fun hlt=>?_) (fun hge=>?_)
 case refine_2=>
  have hke:k=(ns.map (BitVec.ofInt 64)).length:=by simp;omega
  rw[hke,List.take_length]at hbz;generalize foldM st2 (ns.map (BitVec.ofInt 64))=st3 at hbz ⊢;refine rn ?_;have hm:=mixC st3 0 z;refine s_cE hm ?_;rintro _ rfl;refine rn ?_;refine retM1 (b:=dk) rfl hDz rfl ?_;intro w' hf';refine⟨rfl,?_⟩;refine(hFz.mono (T:=[]) (fun x hx=>.inr ?_)).trans hf' (fun x hx=>.inr ?_)
  .simp only[List.mem_singleton]at hx;omega
  .simp only[List.mem_singleton]at hx;have:=hF3.size;omega
 have hkl:k<ns.length:=by omega
 have hcell:=src_at (j:=k) (u:=iV ns[k]) (hsl.old hFz Yht) (by simp[hkl]);obtain⟨ad,rfl,hcell⟩:=hcell;have hin:=hn _ (List.getElem_mem hkl);refine Ymw ?_;rw[Nat.mul_one];refine Ymx ?_;refine rn ?_;refine s_conv rfl (u64_ofI _) ?_;have hgk:(ns.map (BitVec.ofInt 64))[k]?=some (BitVec.ofInt 64 ns[k]):=by simp[hkl]
 have hm:=mixC (foldM st2 ((ns.map (BitVec.ofInt 64)).take k)) (BitVec.ofInt 64 ns[k]) z;rw[<-foldM_snoc hgk]at hm;refine s_cE hm ?_;rintro _ rfl
 ((with_reducible apply s_storeB);exact rfl;(conv=>lhs;whnf);exact rfl;exact hbz;exact rfl)
 intro u3 hbu3 hfu3 hsu3;refine rn ?_;refine q_round (k+1) ⟨rfl,rfl,rfl,rfl,hkl,hbu3,(hfu3.block _ Yhn (by simpa using hpd)).trans hDz,hFz.trans hfu3 Yhs⟩ Yhn
def toI(x:Nat):Int:=IntKind.i64.wrap (x:Int)
theorem toI_in(x:Nat):InI64 (toI x):=by unfold toI InI64;rw[i64_wrap];split<;>omega
def wds(bs:List Int):List Int:=(gnat bs).map toI++[(bs.length:Int)]
theorem wds_in{bs:List Int}(h:bs.length<=1000000000):∀n∈wds bs,InI64 n:=by
 intro n hn;simp only[wds,List.mem_append,List.mem_map,List.mem_singleton]at hn;rcases hn with⟨x,_,rfl⟩|rfl
 .exact toI_in x
 .unfold InI64;omega
theorem wds_len(bs:List Int):(wds bs).length=(bs.length+7)/8+1:=by simp[wds,gnat_len]
theorem bytesC(s:ByteArray)(bs:List Int)(ao:Option Addr)(c:Nat)(w:World)(hs:s.size<=1000000000)(hB:Bys bs)(hl:bs.length<=1000000000)(hsl:Src w (.slice ao bs.length c) bs.length (bs.map (.int .u8))):
 Calls prog 13 #[.string s,.slice ao bs.length c] w fun e w'=>e=.returned (.int .u64 (sumH (sb s) (wds bs)).toNat)/\Fr [] w w':=by
 refine enterM func13 rfl ntmps13 rfl ?_;refine rn ?_;refine s_make0 (k:=bs.length/8+2) rfl rfl Yhn Yhv (fun w0 ho0 hf0 hs0=>?_);refine s_alloc (l:=[zS]) rfl (fun w1 hb1 hf1 hs1=>?_);obtain⟨p,hp⟩:∃p,w0.heap.size=p:=⟨_,rfl⟩;rw[hp]at hb1 ⊢;have hpw1:=hb1.lt
 ((with_reducible apply s_storeB);exact rfl;(conv=>lhs;whnf);exact rfl;exact hb1;exact rfl)
 intro w2 hb2 hf2 hs2;have ho2:Own w2 3 1 (.slice (some ⟨w.heap.size,0,none⟩) 0 (bs.length/8+2)) 0 []:=(ho0.tr0 hf1).tr hf2 Yjo;have hF2:Fr [] w w2:=((hf0.trans0 hf1).trans hf2 Yht);refine rn ?_;refine s_c1 (groupsC _ w2 rfl) ?_;rintro bx w3 ⟨hbx,hf3,hbx0,hs3⟩;have hb3:=hb2.tr0 hf3;have ho3:=ho2.tr0 hf3;have hF3:Fr [] w w3:=hF2.trans0 hf3
 repeat(first|with_reducible refine wp_seq ?_|with_reducible refine wp_block ?_|with_reducible refine wpList_nil ?_|with_reducible refine wp_skip ?_|with_reducible refine wp_exit ?_|with_reducible refine wp_ret ?_|with_reducible refine q_then ?_|with_reducible refine q_then_exit ?_|with_reducible refine q_then_ret ?_|with_reducible refine q_blk ?_|with_reducible refine q_blk_ret ?_|with_reducible refine q_blk_eq ?_|refine q_blk_ne rfl ?_|refine c_true rfl ?_|refine c_false rfl ?_)
 refine c_rangeD rfl ((gnat bs).map fun x=>Value.int .u64 (x:Nat)) (fun k W=>∃v,Blk W p [v] 22/\Own W 3 1 v k (((gnat bs).take k).map fun x=>iV (toI x))/\(∀q∈blks v,w.heap.size<=q/\q≠p/\q≠bx/\q≠w3.heap.size/\q≠w3.heap.size+1)/\Blk W bx [.slice ao bs.length c] 67/\Fr [] w W) ?_ ?_ ?_ ?_ ?_
 .rintro k W W' ⟨v,h1,h2,h3,h4,h5⟩ hf;refine⟨v,h1.tr hf Yht,h2.tr hf (fun q hq=>by have:=h3 q hq;simp;omega),h3,h4.tr hf Yht,h5.trans hf Yht⟩
 .intro W hf;refine⟨_,hb3.tr0 hf,ho3.tr0 hf,?_,hbx.tr0 hf,hF3.trans0 hf⟩;intro q hq;simp[blks,Value.ownBlock]at hq;omega
 .intro l J W h1 h2 h3;have:=groups1 l bx ao bs.length c bs hB rfl Yhn J W h1 (fun k W1 hJ=>?_) h3
  .rw [List.length_map];exact this
  .obtain ⟨v,h4,h5,h6,h7,h8⟩:=h2 k W1 hJ;exact⟨h7,hsl.tr0 h8⟩
 .rintro l k v W hx ⟨sl,hbW,hoW,hkW,hxW,hfW⟩ hlt;rw[List.getElem?_map]at hx;obtain⟨x,hx2,rfl⟩:=Option.map_eq_some_iff.1 hx;have hxl:=gnat_lt hB x (List.mem_of_getElem? hx2);have hkl:=(List.getElem?_eq_some_iff.1 hx2).1;have hkl2:k<(bs.length+7)/8:=by rw[<-gnat_len];exact hkl
  refine wpIn_block ?_;refine in_region rfl ?_;obtain⟨ao5,c5,hsl5⟩:=hoW.slice;refine rn ?_;refine s_conv (r:=toI x) rfl rfl ?_;refine s_buildS [iV (toI x)] rfl rfl rfl rfl (fun u1 hou1 hfu1 hsu1=>?_);refine s_append (hoW.tr0 hfu1) rfl hou1.src rfl rfl Yhu Yhv Yhn (fun v2 u2 ho2 hf2 hk2 _=>?_);have hbu:Blk u2 p [sl] 22:=(hbW.tr0 hfu1).tr hf2 (fun hq=>absurd rfl (hkW p hq).2.1);have hone:=ho2.one
  ((with_reducible apply s_storeB);exact rfl;(conv=>lhs;whnf);exact hone;exact hbu;exact rfl)
  intro u3 hbu3 hfu3 hsu3;refine wpList_nil ?_;refine q_then_k ?_;refine q_blk ?_;have hsz:=hfu1.size;have hsz2:=hf2.size;have hWp:=hbW.lt;have hWx:=hxW.lt;have hk3:∀q∈blks v2,w.heap.size<=q/\q≠p/\q≠bx/\q≠w3.heap.size/\q≠w3.heap.size+1:=by
   intro q hq;rcases hk2 q hq with h|h
   .exact hkW q h
   .have:=hfW.size;omega
  refine⟨rfl,⟨v2,hbu3,?_,hk3,?_,?_⟩,?_,?_⟩
  .have e:((gnat bs).take (k+1)).map (fun x=>Value.int .i64 (toI x))=((gnat bs).take k).map (fun x=>Value.int .i64 (toI x))++[iV (toI x)]:=by
    rw[List.take_succ_eq_append_getElem hkl,List.map_append];have:(gnat bs)[k]=x:=by have:=List.getElem?_eq_some_iff.1 hx2;exact this.2
    rw[this];rfl
   rw[e];exact ho2.tr hfu3 (fun q hq=>by have:=hk3 q hq;simp;omega)
  .exact ((hxW.tr0 hfu1).tr hf2 (fun hq=>absurd rfl (hkW bx hq).2.2.1)).tr hfu3 Yht
  .refine (((hfW.trans0 hfu1).trans hf2 (fun q hq=>.inr ?_)).trans hfu3 (fun q hq=>.inr ?_))
   .exact (hkW q hq).1
   .simp only[List.mem_singleton]at hq;have:=hf0.size;omega
  .rw [hfu3.block _ Yhn Yht,hf2.block _ Yhn (fun hq=>absurd rfl (hkW _ hq).2.2.2.1),hfu1.block _ Yhn Yhs]
  .rw [hfu3.block _ Yhn Yht,hf2.block _ Yhn (fun hq=>absurd rfl (hkW _ hq).2.2.2.2),hfu1.block _ Yhn Yhs]
 rintro W ⟨sl,hbW,hoW,hkW,hxW,hfW⟩ hD;have hlg:((gnat bs).map fun x=>Value.int .u64 (x:Nat)).length=(gnat bs).length:=by simp
 rw[hlg,List.take_length]at hoW;have hgl:=gnat_len bs;have hdk:w3.heap.size<W.heap.size:=(Array.getElem?_eq_some_iff.1 hD).1;refine rn ?_;refine s_buildS [iV bs.length] rfl rfl rfl rfl (fun u1 hou1 hfu1 hsu1=>?_);refine s_append (hoW.tr0 hfu1) rfl hou1.src rfl rfl Yhu Yhv Yhn (fun v2 u2 ho2 hf2 hk2 _=>?_);have hbu:Blk u2 p [sl] 22:=(hbW.tr0 hfu1).tr hf2 (fun hq=>absurd rfl (hkW p hq).2.1);have hone:=ho2.one
 ((with_reducible apply s_storeB);exact rfl;(conv=>lhs;whnf);exact hone;exact hbu;exact rfl)
 intro u3 hbu3 hfu3 hsu3;have hsz:=hfu1.size;have hsz2:=hf2.size;have hWp:=hbW.lt;have hk3:∀q∈blks v2,q≠p:=by
  intro q hq;rcases hk2 q hq with h|h
  .exact (hkW q h).2.1
  .omega
 have ho3:=ho2.tr hfu3 (fun q hq=>by have:=hk3 q hq;simp;omega);have hF3u:Fr [] w u3:=(((hfW.trans0 hfu1).trans hf2 (fun q hq=>.inr (hkW q hq).1)).trans hfu3 (fun q hq=>.inr (by simp only[List.mem_singleton]at hq;have:=hf0.size;omega)));have hD3:u3.heap[w3.heap.size]?=some (.deferred (some [])):=by
  rw[hfu3.block _ Yhn Yht,hf2.block _ Yhn (fun hq=>absurd rfl (hkW _ hq).2.2.2.1),hfu1.block _ Yhn Yhs];exact hD
 have hwe:((gnat bs).map (fun x=>Value.int .i64 (toI x))++[iV (bs.length:Int)])=(wds bs).map (.int .i64):=by simp[wds]
 rw[hwe]at ho3;have hwl:(gnat bs).length+1=(wds bs).length:=by simp[wds]
 rw[hwl]at ho3;obtain⟨ao2,c2,hv2⟩:=ho3.slice;subst hv2;refine rn ?_;refine s_cE (sumC s (wds bs) ao2 c2 u3 hs (wds_in hl) (by rw[wds_len];omega) ho3.src) ?_;rintro u4 hf4;refine rn ?_;refine retM1 (b:=w3.heap.size) rfl ((hf4.block _ (by have:=(Array.getElem?_eq_some_iff.1 hD3).1;exact this) Yhs).trans hD3) rfl ?_;intro w' hf';refine⟨rfl,(hF3u.trans0 hf4).trans hf' (fun q hq=>.inr ?_)⟩;simp only[List.mem_singleton]at hq;have:=hF3.size;omega
end Go.Proofs.YtmlpcmjmniobdaaGreat
