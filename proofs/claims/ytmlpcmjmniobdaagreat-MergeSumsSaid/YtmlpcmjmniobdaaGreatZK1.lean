/-
 The stepping engine:frames as functions of the slot,one rule for each kind of operation,of the weakest preconditions of the kit. It speaks of no program. Memory:what a step may have changed ('Fr S w w'':of the blocks that were there only those in S),a block known whole ('Blk'),a slice that can be read ('Src'),a slice that the call owns ('Own');'append' for whatever source. It speaks of no program. One rule for each kind of operation,over the frames of the engine. It speaks of no program. Regions that draw their order:quiet operations are taken first(the kit's 'wpAnyH_take'),the others where nothing else can come up. It speaks of no program. More rules:composite literals,strings and bytes,function values. It speaks of no program. More rules:tuples,arrays,the bytes of strings,made slices,stores into owned slices of any element;cells that are known;the run of decided steps with these. It speaks of no program.
-/
import Derived.Test.YtmlpcmjmniobdaaGreatZM0
import Derived.WalkKit
import Derived.ProofKit
import Derived.OrdersHeld
import Derived.Laws.IdiomStrings
import Derived.Laws.BytesArg
import Derived.KernelRfl
import Derived.Laws.OwnMore
set_option linter.all false
namespace Go.Rf
section
open Go.RowKit
/-! ### frames -/
abbrev Env:=Nat->Value
def upd(f:Env)(d:Nat)(v:Value):Env:=fun k=>cond (Nat.beq k d) v (f k)
class Dfs where ds:List Deferred
def A(n:Nat)(f:Env)[D:Dfs]:Act:={tmps:=(List.ofFn (n:=n) fun i=>f i.val).toArray,defers:=D.ds}
def ev(n:Nat)(f:Env):Operand->Value
 |.tmp t=>cond (Nat.blt t n) (f t) undef
 |.const v=>v
 |.global g=>.pointer (some ⟨g,0,none⟩)
 |.func g=>.func (.func g) #[] #[]
def evs(n:Nat)(f:Env):List Operand->List Value
 |[]=>[]
 |x::l=>ev n f x::evs n f l
def updo(f:Env):Option Nat->Value->Env
 |some d,v=>upd f d v
 |none,_=>f
theorem upd_same(f:Env)(k:Nat)(v:Value):upd f k v k=v:=by simp[upd]
theorem upd_ne(f:Env){k d:Nat}(v:Value)(h:k≠d):upd f d v k=f k:=by
 have:Nat.beq k d=false:=by
  cases hb:Nat.beq k d
  .rfl
  .exact absurd (Nat.eq_of_beq_eq_true hb) h
 simp[upd,this]
theorem eq_upd{f:Env}{k:Nat}{v:Value}(h:f k=v):f=upd f k v:=by
 funext j
 by_cases e:j=k
 .subst e;rw[upd_same,h]
 .rw [upd_ne _ _ e]
section
variable{D:Dfs}
theorem A_size(n:Nat)(f:Env):(A n f).tmps.size=n:=by simp[A]
theorem A_get(n:Nat)(f:Env)(k:Nat):(A n f).tmps[k]?=if k<n then some (f k) else none:=by
 simp only[A,List.getElem?_toArray,List.getElem?_ofFn]
 split<;>rfl
theorem blt_yes{k n:Nat}(h:k<n):Nat.blt k n=true:=Nat.ble_eq_true_of_le h
theorem blt_no{k n:Nat}(h:¬k<n):Nat.blt k n=false:=by
 cases hb:Nat.blt k n
 .rfl
 .exact absurd (Nat.le_of_ble_eq_true hb) h
theorem A_getD(n:Nat)(f:Env)(k:Nat):(A n f).tmps.getD k undef=cond (Nat.blt k n) (f k) undef:=by
 rw[Array.getD_eq_getD_getElem?,A_get];by_cases h:k<n
 .simp [h,blt_yes h]
 .simp [h,blt_no h]
theorem A_eval(n:Nat)(f:Env):(A n f).eval=ev n f:=by
 funext x
 cases x with
 |tmp t=>exact A_getD n f t
 |const v=>rfl
 |global g=>rfl
 |func g=>rfl
theorem A_put(n:Nat)(f:Env)(d:Option Nat)(v:Value):(A n f).put d v=A n (updo f d v):=by
 cases d with
 |none=>rfl
 |some d=>
  show Act.mk _ _=Act.mk _ _
  congr 1
  apply Array.ext_getElem?;intro i;have h1:=A_get (D:=D) n (upd f d v) i;have h0:=A_get (D:=D) n f i;have hs:=A_size (D:=D) n f;rw[Array.getElem?_setIfInBounds,h0];show _=(A n (upd f d v)).tmps[i]?;rw[h1,hs];by_cases e:d=i
  .subst e;simp[upd_same]
  .simp [e,upd_ne f v (Ne.symm e)]
theorem evs_map(n:Nat)(f:Env)(l:List Operand):l.map (ev n f)=evs n f l:=by
 induction l with
 |nil=>rfl
 |cons x l ih=>simp[evs,ih]
/-! ### an operation that runs: the general rule -/
section
variable{P:Program}{ops:Array Oper}{Q:Exit->Act->World->Prop}{rest:List Oper}{n:Nat}{f:Env}{w:World}
variable{d:Option Nat}{op:Op}{ty:TypeId}{ps:String}{af:Array Edge}
theorem s_run{v:Value}{w':World}(hr:(execOp (ev n f) ⟨d,op,ty,ps,af,none⟩).run P w=.ok (.value v) w')
 (h:wpList P ops Q rest (A n (updo f d v)) w'):wpList P ops Q (⟨d,op,ty,ps,af,none⟩::rest) (A n f) w:=by
 exact Yde
theorem s_skip{w':World}(hr:(execOp (ev n f) ⟨d,op,ty,ps,af,none⟩).run P w=.ok .skip w')
 (h:wpList P ops Q rest (A n (updo f d undef)) w'):wpList P ops Q (⟨d,op,ty,ps,af,none⟩::rest) (A n f) w:=by
 exact Yde
/-! ### guards -/
def yld(ops:List Oper)(n:Nat)(f:Env)(j:Nat):Option Bool:=
 match ops[j]? with
 |some o=>match o.dst with
  |some t=>match cond (Nat.blt t n) (some (f t)) none with
   |some (.bool b)=>some b
   |_=>none
  |none=>none
 |none=>none
theorem yld_eq(l:List Oper)(n:Nat)(f:Env)(j:Nat):yielded l.toArray (A n f).tmps j=yld l n f j:=by
 unfold yielded yld;simp only[List.getElem?_toArray];cases l[j]? with
 |none=>rfl
 |some o=>
  simp only[Option.bind_some];cases o.dst with
  |none=>rfl
  |some t=>
   simp only[Option.bind_some,A_get];by_cases h:t<n
   .rw [if_pos h,blt_yes h];simp only[cond_true];split<;>simp_all
   .rw [if_neg h,blt_no h];rfl
theorem g_yes{l:List Oper}{j:Nat}{b:Bool}(hy:yld l n f j=some b)
 (h:wpList P l.toArray Q (⟨d,op,ty,ps,af,none⟩::rest) (A n f) w):wpList P l.toArray Q (⟨d,op,ty,ps,af,some (j,b)⟩::rest) (A n f) w:=by
 unfold wpList at h ⊢;rw[if_pos (by simp[Region.wanted,yld_eq,hy])];rw[if_pos (by simp[Region.wanted])]at h;exact h
theorem g_no{l:List Oper}{j:Nat}{b:Bool}(hy:(yld l n f j==some b)=false)
 (h:wpList P l.toArray Q rest (A n (updo f d undef)) w):wpList P l.toArray Q (⟨d,op,ty,ps,af,some (j,b)⟩::rest) (A n f) w:=by
 unfold wpList;rw[if_neg (by simp[Region.wanted,yld_eq,hy])];rw[A_put];exact h
end
/-! ### control -/
section
variable{P:Program}{Q:Exit->Act->World->Prop}{n:Nat}{f:Env}{w:World}{a:Act}
theorem c_region{id:Nat}{l:List Oper}(h:wpList P l.toArray Q l a w):(Code.region id l.toArray false).wp P Q a w:=wp_region_lit h
theorem c_true{c:Operand}{x y:Code}(hc:ev n f c=.bool true)(h:x.wp P Q (A n f) w):(Code.cond c x y).wp P Q (A n f) w:=
 wp_cond_true (by rw[A_eval];exact hc) h
theorem c_false{c:Operand}{x y:Code}(hc:ev n f c=.bool false)(h:y.wp P Q (A n f) w):(Code.cond c x y).wp P Q (A n f) w:=
 wp_cond_false (by rw[A_eval];exact hc) h
theorem q_then{c:Code}{Q':Exit->Act->World->Prop}(h:c.wp P Q a w):Exit.then (c.wp P Q) Q' .normal a w:=h
theorem q_then_k{K:Act->World->Prop}(h:K a w):Exit.then K Q .normal a w:=h
theorem q_then_exit{K:Act->World->Prop}{i:Nat}(h:Q (.exit i) a w):Exit.then K Q (.exit i) a w:=h
theorem q_then_ret{K:Act->World->Prop}(h:Q .ret a w):Exit.then K Q .ret a w:=h
theorem q_blk{i:Nat}(h:Q .normal a w):Exit.inBlock i Q .normal a w:=h
theorem q_blk_ret{i:Nat}(h:Q .ret a w):Exit.inBlock i Q .ret a w:=h
theorem q_blk_eq{i:Nat}(h:Q .normal a w):Exit.inBlock i Q (.exit i) a w:=by simp only[Exit.inBlock,if_true];exact h
theorem q_blk_ne{i j:Nat}(hn:(Nat.beq j i)=false)(h:Q (.exit j) a w):Exit.inBlock i Q (.exit j) a w:=by
 have:¬j=i:=fun e=>by subst e;simp at hn
 simp only[Exit.inBlock,if_neg this];exact h
theorem c_loop{σ:Type}{c:Code}(I:σ->Env->World->Prop)(μ:σ->Nat)(s:σ)(h0:I s f w)
 (hr:∀s g w,I s g w->c.wp P (Exit.then (fun a' w'=>∃s' g',a'=A n g'/\I s' g' w'/\μ s'<μ s) Q) (A n g) w):(Code.loop c).wp P Q (A n f) w:=by
 intro b k cs;have key:∀m s g w,μ s=m->I s g w->
  ∃e a' w',Q e a' w'/\Arrives P (lone (b.at (A n g) (.code c::.inLoop c::k)) cs w) b k cs e a' w':=by
  intro m
  induction m using Nat.strongRecOn with
  |_ m ih=>
   intro s g w hm hI;obtain⟨e,a₁,w₁,hq,harr⟩:=hr s g w hI b (.inLoop c::k) cs;cases e with
   |normal=>
    obtain⟨s',g',rfl,hI₁,hlt⟩:=hq;obtain⟨e₂,a₂,w₂,hq₂,harr₂⟩:=ih (μ s') (hm▸hlt) s' g' w₁ rfl hI₁;exact⟨e₂,a₂,w₂,hq₂,.of_steps (Steps.trans harr (.one step_inLoop)) harr₂⟩
   |exit id=>exact⟨_,a₁,w₁,hq,.pass (x:=.inLoop c) rfl (fun _ _=>.inl Yhs) harr⟩
   |goto l=>exact⟨_,a₁,w₁,hq,.pass (x:=.inLoop c) rfl (fun _ _=>.inl Yhs) harr⟩
   |ret=>exact⟨_,a₁,w₁,hq,.pass (x:=.inLoop c) rfl (fun _ _=>.inl Yhs) harr⟩
   |panic ch=>exact⟨_,a₁,w₁,hq,.pass (x:=.inLoop c) rfl (fun _ _=>.inl Yhs) harr⟩
   |outgrown=>exact⟨_,a₁,w₁,hq,.pass (x:=.inLoop c) rfl (fun _ _=>.inl Yhs) harr⟩
 obtain⟨e,a',w',hq,harr⟩:=key _ s f w rfl h0;exact⟨e,a',w',hq,.of_steps (.one step_loop) harr⟩
theorem q_round{σ:Type}{I:σ->Env->World->Prop}{μ:σ->Nat}{s:σ}(s':σ)(hI:I s' f w)(hm:μ s'<μ s):
 Exit.then (fun a' w'=>∃s' g',a'=A n g'/\I s' g' w'/\μ s'<μ s) Q .normal (A n f) w:=⟨s',f,rfl,hI,hm⟩
theorem c_cut{c:Code}{K:Act->World->Prop}(R:Env->World->Prop)(h1:c.wp P (Exit.then (fun a w=>∃g,a=A n g/\R g w) Q) (A n f) w)
 (h2:∀g w,R g w->K (A n g) w):c.wp P (Exit.then K Q) (A n f) w:=
 wp_mono h1 fun e a w h=>by
  cases e with
  |normal=>obtain⟨g,rfl,hR⟩:=h;exact h2 g w hR
  |_=>exact h
theorem q_cut{R:Env->World->Prop}(h:R f w):Exit.then (fun a w=>∃g,a=A n g/\R g w) Q .normal (A n f) w:=⟨f,rfl,h⟩
end
/-! ### a loop that keeps the locals (the slots below 'nl') but for those of S -/
def elemB:List Nat->Nat->Bool
 |[],_=>false
 |x::l,k=>cond (Nat.beq x k) true (elemB l k)
def mrg(nl:Nat)(S:List Nat)(f g:Env):Env:=fun s=>cond (Nat.blt s nl) (cond (elemB S s) (g s) (f s)) (g s)
def Keep(nl:Nat)(S:List Nat)(f g:Env):Prop:=∀s,s<nl->elemB S s=false->g s=f s
theorem Keep.refl(nl:Nat)(S:List Nat)(f:Env):Keep nl S f f:=fun _ _ _=>rfl
theorem Keep.mrg(nl:Nat)(S:List Nat)(f g:Env):Keep nl S f (mrg nl S f g):=fun s h1 h2=>by
 simp only[Go.Rf.mrg,blt_yes h1,h2,cond_true,cond_false]
theorem Keep.hi{nl:Nat}{S:List Nat}{f g:Env}{d:Nat}{v:Value}(hd:Nat.ble nl d=true)(h:Keep nl S f g):Keep nl S f (upd g d v):=fun s h1 h2=>by
 have:=Nat.le_of_ble_eq_true hd;rw[upd_ne _ _ Yhn];exact h s h1 h2
theorem Keep.one{nl:Nat}{S:List Nat}{f g:Env}{d:Nat}{v:Value}(hd:elemB S d=true)(h:Keep nl S f g):Keep nl S f (upd g d v):=fun s h1 h2=>by
 rw[upd_ne _ _ (fun e=>by subst e;rw[hd]at h2;cases h2)];exact h s h1 h2
theorem Keep.set{nl:Nat}{S:List Nat}{f g:Env}{d:Nat}{v:Value}(hv:f d=v)(h:Keep nl (d::S) f g):Keep nl S f (upd g d v):=fun s h1 h2=>by
 by_cases e:s=d
 .subst e;rw[upd_same,hv]
 .rw [upd_ne _ _ e];refine h s h1 ?_;have:Nat.beq d s=false:=by
   cases hb:Nat.beq d s
   .rfl
   .exact absurd (Nat.eq_of_beq_eq_true hb).symm e
  simp[elemB,this,h2]
def allB(S:List Nat):Nat->Bool
 |0=>true
 |k+1=>elemB S k&&allB S k
theorem Keep.all{nl:Nat}{S:List Nat}{f g:Env}(h:allB S nl=true):Keep nl S f g:=fun s h1 h2=>by
 exfalso
 induction nl with
 |zero=>omega
 |succ k ih=>
  simp only[allB,Bool.and_eq_true]at h;by_cases e:s=k
  .subst e;rw[h.1]at h2;cases h2
  .exact ih h.2 Yhn
theorem Keep.eq{nl:Nat}{S:List Nat}{f g:Env}(h:Keep nl S f g):g=Go.Rf.mrg nl S f g:=by
 funext s
 unfold Go.Rf.mrg;by_cases h1:s<nl
 .rw [blt_yes h1];cases h2:elemB S s with
  |true=>rfl
  |false=>rw[h s h1 h2];rfl
 .rw [blt_no h1];rfl
section
variable{P:Program}{Q:Exit->Act->World->Prop}{n:Nat}{f:Env}{w:World}
theorem c_loopK{σ:Type}{c:Code}(nl:Nat)(S:List Nat)(I:σ->Env->World->Prop)(μ:σ->Nat)(s:σ)(h0:I s f w)
 (hr:∀s g u,I s (mrg nl S f g) u->c.wp P (Exit.then (fun a' w'=>∃s' g',a'=A n g'/\(Keep nl S f g'/\I s' g' w')/\μ s'<μ s) Q) (A n (mrg nl S f g)) u):(Code.loop c).wp P Q (A n f) w:=
 c_loop (fun s g u=>Keep nl S f g/\I s g u) μ s ⟨Keep.refl _ _ _,h0⟩ fun s g u ⟨hk,hI⟩=>by
  have e:=hk.eq;rw[e]at hI ⊢;exact hr s g u hI
theorem q_roundK{σ:Type}{nl:Nat}{S:List Nat}{f0:Env}{I:σ->Env->World->Prop}{μ:σ->Nat}{s:σ}(s':σ)(hk:Keep nl S f0 f)(hI:I s' f w)(hm:μ s'<μ s):
 Exit.then (fun a' w'=>∃s' g',a'=A n g'/\(Keep nl S f0 g'/\I s' g' w')/\μ s'<μ s) Q .normal (A n f) w:=⟨s',f,rfl,⟨hk,hI⟩,hm⟩
end
end
/-! ### a function's beginning and end -/
instance dfs0:Dfs:=⟨[]⟩
def envL:Nat->List Value->Env
 |_,[]=>fun _=>undef
 |i,v::l=>upd (envL (i+1) l) i v
theorem envL_get(l:List Value):∀i k,envL i l (i+k)=l.getD k undef:=by
 induction l with
 |nil=>intro i k;simp[envL]
 |cons v l ih=>
  intro i k;cases k with
  |zero=>simp[envL,upd_same]
  |succ k=>
   rw[envL,upd_ne _ _ Yhn];have:=ih (i+1) k;rw[show i+(k+1)=i+1+k by omega,this];simp
theorem enter_act{fn:Func}{l:List Value}{n:Nat}(hn:fn.ntmps=n)(hl:Nat.ble l.length n=true):
 ({tmps:=l.toArray++Array.replicate (fn.ntmps-l.toArray.size) undef,defers:=[]}:Act)=A n (envL 0 l):=by
 have hle:=Nat.le_of_ble_eq_true hl;show Act.mk _ _=Act.mk _ _
 congr 1
 apply Array.ext_getElem?;intro i;show _=(A n (envL 0 l)).tmps[i]?;rw[A_get];have hg:=envL_get l 0 i;rw[Nat.zero_add]at hg;rw[hg,hn];by_cases hi:i<l.length
 .rw [Array.getElem?_append_left Yjf,if_pos Yhn];simp[List.getD,hi]
 .rw [Array.getElem?_append_right Yht];simp only[List.size_toArray,Array.getElem?_replicate];by_cases h2:i<n
  .rw [if_pos Yhn,if_pos h2];simp[List.getD,List.getElem?_eq_none (by omega:l.length<=i)]
  .rw [if_neg Yhn,if_neg h2]
theorem enter{P:Program}{fid:FuncId}{fn:Func}{c:Code}{l:List Value}{w:World}{R:Ending->World->Prop}{n:Nat}
 (hf:P.funcs[fid]?=some fn) (hb:fn.body=some c) (hn:fn.ntmps=n) (hl:Nat.ble l.length n=true)
 (h:c.wp P (bodyPost P fn R) (A n (envL 0 l)) w):Calls P fid l.toArray w R:=by
 refine calls_of_wp hf hb ?_;rw[enter_act hn hl];exact h
section
variable{P:Program}{fn:Func}{R:Ending->World->Prop}{n:Nat}{f:Env}{w:World}
theorem end0(hr:fn.results=#[])(h:R (.returned (.tuple #[])) w):bodyPost P fn R .normal (A n f) w:=
 ⟨rfl,.tuple #[],by simp[results,hr],h⟩
theorem ret1{t:Nat}{v:Value}(hr:fn.results=#[.tmp t])(hv:ev n f (.tmp t)=v)(h:R (.returned v) w):bodyPost P fn R .ret (A n f) w:=
 ⟨rfl,v,by
  have e:(A n f).tmps.getD t undef=v:=by rw[A_getD];exact hv
  rw[Array.getD_eq_getD_getElem?]at e;simp[results,hr,e],h⟩
theorem ret2{t u:Nat}{v x:Value}(hr:fn.results=#[.tmp t,.tmp u])(hv:ev n f (.tmp t)=v)(hx:ev n f (.tmp u)=x)
 (h:R (.returned (.tuple #[v,x])) w):bodyPost P fn R .ret (A n f) w:=
 ⟨rfl,.tuple #[v,x],by
  have e:(A n f).tmps.getD t undef=v:=by rw[A_getD];exact hv
  have e2:(A n f).tmps.getD u undef=x:=by rw[A_getD];exact hx
  rw[Array.getD_eq_getD_getElem?]at e e2;simp[results,hr,e,e2],h⟩
theorem retc{t ty:Nat}{v:Value}{a:Addr}(hr:fn.results=#[.cell t ty])(hv:ev n f (.tmp t)=.pointer (some a))(hl:(loadVar ty a).run P w=.ok v w)
 (h:R (.returned v) w):bodyPost P fn R .ret (A n f) w:=
 ⟨rfl,v,by
  have e:(A n f).tmps.getD t undef=.pointer (some a):=by rw[A_getD];exact hv
  rw[Array.getD_eq_getD_getElem?]at e;simp[results,hr,e,asAddr,hl],h⟩
end
end
section
open Go.RowKit
structure Fr (S:List Nat) (w w':World):Prop where
 os:w'.os=w.os
 tape:w'.tape=w.tape
 output:w'.output=w.output
 size:w.heap.size<=w'.heap.size
 block:∀k,k<w.heap.size->k∉S->w'.heap[k]?=w.heap[k]?
 draw:w.drawn<=w'.drawn
theorem Fr.refl(S:List Nat)(w:World):Fr S w w:=⟨rfl,rfl,rfl,Nat.le_refl _,fun _ _ _=>rfl,Nat.le_refl _⟩
theorem Fr.trans{S T:List Nat}{a b c:World}(h:Fr S a b)(k:Fr T b c)(hT:∀x∈T,x∈S\/a.heap.size<=x):Fr S a c:=
 ⟨k.os.trans h.os,k.tape.trans h.tape,k.output.trans h.output,Nat.le_trans h.size k.size,fun i hi hS=>
  (k.block i (Nat.lt_of_lt_of_le hi h.size) (fun e=>by rcases hT i e with h'|h';exact hS h';omega)).trans (h.block i hi hS),Nat.le_trans h.draw k.draw⟩
theorem Fr.trans0{S:List Nat}{a b c:World}(h:Fr S a b)(k:Fr [] b c):Fr S a c:=h.trans k (fun _ h=>by cases h)
theorem Fr.mono{S T:List Nat}{a b:World}(h:Fr S a b)(hT:∀x∈S,x∈T\/a.heap.size<=x):Fr T a b:=
 ⟨h.os,h.tape,h.output,h.size,fun i hi hS=>h.block i hi (fun e=>by rcases hT i e with h'|h';exact hS h';omega),h.draw⟩
theorem Fr.below{w w':World}(h:Fr [] w w'):Below w.heap.size w w':=⟨h.os,h.tape,h.output,h.size,fun k hk=>h.block k hk Yhs⟩
theorem Fr.drew(S:List Nat)(w:World):Fr S w w.drew:=⟨rfl,rfl,rfl,Nat.le_refl _,fun _ _ _=>rfl,Nat.le_succ _⟩
theorem Fr.alloc(S:List Nat)(w:World)(o:Obj):Fr S w (w.alloc o):=
 ⟨rfl,rfl,rfl,by simp,fun k hk _=>Below.heap_alloc _ _ _ hk,Nat.le_refl _⟩
theorem Fr.setCell(w:World)(a:Addr)(v:Value):Fr [a.block] w (w.setCell a v):=
 ⟨rfl,rfl,rfl,by simp[World.setCell],fun k _ h=>Below.heap_setCell _ _ _ _ Yil,Nat.le_refl _⟩
theorem Fr.cell{S:List Nat}{w w':World}(h:Fr S w w'){a:Addr}(hb:a.block<w.heap.size)(hS:a.block∉S):w'.cell? a=w.cell? a:=
 World.cell?_of_block (w:=w) (h.block _ hb hS)
/-! ### a block known whole -/
def Blk(w:World)(b:Nat)(l:List Value)(t:Nat):Prop:=w.heap[b]?=some (.cells l.toArray t (0,0))
theorem Blk.lt{w:World}{b t:Nat}{l:List Value}(h:Blk w b l t):b<w.heap.size:=lt_of_block h
theorem Blk.tr{S:List Nat}{w w':World}{b t:Nat}{l:List Value}(h:Blk w b l t)(hf:Fr S w w')(hS:b∉S):Blk w' b l t:=by
 have:=hf.block b h.lt hS;unfold Blk at*;rw[this];exact h
theorem Blk.tr0{w w':World}{b t:Nat}{l:List Value}(h:Blk w b l t)(hf:Fr [] w w'):Blk w' b l t:=h.tr hf Yhs
theorem Blk.cell{w:World}{b t o:Nat}{l:List Value}{v:Value}(h:Blk w b l t)(ho:l[o]?=some v):w.cell? ⟨b,o,none⟩=some v:=by
 unfold Blk at h;simp[World.cell?,h,ho]
theorem Blk.free{w:World}{b t o:Nat}{l:List Value}(h:Blk w b l t):w.frozen? ⟨b,o,none⟩=false:=by
 unfold Blk at h;simp[World.frozen?,h]
theorem Blk.set{w:World}{b t o:Nat}{l:List Value}{v:Value}(h:Blk w b l t):Blk (w.setCell ⟨b,o,none⟩ v) b (l.set o v) t:=by
 have hlt:=h.lt;unfold Blk at*;have h':w.heap[b]=.cells l.toArray t (0,0):=by simpa[Array.getElem?_eq_getElem hlt]using h
 show(w.heap.modify b _)[b]?=_;rw[Array.getElem?_eq_getElem (by simpa using hlt),Array.getElem_modify_self,h'];simp
theorem Blk.new(w:World)(l:List Value)(t:Nat):Blk (w.alloc (.cells l.toArray t)) w.heap.size l t:=heap_alloc_new w _
theorem Blk.ne{w:World}{a b s t:Nat}{l m:List Value}(h:Blk w a l s)(k:Blk w b m t)(hst:s≠t):a≠b:=by
 intro e;subst e;unfold Blk at*;rw[h]at k;simp at k;exact hst k.2
theorem add0(a:Addr):a.add 0=a:=by simp[Addr.add]
theorem add_lit(b o i:Nat):(⟨b,o,none⟩:Addr).add i=⟨b,o+i,none⟩:=by unfold Addr.add;split<;>simp_all
theorem add_block(a:Addr)(i:Nat):(a.add i).block=a.block:=by unfold Addr.add;split<;>rfl
theorem add_add(a:Addr)(i j:Nat):(a.add i).add j=a.add (i+j):=by
 unfold Addr.add;by_cases hi:i=0
 .subst hi;simp
 .by_cases hj:j=0
  .subst hj;simp[hi]
  .simp [hi,hj];omega
/-! ### a slice that can be read: m elements, the cells ys -/
def Src(w:World)(v:Value)(m:Nat)(ys:List Value):Prop:=
 ∃ao c,v=.slice ao m c/\m<=c/\(ao=none->m=0/\c=0/\ys=[])/\∀ad,ao=some ad->∀j u,ys[j]?=some u->w.cell? (ad.add j)=some u
theorem Src.tr{S:List Nat}{w w':World}{v:Value}{m:Nat}{ys:List Value}(h:Src w v m ys)(hf:Fr S w w')(hS:∀ad n c,v=.slice (some ad) n c->0<ys.length->ad.block∉S):Src w' v m ys:=by
 obtain⟨ao,c,rfl,hm,hn,hc⟩:=h;refine⟨ao,c,rfl,hm,hn,fun ad ha j u hu=>?_⟩;have h0:=hc ad ha j u hu;have hl:0<ys.length:=by have:=(List.getElem?_eq_some_iff.1 hu).1;omega
 rw[hf.cell (World.block_lt_of_cell? w _ h0) (by rw[add_block];exact hS ad m c (by rw[ha]) hl)];exact h0
theorem Src.tr0{w w':World}{v:Value}{m:Nat}{ys:List Value}(h:Src w v m ys)(hf:Fr [] w w'):Src w' v m ys:=h.tr hf Yhs
theorem Src.nil(w:World):Src w (.slice none 0 0) 0 []:=⟨none,0,rfl,Nat.le_refl _,fun _=>⟨rfl,rfl,rfl⟩,fun _ h=>by cases h⟩
theorem Src.lt{w:World}{m c:Nat}{ad:Addr}{ys:List Value}(h:Src w (.slice (some ad) m c) m ys)(hl:0<ys.length):ad.block<w.heap.size:=by
 obtain⟨ao,c',e,_,_,hc⟩:=h;simp only[Value.slice.injEq]at e;have:=hc ad e.1.symm 0 ys[0] (by simp[hl]);exact(add_block ad 0)▸World.block_lt_of_cell? w _ this
theorem Src.cut{w:World}{ao:Option Addr}{m c j k size:Nat}{ys:List Value}(h:Src w (.slice ao m c) m ys)(hl:ys.length=m*size)(hjk:j<=k)(hk:k<=m):
 Src w (.slice (if c=j then ao else ao.map (·.add (j*size))) (k-j) (c-j)) (k-j) ((ys.take (k*size)).drop (j*size)):=by
 obtain⟨ao',c',e,hm,hn,hc⟩:=h;simp only[Value.slice.injEq]at e;obtain⟨rfl,_,rfl⟩:=e;refine⟨_,_,rfl,by omega,?_,?_⟩
 .intro e0;have hao:ao=none\/(c=j/\ao=none):=by
   split at e0
   .exact .inl e0
   .left;cases ao<;>simp_all
  have:ao=none:=by rcases hao with h|h;exact h;exact h.2
  obtain⟨h1,h2,h3⟩:=hn this;subst h3;refine⟨by omega,by omega,by simp⟩
 .intro ad e0 i u hu;rw[List.getElem?_drop,List.getElem?_take]at hu
  split at hu
  .rename_i hlt
   split at e0
   .rename_i hcj;have:k=j:=by omega
    subst this;omega
   .obtain ⟨a0,ha0,hadd⟩:=Option.map_eq_some_iff.1 e0;subst hadd;rw[add_add];exact hc a0 ha0 _ u hu
  .cases hu
def Off(v:Value)(ys:List Value)(S:List Nat):Prop:=∀ad n c,v=.slice (some ad) n c->0<ys.length->ad.block∉S
theorem Src.off{w:World}{v:Value}{m:Nat}{ys:List Value}{S:List Nat}(h:Src w v m ys)(hS:∀k∈S,w.heap.size<=k):Off v ys S:=by
 intro ad n c e hl hm;subst e;obtain⟨ao,c',e,_,_,hc⟩:=h;simp only[Value.slice.injEq]at e;have h0:=hc ad e.1.symm 0 ys[0] (by simp[hl]);have:=World.block_lt_of_cell? w _ h0;rw[add_block]at this;have:=hS _ hm;omega
theorem Off.mono{v:Value}{ys:List Value}{S T:List Nat}{w:World}{m:Nat}(hs:Src w v m ys)(h:Off v ys S)(hT:∀k∈T,k∈S\/w.heap.size<=k):Off v ys T:=by
 intro ad n c e hl hm;rcases hT _ hm with h'|h'
 .exact h ad n c e hl h'
 .exact hs.off (S:=[ad.block]) (by simpa using h') ad n c e hl Yhs
/-! ### a slice that the call owns -/
def Own(w:World)(e size:Nat)(v:Value)(n:Nat)(xs:List Value):Prop:=w.ownsRow 0 e size v n xs
def blks(v:Value):List Nat:=v.ownBlock.toList
theorem Own.nil(w:World)(e size:Nat):Own w e size (.slice none 0 0) 0 []:=World.ownsRow_nil w 0 e size
theorem Own.len{w:World}{e size n:Nat}{v:Value}{xs:List Value}(h:Own w e size v n xs):xs.length=n*size:=h.1
theorem Own.lt{w:World}{e size n:Nat}{v:Value}{xs:List Value}(h:Own w e size v n xs):∀k∈blks v,k<w.heap.size:=by
 intro k hk;simp only[blks,Option.mem_toList]at hk;exact(World.ownsRow.lt h k hk).2
theorem Own.tr{S:List Nat}{w w':World}{e size n:Nat}{v:Value}{xs:List Value}(h:Own w e size v n xs)(hf:Fr S w w')(hS:∀k∈blks v,k∉S):Own w' e size v n xs:=by
 refine⟨h.1,?_⟩;rcases h.2 with hn|⟨g,cap,cur,rfl,hb,hgg,r⟩
 .exact .inl hn
 .refine .inr ⟨g,cap,cur,rfl,hb,?_,r⟩;rw[hf.block g (Array.getElem?_eq_some_iff.1 hgg).1 (hS g (by simp[blks,Value.ownBlock]))];exact hgg
theorem Own.tr0{w w':World}{e size n:Nat}{v:Value}{xs:List Value}(h:Own w e size v n xs)(hf:Fr [] w w'):Own w' e size v n xs:=h.tr hf Yhs
theorem Own.src{w:World}{e size n:Nat}{v:Value}{xs:List Value}(h:Own w e size v n xs):Src w v n xs:=by
 rcases h.2 with⟨rfl,rfl⟩|⟨g,cap,cur,rfl,_,hgg,hnc,_⟩
 .have:xs=[]:=List.eq_nil_of_length_eq_zero (by simpa using h.1);subst this;exact Src.nil w
 .refine ⟨some ⟨g,0,none⟩,cap,rfl,hnc,fun e=>(by cases e),fun ad ha=>?_⟩;simp only[Option.some.injEq]at ha;subst ha;exact World.ownsRow.cells h (g:=g) rfl
theorem Own.ne{w:World}{e size n b t:Nat}{v:Value}{xs l:List Value}(h:Own w e size v n xs)(hb:Blk w b l t)(het:e≠t):∀k∈blks v,k≠b:=by
 intro k hk hkb;subst hkb;rcases h.2 with⟨rfl,rfl⟩|⟨g,cap,cur,rfl,_,hgg,_⟩
 .simp [blks,Value.ownBlock]at hk
 .simp [blks,Value.ownBlock]at hk;subst hk;unfold Blk at hb;rw[hgg]at hb;simp at hb;exact het hb.2
theorem Own.slice{w:World}{e size n:Nat}{v:Value}{xs:List Value}(h:Own w e size v n xs):∃ao c,v=.slice ao n c:=by
 rcases h.2 with⟨rfl,rfl⟩|⟨g,cap,cur,rfl,_⟩
 .exact ⟨_,_,rfl⟩
 .exact ⟨_,_,rfl⟩
theorem Own.one{w:World}{e size n:Nat}{v:Value}{xs:List Value}(h:Own w e size v n xs):v.oneCell'=true:=by
 obtain⟨ao,c,rfl⟩:=h.slice;rfl
theorem Src.one{w:World}{m:Nat}{v:Value}{xs:List Value}(h:Src w v m xs):v.oneCell'=true:=by
 obtain⟨ao,c,rfl,_⟩:=h;rfl
/-! ### what lay there before keeps -/
theorem Blk.old{S:List Nat}{w w':World}{b t:Nat}{l:List Value}(h:Blk w b l t)(hf:Fr S w w')(hS:∀k∈S,w.heap.size<=k):Blk w' b l t:=h.tr hf (fun hm=>by have:=hS b hm;have:=h.lt;omega)
theorem Own.old{S:List Nat}{w w':World}{e size n:Nat}{v:Value}{xs:List Value}(h:Own w e size v n xs)(hf:Fr S w w')(hS:∀k∈S,w.heap.size<=k):Own w' e size v n xs:=
 h.tr hf (fun k hk hm=>by have:=hS k hm;have:=h.lt k hk;omega)
theorem Src.old{S:List Nat}{w w':World}{v:Value}{m:Nat}{ys:List Value}(h:Src w v m ys)(hf:Fr S w w')(hS:∀k∈S,w.heap.size<=k):Src w' v m ys:=h.tr hf (h.off hS)
/-! ### append, whatever the source -/
class RowT (P:Program) (t:Nat) (e size bytes:outParam Nat):Prop where
 und:P.underlying t=some (.slice e)
 inf:∃i z,P.info? e=some i/\i.zero=some z/\i.size=size/\i.bytes=bytes/\z.cells.size=size
 pos:0<size
structure Gives (P:Program) (w:World) (size:Nat) (x:Value) (m:Nat) (ys:List Value):Prop where
 len:ys.length=m*size
 lenOf:∀u:World,(Builtin.lenOf x).run P u=.ok m u
 cells:∀u:World,(∀a,u.cell? a=w.cell? a)->(Builtin.firstCells size m x).run P u=.ok ys.toArray u
 one:∀y∈ys,y.oneCell'=true
theorem Src.gives{P:Program}{w:World}{v:Value}{m size:Nat}{ys:List Value}(h:Src w v m ys)(hl:ys.length=m*size)(h1:∀y∈ys,y.oneCell'=true):Gives P w size v m ys:=by
 obtain⟨ao,c,rfl,hm,hn,hc⟩:=h;refine⟨hl,fun u=>by simp[Builtin.lenOf],fun u hu=>?_,h1⟩;cases ao with
 |none=>
  obtain⟨rfl,rfl,rfl⟩:=hn rfl;simp[Builtin.firstCells]
 |some ad=>exact run_firstCells_some u size m ad m c ys hl (fun j y hy=>by rw[hu];exact hc ad rfl j y hy)
theorem run_app{P:Program}{t xt ty e size bytes:Nat}[R:RowT P t e size bytes]{w:World}{v x:Value}{n m:Nat}{xs ys:List Value}
 (hxt:(∃e',P.underlying xt=some (.slice e'))\/P.underlying xt=some .string) (hown:Own w e size v n xs) (hx:Gives P w size x m ys) (h63:n+m<=maxLen) (hb:(n+m)*bytes<=140737488355328):
 ∃v' w',(Builtin.append_ #[t,xt] ty #[v,x]).run P w=.ok v' w'/\Own w' e size v' (n+m) (xs++ys)/\Fr (blks v) w w'/\(∀k∈blks v',k∈blks v\/w.heap.size<=k)/\
  (v'=.slice none 0 0↔v=.slice none 0 0/\m=0):=by
 obtain⟨i,z,hi,hz,rfl,rfl,hzs⟩:=R.inf;have ht:=R.und;have hsmall:n+m<=9223372036854775807:=by simp only[maxLen]at h63;omega
 have hlen:(xs++ys).length=(n+m)*i.size:=by rw[List.length_append,hown.1,hx.len,Nat.add_mul]
 have hm0:m=0->ys=[]:=fun e=>List.eq_nil_of_length_eq_zero (by rw[hx.len,e];simp)
 have h63':¬(9223372036854775807<((n:Int)+(m:Int))):=by omega
 have grown:∀(old:Nat),
  Own (w.drew.alloc (.cells (xs.toArray++ys.toArray++Builtin.zeroCells z.cells (grownCap w (n+m) old e-(n+m))) e)) e i.size
   (.slice (some ⟨w.heap.size,0,none⟩) (n+m) (grownCap w (n+m) old e)) (n+m) (xs++ys)/\
  Fr (blks v) w (w.drew.alloc (.cells (xs.toArray++ys.toArray++Builtin.zeroCells z.cells (grownCap w (n+m) old e-(n+m))) e)):=by
  intro old;have hge:=grownCap_ge w (n+m) old e;have hcm:grownCap w (n+m) old e<=maxLen:=grownCap_le_maxLen w (n+m) old e h63;refine⟨⟨hlen,.inr ⟨w.heap.size,_,_,rfl,Nat.zero_le _,heap_alloc_new w.drew _,hge,hcm,?_,?_⟩⟩,(Fr.drew _ w).trans0 (Fr.alloc [] _ _)⟩
  .simp only[Array.size_append,List.size_toArray,size_zeroCells,hzs,hown.1,hx.len,<-Nat.add_mul]
   congr 1
   omega
  .simp only[Array.toList_append,List.append_assoc];rw[<-List.append_assoc,<-hlen];exact List.take_left
 have hfx:=hx.cells w (fun _=>rfl);have hfd:=hx.cells w.drew (fun _=>rfl);have hlx:=hx.lenOf w;rcases hown.2 with⟨rfl,rfl⟩|⟨g,cap,cur,rfl,hbg,hg,hnc,hcm,hcs,htake⟩
 .have hxs:xs=[]:=List.eq_nil_of_length_eq_zero (by simpa using hown.1);subst hxs;by_cases hm:m=0
  .have hys:=hm0 hm;subst hm;subst hys;refine⟨.slice none 0 0,w,?_,Own.nil w e i.size,Fr.refl _ _,fun k hk=>by simp[blks,Value.ownBlock]at hk,by simp⟩;rcases hxt with⟨e',hd⟩|hd<;>simp[Builtin.append_,run_underlying ht,run_underlying hd,sizeOf,typeInfo,hi,hlx,hfx]
  .have h48':¬(281474976710656<Builtin.nextslicecap m 0*i.bytes):=by
    have:=growslice_fits (bytes:=i.bytes) (show 0<m by omega) Yks;omega
   have hgr:=grown 0;simp only[Nat.zero_add,List.nil_append,Array.empty_append]at hgr h63' ⊢;refine⟨_,_,?_,hgr.1,hgr.2,fun k hk=>by simp[blks,Value.ownBlock]at hk;omega,by simp[hm]⟩;have h63'':¬(9223372036854775807<(m:Int)):=by omega
   rcases hxt with⟨e',hd⟩|hd<;>simp[Builtin.append_,run_underlying ht,run_underlying hd,sizeOf,typeInfo,zeroValue,hi,hz,hlx,hfd,hm,h63'',h48',Question.forced,run_firstCells_none,newRow,grownCap]
 .by_cases hroom:n+m<=cap
  .have hfit:n*i.size+ys.length<=cur.size:=by rw[hx.len,hcs,<-Nat.add_mul];exact Nat.mul_le_mul_right _ hroom
   have hst:=run_storeCells_at P g (n*i.size) e ys 0 cur w hg (by simpa using hfit) hx.one;simp only[Nat.add_zero]at hst;have hr:(Builtin.append_ #[t,xt] ty #[.slice (some ⟨g,0,none⟩) n cap,x]).run P w=.ok (.slice (some ⟨g,0,none⟩) (n+m) cap) (w.setRow g (cur.toList.take (n*i.size)++ys++cur.toList.drop (n*i.size+ys.length)).toArray):=by
    rcases hxt with⟨e',hd⟩|hd<;>simp[Builtin.append_,run_underlying ht,run_underlying hd,sizeOf,typeInfo,hi,hlx,hroom,hfx,Addr.add_lit,hst]
   refine⟨_,_,hr,⟨hlen,.inr ⟨g,cap,_,rfl,hbg,setRow_heap w g cur _ e _ hg,hroom,hcm,?_,?_⟩⟩,⟨rfl,rfl,rfl,by simp,fun k _ hk=>setRow_other w g k _ (fun e=>hk (by simp[blks,Value.ownBlock,e])),Nat.le_refl _⟩,fun k hk=>.inl hk,by simp⟩
   .simp only[List.size_toArray,List.length_append,List.length_take,List.length_drop,Array.length_toList];omega
   .rw [htake,<-hlen];exact List.take_left
  .have holds:∀j u,xs[j]?=some u->w.cell? ((⟨g,0,none⟩:Addr).add j)=some u:=World.ownsRow.cells hown (g:=g) rfl;have hfo:=run_firstCells_some (P:=P) w.drew i.size n ⟨g,0,none⟩ n cap xs hown.1 (by simpa using holds);have h48':¬(281474976710656<Builtin.nextslicecap (n+m) cap*i.bytes):=by
    have:=growslice_fits (bytes:=i.bytes) (show cap<n+m by omega) hb;omega
   have hgr:=grown cap;refine⟨_,_,?_,hgr.1,hgr.2,fun k hk=>by simp[blks,Value.ownBlock]at hk;exact .inr Yhn,by simp⟩;rcases hxt with⟨e',hd⟩|hd<;>simp[Builtin.append_,run_underlying ht,run_underlying hd,sizeOf,typeInfo,zeroValue,hi,hz,hlx,hroom,h63',h48',Question.forced,hfd,hfo,newRow,grownCap]<;>rw[<-List.append_toArray,Array.append_assoc]
end
section
open Go.RowKit
class IntT (P:Program) (t:Nat) (k:outParam IntKind):Prop where u:P.underlying t=some (.int k)
class StrT (P:Program) (t:Nat):Prop where u:P.underlying t=some .string
class SliceT (P:Program) (t:Nat) (e:outParam Nat):Prop where u:P.underlying t=some (.slice e)
def aggD:TypeDesc->Bool|.struct _=>true|.array _ _=>true|_=>false
class OneT (P:Program) (t:Nat):Prop where
 agg:∃d,P.underlying t=some d/\aggD d=false
 size:∃i,P.info? t=some i/\i.size=1
class AggT (P:Program) (t:Nat) (n:outParam Nat):Prop where
 agg:∃d,P.underlying t=some d/\aggD d=true
 size:∃i,P.info? t=some i/\i.size=n
class ZeroT (P:Program) (t:Nat) (z:outParam Value):Prop where z:∃i,P.info? t=some i/\i.zero=some z
class FieldT (P:Program) (s i:Nat) (off:outParam Nat):Prop where
 f:∃fs fd j,P.underlying s=some (.struct fs)/\fs[i]?=some fd/\fd.offset=off/\P.info? fd.type=some j/\j.size≠0
class FnT (P:Program) (k:Nat):Prop where
 f:∃fn,P.funcs[k]?=some fn/\(fn.name== "runtime.NumGoroutine")=false/\fn.body.isNone=false
theorem beq_dec(a b:List UInt8):(a==b)=decide (a=b):=by
 by_cases h:a=b
 .simp [h]
 .simp [h]
theorem run_isAgg{P:Program}{t:Nat}{d:TypeDesc}(h:P.underlying t=some d)(w:World):(isAgg t).run P w=.ok (aggD d) w:=by
 simp only[isAgg,Sem.run_bind,run_underlying h,Result.andThen_ok];cases d<;>rfl
theorem OneT.load{P:Program}{t:Nat}[o:OneT P t](a:Addr){w:World}{v:Value}(hc:w.cell? a=some v):(loadVar t a).run P w=.ok v w:=by
 obtain⟨d,hd,ha⟩:=o.agg;exact Ymn
theorem AggT.load{P:Program}{t n:Nat}[o:AggT P t n](a:Addr){w:World}(l:List Value)(hl:l.length=n)(hc:∀j u,l[j]?=some u->w.cell? (a.add j)=some u):(loadVar t a).run P w=.ok (.agg l.toArray) w:=by
 obtain⟨d,hd,ha⟩:=o.agg;obtain⟨i,hi,hs⟩:=o.size;have:=run_loadCells_list (P:=P) w a l hc;simp[loadVar,run_isAgg hd,ha,sizeOf,typeInfo,hi,hs,<-hl,this]
section
variable{D:Dfs}
variable{P:Program}{ops:Array Oper}{Q:Exit->Act->World->Prop}{rest:List Oper}{n:Nat}{f:Env}{w:World}
variable{d:Nat}{ty:TypeId}{ps:String}{af:Array Edge}{x y:Operand}{t t2:Nat}
theorem s_moveV{v:Value}(hx:ev n f x=v)(h:wpList P ops Q rest (A n (upd f d v)) w):wpList P ops Q (⟨some d,.move x,ty,ps,af,none⟩::rest) (A n f) w:=s_run (by simp[execOp,hx]) h
theorem s_assignV{v:Value}(hx:ev n f x=v)(h:wpList P ops Q rest (A n (upd f d v)) w):wpList P ops Q (⟨some d,.assign x,ty,ps,af,none⟩::rest) (A n f) w:=s_run (by simp[execOp,hx]) h
theorem s_pickV{c:Operand}{b:Bool}{v:Value}(hc:ev n f c=.bool b)(hv:ev n f (cond b x y)=v)(h:wpList P ops Q rest (A n (upd f d v)) w):wpList P ops Q (⟨some d,.pick c x y,ty,ps,af,none⟩::rest) (A n f) w:=
 s_run (v:=v) (by cases b<;>simp_all [execOp,asBool]) h
theorem s_nilCheck{a:Addr}(hx:ev n f x=.pointer (some a))(h:wpList P ops Q rest (A n (upd f d (.pointer (some a)))) w):wpList P ops Q (⟨some d,.nilCheck x,ty,ps,af,none⟩::rest) (A n f) w:=
 s_run (by simp[execOp,hx]) h
theorem s_fieldAddr{s i off:Nat}{a:Addr}[F:FieldT P s i off](hx:ev n f x=.pointer (some a))(h:wpList P ops Q rest (A n (upd f d (.pointer (some (a.add off))))) w):
 wpList P ops Q (⟨some d,.fieldAddr s x i,ty,ps,af,none⟩::rest) (A n f) w:=by
 obtain⟨fs,fd,j,h1,h2,h3,h4,h5⟩:=F.f;exact s_run (by simp[execOp,hx,Instr.fieldAt,run_underlying h1,h2,Instr.sureAddr,fieldPlace,sizeOf,typeInfo,h4,h5,h3]) h
theorem s_fieldB{s i off b o:Nat}[F:FieldT P s i off](hx:ev n f x=.pointer (some ⟨b,o,none⟩))(h:wpList P ops Q rest (A n (upd f d (.pointer (some ⟨b,o+off,none⟩)))) w):
 wpList P ops Q (⟨some d,.fieldAddr s x i,ty,ps,af,none⟩::rest) (A n f) w:=by
 refine s_fieldAddr hx ?_;rw[add_lit];exact h
theorem s_field0{s i off b:Nat}[F:FieldT P s i off](hx:ev n f x=.pointer (some ⟨b,0,none⟩))(h:wpList P ops Q rest (A n (upd f d (.pointer (some ⟨b,off,none⟩)))) w):
 wpList P ops Q (⟨some d,.fieldAddr s x i,ty,ps,af,none⟩::rest) (A n f) w:=by
 refine s_fieldB hx ?_;rw[Nat.zero_add];exact h
/-! arithmetic: the result's equation 'hr' takes the wrap away where the bounds are known -/
theorem s_add{k:IntKind}{a b r:Int}(hx:ev n f x=.int k a)(hy:ev n f y=.int k b)(hr:k.wrap (a+b)=r)(h:wpList P ops Q rest (A n (upd f d (.int k r))) w):
 wpList P ops Q (⟨some d,.binOp .add t x y t2,ty,ps,af,none⟩::rest) (A n f) w:=s_run Yjv h
theorem s_sub{k:IntKind}{a b r:Int}(hx:ev n f x=.int k a)(hy:ev n f y=.int k b)(hr:k.wrap (a-b)=r)(h:wpList P ops Q rest (A n (upd f d (.int k r))) w):
 wpList P ops Q (⟨some d,.binOp .sub t x y t2,ty,ps,af,none⟩::rest) (A n f) w:=s_run Yjv h
theorem s_mul{k:IntKind}{a b r:Int}(hx:ev n f x=.int k a)(hy:ev n f y=.int k b)(hr:k.wrap (a*b)=r)(h:wpList P ops Q rest (A n (upd f d (.int k r))) w):
 wpList P ops Q (⟨some d,.binOp .mul t x y t2,ty,ps,af,none⟩::rest) (A n f) w:=s_run Yjv h
theorem s_quo{k:IntKind}{a b r:Int}(hx:ev n f x=.int k a)(hy:ev n f y=.int k b)(h0:¬b=0)(hr:k.wrap (a.tdiv b)=r)(h:wpList P ops Q rest (A n (upd f d (.int k r))) w):
 wpList P ops Q (⟨some d,.binOp .quo t x y t2,ty,ps,af,none⟩::rest) (A n f) w:=s_run (by simp[execOp,eqGuard,binOp,Op.intDiv,hx,hy,h0,hr]) h
theorem s_rem{k:IntKind}{a b r:Int}(hx:ev n f x=.int k a)(hy:ev n f y=.int k b)(h0:¬b=0)(hr:a.tmod b=r)(h:wpList P ops Q rest (A n (upd f d (.int k r))) w):
 wpList P ops Q (⟨some d,.binOp .rem t x y t2,ty,ps,af,none⟩::rest) (A n f) w:=s_run (by simp[execOp,eqGuard,binOp,Op.intDiv,hx,hy,h0,hr]) h
theorem s_or{k:IntKind}{a b r:Int}(hx:ev n f x=.int k a)(hy:ev n f y=.int k b)(hr:k.wrap ((BitVec.ofInt k.bits a|||BitVec.ofInt k.bits b).toNat:Int)=r)(h:wpList P ops Q rest (A n (upd f d (.int k r))) w):
 wpList P ops Q (⟨some d,.binOp .or t x y t2,ty,ps,af,none⟩::rest) (A n f) w:=s_run (by simp only[execOp,eqGuard,binOp,Op.intBits,hx,hy,hr];simp) h
theorem s_xor{k:IntKind}{a b r:Int}(hx:ev n f x=.int k a)(hy:ev n f y=.int k b)(hr:k.wrap ((BitVec.ofInt k.bits a^^^BitVec.ofInt k.bits b).toNat:Int)=r)(h:wpList P ops Q rest (A n (upd f d (.int k r))) w):
 wpList P ops Q (⟨some d,.binOp .xor t x y t2,ty,ps,af,none⟩::rest) (A n f) w:=s_run (by simp only[execOp,eqGuard,binOp,Op.intBits,hx,hy,hr];simp) h
theorem s_shl{k k2:IntKind}{a b r:Int}(hx:ev n f x=.int k a)(hy:ev n f y=.int k2 b)(h0:¬b<0)(hr:k.wrap (a*2^(min b.toNat k.bits))=r)(h:wpList P ops Q rest (A n (upd f d (.int k r))) w):
 wpList P ops Q (⟨some d,.binOp .shl t x y t2,ty,ps,af,none⟩::rest) (A n f) w:=s_run (by simp[execOp,eqGuard,binOp,Op.shift,hx,hy,h0,hr]) h
theorem s_shr{k k2:IntKind}{a b r:Int}(hx:ev n f x=.int k a)(hy:ev n f y=.int k2 b)(h0:¬b<0)(hr:a.fdiv (2^(min b.toNat k.bits))=r)(h:wpList P ops Q rest (A n (upd f d (.int k r))) w):
 wpList P ops Q (⟨some d,.binOp .shr t x y t2,ty,ps,af,none⟩::rest) (A n f) w:=s_run (by simp[execOp,eqGuard,binOp,Op.shift,hx,hy,h0,hr]) h
theorem s_neg{k:IntKind}{a r:Int}(hx:ev n f x=.int k a)(hr:k.wrap (0-a)=r)(h:wpList P ops Q rest (A n (upd f d (.int k r))) w):
 wpList P ops Q (⟨some d,.unOp .neg t x,ty,ps,af,none⟩::rest) (A n f) w:=s_run (by simp only[execOp,Op.unary,Op.intArith,hx,hr];simp) h
theorem s_not{b:Bool}(hx:ev n f x=.bool b)(h:wpList P ops Q rest (A n (upd f d (.bool (!b)))) w):
 wpList P ops Q (⟨some d,.unOp .not t x,ty,ps,af,none⟩::rest) (A n f) w:=s_run (by simp[execOp,Op.unary,hx]) h
theorem s_conv{k k0:IntKind}{a r:Int}{src dst:Nat}[S:IntT P src k0][D:IntT P dst k](hx:ev n f x=.int k0 a)(hr:k.wrap a=r)(h:wpList P ops Q rest (A n (upd f d (.int k r))) w):
 wpList P ops Q (⟨some d,.convert src dst x,ty,ps,af,none⟩::rest) (A n f) w:=s_run (by simp[execOp,convert,run_underlying S.u,run_underlying D.u,Conv.intToInt,hx,hr]) h
/-! comparisons: parted where they stand -/
theorem s_cmp{op:BinOp}{v v':Value}{p:Prop}[Decidable p](hx:ev n f x=v)(hy:ev n f y=v')(hr:(do eqGuard op t x y v v';binOp op t v v':Sem Value).run P w=.ok (.bool (decide p)) w)
 (ht:p->wpList P ops Q rest (A n (upd f d (.bool true))) w) (hf:¬p->wpList P ops Q rest (A n (upd f d (.bool false))) w):
 wpList P ops Q (⟨some d,.binOp op t x y t2,ty,ps,af,none⟩::rest) (A n f) w:=by
 by_cases hp:p
 .refine s_run (v:=.bool true) ?_ (ht hp);simp only[execOp,hx,hy];rw[Sem.run_bind,hr];simp[hp]
 .refine s_run (v:=.bool false) ?_ (hf hp);simp only[execOp,hx,hy];rw[Sem.run_bind,hr];simp[hp]
theorem s_eql{k:IntKind}{a b:Int}(hx:ev n f x=.int k a)(hy:ev n f y=.int k b)(ht:a=b->wpList P ops Q rest (A n (upd f d (.bool true))) w)(hf:¬a=b->wpList P ops Q rest (A n (upd f d (.bool false))) w):
 wpList P ops Q (⟨some d,.binOp .eql t x y t2,ty,ps,af,none⟩::rest) (A n f) w:=s_cmp hx hy (by simp[eqGuard,binOp,Op.intCmp];rfl) ht hf
theorem s_neq{k:IntKind}{a b:Int}(hx:ev n f x=.int k a)(hy:ev n f y=.int k b)(ht:¬a=b->wpList P ops Q rest (A n (upd f d (.bool true))) w)(hf:a=b->wpList P ops Q rest (A n (upd f d (.bool false))) w):
 wpList P ops Q (⟨some d,.binOp .neq t x y t2,ty,ps,af,none⟩::rest) (A n f) w:=
 s_cmp (p:=¬a=b) hx hy (by simp[eqGuard,binOp,Op.intCmp,bne];rfl) ht (fun h=>hf (Decidable.byContradiction h))
theorem s_lss{k:IntKind}{a b:Int}(hx:ev n f x=.int k a)(hy:ev n f y=.int k b)(ht:a<b->wpList P ops Q rest (A n (upd f d (.bool true))) w)(hf:¬a<b->wpList P ops Q rest (A n (upd f d (.bool false))) w):
 wpList P ops Q (⟨some d,.binOp .lss t x y t2,ty,ps,af,none⟩::rest) (A n f) w:=s_cmp hx hy Ykg ht hf
theorem s_leq{k:IntKind}{a b:Int}(hx:ev n f x=.int k a)(hy:ev n f y=.int k b)(ht:a<=b->wpList P ops Q rest (A n (upd f d (.bool true))) w)(hf:¬a<=b->wpList P ops Q rest (A n (upd f d (.bool false))) w):
 wpList P ops Q (⟨some d,.binOp .leq t x y t2,ty,ps,af,none⟩::rest) (A n f) w:=s_cmp hx hy Ykg ht hf
theorem s_gtr{k:IntKind}{a b:Int}(hx:ev n f x=.int k a)(hy:ev n f y=.int k b)(ht:b<a->wpList P ops Q rest (A n (upd f d (.bool true))) w)(hf:¬b<a->wpList P ops Q rest (A n (upd f d (.bool false))) w):
 wpList P ops Q (⟨some d,.binOp .gtr t x y t2,ty,ps,af,none⟩::rest) (A n f) w:=s_cmp hx hy Ykg ht hf
theorem s_geq{k:IntKind}{a b:Int}(hx:ev n f x=.int k a)(hy:ev n f y=.int k b)(ht:b<=a->wpList P ops Q rest (A n (upd f d (.bool true))) w)(hf:¬b<=a->wpList P ops Q rest (A n (upd f d (.bool false))) w):
 wpList P ops Q (⟨some d,.binOp .geq t x y t2,ty,ps,af,none⟩::rest) (A n f) w:=s_cmp hx hy Ykg ht hf
theorem s_eqlS{a b:ByteArray}(hx:ev n f x=.string a)(hy:ev n f y=.string b)(ht:a.toList=b.toList->wpList P ops Q rest (A n (upd f d (.bool true))) w)(hf:¬a.toList=b.toList->wpList P ops Q rest (A n (upd f d (.bool false))) w):
 wpList P ops Q (⟨some d,.binOp .eql t x y t2,ty,ps,af,none⟩::rest) (A n f) w:=s_cmp hx hy (by simp[eqGuard,binOp,Op.stringOp,beq_dec]) ht hf
theorem s_neqS{a b:ByteArray}(hx:ev n f x=.string a)(hy:ev n f y=.string b)(ht:¬a.toList=b.toList->wpList P ops Q rest (A n (upd f d (.bool true))) w)(hf:a.toList=b.toList->wpList P ops Q rest (A n (upd f d (.bool false))) w):
 wpList P ops Q (⟨some d,.binOp .neq t x y t2,ty,ps,af,none⟩::rest) (A n f) w:=
 s_cmp (p:=¬a.toList=b.toList) hx hy (by simp[eqGuard,binOp,Op.stringOp,beq_dec]) ht (fun h=>hf (Decidable.byContradiction h))
/-! slices, lengths -/
theorem s_len{ao:Option Addr}{l c e:Nat}[S:SliceT P t e](hx:ev n f x=.slice ao l c)(h:wpList P ops Q rest (A n (upd f d (.int .i64 l))) w):
 wpList P ops Q (⟨some d,.call {callee:=.builtin .len,args:=#[x],argTypes:=#[t]},ty,ps,af,none⟩::rest) (A n f) w:=
 s_run Yju h
theorem s_lenS{s:ByteArray}[S:StrT P t](hx:ev n f x=.string s)(h:wpList P ops Q rest (A n (upd f d (.int .i64 s.size))) w):
 wpList P ops Q (⟨some d,.call {callee:=.builtin .len,args:=#[x],argTypes:=#[t]},ty,ps,af,none⟩::rest) (A n f) w:=
 s_run Yju h
theorem s_min{k:IntKind}{a b r:Int}{at_:Array TypeId}(hx:ev n f x=.int k a)(hy:ev n f y=.int k b)(hr:(if b<a then b else a)=r)(h:wpList P ops Q rest (A n (upd f d (.int k r))) w):
 wpList P ops Q (⟨some d,.call {callee:=.builtin .min,args:=#[x,y],argTypes:=at_},ty,ps,af,none⟩::rest) (A n f) w:=
 s_run (by simp[execOp,resolve,invoke,builtin,Builtin.min_,Builtin.min2,hx,hy,hr]) h
theorem s_indexAddr{ao:Option Addr}{a:Addr}{l c e size by_:Nat}{k:IntKind}{i:Int}{j:Nat}[R:RowT P t e size by_](hx:ev n f x=.slice ao l c)(hy:ev n f y=.int k i)(hi:i=(j:Int))(hlt:j<l)(ha:ao=some a)
 (h:wpList P ops Q rest (A n (upd f d (.pointer (some (a.add (j*size)))))) w):wpList P ops Q (⟨some d,.indexAddr t x y,ty,ps,af,none⟩::rest) (A n f) w:=by
 obtain⟨i0,z,hi0,hz,hs,hb,hzs⟩:=R.inf;subst hi ha;have h2:(j:Int)<(l:Int):=by omega
 exact s_run (by simp[execOp,Instr.indexAt,hx,hy,asIntOf,run_underlying R.und,hlt,sizeOf,typeInfo,hi0,hs]) h
theorem s_slice{ao:Option Addr}{l c e size by_:Nat}{lo hi:Option Operand}{j k:Nat}[R:RowT P t e size by_](hx:ev n f x=.slice ao l c)
 (hlo:match lo with|some o=>∃kk,ev n f o=.int kk (j:Int)|none=>j=0) (hhi:match hi with|some o=>∃kk,ev n f o=.int kk (k:Int)|none=>k=l) (h1:j<=k) (h2:k<=c) (h3:l<=c)
 (h:wpList P ops Q rest (A n (upd f d (.slice (if c=j then ao else ao.map (·.add (j*size))) (k-j) (c-j)))) w):wpList P ops Q (⟨some d,.slice t x lo hi none,ty,ps,af,none⟩::rest) (A n f) w:=by
 obtain⟨i0,z,hi0,hz,hs,hb,hzs⟩:=R.inf;refine s_run (v:=.slice (if c=j then ao else ao.map (·.add (j*size))) (k-j) (c-j)) (w':=w) ?_ h;have e1:(j:Int)<=(k:Int):=by omega
 cases lo with
 |none=>
  simp only at hlo;subst hlo;cases hi with
  |none=>simp only at hhi;subst hhi;simp[execOp,hx,Instr.sliceAt,Instr.slice,run_underlying R.und,Instr.sliceBounds,sizeOf,typeInfo,hi0,hs]
  |some o=>obtain⟨kk,hk⟩:=hhi;simp[execOp,hx,hk,Instr.sliceAt,Instr.slice,run_underlying R.und,Instr.sliceBounds,Instr.sliceBound,asIntOf,sizeOf,typeInfo,hi0,hs,h2]
 |some o'=>
  obtain⟨kk',hk'⟩:=hlo;cases hi with
  |none=>simp only at hhi;subst hhi;simp[execOp,hx,hk',Instr.sliceAt,Instr.slice,run_underlying R.und,Instr.sliceBounds,Instr.sliceBound,asIntOf,sizeOf,typeInfo,hi0,hs,h1]
  |some o=>obtain⟨kk,hk⟩:=hhi;simp[execOp,hx,hk,hk',Instr.sliceAt,Instr.slice,run_underlying R.und,Instr.sliceBounds,Instr.sliceBound,asIntOf,sizeOf,typeInfo,hi0,hs,h1,h2]
theorem s_cut{ao:Option Addr}{l c e size by_:Nat}{lo hi:Option Operand}{ys:List Value}(j k:Nat)[R:RowT P t e size by_](hsrc:Src w (.slice ao l c) l ys)(hx:ev n f x=.slice ao l c)(hl:ys.length=l*size)
 (hlo:match lo with|some o=>∃kk,ev n f o=.int kk (j:Int)|none=>j=0) (hhi:match hi with|some o=>∃kk,ev n f o=.int kk (k:Int)|none=>k=l) (h1:j<=k) (h2:k<=l)
 (h:∀ao' c',Src w (.slice ao' (k-j) c') (k-j) ((ys.take (k*size)).drop (j*size))->(∀ad',ao'=some ad'->∃ad,ao=some ad/\ad'.block=ad.block)->k-j<=c'->wpList P ops Q rest (A n (upd f d (.slice ao' (k-j) c'))) w):
 wpList P ops Q (⟨some d,.slice t x lo hi none,ty,ps,af,none⟩::rest) (A n f) w:=by
 have hlc:l<=c:=by
  obtain⟨ao',c',e,hm,_⟩:=hsrc;simp only[Value.slice.injEq]at e;omega
 refine s_slice hx hlo hhi h1 Yhn hlc (h _ _ (hsrc.cut hl h1 h2) ?_ Yhn);intro ad' e
 split at e
 .exact ⟨ad',e,rfl⟩
 .obtain ⟨a0,ha0,hadd⟩:=Option.map_eq_some_iff.1 e;subst hadd;exact⟨a0,ha0,add_block _ _⟩
/-! memory -/
theorem s_load{a:Addr}{v:Value}[O:OneT P t](hx:ev n f x=.pointer (some a))(hc:w.cell? a=some v)(h:wpList P ops Q rest (A n (upd f d v)) w):
 wpList P ops Q (⟨some d,.load t x,ty,ps,af,none⟩::rest) (A n f) w:=s_run (by simp[execOp,hx,Instr.loadAt,Instr.sureAddr,O.load a hc]) h
theorem s_loadB{b o tb:Nat}{l:List Value}{v:Value}[O:OneT P t](hx:ev n f x=.pointer (some ⟨b,o,none⟩))(hb:Blk w b l tb)(ho:l[o]?=some v)(h:wpList P ops Q rest (A n (upd f d v)) w):
 wpList P ops Q (⟨some d,.load t x,ty,ps,af,none⟩::rest) (A n f) w:=s_load hx (hb.cell ho) h
theorem s_loadAgg{a:Addr}{m:Nat}(l:List Value)[G:AggT P t m](hx:ev n f x=.pointer (some a))(hl:l.length=m)(hc:∀j u,l[j]?=some u->w.cell? (a.add j)=some u)(h:wpList P ops Q rest (A n (upd f d (.agg l.toArray))) w):
 wpList P ops Q (⟨some d,.load t x,ty,ps,af,none⟩::rest) (A n f) w:=s_run (by simp[execOp,hx,Instr.loadAt,Instr.sureAddr,G.load a l hl hc]) h
theorem s_loadAggB{b m tb:Nat}{l:List Value}[G:AggT P t m](hx:ev n f x=.pointer (some ⟨b,0,none⟩))(hb:Blk w b l tb)(hl:l.length=m)(h:wpList P ops Q rest (A n (upd f d (.agg l.toArray))) w):
 wpList P ops Q (⟨some d,.load t x,ty,ps,af,none⟩::rest) (A n f) w:=s_loadAgg l hx hl (fun j u hu=>by rw[add_lit];exact hb.cell (by simpa using hu)) h
theorem s_storeB{b o tb:Nat}{l:List Value}{v:Value}[O:OneT P t](hx:ev n f x=.pointer (some ⟨b,o,none⟩))(hv:ev n f y=v)(h1:v.oneCell'=true)(hb:Blk w b l tb)(ho_:Nat.blt o l.length=true)
 (h:∀w',Blk w' b (l.set o v) tb->Fr [b] w w'->w'.heap.size=w.heap.size->wpList P ops Q rest (A n f) w'):wpList P ops Q (⟨none,.store t x y,ty,ps,af,none⟩::rest) (A n f) w:=by
 obtain⟨i,hi,hs⟩:=O.size;have ho:o<l.length:=Nat.le_of_ble_eq_true ho_;have hcs:v.cells=#[v]:=by cases v<;>simp_all [Value.cells,Value.oneCell']
 have hcell:w.cell? ⟨b,o,none⟩=some l[o]:=hb.cell (by simp[ho]);have hfr:w.frozen? ⟨b,o,none⟩=false:=hb.free;refine s_skip (w':=w.setCell ⟨b,o,none⟩ v) ?_ (h _ hb.set (Fr.setCell w ⟨b,o,none⟩ v) (by simp[World.setCell]));have hst:=run_store P w ⟨b,o,none⟩ v .plain h1;simp only[hcell,hfr]at hst;simp[execOp,hx,hv,Instr.storeAt,Instr.sureAddr,storeVar,sizeOf,typeInfo,hi,hs,hcs,storeCells,add0,hst]
theorem s_storeAggB{b tb m:Nat}{l cs:List Value}[G:AggT P t m](hx:ev n f x=.pointer (some ⟨b,0,none⟩))(hv:ev n f y=.agg cs.toArray)(hb:Blk w b l tb)(h1:∀c∈cs,c.oneCell'=true)(hl:l.length=m)(hc:cs.length=m)
 (h:∀w',Blk w' b cs tb->Fr [b] w w'->w'.heap.size=w.heap.size->wpList P ops Q rest (A n f) w'):wpList P ops Q (⟨none,.store t x y,ty,ps,af,none⟩::rest) (A n f) w:=by
 obtain⟨i,hi,hs⟩:=G.size;have hst:=run_storeCells_at P b 0 tb cs 0 l.toArray w hb (by simp[hl,hc]) h1;simp only[Nat.add_zero,List.take_zero,List.nil_append]at hst;have e:(cs++l.toArray.toList.drop (0+cs.length)).toArray=cs.toArray:=by
  simp[hl,hc,List.drop_of_length_le]
 rw[e]at hst;refine s_skip (w':=w.setRow b cs.toArray) ?_ (h _ (setRow_heap w b l.toArray _ tb _ hb) ⟨rfl,rfl,rfl,by simp,fun k _ hk=>setRow_other w b k _ Yng,Nat.le_refl _⟩ Yhs);simp[execOp,hx,hv,Instr.storeAt,Instr.sureAddr,storeVar,sizeOf,typeInfo,hi,hs,Value.cells,hc,hst]
theorem s_alloc{e:Nat}{z:Value}{l:List Value}[Z:ZeroT P e z](hz:z.cells=l.toArray)(h:∀w',Blk w' w.heap.size l e->Fr [] w w'->w'.heap.size=w.heap.size+1->wpList P ops Q rest (A n (upd f d (.pointer (some ⟨w.heap.size,0,none⟩)))) w'):
 wpList P ops Q (⟨some d,.alloc e,ty,ps,af,none⟩::rest) (A n f) w:=by
 obtain⟨i,hi,hzz⟩:=Z.z;refine s_run (w':=w.alloc (.cells l.toArray e)) ?_ (h _ (Blk.new w l e) (Fr.alloc _ _ _) Yhs);simp[execOp,Instr.alloc,zeroValue,typeInfo,hi,hzz,newVar,newRow,hz]
theorem s_box{e:Nat}{v:Value}{l:List Value}(hx:ev n f x=v)(hv:v.cells=l.toArray)(h:∀w',Blk w' w.heap.size l e->Fr [] w w'->w'.heap.size=w.heap.size+1->wpList P ops Q rest (A n (upd f d (.pointer (some ⟨w.heap.size,0,none⟩)))) w'):
 wpList P ops Q (⟨some d,.box e x,ty,ps,af,none⟩::rest) (A n f) w:=by
 refine s_run (w':=w.alloc (.cells l.toArray e)) ?_ (h _ (Blk.new w l e) (Fr.alloc _ _ _) Yhs);simp[execOp,Instr.box,hx,newVar,newRow,hv]
theorem s_build0{e size by_:Nat}[R:RowT P t e size by_](h:∀w',Own w' e size (.slice (some ⟨w.heap.size,0,none⟩) 0 0) 0 []->Fr [] w w'->w'.heap.size=w.heap.size+1->wpList P ops Q rest (A n (upd f d (.slice (some ⟨w.heap.size,0,none⟩) 0 0))) w'):
 wpList P ops Q (⟨some d,.buildSlice t 0 #[],ty,ps,af,none⟩::rest) (A n f) w:=by
 obtain⟨i0,z,hi0,hz,hs,hb,hzs⟩:=R.inf;refine s_run (w':=w.alloc (.cells #[] e)) ?_ (h _ ⟨by simp,.inr ⟨w.heap.size,0,#[],rfl,Nat.zero_le _,heap_alloc_new w _,Nat.le_refl _,Nat.zero_le _,by simp,by simp⟩⟩ (Fr.alloc _ _ _) Yhs);have e0:Array.range 0=#[]:=rfl;simp[execOp,Instr.buildSlice,run_underlying R.und,sizeOf,typeInfo,hi0,Instr.fill,newRow,e0]
theorem s_build1{e by_:Nat}{v:Value}[R:RowT P t e 1 by_](hx:ev n f x=v)(h1:v.oneCell'=true)(h:∀w',Own w' e 1 (.slice (some ⟨w.heap.size,0,none⟩) 1 1) 1 [v]->Fr [] w w'->w'.heap.size=w.heap.size+1->wpList P ops Q rest (A n (upd f d (.slice (some ⟨w.heap.size,0,none⟩) 1 1))) w'):
 wpList P ops Q (⟨some d,.buildSlice t 1 #[(0,x)],ty,ps,af,none⟩::rest) (A n f) w:=by
 obtain⟨i0,z,hi0,hz,hs,hb,hzs⟩:=R.inf;have hcs:v.cells=#[v]:=by cases v<;>simp_all [Value.cells,Value.oneCell']
 refine s_run (w':=w.alloc (.cells #[v] e)) ?_ (h _ ⟨by simp,.inr ⟨w.heap.size,1,#[v],rfl,Nat.zero_le _,heap_alloc_new w _,Nat.le_refl _,(by simp[maxLen]),by simp,by simp⟩⟩ (Fr.alloc _ _ _) Yhs);obtain⟨zc,hzc⟩:∃zc,z.cells=#[zc]:=by
  have:=hzs;rcases hh:z.cells with⟨l⟩
  rw[hh]at this
  match l,this with
  |[zc],_=>exact⟨zc,rfl⟩
 have e1:Array.range 1=#[0]:=rfl;simp[execOp,Instr.buildSlice,run_underlying R.und,sizeOf,typeInfo,zeroValue,hi0,hz,hs,Instr.fill,newRow,hx,hcs,hzc,e1]
theorem s_append{s:Operand}{e size by_:Nat}{v xv:Value}{k m:Nat}{xs ys:List Value}[R:RowT P t e size by_](hown:Own w e size v k xs)(hs:ev n f s=v)(hsrc:Src w xv m ys)(hx:ev n f x=xv)(hl:ys.length=m*size)(h1:∀u∈ys,u.oneCell'=true)
 (h63:k+m<=maxLen) (hb:(k+m)*by_<=140737488355328)
 (h:∀v' w',Own w' e size v' (k+m) (xs++ys)->Fr (blks v) w w'->(∀b∈blks v',b∈blks v\/w.heap.size<=b)->(v'=.slice none 0 0↔v=.slice none 0 0/\m=0)->wpList P ops Q rest (A n (upd f d v')) w'):
 wpList P ops Q (⟨some d,.call {callee:=.builtin .append,args:=#[s,x],argTypes:=#[t,t]},ty,ps,af,none⟩::rest) (A n f) w:=by
 obtain⟨v',w',hr,a1,a2,a3,a4⟩:=run_app (P:=P) (t:=t) (xt:=t) (ty:=ty) (.inl ⟨e,R.und⟩) hown (hsrc.gives (P:=P) hl h1) h63 hb;exact s_run (by simp[execOp,resolve,invoke,builtin,hs,hx,hr]) (h v' w' a1 a2 a3 a4)
theorem s_appendS{s:Operand}{e by_ xt:Nat}{v:Value}{k:Nat}{xs:List Value}{str:ByteArray}[R:RowT P t e 1 by_][X:StrT P xt](hown:Own w e 1 v k xs)(hs:ev n f s=v)(hx:ev n f x=.string str)
 (h63:k+str.size<=maxLen) (hb:(k+str.size)*by_<=140737488355328)
 (h:∀v' w',Own w' e 1 v' (k+str.size) (xs++str.data.toList.map fun c=>.int .u8 c.toNat)->Fr (blks v) w w'->(∀b∈blks v',b∈blks v\/w.heap.size<=b)->(v'=.slice none 0 0↔v=.slice none 0 0/\str.size=0)->wpList P ops Q rest (A n (upd f d v')) w'):
 wpList P ops Q (⟨some d,.call {callee:=.builtin .append,args:=#[s,x],argTypes:=#[t,xt]},ty,ps,af,none⟩::rest) (A n f) w:=by
 have hg:Gives P w 1 (.string str) str.size (str.data.toList.map fun c=>.int .u8 c.toNat):=
  ⟨by simp,fun u=>by simp[Builtin.lenOf],fun u _=>by
   have:str.extract 0 str.size=str:=by simp
   simp only[Builtin.firstCells,this,Sem.run_pure]
   congr 1
   apply Array.ext';simp
   ,fun y hy=>by obtain⟨c,_,rfl⟩:=List.mem_map.1 hy;rfl⟩
 obtain⟨v',w',hr,a1,a2,a3,a4⟩:=run_app (P:=P) (t:=t) (xt:=xt) (ty:=ty) (.inr X.u) hown hg h63 hb;exact s_run (by simp[execOp,resolve,invoke,builtin,hs,hx,hr]) (h v' w' a1 a2 a3 a4)
/-! calls -/
theorem s_call{k:Nat}{l:List Operand}{vs:List Value}{at_:Array TypeId}{R:Ending->World->Prop}[F:FnT P k](hc:Calls P k vs.toArray w R)(ha:evs n f l=vs)
 (h:∀e w',R e w'->∃v,e=.returned v/\wpList P ops Q rest (A n (upd f d v)) w'):wpList P ops Q (⟨some d,.call {callee:=.value (.func k),args:=l.toArray,argTypes:=at_},ty,ps,af,none⟩::rest) (A n f) w:=by
 obtain⟨fn,hf,hn,hb⟩:=F.f;refine wpList_plain rfl fun K hK=>?_
 unfold Oper.wp;rw[A_eval];have hr:(execOp (ev n f) ⟨some d,.call {callee:=.value (.func k),args:=l.toArray,argTypes:=at_},ty,ps,af,none⟩).run P w=.ok (.enter k vs.toArray) w:=by
  simp only[execOp,resolve,invoke,callFunc,ev,Deferred.ofValue,List.map_toArray,evs_map,ha];have hn':¬fn.name= "runtime.NumGoroutine":=by simpa using hn
  have hb':¬fn.body=none:=by intro e;rw[e]at hb;cases hb
  simp[hf,hn',hb']
 rw[hr];show Calls P k vs.toArray w _;refine hc.mono fun e w' hR=>?_
 obtain⟨v,rfl,hw⟩:=h e w' hR;show K _ _;rw[A_put];exact hK _ _ hw
end
end
theorem info_parts_z{P:Program}{e size bytes:Nat}{z:Value}(h:(P.info? e).map (fun i=>(i.zero,i.size,i.bytes))=some (some z,size,bytes))(hz:z.cells.size=size):
 ∃i z,P.info? e=some i/\i.zero=some z/\i.size=size/\i.bytes=bytes/\z.cells.size=size:=by
 obtain⟨i,hi,he⟩:=Option.map_eq_some_iff.1 h;simp only[Prod.mk.injEq]at he;exact⟨i,z,hi,he.1,he.2.1,he.2.2,hz⟩
theorem info_size{P:Program}{t n:Nat}(h:(P.info? t).map (·.size)=some n):∃i,P.info? t=some i/\i.size=n:=Option.map_eq_some_iff.1 h
theorem info_zero{P:Program}{t:Nat}{z:Value}(h:(P.info? t).map (·.zero)=some (some z)):∃i,P.info? t=some i/\i.zero=some z:=Option.map_eq_some_iff.1 h
theorem field_of{P:Program}{s i off n:Nat}{fs:Array Field}{fd:Field}(hu:P.underlying s=some (.struct fs))(hf:fs[i]?=some fd)(ho:fd.offset=off)
 (hi:(P.info? fd.type).map (·.size)=some n) (hn:n≠0):∃fs fd j,P.underlying s=some (.struct fs)/\fs[i]?=some fd/\fd.offset=off/\P.info? fd.type=some j/\j.size≠0:=by
 obtain⟨j,hj,he⟩:=Option.map_eq_some_iff.1 hi;exact⟨fs,fd,j,hu,hf,ho,hj,by rw[he];exact hn⟩
section
open Go.RowKit
class PanicOk (Q:Exit->Act->World->Prop):Prop where ok:∀c a w d v,Q (.panic c) (Act.put a d v) w->Q (.panic c) a w
instance{K:Act->World->Prop}{Q:Exit->Act->World->Prop}[h:PanicOk Q]:PanicOk (Exit.then K Q):=⟨fun c a w d v k=>h.ok c a w d v k⟩
instance{i:Nat}{Q:Exit->Act->World->Prop}[h:PanicOk Q]:PanicOk (Exit.inBlock i Q):=⟨fun c a w d v k=>h.ok c a w d v k⟩
instance{P:Program}{fn:Func}{R:Ending->World->Prop}:PanicOk (bodyPost P fn R):=⟨fun c a w d v k=>by
 obtain⟨h1,h2⟩:=k;refine⟨?_,h2⟩;cases d<;>exact h1⟩
section
variable{D:Dfs}
variable{P:Program}{Q:Exit->Act->World->Prop}{S:World->Prop}{n:Nat}{f:Env}{w:World}{l:List Oper}{fuel:Nat}{listed:Array Bool}
theorem d_begin{id m:Nat}(S:World->Prop)(hm:P.follows .mixedOrders=true)(hl:l.length=m)(h:wpAnyH P .any l.toArray Q S m (Array.replicate m false) (A n f) w.drew):(Code.region id l.toArray true).wp P Q (A n f) w:=by
 subst hl;exact wp_region_held (S:=S) hm Yil
theorem d_take{i d:Nat}{op:Op}{ty:TypeId}{ps:String}{af:Array Edge}{v:Value}[hQ:PanicOk Q](hi:l[i]?=some ⟨some d,op,ty,ps,af,none⟩)
 (hs:Region.noSelect l.toArray=true) (hf:Region.free .any l.toArray listed i=true) (hr:(Region.ready .any l.toArray listed).contains i=true)
 (hrun:∀u,S u->(execOp (ev n f) ⟨some d,op,ty,ps,af,none⟩).run P u=.ok (.value v) u) (hS:S w)
 (h:wpAnyH P .any l.toArray Q S fuel (listed.setIfInBounds i true) (A n (upd f d v)) w):wpAnyH P .any l.toArray Q S (fuel+1) listed (A n f) w:=by
 refine wpAnyH_take (i:=i) (v:=v) Yjf hs hf hr (fun c a w=>hQ.ok c a w (some d) v) ?_ hS ?_
 .exact .inl ⟨rfl,fun u hu=>by rw[A_eval];exact hrun u hu⟩
 .rw [A_put];exact h
theorem d_no{i d j:Nat}{b:Bool}{op:Op}{ty:TypeId}{ps:String}{af:Array Edge}[hQ:PanicOk Q](hi:l[i]?=some ⟨some d,op,ty,ps,af,some (j,b)⟩)
 (hy:(yld l n f j==some b)=false)
 (hs:Region.noSelect l.toArray=true) (hf:Region.free .any l.toArray listed i=true) (hr:(Region.ready .any l.toArray listed).contains i=true) (hS:S w)
 (h:wpAnyH P .any l.toArray Q S fuel (listed.setIfInBounds i true) (A n (upd f d undef)) w):wpAnyH P .any l.toArray Q S (fuel+1) listed (A n f) w:=by
 refine wpAnyH_take (i:=i) (v:=undef) Yjf hs hf hr (fun c a w=>hQ.ok c a w (some d) undef) ?_ hS ?_
 .exact .inr ⟨by simp only[Region.wanted,yld_eq];exact hy,rfl⟩
 .rw [A_put];exact h
theorem d_yes{i d j:Nat}{b:Bool}{op:Op}{ty:TypeId}{ps:String}{af:Array Edge}{v:Value}[hQ:PanicOk Q](hi:l[i]?=some ⟨some d,op,ty,ps,af,some (j,b)⟩)
 (hy:yld l n f j=some b)
 (hs:Region.noSelect l.toArray=true) (hf:Region.free .any l.toArray listed i=true) (hr:(Region.ready .any l.toArray listed).contains i=true)
 (hrun:∀u,S u->(execOp (ev n f) ⟨some d,op,ty,ps,af,none⟩).run P u=.ok (.value v) u) (hS:S w)
 (h:wpAnyH P .any l.toArray Q S fuel (listed.setIfInBounds i true) (A n (upd f d v)) w):wpAnyH P .any l.toArray Q S (fuel+1) listed (A n f) w:=by
 refine wpAnyH_take (i:=i) (v:=v) Yjf hs hf hr (fun c a w=>hQ.ok c a w (some d) v) ?_ hS ?_
 .exact .inl ⟨by simp[Region.wanted,yld_eq,hy],fun u hu=>by rw[A_eval];exact hrun u hu⟩
 .rw [A_put];exact h
theorem d_one{i:Nat}{o:Oper}(hi:l[i]?=some o)(hr:Region.ready .any l.toArray listed=[i])
 (h:wpList P l.toArray (Exit.then (fun a' w'=>S w'/\wpAnyH P .any l.toArray Q S fuel (listed.setIfInBounds i true) a' w') Q) [o] (A n f) w):wpAnyH P .any l.toArray Q S (fuel+1) listed (A n f) w:=by
 refine wpAnyH_all hr Yhs fun j hj=>?_
 simp only[List.mem_singleton]at hj;subst hj;unfold wpOp;have hi':l.toArray[j]?=some o:=by simpa using hi
 exact Yba
theorem wpOp_of_list{i:Nat}{o:Oper}{K:Act->World->Prop}(hi:l[i]?=some o)(h:wpList P l.toArray (Exit.then K Q) [o] (A n f) w):wpOp P l.toArray Q i K (A n f) w:=by
 unfold wpOp;have hi':l.toArray[i]?=some o:=by simpa using hi
 exact Yba
theorem q_held{K:Act->World->Prop}{S:World->Prop}{a:Act}{w:World}(hS:S w)(h:K a w):Exit.then (fun a' w'=>S w'/\K a' w') Q .normal a w:=⟨hS,h⟩
theorem d_done(hr:Region.ready .any l.toArray listed=[])(h:Q .normal (A n f) w):wpAnyH P .any l.toArray Q S fuel listed (A n f) w:=wpAnyH_done hr h fuel
end
/-! ### where ways meet again, inside a region -/
theorem wpList_mono{P:Program}{ops:Array Oper}{Q Q':Exit->Act->World->Prop}(hq:∀e a w,Q e a w->Q' e a w):∀(l:List Oper) (a:Act) (w:World),wpList P ops Q l a w->wpList P ops Q' l a w
 |[],a,w,h=>hq _ _ _ h
 |o::l,a,w,h=>by
  unfold wpList at h ⊢
  split
  .rename_i hw;rw[if_pos hw]at h;rcases h with h|⟨h1,a',w',h2⟩
   .refine .inl ?_;unfold Oper.wp at h ⊢;generalize (execOp a.eval o).run P w=r at h ⊢;cases r with
    |ok x w'=>
     cases x<;>simp only[Oper.upon]at h ⊢ <;>first
      |exact wpList_mono hq l _ _ h
      |(refine Calls.mono h fun e w'' he=>?_;cases e<;>first|exact wpList_mono hq l _ _ he|exact hq _ _ _ he|(obtain⟨a1,w1,h1⟩:=he;exact⟨a1,w1,hq _ _ _ h1⟩))
      |exact Rows.mono h (fun _ _ he=>wpList_mono hq l _ _ he)
    |halt x w'=>cases x<;>simp only[Oper.upon]at h ⊢ <;>exact hq _ _ _ h
   .exact .inr ⟨h1,a',w',hq _ _ _ h2⟩
  .rename_i hw;rw[if_neg hw]at h;exact wpList_mono hq l _ _ h
theorem w_cut{P:Program}{ops:Array Oper}{Q:Exit->Act->World->Prop}{K:Act->World->Prop}{l:List Oper}{n:Nat}{f:Env}{w:World}(R:Env->World->Prop)
 (h1:wpList P ops (Exit.then (fun a w=>∃g,a=A n g/\R g w) Q) l (A n f) w) (h2:∀g w,R g w->K (A n g) w):wpList P ops (Exit.then K Q) l (A n f) w:=
 wpList_mono (fun e a w h=>by
  cases e with
  |normal=>obtain⟨g,rfl,hR⟩:=h;exact h2 g w hR
  |_=>exact h) l _ w h1
/-! ### the runs of quiet operations -/
section
variable{D:Dfs}
variable{P:Program}{n:Nat}{f:Env}{w:World}
variable{d:Nat}{ty:TypeId}{ps:String}{af:Array Edge}{x y:Operand}{t t2:Nat}{gd:Option (Nat×Bool)}
theorem r_move{v:Value}(hx:ev n f x=v):(execOp (ev n f) ⟨some d,.move x,ty,ps,af,gd⟩).run P w=.ok (.value v) w:=by simp[execOp,hx]
theorem r_pick{c:Operand}{b:Bool}{v:Value}(hc:ev n f c=.bool b)(hv:ev n f (cond b x y)=v):(execOp (ev n f) ⟨some d,.pick c x y,ty,ps,af,gd⟩).run P w=.ok (.value v) w:=by cases b<;>simp_all [execOp,asBool]
theorem r_nilCheck{a:Addr}(hx:ev n f x=.pointer (some a)):(execOp (ev n f) ⟨some d,.nilCheck x,ty,ps,af,gd⟩).run P w=.ok (.value (.pointer (some a))) w:=by simp[execOp,hx]
theorem r_fieldAddr{s i off:Nat}{a:Addr}[F:FieldT P s i off](hx:ev n f x=.pointer (some a)):(execOp (ev n f) ⟨some d,.fieldAddr s x i,ty,ps,af,gd⟩).run P w=.ok (.value (.pointer (some (a.add off)))) w:=by
 obtain⟨fs,fd,j,h1,h2,h3,h4,h5⟩:=F.f;simp[execOp,hx,Instr.fieldAt,run_underlying h1,h2,Instr.sureAddr,fieldPlace,sizeOf,typeInfo,h4,h5,h3]
theorem r_field0{s i off b:Nat}[F:FieldT P s i off](hx:ev n f x=.pointer (some ⟨b,0,none⟩)):(execOp (ev n f) ⟨some d,.fieldAddr s x i,ty,ps,af,gd⟩).run P w=.ok (.value (.pointer (some ⟨b,off,none⟩))) w:=by
 have:=r_fieldAddr (P:=P) (w:=w) (d:=d) (ty:=ty) (ps:=ps) (af:=af) (gd:=gd) (s:=s) (i:=i) (off:=off) hx;rw[add_lit,Nat.zero_add]at this;exact this
theorem r_add{k:IntKind}{a b r:Int}(hx:ev n f x=.int k a)(hy:ev n f y=.int k b)(hr:k.wrap (a+b)=r):(execOp (ev n f) ⟨some d,.binOp .add t x y t2,ty,ps,af,gd⟩).run P w=.ok (.value (.int k r)) w:=by simp[execOp,eqGuard,binOp,Op.intArith,hx,hy,hr]
theorem r_sub{k:IntKind}{a b r:Int}(hx:ev n f x=.int k a)(hy:ev n f y=.int k b)(hr:k.wrap (a-b)=r):(execOp (ev n f) ⟨some d,.binOp .sub t x y t2,ty,ps,af,gd⟩).run P w=.ok (.value (.int k r)) w:=by simp[execOp,eqGuard,binOp,Op.intArith,hx,hy,hr]
theorem r_not{b:Bool}(hx:ev n f x=.bool b):(execOp (ev n f) ⟨some d,.unOp .not t x,ty,ps,af,gd⟩).run P w=.ok (.value (.bool (!b))) w:=by simp[execOp,Op.unary,hx]
theorem r_conv{k k0:IntKind}{a r:Int}{src dst:Nat}[S:IntT P src k0][D:IntT P dst k](hx:ev n f x=.int k0 a)(hr:k.wrap a=r):(execOp (ev n f) ⟨some d,.convert src dst x,ty,ps,af,gd⟩).run P w=.ok (.value (.int k r)) w:=by
 simp[execOp,convert,run_underlying S.u,run_underlying D.u,Conv.intToInt,hx,hr]
theorem r_len{ao:Option Addr}{l c e:Nat}[S:SliceT P t e](hx:ev n f x=.slice ao l c):(execOp (ev n f) ⟨some d,.call {callee:=.builtin .len,args:=#[x],argTypes:=#[t]},ty,ps,af,gd⟩).run P w=.ok (.value (.int .i64 l)) w:=by
 simp[execOp,resolve,invoke,builtin,Builtin.len_,run_underlying S.u,hx,goInt]
theorem r_eql{k:IntKind}{a b:Int}{p:Bool}(hx:ev n f x=.int k a)(hy:ev n f y=.int k b)(hp:decide (a=b)=p):(execOp (ev n f) ⟨some d,.binOp .eql t x y t2,ty,ps,af,gd⟩).run P w=.ok (.value (.bool p)) w:=by
 subst hp;simp[execOp,eqGuard,binOp,Op.intCmp,hx,hy];rfl
theorem r_neq{k:IntKind}{a b:Int}{p:Bool}(hx:ev n f x=.int k a)(hy:ev n f y=.int k b)(hp:decide (¬a=b)=p):(execOp (ev n f) ⟨some d,.binOp .neq t x y t2,ty,ps,af,gd⟩).run P w=.ok (.value (.bool p)) w:=by
 subst hp;simp[execOp,eqGuard,binOp,Op.intCmp,hx,hy,bne];rfl
theorem r_lss{k:IntKind}{a b:Int}{p:Bool}(hx:ev n f x=.int k a)(hy:ev n f y=.int k b)(hp:decide (a<b)=p):(execOp (ev n f) ⟨some d,.binOp .lss t x y t2,ty,ps,af,gd⟩).run P w=.ok (.value (.bool p)) w:=by
 subst hp;simp[execOp,eqGuard,binOp,Op.intCmp,hx,hy]
theorem r_leq{k:IntKind}{a b:Int}{p:Bool}(hx:ev n f x=.int k a)(hy:ev n f y=.int k b)(hp:decide (a<=b)=p):(execOp (ev n f) ⟨some d,.binOp .leq t x y t2,ty,ps,af,gd⟩).run P w=.ok (.value (.bool p)) w:=by
 subst hp;simp[execOp,eqGuard,binOp,Op.intCmp,hx,hy]
theorem r_gtr{k:IntKind}{a b:Int}{p:Bool}(hx:ev n f x=.int k a)(hy:ev n f y=.int k b)(hp:decide (b<a)=p):(execOp (ev n f) ⟨some d,.binOp .gtr t x y t2,ty,ps,af,gd⟩).run P w=.ok (.value (.bool p)) w:=by
 subst hp;simp[execOp,eqGuard,binOp,Op.intCmp,hx,hy]
theorem r_geq{k:IntKind}{a b:Int}{p:Bool}(hx:ev n f x=.int k a)(hy:ev n f y=.int k b)(hp:decide (b<=a)=p):(execOp (ev n f) ⟨some d,.binOp .geq t x y t2,ty,ps,af,gd⟩).run P w=.ok (.value (.bool p)) w:=by
 subst hp;simp[execOp,eqGuard,binOp,Op.intCmp,hx,hy]
theorem r_indexAddr{ao:Option Addr}{a:Addr}{l c e size by_:Nat}{k:IntKind}{i:Int}{j:Nat}[R:RowT P t e size by_](hx:ev n f x=.slice ao l c)(hy:ev n f y=.int k i)(hi:i=(j:Int))(hlt:j<l)(ha:ao=some a):
 (execOp (ev n f) ⟨some d,.indexAddr t x y,ty,ps,af,gd⟩).run P w=.ok (.value (.pointer (some (a.add (j*size))))) w:=by
 obtain⟨i0,z,hi0,hz,hs,hb,hzs⟩:=R.inf;subst hi ha;have h2:(j:Int)<(l:Int):=by omega
 simp[execOp,Instr.indexAt,hx,hy,asIntOf,run_underlying R.und,hlt,sizeOf,typeInfo,hi0,hs]
theorem r_index1{ao:Option Addr}{a:Addr}{l c e by_:Nat}{k:IntKind}{i:Int}{j:Nat}[R:RowT P t e 1 by_](hx:ev n f x=.slice ao l c)(hy:ev n f y=.int k i)(hi:i=(j:Int))(hlt:j<l)(ha:ao=some a):
 (execOp (ev n f) ⟨some d,.indexAddr t x y,ty,ps,af,gd⟩).run P w=.ok (.value (.pointer (some (a.add j)))) w:=by
 have:=r_indexAddr (P:=P) (w:=w) (d:=d) (ty:=ty) (ps:=ps) (af:=af) (gd:=gd) (t:=t) hx hy hi hlt ha;rw[Nat.mul_one]at this;exact this
theorem r_load{a:Addr}{v:Value}[O:OneT P t](hx:ev n f x=.pointer (some a))(hc:w.cell? a=some v):(execOp (ev n f) ⟨some d,.load t x,ty,ps,af,gd⟩).run P w=.ok (.value v) w:=by
 simp[execOp,hx,Instr.loadAt,Instr.sureAddr,O.load a hc]
theorem r_loadAgg{a:Addr}{m:Nat}(l:List Value)[G:AggT P t m](hx:ev n f x=.pointer (some a))(hl:l.length=m)(hc:∀j u,l[j]?=some u->w.cell? (a.add j)=some u):(execOp (ev n f) ⟨some d,.load t x,ty,ps,af,gd⟩).run P w=.ok (.value (.agg l.toArray)) w:=by
 simp[execOp,hx,Instr.loadAt,Instr.sureAddr,G.load a l hl hc]
end
theorem Src.to{w:World}{ao:Option Addr}{m c k size:Nat}{ys:List Value}(h:Src w (.slice ao m c) m ys)(hk:k<=m):Src w (.slice ao k c) k (ys.take (k*size)):=by
 obtain⟨ao',c',e,hm,hn,hc⟩:=h;simp only[Value.slice.injEq]at e;obtain⟨rfl,_,rfl⟩:=e;refine⟨ao,c,rfl,by omega,fun e=>?_,fun ad ha j u hu=>?_⟩
 .obtain ⟨h1,h2,h3⟩:=hn e;subst h3;exact⟨by omega,h2,by simp⟩
 .rw [List.getElem?_take]at hu
  split at hu
  .exact hc ad ha j u hu
  .cases hu
end
section
open Go.RowKit
/-! ### composite literals -/
def fillL(place:Nat->Option (Nat×Nat)):List Value->List (Nat×Value)->Option (List Value)
 |cs,[]=>some cs
 |cs,(i,v)::r=>
  match place i with
  |none=>none
  |some (off,size)=>match v.cells.toList with
   |vc=>cond (Nat.beq vc.length size&&Nat.ble (off+vc.length) cs.length) (fillL place (cs.take off++vc++cs.drop (off+vc.length)) r) none
theorem foldl_set(vc:List Value):∀(cs:List Value) (off k:Nat),off+k+vc.length<=cs.length->
 (vc.zipIdx k).foldl (fun(a:Array Value) (p:Value×Nat)=>a.setIfInBounds (off+p.2) p.1) cs.toArray=(cs.take (off+k)++vc++cs.drop (off+k+vc.length)).toArray:=by
 induction vc with
 |nil=>intro cs off k _;simp
 |cons v vc ih=>
  intro cs off k h;simp only[List.length_cons]at h;rw[List.zipIdx_cons,List.foldl_cons];simp only[List.setIfInBounds_toArray];rw[ih _ off (k+1) Yht]
  congr 1
  rw[List.take_set,List.drop_set];have e1:off+(k+1)=off+k+1:=by omega
  rw[e1];have hlt:off+k<cs.length:=by omega
  rw[List.take_succ_eq_append_getElem hlt];simp only[List.length_cons];rw[if_pos Yhn];have e2:off+k+1+vc.length=off+k+(vc.length+1):=by omega
  rw[e2];have e3:(cs.take (off+k)++[cs[off+k]]).set (off+k) v=cs.take (off+k)++[v]:=by
   rw[List.set_append_right _ _ Yht];simp[Nat.min_eq_left (Nat.le_of_lt hlt)]
  rw[e3];simp
theorem fill_list(place:Nat->Option (Nat×Nat)):∀(parts:List (Nat×Value)) (cs cells:List Value),fillL place cs parts=some cells->Instr.fill place cs.toArray parts=some cells.toArray:=by
 intro parts
 induction parts with
 |nil=>intro cs cells h;simp only[fillL,Option.some.injEq]at h;subst h;rfl
 |cons p r ih=>
  obtain⟨i,v⟩:=p;intro cs cells h;unfold fillL at h;unfold Instr.fill;cases hp:place i with
  |none=>rw[hp]at h;cases h
  |some os=>
   obtain⟨off,size⟩:=os;rw[hp]at h;simp only at h ⊢;cases hb:(Nat.beq v.cells.toList.length size&&Nat.ble (off+v.cells.toList.length) cs.length)with
   |false=>rw[hb]at h;cases h
   |true=>
    rw[hb]at h;simp only[cond_true]at h;simp only[Bool.and_eq_true]at hb;have h1:=Nat.eq_of_beq_eq_true hb.1;have h2:=Nat.le_of_ble_eq_true hb.2;rw[Array.length_toList]at h1 h2;rw[if_neg (by simp[h1];omega)];have e:v.cells.zipIdx.foldl (fun(a:Array Value) (p:Value×Nat)=>a.setIfInBounds (off+p.2) p.1) cs.toArray=(cs.take off++v.cells.toList++cs.drop (off+v.cells.toList.length)).toArray:=by
     have:=foldl_set v.cells.toList cs off 0 (by rw[Array.length_toList];omega);rw[Nat.add_zero]at this;rw[<-this,<-Array.foldl_toList,Array.toList_zipIdx]
    rw[e];exact ih _ _ h
class BuildT (P:Program) (t:Nat) (z:outParam (List Value)) (pl:outParam (List (Nat×Nat))):Prop where
 z:∃i v,P.info? t=some i/\i.zero=some v/\v.cells=z.toArray
 pl:∃fs,P.underlying t=some (.struct fs)/\∀w,(fs.mapM (m:=Sem) fun f=>do pure (f.offset,<-sizeOf f.type)).run P w=.ok pl.toArray w
def zipP(n:Nat)(f:Env):List (Nat×Operand)->List (Nat×Value)
 |[]=>[]
 |(i,x)::l=>(i,ev n f x)::zipP n f l
theorem zipP_map(n:Nat)(f:Env)(l:List (Nat×Operand)):l.map (fun p=>(p.1,ev n f p.2))=zipP n f l:=by
 induction l with
 |nil=>rfl
 |cons x l ih=>obtain⟨i,x⟩:=x;simp[zipP,ih]
section
variable{D:Dfs}
variable{P:Program}{ops:Array Oper}{Q:Exit->Act->World->Prop}{rest:List Oper}{n:Nat}{f:Env}{w:World}
variable{d:Nat}{ty:TypeId}{ps:String}{af:Array Edge}{x y:Operand}{t t2:Nat}{gd:Option (Nat×Bool)}
theorem r_build{z:List Value}{pl:List (Nat×Nat)}{parts:List (Nat×Operand)}(cells:List Value)[B:BuildT P t z pl](h:fillL (pl[·]?) z (zipP n f parts)=some cells):
 (execOp (ev n f) ⟨some d,.build t parts.toArray,ty,ps,af,gd⟩).run P w=.ok (.value (.agg cells.toArray)) w:=by
 obtain⟨i,v,hi,hz,hc⟩:=B.z;obtain⟨fs,hu,hm⟩:=B.pl;have hf:=fill_list _ _ _ _ h;simp only[execOp,Instr.build,List.map_toArray,zipP_map];have hm2:(Array.mapM (fun f=>Prod.mk f.offset<$>sizeOf f.type) fs).run P w=.ok pl.toArray w:=by
  have:=hm w;simpa using this
 simp[zeroValue,typeInfo,hi,hz,hc,run_underlying hu,hm2,hf]
theorem s_build{z:List Value}{pl:List (Nat×Nat)}{parts:List (Nat×Operand)}(cells:List Value)[B:BuildT P t z pl](h:fillL (pl[·]?) z (zipP n f parts)=some cells)
 (hk:wpList P ops Q rest (A n (upd f d (.agg cells.toArray))) w):wpList P ops Q (⟨some d,.build t parts.toArray,ty,ps,af,none⟩::rest) (A n f) w:=s_run (r_build cells h) hk
def zeros(z:List Value):Nat->List Value
 |0=>[]
 |k+1=>z++zeros z k
theorem zeros_len(z:List Value)(k:Nat):(zeros z k).length=k*z.length:=by
 induction k with
 |zero=>simp[zeros]
 |succ k ih=>simp[zeros,ih,Nat.succ_mul];omega
theorem zeros_get(z:List Value)(hz:0<z.length):∀(k i:Nat),i<k*z.length->(zeros z k)[i]?=z[i%z.length]?:=by
 intro k
 induction k with
 |zero=>intro i h;omega
 |succ k ih=>
  intro i h;simp only[zeros];by_cases hi:i<z.length
  .rw [List.getElem?_append_left hi,Nat.mod_eq_of_lt hi]
  .rw [List.getElem?_append_right Yhn,ih _ (by rw[Nat.succ_mul]at h;omega)]
   congr 1
   rw[<-Nat.mod_eq_sub_mod Yhn]
class RowZ (P:Program) (t:Nat) (e size by_:outParam Nat) (z:outParam (List Value)):Prop where
 row:RowT P t e size by_
 z:∃i v,P.info? e=some i/\i.zero=some v/\v.cells=z.toArray/\z.length=size
theorem s_buildS{e size by_ len:Nat}{z:List Value}{parts:List (Nat×Operand)}(cells:List Value)[R:RowZ P t e size by_ z](hlen:Nat.ble (len*size) 16777216=true)(hpos:Nat.blt 0 len=true)
 (h:fillL (fun i=>some (i*size,size)) (zeros z len) (zipP n f parts)=some cells) (hcl:cells.length=len*size)
 (hk:∀w',Own w' e size (.slice (some ⟨w.heap.size,0,none⟩) len len) len cells->Fr [] w w'->w'.heap.size=w.heap.size+1->wpList P ops Q rest (A n (upd f d (.slice (some ⟨w.heap.size,0,none⟩) len len))) w'):
 wpList P ops Q (⟨some d,.buildSlice t len parts.toArray,ty,ps,af,none⟩::rest) (A n f) w:=by
 have Rr:=R.row;obtain⟨i0,z0,hi0,hz0,hs,hb,hzs⟩:=Rr.inf;obtain⟨i,v,hi,hz,hc,hzl⟩:=R.z;rw[hi0]at hi;simp only[Option.some.injEq]at hi;subst hi;have hlen':=Nat.le_of_ble_eq_true hlen;have hpos':0<len:=Nat.le_of_ble_eq_true hpos;have hsz:=Rr.pos;have hne:¬(len*size=0):=by
  have:=Nat.mul_pos hpos' hsz;omega
 have hzr:(Array.range (len*size)).map (fun i=>z.toArray[i%z.toArray.size]!)=(zeros z len).toArray:=by
  apply Array.ext_getElem?;intro j;rw[Array.getElem?_map];by_cases hj:j<len*size
  .simp only[Array.getElem?_range,hj];have:=zeros_get z Yhn len j (by rw[hzl];exact hj);have hm:j%z.length<z.length:=Nat.mod_lt _ Yhn;simp[this,hm,hj]
  .have:(zeros z len).length<=j:=by rw[zeros_len,hzl];omega
   simp[hj,this]
 have hf:=fill_list _ _ _ _ h;refine s_run (w':=w.alloc (.cells cells.toArray e)) ?_ (hk _ ⟨hcl,.inr ⟨w.heap.size,len,cells.toArray,rfl,Nat.zero_le _,heap_alloc_new w _,Nat.le_refl _,?_,by simpa using hcl,by simp[<-hcl]⟩⟩ (Fr.alloc _ _ _) Yhs)
 .simp only[execOp,Instr.buildSlice,List.map_toArray,zipP_map];have hgt:¬(16777216<len*size):=by omega
  simp only[Sem.run_bind,run_underlying Rr.und,Result.andThen_ok,sizeOf,typeInfo,zeroValue];simp[hi0,hs,hgt,hne,hz,hc];simp at hzr;rw[hzr,hf];simp[newRow]
 .have:len<=len*size:=Nat.le_mul_of_pos_right _ hsz;unfold maxLen;omega
/-! ### strings and bytes -/
def strOf(zs:List Int):ByteArray:=⟨(zs.map fun z=>UInt8.ofNat z.toNat).toArray⟩
class U8T (P:Program) (t:Nat):Prop where e:∃e,P.underlying t=some (.slice e)/\P.underlying e=some (.int .u8)
theorem foldl_push(l:List Int):∀r:ByteArray,l.foldl (fun r z=>r.push (UInt8.ofNat z.toNat)) r=⟨r.data++(l.map fun z=>UInt8.ofNat z.toNat).toArray⟩:=by
 induction l with
 |nil=>intro r;simp
 |cons b l ih=>
  intro r;simp only[List.map_cons,List.foldl_cons];rw[ih];simp[ByteArray.push]
theorem s_fromStr{src:Nat}{s:ByteArray}[U:U8T P t][S:StrT P src](hx:ev n f x=.string s)
 (h:∀c w',s.size<=c->Src w' (.slice (some ⟨w.heap.size,0,none⟩) s.size c) s.size (s.data.toList.map fun b=>.int .u8 b.toNat)->Fr [] w w'->wpList P ops Q rest (A n (upd f d (.slice (some ⟨w.heap.size,0,none⟩) s.size c))) w'):
 wpList P ops Q (⟨some d,.convert src t x,ty,ps,af,none⟩::rest) (A n f) w:=by
 obtain⟨e,hu,he⟩:=U.e;have hr:=run_bytes_of_string w src t e s S.u hu he;have hge:=grownCap_ge w s.size 0 e;refine s_run (by simp only[execOp,hx,Sem.run_bind,hr];rfl) (h _ _ hge ⟨_,_,rfl,hge,fun e=>(by cases e),?_⟩ ?_)
 .intro ad ha j u hu;simp only[Option.some.injEq]at ha;subst ha;rw[add_lit];simp only[World.cell?];rw[show((0:Nat)+j)=j by omega];have hb:(w.drew.alloc (.cells (bytesRow s (grownCap w s.size 0 e)) e ((bytesRow s (grownCap w s.size 0 e)).size,(bytesRow s (grownCap w s.size 0 e)).size+1))).heap[w.heap.size]?=some (.cells (bytesRow s (grownCap w s.size 0 e)) e ((bytesRow s (grownCap w s.size 0 e)).size,(bytesRow s (grownCap w s.size 0 e)).size+1)):=heap_alloc_new w.drew _;rw[hb];simp only[Option.isSome_none,Bool.false_eq_true,if_false];have hj:j<s.data.size:=by
   have:=(List.getElem?_eq_some_iff.1 hu).1;simpa using this
  have h2:(s.data.map fun b=>Value.int .u8 (b.toNat:Int))[j]?=some u:=by
   rw[<-Array.getElem?_toList,Array.toList_map];exact hu
  show(bytesRow s (grownCap w s.size 0 e))[j]?=some u;unfold bytesRow;rw[Array.getElem?_append_left (by simpa using hj)];exact h2
 .exact (Fr.drew _ w).trans0 (Fr.alloc [] _ _)
/-! ### pointers against nil -/
class PtrT (P:Program) (t:Nat):Prop where u:∃e,P.underlying t=some (.pointer e)
theorem equalIn_ptrNil(dd:Nat){a:Addr}{e:Nat}(hu:P.underlying t=some (.pointer e)):(Op.equalIn (dd+1) t (.pointer (some a)) (.pointer none)).run P w=.ok false w:=by
 simp[Op.equalIn,run_underlying hu]
theorem equal_ptrNil{a:Addr}{e:Nat}(hu:P.underlying t=some (.pointer e)):(Op.equal t (.pointer (some a)) (.pointer none)).run P w=.ok false w:=equalIn_ptrNil 9999 hu
theorem s_ptrNil{a:Addr}[T:PtrT P t](hx:ev n f x=.pointer (some a))(hy:ev n f y=.pointer none)(h:wpList P ops Q rest (A n (upd f d (.bool false))) w):
 wpList P ops Q (⟨some d,.binOp .eql t x y t2,ty,ps,af,none⟩::rest) (A n f) w:=by
 exact Yct
theorem s_ptrNotNil{a:Addr}[T:PtrT P t](hx:ev n f x=.pointer (some a))(hy:ev n f y=.pointer none)(h:wpList P ops Q rest (A n (upd f d (.bool true))) w):
 wpList P ops Q (⟨some d,.binOp .neq t x y t2,ty,ps,af,none⟩::rest) (A n f) w:=by
 exact Yct
/-! ### function values -/
theorem s_makeFunc{fn:Fn}{first captured:List Operand}{a b:List Value}(h1:evs n f first=a)(h2:evs n f captured=b)(h:wpList P ops Q rest (A n (upd f d (.func fn a.toArray b.toArray))) w):
 wpList P ops Q (⟨some d,.makeFunc fn first.toArray captured.toArray,ty,ps,af,none⟩::rest) (A n f) w:=
 s_run (by simp only[execOp,Instr.makeFunc,List.map_toArray,evs_map,h1,h2];simp) h
end
end
theorem rowz_of{P:Program}{e size:Nat}{v:Value}{z:List Value}(h:(P.info? e).map (·.zero)=some (some v))(hc:v.cells=z.toArray)(hl:z.length=size):∃i v,P.info? e=some i/\i.zero=some v/\v.cells=z.toArray/\z.length=size:=by
 obtain⟨i,hi,he⟩:=Option.map_eq_some_iff.1 h;exact⟨i,v,hi,he,hc,hl⟩
theorem build_of{P:Program}{t:Nat}{v:Value}{z:List Value}(h:(P.info? t).map (·.zero)=some (some v))(hc:v.cells=z.toArray):∃i v,P.info? t=some i/\i.zero=some v/\v.cells=z.toArray:=by
 obtain⟨i,hi,he⟩:=Option.map_eq_some_iff.1 h;exact⟨i,v,hi,he,hc⟩
section
open Go.RowKit
structure Got (G:Prop):Prop where k:G
theorem rn{G G':Prop}(k:G')(h:Got G'->G:=by(intro h;(repeat(first|with_reducible refine wp_seq ?_|with_reducible refine c_region ?_|with_reducible refine wp_block ?_|with_reducible refine wpList_nil ?_|with_reducible refine wp_skip ?_|with_reducible refine wp_exit ?_|with_reducible refine wp_ret ?_|with_reducible refine q_then ?_|with_reducible refine q_then_exit ?_|with_reducible refine q_then_ret ?_|with_reducible refine q_blk ?_|with_reducible refine q_blk_ret ?_|with_reducible refine q_blk_eq ?_|refine q_blk_ne rfl ?_|refine c_true rfl ?_|refine c_false rfl ?_|((with_reducible apply s_moveV);conv=>lhs;whnf)|((with_reducible apply s_assignV);conv=>lhs;whnf)|refine g_yes rfl ?_|refine g_no rfl ?_|((with_reducible apply s_pickV);exact rfl;conv=>lhs;whnf)|refine s_nilCheck rfl ?_|refine s_field0 rfl ?_|refine s_fieldAddr rfl ?_|refine s_len rfl ?_|refine s_lenS rfl ?_|refine s_not rfl ?_|refine s_loadB rfl Yhz rfl ?_|refine s_ptrNil rfl rfl ?_|refine s_ptrNotNil rfl rfl ?_|refine s_add rfl rfl (IntWalk.i64_in _ Yhn) ?_|refine s_sub rfl rfl (IntWalk.i64_in _ Yhn) ?_|refine s_mul rfl rfl (IntWalk.i64_in _ Yhn) ?_|refine s_neg rfl (IntWalk.i64_in _ Yhn) ?_|refine s_conv rfl (IntWalk.i64_in _ Yhn) ?_|refine s_quo rfl rfl Yhn (IntWalk.i64_quo _ _ Yhn) ?_|refine s_rem rfl rfl Yhn (Int.tmod_eq_emod_of_nonneg Yhn) ?_|refine s_add rfl rfl (IntWalk.u64_in _ Yhn) ?_|refine s_sub rfl rfl (IntWalk.u64_in _ Yhn) ?_|refine s_mul rfl rfl (IntWalk.u64_in _ Yhn) ?_|refine s_conv rfl (IntWalk.u64_in _ Yhn) ?_|refine s_conv rfl (IntWalk.u8_in _ Yhn) ?_|refine s_quo rfl rfl Yhn (IntWalk.u64_quo _ _ Yhn) ?_|refine s_add rfl rfl (IntWalk.u8_in _ Yhn) ?_|refine s_sub rfl rfl (IntWalk.u8_in _ Yhn) ?_|refine s_lss rfl rfl (fun _=>?_) (fun h=>absurd h Yhn)|refine s_lss rfl rfl (fun h=>absurd h Yhn) (fun _=>?_)|refine s_leq rfl rfl (fun _=>?_) (fun h=>absurd h Yhn)|refine s_leq rfl rfl (fun h=>absurd h Yhn) (fun _=>?_)|refine s_gtr rfl rfl (fun _=>?_) (fun h=>absurd h Yhn)|refine s_gtr rfl rfl (fun h=>absurd h Yhn) (fun _=>?_)|refine s_geq rfl rfl (fun _=>?_) (fun h=>absurd h Yhn)|refine s_geq rfl rfl (fun h=>absurd h Yhn) (fun _=>?_)|refine s_eql rfl rfl (fun _=>?_) (fun h=>absurd h Yhn)|refine s_eql rfl rfl (fun h=>absurd h Yhn) (fun _=>?_)|refine s_neq rfl rfl (fun _=>?_) (fun h=>absurd h Yhn)|refine s_neq rfl rfl (fun h=>absurd h Yhn) (fun _=>?_)));exact h.k)):G:=h ⟨k⟩
theorem rnc{G G':Prop}(k:G')(h:Got G'->G:=by(intro h;(repeat(first|with_reducible refine wp_seq ?_|with_reducible refine c_region ?_|with_reducible refine wp_block ?_|with_reducible refine wpList_nil ?_|with_reducible refine wp_skip ?_|with_reducible refine wp_exit ?_|with_reducible refine wp_ret ?_|with_reducible refine q_then ?_|with_reducible refine q_then_exit ?_|with_reducible refine q_then_ret ?_|with_reducible refine q_blk ?_|with_reducible refine q_blk_ret ?_|with_reducible refine q_blk_eq ?_|refine q_blk_ne rfl ?_|refine c_true rfl ?_|refine c_false rfl ?_|((with_reducible apply s_moveV);conv=>lhs;whnf)|((with_reducible apply s_assignV);conv=>lhs;whnf)|refine g_yes rfl ?_|refine g_no rfl ?_|((with_reducible apply s_pickV);exact rfl;conv=>lhs;whnf)|refine s_nilCheck rfl ?_|refine s_field0 rfl ?_|refine s_fieldAddr rfl ?_|refine s_len rfl ?_|refine s_lenS rfl ?_|refine s_not rfl ?_|refine s_loadB rfl Yhz rfl ?_|refine s_ptrNil rfl rfl ?_|refine s_ptrNotNil rfl rfl ?_|refine s_add rfl rfl (IntWalk.i64_in _ Yhn) ?_|refine s_sub rfl rfl (IntWalk.i64_in _ Yhn) ?_|refine s_mul rfl rfl (IntWalk.i64_in _ Yhn) ?_|refine s_neg rfl (IntWalk.i64_in _ Yhn) ?_|refine s_conv rfl (IntWalk.i64_in _ Yhn) ?_|refine s_quo rfl rfl Yhn (IntWalk.i64_quo _ _ Yhn) ?_|refine s_rem rfl rfl Yhn (Int.tmod_eq_emod_of_nonneg Yhn) ?_|refine s_add rfl rfl (IntWalk.u64_in _ Yhn) ?_|refine s_sub rfl rfl (IntWalk.u64_in _ Yhn) ?_|refine s_mul rfl rfl (IntWalk.u64_in _ Yhn) ?_|refine s_conv rfl (IntWalk.u64_in _ Yhn) ?_|refine s_conv rfl (IntWalk.u8_in _ Yhn) ?_|refine s_quo rfl rfl Yhn (IntWalk.u64_quo _ _ Yhn) ?_|refine s_add rfl rfl (IntWalk.u8_in _ Yhn) ?_|refine s_sub rfl rfl (IntWalk.u8_in _ Yhn) ?_));exact h.k)):G:=h ⟨k⟩
theorem d_tk{D:Dfs}{P:Program}{Q:Exit->Act->World->Prop}{S:World->Prop}{n:Nat}{f:Env}{w:World}{l:List Oper}{fuel:Nat}{listed:Array Bool}{d:Nat}{op:Op}{ty:TypeId}{ps:String}{af:Array Edge}{v:Value}[hQ:PanicOk Q](i:Nat)(hS:S w)
 (h:wpAnyH P .any l.toArray Q S fuel (listed.setIfInBounds i true) (A n (upd f d v)) w)
 (hi:l[i]?=some ⟨some d,op,ty,ps,af,none⟩:=by exact rfl)
 (hs:Region.noSelect l.toArray=true:=by kernel_rfl) (hf:Region.free .any l.toArray listed i=true:=by kernel_rfl) (hr:(Region.ready .any l.toArray listed).contains i=true:=by kernel_rfl)
 (hrun:∀u,S u->(execOp (ev n f) ⟨some d,op,ty,ps,af,none⟩).run P u=.ok (.value v) u:=by(intro u hu;(first|(apply r_move;conv=>lhs;whnf)|exact r_nilCheck rfl|exact r_field0 rfl|exact r_len rfl|exact r_not rfl|exact r_add rfl rfl (IntWalk.i64_in _ Yhn)|exact r_sub rfl rfl (IntWalk.i64_in _ Yhn)|exact r_conv rfl (IntWalk.u64_in _ Yhn)|exact r_conv rfl (IntWalk.i64_in _ Yhn)|exact r_lss rfl rfl (decide_eq_true Yhn)|exact r_lss rfl rfl (decide_eq_false Yhn)|exact r_eql rfl rfl (decide_eq_true Yhn)|exact r_eql rfl rfl (decide_eq_false Yhn)|exact r_neq rfl rfl (decide_eq_true Yhn)|exact r_neq rfl rfl (decide_eq_false Yhn)|exact r_gtr rfl rfl (decide_eq_true Yhn)|exact r_gtr rfl rfl (decide_eq_false Yhn)|exact r_geq rfl rfl (decide_eq_true Yhn)|exact r_geq rfl rfl (decide_eq_false Yhn)|exact r_leq rfl rfl (decide_eq_true Yhn)|exact r_leq rfl rfl (decide_eq_false Yhn)|(apply r_pick;exact rfl;conv=>lhs;whnf)))):wpAnyH P .any l.toArray Q S (fuel+1) listed (A n f) w:=d_take hi hs hf hr hrun hS h
end
section
open Go.RowKit
/-! ### a loop within a loop -/
def keepB(S:List Nat)(nl2:Nat)(S2:List Nat):Nat->Bool
 |0=>true
 |k+1=>(elemB S k||(Nat.blt k nl2&& !elemB S2 k))&&keepB S nl2 S2 k
theorem Keep.inn{nl nl2:Nat}{S S2:List Nat}{f h g:Env}(hc:keepB S nl2 S2 nl=true)(hk:Keep nl S f h):Keep nl S f (Go.Rf.mrg nl2 S2 h g):=by
 have key:∀k s,keepB S nl2 S2 k=true->s<k->elemB S s=false->Nat.blt s nl2=true/\elemB S2 s=false:=by
  intro k
  induction k with
  |zero=>intro s _ h;omega
  |succ k ih=>
   intro s hb hs he;simp only[keepB,Bool.and_eq_true]at hb;by_cases e:s=k
   .subst e;rw[he]at hb;simpa using hb.1
   .exact ih s hb.2 Yhn he
 intro s h1 h2;obtain⟨h3,h4⟩:=key nl s hc h1 h2;simp only[Go.Rf.mrg,h3,h4,cond_true,cond_false];exact hk s h1 h2
/-! ### cells that are known -/
def Cells(w:World)(a:Addr)(l:List Value):Prop:=∀j u,l[j]?=some u->w.cell? (a.add j)=some u
theorem Cells.get{w:World}{a:Addr}{l:List Value}{j:Nat}{u:Value}(h:Cells w a l)(e:l[j]?=some u):w.cell? (a.add j)=some u:=h j u e
theorem Cells.tr{S:List Nat}{w w':World}{a:Addr}{l:List Value}(h:Cells w a l)(hf:Fr S w w')(hS:a.block∉S):Cells w' a l:=by
 intro j u hu;have h0:=h j u hu;rw[hf.cell (World.block_lt_of_cell? w _ h0) (by rw[add_block];exact hS)];exact h0
theorem Cells.tr0{w w':World}{a:Addr}{l:List Value}(h:Cells w a l)(hf:Fr [] w w'):Cells w' a l:=h.tr hf Yhs
theorem Cells.sub{w:World}{a:Addr}{l:List Value}(h:Cells w a l)(o m:Nat):Cells w (a.add o) ((l.drop o).take m):=by
 intro j u hu;rw[List.getElem?_take]at hu
 split at hu
 .rw [List.getElem?_drop]at hu;rw[add_add];exact h _ _ hu
 .cases hu
theorem Cells.ofSrc{w:World}{ad:Addr}{m c:Nat}{ys:List Value}(h:Src w (.slice (some ad) m c) m ys):Cells w ad ys:=by
 intro j u hu;obtain⟨ao',c',e,_,_,hc⟩:=h;simp only[Value.slice.injEq]at e;exact hc ad e.1.symm j u hu
theorem Cells.ofBlk{w:World}{b t:Nat}{l:List Value}(h:Blk w b l t):Cells w ⟨b,0,none⟩ l:=by
 intro j u hu;rw[add_lit,Nat.zero_add];exact h.cell hu
section
variable{D:Dfs}
variable{P:Program}{ops:Array Oper}{Q:Exit->Act->World->Prop}{rest:List Oper}{n:Nat}{f:Env}{w:World}
variable{d:Nat}{ty:TypeId}{ps:String}{af:Array Edge}{x y:Operand}{t t2:Nat}{gd:Option (Nat×Bool)}
theorem s_loadC{a:Addr}{j:Nat}{l:List Value}{v:Value}[O:OneT P t](hx:ev n f x=.pointer (some (a.add j)))(hc:Cells w a l)(ho:l[j]?=some v)(h:wpList P ops Q rest (A n (upd f d v)) w):
 wpList P ops Q (⟨some d,.load t x,ty,ps,af,none⟩::rest) (A n f) w:=s_load hx (hc.get ho) h
theorem s_loadAggC{a:Addr}{m:Nat}{l:List Value}[G:AggT P t m](hx:ev n f x=.pointer (some a))(hc:Cells w a l)(hl:l.length=m)(h:wpList P ops Q rest (A n (upd f d (.agg l.toArray))) w):
 wpList P ops Q (⟨some d,.load t x,ty,ps,af,none⟩::rest) (A n f) w:=s_loadAgg l hx hl hc h
theorem s_loadSub{a:Addr}{m o:Nat}{l:List Value}[G:AggT P t m](hx:ev n f x=.pointer (some (a.add o)))(hc:Cells w a l)(hl:((l.drop o).take m).length=m)(h:wpList P ops Q rest (A n (upd f d (.agg ((l.drop o).take m).toArray))) w):
 wpList P ops Q (⟨some d,.load t x,ty,ps,af,none⟩::rest) (A n f) w:=s_loadAgg _ hx hl (hc.sub o m) h
theorem s_loadSubB{b m o tb:Nat}{l:List Value}[G:AggT P t m](hx:ev n f x=.pointer (some ⟨b,o,none⟩))(hb:Blk w b l tb)(hl:((l.drop o).take m).length=m)(h:wpList P ops Q rest (A n (upd f d (.agg ((l.drop o).take m).toArray))) w):
 wpList P ops Q (⟨some d,.load t x,ty,ps,af,none⟩::rest) (A n f) w:=
 s_loadAgg _ hx hl Yjs h
theorem r_loadC{a:Addr}{m:Nat}{l:List Value}[G:AggT P t m](hx:ev n f x=.pointer (some a))(hc:Cells w a l)(hl:l.length=m):(execOp (ev n f) ⟨some d,.load t x,ty,ps,af,gd⟩).run P w=.ok (.value (.agg l.toArray)) w:=r_loadAgg l hx hl hc
theorem r_loadSub{a:Addr}{m o:Nat}{l:List Value}[G:AggT P t m](hx:ev n f x=.pointer (some (a.add o)))(hc:Cells w a l)(hl:((l.drop o).take m).length=m):(execOp (ev n f) ⟨some d,.load t x,ty,ps,af,gd⟩).run P w=.ok (.value (.agg ((l.drop o).take m).toArray)) w:=r_loadAgg _ hx hl (hc.sub o m)
theorem r_loadSubB{b m o tb:Nat}{l:List Value}[G:AggT P t m](hx:ev n f x=.pointer (some ⟨b,o,none⟩))(hb:Blk w b l tb)(hl:((l.drop o).take m).length=m):(execOp (ev n f) ⟨some d,.load t x,ty,ps,af,gd⟩).run P w=.ok (.value (.agg ((l.drop o).take m).toArray)) w:=
 r_loadAgg _ hx hl Yjs
/-! ### tuples -/
theorem r_extract{vs:List Value}{i:Nat}{v:Value}(hx:ev n f x=.tuple vs.toArray)(hv:vs[i]?=some v):(execOp (ev n f) ⟨some d,.extract x i,ty,ps,af,gd⟩).run P w=.ok (.value v) w:=by
 simp[execOp,Instr.extract,hx,hv]
theorem s_extract{vs:List Value}{i:Nat}{v:Value}(hx:ev n f x=.tuple vs.toArray)(hv:vs[i]?=some v)(h:wpList P ops Q rest (A n (upd f d v)) w):
 wpList P ops Q (⟨some d,.extract x i,ty,ps,af,none⟩::rest) (A n f) w:=s_run (r_extract hx hv) h
/-! ### arrays -/
class ArrT (P:Program) (t:Nat) (k e size:outParam Nat):Prop where
 u:P.underlying t=some (.array k e)
 inf:∃i,P.info? e=some i/\i.size=size
theorem r_addrArr{k e size:Nat}{a:Addr}{kk:IntKind}{j:Nat}[R:ArrT P t k e size](hx:ev n f x=.pointer (some a))(hy:ev n f y=.int kk (j:Int))(hj:j<k):
 (execOp (ev n f) ⟨some d,.indexAddr t x y,ty,ps,af,gd⟩).run P w=.ok (.value (.pointer (some (a.add (j*size))))) w:=by
 obtain⟨i,hi,hs⟩:=R.inf;have h2:(j:Int)<(k:Int):=by omega
 simp[execOp,Instr.indexAt,hx,hy,asIntOf,run_underlying R.u,hj,sizeOf,typeInfo,hi,hs,Instr.sureAddr]
theorem s_addrArr1{k e b:Nat}{kk:IntKind}{j:Nat}[R:ArrT P t k e 1](hx:ev n f x=.pointer (some ⟨b,0,none⟩))(hy:ev n f y=.int kk (j:Int))(hj:j<k)(h:wpList P ops Q rest (A n (upd f d (.pointer (some ⟨b,j,none⟩)))) w):
 wpList P ops Q (⟨some d,.indexAddr t x y,ty,ps,af,none⟩::rest) (A n f) w:=by
 refine s_run (r_addrArr hx hy hj) ?_;rw[Nat.mul_one,add_lit,Nat.zero_add];exact h
/-! ### strings -/
theorem r_indexStr{s:ByteArray}{kk:IntKind}{j:Nat}{b:UInt8}[S:StrT P t](hx:ev n f x=.string s)(hy:ev n f y=.int kk (j:Int))(hb:s.data.toList[j]?=some b):
 (execOp (ev n f) ⟨some d,.index t x y,ty,ps,af,gd⟩).run P w=.ok (.value (.int .u8 b.toNat)) w:=by
 have hj:s[j]?=some b:=by
  have hlt:=(List.getElem?_eq_some_iff.1 hb).1;have hlt':j<s.size:=by simpa using hlt
  rw[getElem?_pos s j hlt'];simp at hb;obtain⟨h1,h2⟩:=Array.getElem?_eq_some_iff.1 hb;simp only[Option.some.injEq];exact h2
 have h0:(0:Int)<=(j:Int):=by omega
 simp[execOp,Instr.index,hx,hy,asIntOf,run_underlying S.u,hj]
theorem s_indexStr{s:ByteArray}{kk:IntKind}{j:Nat}{b:UInt8}[S:StrT P t](hx:ev n f x=.string s)(hy:ev n f y=.int kk (j:Int))(hb:s.data.toList[j]?=some b)(h:wpList P ops Q rest (A n (upd f d (.int .u8 b.toNat))) w):
 wpList P ops Q (⟨some d,.index t x y,ty,ps,af,none⟩::rest) (A n f) w:=s_run (r_indexStr hx hy hb) h
theorem toList_inj{a b:ByteArray}:a.toList=b.toList↔a=b:=by
 constructor
 .intro h;rw[ByteArray.toList_eq,ByteArray.toList_eq]at h;cases a;cases b
  congr 1
  exact Array.toList_inj.1 h
 .intro h;rw[h]
theorem s_eqlE{a b:ByteArray}(hx:ev n f x=.string a)(hy:ev n f y=.string b)(ht:a=b->wpList P ops Q rest (A n (upd f d (.bool true))) w)(hf:¬a=b->wpList P ops Q rest (A n (upd f d (.bool false))) w):
 wpList P ops Q (⟨some d,.binOp .eql t x y t2,ty,ps,af,none⟩::rest) (A n f) w:=s_eqlS hx hy (fun h=>ht (toList_inj.1 h)) (fun h=>hf (fun e=>h (toList_inj.2 e)))
theorem s_neqE{a b:ByteArray}(hx:ev n f x=.string a)(hy:ev n f y=.string b)(ht:¬a=b->wpList P ops Q rest (A n (upd f d (.bool true))) w)(hf:a=b->wpList P ops Q rest (A n (upd f d (.bool false))) w):
 wpList P ops Q (⟨some d,.binOp .neq t x y t2,ty,ps,af,none⟩::rest) (A n f) w:=s_neqS hx hy (fun h=>ht (fun e=>h (toList_inj.2 e))) (fun h=>hf (toList_inj.1 h))
theorem r_eqlE{a b:ByteArray}{p:Bool}(hx:ev n f x=.string a)(hy:ev n f y=.string b)(hp:decide (a=b)=p):(execOp (ev n f) ⟨some d,.binOp .eql t x y t2,ty,ps,af,gd⟩).run P w=.ok (.value (.bool p)) w:=by
 subst hp;have e:(a.toList==b.toList)=decide (a=b):=by rw[beq_dec];simp[toList_inj]
 simp[execOp,eqGuard,binOp,Op.stringOp,hx,hy,e]
theorem s_lssS{a b:ByteArray}(hx:ev n f x=.string a)(hy:ev n f y=.string b)(ht:Op.bytesLess a.toList b.toList=true->wpList P ops Q rest (A n (upd f d (.bool true))) w)(hf:¬Op.bytesLess a.toList b.toList=true->wpList P ops Q rest (A n (upd f d (.bool false))) w):
 wpList P ops Q (⟨some d,.binOp .lss t x y t2,ty,ps,af,none⟩::rest) (A n f) w:=s_cmp hx hy (by simp[eqGuard,binOp,Op.stringOp]) ht hf
theorem s_gtrS{a b:ByteArray}(hx:ev n f x=.string a)(hy:ev n f y=.string b)(ht:¬(Op.bytesLess a.toList b.toList=true\/a=b)->wpList P ops Q rest (A n (upd f d (.bool true))) w)
 (hf:(Op.bytesLess a.toList b.toList=true\/a=b)->wpList P ops Q rest (A n (upd f d (.bool false))) w):
 wpList P ops Q (⟨some d,.binOp .gtr t x y t2,ty,ps,af,none⟩::rest) (A n f) w:=
 s_cmp (p:=¬(Op.bytesLess a.toList b.toList=true\/a=b)) hx hy (by simp[eqGuard,binOp,Op.stringOp,beq_dec,toList_inj]) ht (fun h=>hf (Decidable.byContradiction h))
/-! ### made slices -/
theorem madeCells_zeros{z:List Value}(hz:0<z.length)(k:Nat):(madeCells z.toArray (k*z.length)).toList=zeros z k:=by
 apply List.ext_getElem?;intro i;unfold madeCells;by_cases hi:i<k*z.length
 .rw [zeros_get z hz k i hi];have hm:i%z.length<z.length:=Nat.mod_lt _ hz;simp[hi,hm]
 .have h1:(zeros z k).length<=i:=by rw[zeros_len];omega
  rw[List.getElem?_eq_none h1];simp;omega
/-! ### stores into owned slices -/
theorem s_storeSubB{b tb m o:Nat}{l cs:List Value}[G:AggT P t m](hx:ev n f x=.pointer (some ⟨b,o,none⟩))(hv:ev n f y=.agg cs.toArray)(hb:Blk w b l tb)(h1:∀c∈cs,c.oneCell'=true)(hl:o+m<=l.length)(hc:cs.length=m)
 (h:∀w',Blk w' b (l.take o++cs++l.drop (o+m)) tb->Fr [b] w w'->w'.heap.size=w.heap.size->wpList P ops Q rest (A n f) w'):wpList P ops Q (⟨none,.store t x y,ty,ps,af,none⟩::rest) (A n f) w:=by
 obtain⟨i,hi,hs⟩:=G.size;have hst:=run_storeCells_at P b o tb cs 0 l.toArray w hb (by simpa[hc]using hl) h1;simp only[Nat.add_zero]at hst;refine s_skip (w':=w.setRow b (l.take o++cs++l.drop (o+cs.length)).toArray) ?_ (h _ (by rw[<-hc];exact setRow_heap w b l.toArray _ tb _ hb) ⟨rfl,rfl,rfl,by simp,fun k _ hk=>setRow_other w b k _ Yng,Nat.le_refl _⟩ Yhs);rw[hc]at hst ⊢;have hst':(storeCells ⟨b,o,none⟩ cs).run P w=.ok () (w.setRow b (l.take o++cs++l.drop (o+m)).toArray):=by simpa using hst
 simp[execOp,hx,hv,Instr.storeAt,Instr.sureAddr,storeVar,sizeOf,typeInfo,hi,hs,Value.cells,hc,hst']
end
end
section
open Go.RowKit
theorem rx{G G':Prop}(k:G')(h:Got G'->G:=by(intro h;(repeat(first|with_reducible refine wp_seq ?_|with_reducible refine c_region ?_|with_reducible refine wp_block ?_|with_reducible refine wpList_nil ?_|with_reducible refine wp_skip ?_|with_reducible refine wp_exit ?_|with_reducible refine wp_ret ?_|with_reducible refine q_then ?_|with_reducible refine q_then_exit ?_|with_reducible refine q_then_ret ?_|with_reducible refine q_blk ?_|with_reducible refine q_blk_ret ?_|with_reducible refine q_blk_eq ?_|refine q_blk_ne rfl ?_|refine c_true rfl ?_|refine c_false rfl ?_|((with_reducible apply s_moveV);conv=>lhs;whnf)|((with_reducible apply s_assignV);conv=>lhs;whnf)|refine g_yes rfl ?_|refine g_no rfl ?_|((with_reducible apply s_pickV);exact rfl;conv=>lhs;whnf)|refine s_nilCheck rfl ?_|refine s_field0 rfl ?_|refine s_fieldAddr rfl ?_|refine s_len rfl ?_|refine s_lenS rfl ?_|refine s_not rfl ?_|refine s_loadB rfl Yhz rfl ?_|refine s_ptrNil rfl rfl ?_|refine s_ptrNotNil rfl rfl ?_|refine s_extract rfl rfl ?_|refine s_indexAddr rfl rfl rfl Yhn rfl ?_|refine s_addrArr1 rfl rfl Yhn ?_|refine s_loadC rfl Yhz rfl ?_|refine s_loadAggC rfl Yhz Yik ?_|refine s_loadAggB rfl Yhz Yik ?_|refine s_loadSub rfl Yhz Yik ?_|refine s_loadSubB rfl Yhz Yik ?_|refine s_eqlE rfl rfl (fun _=>?_) (fun h=>absurd Yhz h)|refine s_eqlE rfl rfl (fun h=>absurd h Yhz) (fun _=>?_)|refine s_neqE rfl rfl (fun _=>?_) (fun h=>absurd h Yhz)|refine s_neqE rfl rfl (fun h=>absurd Yhz h) (fun _=>?_)|refine s_lssS rfl rfl (fun _=>?_) (fun h=>absurd Yhz h)|refine s_lssS rfl rfl (fun h=>absurd h Yhz) (fun _=>?_)|refine s_gtrS rfl rfl (fun _=>?_) (fun h=>absurd h Yhz)|refine s_gtrS rfl rfl (fun h=>absurd Yhz h) (fun _=>?_)|refine s_add rfl rfl (IntWalk.i64_in _ Yhn) ?_|refine s_sub rfl rfl (IntWalk.i64_in _ Yhn) ?_|refine s_mul rfl rfl (IntWalk.i64_in _ Yhn) ?_|refine s_neg rfl (IntWalk.i64_in _ Yhn) ?_|refine s_conv rfl (IntWalk.i64_in _ Yhn) ?_|refine s_quo rfl rfl Yhn (IntWalk.i64_quo _ _ Yhn) ?_|refine s_rem rfl rfl Yhn (Int.tmod_eq_emod_of_nonneg Yhn) ?_|refine s_add rfl rfl (IntWalk.u64_in _ Yhn) ?_|refine s_sub rfl rfl (IntWalk.u64_in _ Yhn) ?_|refine s_mul rfl rfl (IntWalk.u64_in _ Yhn) ?_|refine s_conv rfl (IntWalk.u64_in _ Yhn) ?_|refine s_conv rfl (IntWalk.u8_in _ Yhn) ?_|refine s_quo rfl rfl Yhn (IntWalk.u64_quo _ _ Yhn) ?_|refine s_add rfl rfl (IntWalk.u8_in _ Yhn) ?_|refine s_sub rfl rfl (IntWalk.u8_in _ Yhn) ?_|refine s_lss rfl rfl (fun _=>?_) (fun h=>absurd h Yhn)|refine s_lss rfl rfl (fun h=>absurd h Yhn) (fun _=>?_)|refine s_leq rfl rfl (fun _=>?_) (fun h=>absurd h Yhn)|refine s_leq rfl rfl (fun h=>absurd h Yhn) (fun _=>?_)|refine s_gtr rfl rfl (fun _=>?_) (fun h=>absurd h Yhn)|refine s_gtr rfl rfl (fun h=>absurd h Yhn) (fun _=>?_)|refine s_geq rfl rfl (fun _=>?_) (fun h=>absurd h Yhn)|refine s_geq rfl rfl (fun h=>absurd h Yhn) (fun _=>?_)|refine s_eql rfl rfl (fun _=>?_) (fun h=>absurd h Yhn)|refine s_eql rfl rfl (fun h=>absurd h Yhn) (fun _=>?_)|refine s_neq rfl rfl (fun _=>?_) (fun h=>absurd h Yhn)|refine s_neq rfl rfl (fun h=>absurd h Yhn) (fun _=>?_)));exact h.k)):G:=h ⟨k⟩
theorem rr{G G':Prop}(k:G')(h:Got G'->G:=by(intro h;(repeat(first|((with_reducible apply s_moveV);conv=>lhs;whnf)|((with_reducible apply s_assignV);conv=>lhs;whnf)|refine g_yes rfl ?_|refine g_no rfl ?_|((with_reducible apply s_pickV);exact rfl;conv=>lhs;whnf)|refine s_nilCheck rfl ?_|refine s_field0 rfl ?_|refine s_fieldAddr rfl ?_|refine s_len rfl ?_|refine s_lenS rfl ?_|refine s_not rfl ?_|refine s_loadB rfl Yhz rfl ?_|refine s_ptrNil rfl rfl ?_|refine s_ptrNotNil rfl rfl ?_|refine s_extract rfl rfl ?_|refine s_indexAddr rfl rfl rfl Yhn rfl ?_|refine s_addrArr1 rfl rfl Yhn ?_|refine s_loadC rfl Yhz rfl ?_|refine s_loadAggC rfl Yhz Yik ?_|refine s_loadAggB rfl Yhz Yik ?_|refine s_loadSub rfl Yhz Yik ?_|refine s_loadSubB rfl Yhz Yik ?_|refine s_eqlE rfl rfl (fun _=>?_) (fun h=>absurd Yhz h)|refine s_eqlE rfl rfl (fun h=>absurd h Yhz) (fun _=>?_)|refine s_neqE rfl rfl (fun _=>?_) (fun h=>absurd h Yhz)|refine s_neqE rfl rfl (fun h=>absurd Yhz h) (fun _=>?_)|refine s_lssS rfl rfl (fun _=>?_) (fun h=>absurd Yhz h)|refine s_lssS rfl rfl (fun h=>absurd h Yhz) (fun _=>?_)|refine s_gtrS rfl rfl (fun _=>?_) (fun h=>absurd h Yhz)|refine s_gtrS rfl rfl (fun h=>absurd Yhz h) (fun _=>?_)|refine s_add rfl rfl (IntWalk.i64_in _ Yhn) ?_|refine s_sub rfl rfl (IntWalk.i64_in _ Yhn) ?_|refine s_mul rfl rfl (IntWalk.i64_in _ Yhn) ?_|refine s_neg rfl (IntWalk.i64_in _ Yhn) ?_|refine s_conv rfl (IntWalk.i64_in _ Yhn) ?_|refine s_quo rfl rfl Yhn (IntWalk.i64_quo _ _ Yhn) ?_|refine s_rem rfl rfl Yhn (Int.tmod_eq_emod_of_nonneg Yhn) ?_|refine s_add rfl rfl (IntWalk.u64_in _ Yhn) ?_|refine s_sub rfl rfl (IntWalk.u64_in _ Yhn) ?_|refine s_mul rfl rfl (IntWalk.u64_in _ Yhn) ?_|refine s_conv rfl (IntWalk.u64_in _ Yhn) ?_|refine s_conv rfl (IntWalk.u8_in _ Yhn) ?_|refine s_quo rfl rfl Yhn (IntWalk.u64_quo _ _ Yhn) ?_|refine s_add rfl rfl (IntWalk.u8_in _ Yhn) ?_|refine s_sub rfl rfl (IntWalk.u8_in _ Yhn) ?_|refine s_lss rfl rfl (fun _=>?_) (fun h=>absurd h Yhn)|refine s_lss rfl rfl (fun h=>absurd h Yhn) (fun _=>?_)|refine s_leq rfl rfl (fun _=>?_) (fun h=>absurd h Yhn)|refine s_leq rfl rfl (fun h=>absurd h Yhn) (fun _=>?_)|refine s_gtr rfl rfl (fun _=>?_) (fun h=>absurd h Yhn)|refine s_gtr rfl rfl (fun h=>absurd h Yhn) (fun _=>?_)|refine s_geq rfl rfl (fun _=>?_) (fun h=>absurd h Yhn)|refine s_geq rfl rfl (fun h=>absurd h Yhn) (fun _=>?_)|refine s_eql rfl rfl (fun _=>?_) (fun h=>absurd h Yhn)|refine s_eql rfl rfl (fun h=>absurd h Yhn) (fun _=>?_)|refine s_neq rfl rfl (fun _=>?_) (fun h=>absurd h Yhn)|refine s_neq rfl rfl (fun h=>absurd h Yhn) (fun _=>?_)));exact h.k)):G:=h ⟨k⟩
theorem d_tx{D:Dfs}{P:Program}{Q:Exit->Act->World->Prop}{S:World->Prop}{n:Nat}{f:Env}{w:World}{l:List Oper}{fuel:Nat}{listed:Array Bool}{d:Nat}{op:Op}{ty:TypeId}{ps:String}{af:Array Edge}{v:Value}[hQ:PanicOk Q](i:Nat)(hS:S w)
 (h:wpAnyH P .any l.toArray Q S fuel (listed.setIfInBounds i true) (A n (upd f d v)) w)
 (hi:l[i]?=some ⟨some d,op,ty,ps,af,none⟩:=by exact rfl)
 (hs:Region.noSelect l.toArray=true:=by kernel_rfl) (hf:Region.free .any l.toArray listed i=true:=by kernel_rfl) (hr:(Region.ready .any l.toArray listed).contains i=true:=by kernel_rfl)
 (hrun:∀u,S u->(execOp (ev n f) ⟨some d,op,ty,ps,af,none⟩).run P u=.ok (.value v) u:=by exact dqx):wpAnyH P .any l.toArray Q S (fuel+1) listed (A n f) w:=d_take hi hs hf hr hrun hS h
theorem d_ty{D:Dfs}{P:Program}{Q:Exit->Act->World->Prop}{S:World->Prop}{n:Nat}{f:Env}{w:World}{l:List Oper}{fuel:Nat}{listed:Array Bool}{d j:Nat}{b:Bool}{op:Op}{ty:TypeId}{ps:String}{af:Array Edge}{v:Value}[hQ:PanicOk Q](i:Nat)(hS:S w)
 (h:wpAnyH P .any l.toArray Q S fuel (listed.setIfInBounds i true) (A n (upd f d v)) w)
 (hi:l[i]?=some ⟨some d,op,ty,ps,af,some (j,b)⟩:=by exact rfl) (hy:yld l n f j=some b:=by exact rfl)
 (hs:Region.noSelect l.toArray=true:=by kernel_rfl) (hf:Region.free .any l.toArray listed i=true:=by kernel_rfl) (hr:(Region.ready .any l.toArray listed).contains i=true:=by kernel_rfl)
 (hrun:∀u,S u->(execOp (ev n f) ⟨some d,op,ty,ps,af,none⟩).run P u=.ok (.value v) u:=by exact dqx):wpAnyH P .any l.toArray Q S (fuel+1) listed (A n f) w:=d_yes hi hy hs hf hr hrun hS h
theorem d_tn{D:Dfs}{P:Program}{Q:Exit->Act->World->Prop}{S:World->Prop}{n:Nat}{f:Env}{w:World}{l:List Oper}{fuel:Nat}{listed:Array Bool}{d j:Nat}{b:Bool}{op:Op}{ty:TypeId}{ps:String}{af:Array Edge}[hQ:PanicOk Q](i:Nat)(hS:S w)
 (h:wpAnyH P .any l.toArray Q S fuel (listed.setIfInBounds i true) (A n (upd f d undef)) w)
 (hi:l[i]?=some ⟨some d,op,ty,ps,af,some (j,b)⟩:=by exact rfl) (hy:(yld l n f j==some b)=false:=by exact rfl)
 (hs:Region.noSelect l.toArray=true:=by kernel_rfl) (hf:Region.free .any l.toArray listed i=true:=by kernel_rfl) (hr:(Region.ready .any l.toArray listed).contains i=true:=by kernel_rfl):wpAnyH P .any l.toArray Q S (fuel+1) listed (A n f) w:=d_no hi hy hs hf hr hS h
end
section
open Go.RowKit
section
variable {D : Dfs} {P : Program} {ops : Array Oper} {Q : Exit -> Act -> World -> Prop} {rest : List Oper} {n : Nat} {f : Env} {w : World} {d : Nat} {ty : TypeId} {ps : String} {af : Array Edge} {x : Operand}
theorem s_cE {k : Nat} {l : List Operand} {at_ : Array TypeId} {v : Value} {R : World -> Prop} [F : FnT P k] (hc : Calls P k (evs n f l).toArray w (fun e w' => e = .returned v /\ R w')) (h : ∀ w', R w' -> wpList P ops Q rest (A n (upd f d v)) w') : wpList P ops Q (⟨some d, .call { callee := .value (.func k), args := l.toArray, argTypes := at_ }, ty, ps, af, none⟩ :: rest) (A n f) w := s_call hc rfl (fun _ w' ⟨he, hr⟩ => ⟨v, he, h w' hr⟩)
theorem s_c1 {α : Type _} {k : Nat} {l : List Operand} {at_ : Array TypeId} {v : α -> Value} {R : α -> World -> Prop} [F : FnT P k] (hc : Calls P k (evs n f l).toArray w (fun e w' => ∃ a, e = .returned (v a) /\ R a w')) (h : ∀ a w', R a w' -> wpList P ops Q rest (A n (upd f d (v a))) w') : wpList P ops Q (⟨some d, .call { callee := .value (.func k), args := l.toArray, argTypes := at_ }, ty, ps, af, none⟩ :: rest) (A n f) w := s_call hc rfl (fun _ w' ⟨a, he, hr⟩ => ⟨v a, he, h a w' hr⟩)
theorem s_c2 {α β : Type _} {k : Nat} {l : List Operand} {at_ : Array TypeId} {v : α -> β -> Value} {R : α -> β -> World -> Prop} [F : FnT P k] (hc : Calls P k (evs n f l).toArray w (fun e w' => ∃ a b, e = .returned (v a b) /\ R a b w')) (h : ∀ a b w', R a b w' -> wpList P ops Q rest (A n (upd f d (v a b))) w') : wpList P ops Q (⟨some d, .call { callee := .value (.func k), args := l.toArray, argTypes := at_ }, ty, ps, af, none⟩ :: rest) (A n f) w := s_call hc rfl (fun _ w' ⟨a, b, he, hr⟩ => ⟨v a b, he, h a b w' hr⟩)
theorem s_allocN {e : Nat} {z : Value} {l : List Value} [Z : ZeroT P e z] (hz : z.cells = l.toArray) (h : ∀ w' b, b = w.heap.size -> Blk w' b l e -> Fr [] w w' -> w'.heap.size = w.heap.size + 1 -> wpList P ops Q rest (A n (upd f d (.pointer (some ⟨b, 0, none⟩)))) w') : wpList P ops Q (⟨some d, .alloc e, ty, ps, af, none⟩ :: rest) (A n f) w := s_alloc hz (fun w' h1 h2 h3 => h w' _ rfl h1 h2 h3)
theorem s_boxN {e : Nat} {v : Value} {l : List Value} (hx : ev n f x = v) (hv : v.cells = l.toArray) (h : ∀ w' b, b = w.heap.size -> Blk w' b l e -> Fr [] w w' -> w'.heap.size = w.heap.size + 1 -> wpList P ops Q rest (A n (upd f d (.pointer (some ⟨b, 0, none⟩)))) w') : wpList P ops Q (⟨some d, .box e x, ty, ps, af, none⟩ :: rest) (A n f) w := s_box hx hv (fun w' h1 h2 h3 => h w' _ rfl h1 h2 h3)
end
section
variable {D : Dfs} {P : Program} {Q : Exit -> Act -> World -> Prop} {S : World -> Prop} {n : Nat} {f f' : Env} {w : World} {l : List Oper} {fuel : Nat} {listed : Array Bool} {d : Nat} {v : Value} [hQ : PanicOk Q]
theorem d_z (i : Nat) (hS : S w) (h : wpAnyH P .any l.toArray Q S fuel (listed.setIfInBounds i true) (A n f') w) (hz : Ix i -> S w -> wpAnyH P .any l.toArray Q S fuel (listed.setIfInBounds i true) (A n f') w -> wpAnyH P .any l.toArray Q S (fuel + 1) listed (A n f) w := by intro _ a b; first | exact d_tx _ a b | exact d_ty _ a b | exact d_tn _ a b) : wpAnyH P .any l.toArray Q S (fuel + 1) listed (A n f) w := hz trivial hS h
theorem d_zI {i : Nat} (_ : Ix i) (hS : S w) (h : wpAnyH P .any l.toArray Q S fuel (listed.setIfInBounds i true) (A n f') w) (hz : Ix i -> S w -> wpAnyH P .any l.toArray Q S fuel (listed.setIfInBounds i true) (A n f') w -> wpAnyH P .any l.toArray Q S (fuel + 1) listed (A n f) w := by intro _ a b; first | exact d_tx _ a b | exact d_ty _ a b | exact d_tn _ a b) : wpAnyH P .any l.toArray Q S (fuel + 1) listed (A n f) w := hz trivial hS h
theorem d_z2 (i j : Nat) (hS : S w) (h : wpAnyH P .any l.toArray Q S fuel ((listed.setIfInBounds i true).setIfInBounds j true) (A n f') w) (hz : Ix i -> Ix j -> S w -> wpAnyH P .any l.toArray Q S fuel ((listed.setIfInBounds i true).setIfInBounds j true) (A n f') w -> wpAnyH P .any l.toArray Q S (fuel + 2) listed (A n f) w := by intro t u a b; refine d_zI t a ?_; refine d_zI u a ?_; exact b) : wpAnyH P .any l.toArray Q S (fuel + 2) listed (A n f) w := hz trivial trivial hS h
theorem d_z4 (i j k m : Nat) (hS : S w) (h : wpAnyH P .any l.toArray Q S fuel ((((listed.setIfInBounds i true).setIfInBounds j true).setIfInBounds k true).setIfInBounds m true) (A n f') w) (hz : Ix i -> Ix j -> Ix k -> Ix m -> S w -> wpAnyH P .any l.toArray Q S fuel ((((listed.setIfInBounds i true).setIfInBounds j true).setIfInBounds k true).setIfInBounds m true) (A n f') w -> wpAnyH P .any l.toArray Q S (fuel + 4) listed (A n f) w := by intro t u x y a b; refine d_zI t a ?_; refine d_zI u a ?_; refine d_zI x a ?_; refine d_zI y a ?_; exact b) : wpAnyH P .any l.toArray Q S (fuel + 4) listed (A n f) w := hz trivial trivial trivial trivial hS h
end
theorem fnt {P : Program} {k : Nat} {fn : Func} (h : P.funcs[k]? = some fn) (a : (fn.name == "runtime.NumGoroutine") = false := by kernel_rfl) (b : fn.body.isNone = false := by kernel_rfl) : FnT P k := ⟨⟨fn, h, a, b⟩⟩
theorem fld (n : Nat) {P : Program} {s i off : Nat} {fs : Array Field} {fd : Field} (hu : P.underlying s = some (.struct fs)) (hf : fs[i]? = some fd := by exact rfl) (ho : fd.offset = off := by exact rfl) (hi : (P.info? fd.type).map (·.size) = some n := by kernel_rfl) (hn : n ≠ 0 := by decide) : FieldT P s i off := ⟨field_of hu hf ho hi hn⟩
end
end Go.Rf
