/-
 The stepping engine:frames as functions of the slot,one rule for each kind of operation,of the weakest preconditions of the kit. It speaks of no program. Memory:what a step may have changed ('Fr S w w'':of the blocks that were there only those in S),a block known whole ('Blk'),a slice that can be read ('Src'),a slice that the call owns ('Own');'append' for whatever source. It speaks of no program. One rule for each kind of operation,over the frames of the engine. It speaks of no program. Regions that draw their order:quiet operations are taken first(the kit's 'wpAnyH_take'),the others where nothing else can come up. It speaks of no program. More rules:composite literals,strings and bytes,function values. It speaks of no program. More rules:tuples,arrays,the bytes of strings,made slices,stores into owned slices of any element;cells that are known;the run of decided steps with these. It speaks of no program.
-/
import Derived.Test.YtggmccicdhnkgaaGreatVM0
import Derived.WalkKit
import Derived.ProofKit
import Derived.OrdersHeld
import Derived.Laws.IdiomStrings
import Derived.Laws.BytesArg
import Derived.KernelRfl
import Derived.Laws.OwnMore
set_option linter.all false
namespace Go.Rf
section
open Go.RowKit
/-! ### idS -/
abbrev Env:=Nat->Value
def bz(f:Env)(d:Nat)(v:Value):Env:=fun k=>cond (Nat.beq k d) v (f k)
class Dfs where ds:List Deferred
def A(n:Nat)(f:Env)[D:Dfs]:Act:={tmps:=(List.ofFn (n:=n) fun i=>f i.val).toArray,defers:=D.ds}
def ev(n:Nat)(f:Env):Operand->Value
 |.tmp t=>cond (Nat.blt t n) (f t) undef
 |.const v=>v
 |.global g=>.pointer (some ⟨g,0,none⟩)
 |.func g=>.func (.func g) #[] #[]
def xJ(n:Nat)(f:Env):List Operand->List Value
 |[]=>[]
 |x::l=>ev n f x::xJ n f l
def AJ(f:Env):Option Nat->Value->Env
 |some d,v=>bz f d v
 |none,_=>f
theorem iY(f:Env)(k:Nat)(v:Value):bz f k v k=v:=by simp[bz]
theorem lv(f:Env){k d:Nat}(v:Value)(h:k≠d):bz f d v k=f k:=by
 have:Nat.beq k d=false:=by
  cases hb:Nat.beq k d
  .rfl
  .exact absurd (Hg hb) h
 simp[bz,this]
theorem Ja{f:Env}{k:Nat}{v:Value}(h:f k=v):f=bz f k v:=by
 funext j
 by_cases e:j=k
 .subst e;rw[iY,h]
 .rw [lv _ _ e]
section
variable{D:Dfs}
theorem JjA(n:Nat)(f:Env):(A n f).tmps.size=n:=by simp[A]
theorem JcR(n:Nat)(f:Env)(k:Nat):(A n f).tmps[k]?=if k<n then some (f k) else none:=by
 simp only[A,EX,List.getElem?_ofFn]
 split<;>rfl
theorem ZV{k n:Nat}(h:k<n):Nat.blt k n=true:=Dv h
theorem Jdl{k n:Nat}(h:¬k<n):Nat.blt k n=false:=by
 cases hb:Nat.blt k n
 .rfl
 .exact absurd (Dy hb) h
theorem Wl(n:Nat)(f:Env)(k:Nat):(A n f).tmps.getD k undef=cond (Nat.blt k n) (f k) undef:=by
 rw[DU,JcR];by_cases h:k<n
 .simp [h,ZV h]
 .simp [h,Jdl h]
theorem Zy(n:Nat)(f:Env):(A n f).eval=ev n f:=by
 funext x
 cases x with
 |tmp t=>exact Wl n f t
 |const v=>rfl
 |global g=>rfl
 |func g=>rfl
theorem MK(n:Nat)(f:Env)(d:Option Nat)(v:Value):(A n f).put d v=A n (AJ f d v):=by
 cases d with
 |none=>rfl
 |some d=>
  show Act.mk _ _=Act.mk _ _
  congr 1
  apply FK;intro i;have h1:=JcR (D:=D) n (bz f d v) i;have h0:=JcR (D:=D) n f i;have hs:=JjA (D:=D) n f;rw[EY,h0];show _=(A n (bz f d v)).tmps[i]?;rw[h1,hs];by_cases e:d=i
  .subst e;simp[iY]
  .simp [e,lv f v (I7 e)]
theorem Ja8(n:Nat)(f:Env)(l:List Operand):l.map (ev n f)=xJ n f l:=by
 induction l with
 |nil=>rfl
 |cons x l ih=>simp[xJ,ih]
/-! ### an operation rM runs: tE ibQ igc -/
section
variable{P:Program}{ops:Array Oper}{Q:Exit->Act->World->Prop}{rest:List Oper}{n:Nat}{f:Env}{w:World}
variable{d:Option Nat}{op:Op}{ty:TypeId}{ps:String}{af:Array Edge}
theorem JR{v:Value}{w':World}(hr:(execOp (ev n f) ⟨d,op,ty,ps,af,none⟩).run P w=.ok (.value v) w')
 (h:wpList P ops Q rest (A n (AJ f d v)) w'):wpList P ops Q (⟨d,op,ty,ps,af,none⟩::rest) (A n f) w:=by
 exact Yde
theorem X8{w':World}(hr:(execOp (ev n f) ⟨d,op,ty,ps,af,none⟩).run P w=.ok .skip w')
 (h:wpList P ops Q rest (A n (AJ f d undef)) w'):wpList P ops Q (⟨d,op,ty,ps,af,none⟩::rest) (A n f) w:=by
 exact Yde
/-! ### guards -/
def PP(ops:List Oper)(n:Nat)(f:Env)(j:Nat):Option Bool:=
 match ops[j]? with
 |some o=>match o.dst with
  |some t=>match cond (Nat.blt t n) (some (f t)) none with
   |some (.bool b)=>some b
   |_=>none
  |none=>none
 |none=>none
theorem JaC(l:List Oper)(n:Nat)(f:Env)(j:Nat):yielded l.toArray (A n f).tmps j=PP l n f j:=by
 unfold yielded PP;simp only[EX];cases l[j]? with
 |none=>rfl
 |some o=>
  simp only[CS];cases o.dst with
  |none=>rfl
  |some t=>
   simp only[CS,JcR];by_cases h:t<n
   .rw [Cb h,ZV h];simp only[Ic];split<;>simp_all
   .rw [SH h,Jdl h];rfl
theorem MH{l:List Oper}{j:Nat}{b:Bool}(hy:PP l n f j=some b)
 (h:wpList P l.toArray Q (⟨d,op,ty,ps,af,none⟩::rest) (A n f) w):wpList P l.toArray Q (⟨d,op,ty,ps,af,some (j,b)⟩::rest) (A n f) w:=by
 unfold wpList at h ⊢;rw[Cb (by simp[Region.wanted,JaC,hy])];rw[Cb (by simp[Region.wanted])]at h;exact h
theorem Jhv{l:List Oper}{j:Nat}{b:Bool}(hy:(PP l n f j==some b)=false)
 (h:wpList P l.toArray Q rest (A n (AJ f d undef)) w):wpList P l.toArray Q (⟨d,op,ty,ps,af,some (j,b)⟩::rest) (A n f) w:=by
 unfold wpList;rw[SH (by simp[Region.wanted,JaC,hy])];rw[MK];exact h
end
/-! ### control -/
section
variable{P:Program}{Q:Exit->Act->World->Prop}{n:Nat}{f:Env}{w:World}{a:Act}
theorem KA{id:Nat}{l:List Oper}(h:wpList P l.toArray Q l a w):(Code.region id l.toArray false).wp P Q a w:=wp_region_lit h
theorem Jdk{c:Operand}{x y:Code}(hc:ev n f c=.bool true)(h:x.wp P Q (A n f) w):(Code.cond c x y).wp P Q (A n f) w:=
 wp_cond_true (by rw[Zy];exact hc) h
theorem Jbh{c:Operand}{x y:Code}(hc:ev n f c=.bool false)(h:y.wp P Q (A n f) w):(Code.cond c x y).wp P Q (A n f) w:=
 wp_cond_false (by rw[Zy];exact hc) h
theorem QG{c:Code}{Q':Exit->Act->World->Prop}(h:c.wp P Q a w):Exit.then (c.wp P Q) Q' .normal a w:=h
theorem Ze{K:Act->World->Prop}{i:Nat}(h:Q (.exit i) a w):Exit.then K Q (.exit i) a w:=h
theorem Bl{K:Act->World->Prop}(h:Q .ret a w):Exit.then K Q .ret a w:=h
theorem JfI{i:Nat}(h:Q .normal a w):Exit.inBlock i Q .normal a w:=h
theorem Lc{i:Nat}(h:Q .ret a w):Exit.inBlock i Q .ret a w:=h
theorem NU{i:Nat}(h:Q .normal a w):Exit.inBlock i Q (.exit i) a w:=by simp only[Exit.inBlock,CX];exact h
theorem NT{i j:Nat}(hn:(Nat.beq j i)=false)(h:Q (.exit j) a w):Exit.inBlock i Q (.exit j) a w:=by
 have:¬j=i:=fun e=>by subst e;simp at hn
 simp only[Exit.inBlock,SH this];exact h
theorem Jbg{σ:Type}{c:Code}(I:σ->Env->World->Prop)(μ:σ->Nat)(s:σ)(h0:I s f w)
 (hr:∀s g w,I s g w->c.wp P (Exit.then (fun a' w'=>∃s' g',a'=A n g'/\I s' g' w'/\μ s'<μ s) Q) (A n g) w):(Code.loop c).wp P Q (A n f) w:=by
 intro b k cs;have key:∀m s g w,μ s=m->I s g w->
  ∃e a' w',Q e a' w'/\Arrives P (lone (b.at (A n g) (.code c::.inLoop c::k)) cs w) b k cs e a' w':=by
  intro m
  induction m using Nat.strongRecOn with
  |_ m ih=>
   intro s g w hm hI;obtain⟨e,a₁,w₁,hq,p5⟩:=hr s g w hI b (.inLoop c::k) cs;cases e with
   |normal=>
    obtain⟨s',g',rfl,igd,aC⟩:=hq;obtain⟨e₂,a₂,w₂,ige,ibj⟩:=ih (μ s') (hm▸aC) s' g' w₁ rfl igd;exact⟨e₂,a₂,w₂,ige,.of_steps (Steps.trans p5 (.one step_inLoop)) ibj⟩
   |exit id=>exact⟨_,a₁,w₁,hq,.pass (x:=.inLoop c) rfl (fun _ _=>.inl ap) p5⟩
   |goto l=>exact⟨_,a₁,w₁,hq,.pass (x:=.inLoop c) rfl (fun _ _=>.inl ap) p5⟩
   |ret=>exact⟨_,a₁,w₁,hq,.pass (x:=.inLoop c) rfl (fun _ _=>.inl ap) p5⟩
   |panic ch=>exact⟨_,a₁,w₁,hq,.pass (x:=.inLoop c) rfl (fun _ _=>.inl ap) p5⟩
   |outgrown=>exact⟨_,a₁,w₁,hq,.pass (x:=.inLoop c) rfl (fun _ _=>.inl ap) p5⟩
 obtain⟨e,a',w',hq,p5⟩:=key _ s f w rfl h0;exact⟨e,a',w',hq,.of_steps (.one step_loop) p5⟩
theorem JaR{σ:Type}{I:σ->Env->World->Prop}{μ:σ->Nat}{s:σ}(s':σ)(hI:I s' f w)(hm:μ s'<μ s):
 Exit.then (fun a' w'=>∃s' g',a'=A n g'/\I s' g' w'/\μ s'<μ s) Q .normal (A n f) w:=⟨s',f,rfl,hI,hm⟩
theorem Qw{c:Code}{K:Act->World->Prop}(R:Env->World->Prop)(h1:c.wp P (Exit.then (fun a w=>∃g,a=A n g/\R g w) Q) (A n f) w)
 (h2:∀g w,R g w->K (A n g) w):c.wp P (Exit.then K Q) (A n f) w:=
 wp_mono h1 fun e a w h=>by
  cases e with
  |normal=>obtain⟨g,rfl,hR⟩:=h;exact h2 g w hR
  |_=>exact h
theorem Vh{R:Env->World->Prop}(h:R f w):Exit.then (fun a w=>∃g,a=A n g/\R g w) Q .normal (A n f) w:=⟨f,rfl,h⟩
end
/-! ### a loop rM keeps tE locals (tE ieV below 'nl') but for ieW of S -/
def Zv:List Nat->Nat->Bool
 |[],_=>false
 |x::l,k=>cond (Nat.beq x k) true (Zv l k)
def mrg(nl:Nat)(S:List Nat)(f g:Env):Env:=fun s=>cond (Nat.blt s nl) (cond (Zv S s) (g s) (f s)) (g s)
def dR(nl:Nat)(S:List Nat)(f g:Env):Prop:=∀s,s<nl->Zv S s=false->g s=f s
theorem dR.refl(nl:Nat)(S:List Nat)(f:Env):dR nl S f f:=fun _ _ _=>rfl
theorem dR.mrg(nl:Nat)(S:List Nat)(f g:Env):dR nl S f (mrg nl S f g):=fun s h1 h2=>by
 simp only[Go.Rf.mrg,ZV h1,h2,Ic,cond_false]
theorem dR.hi{nl:Nat}{S:List Nat}{f g:Env}{d:Nat}{v:Value}(hd:Nat.ble nl d=true)(h:dR nl S f g):dR nl S f (bz g d v):=fun s h1 h2=>by
 have:=Dy hd;rw[lv _ _ ab];exact h s h1 h2
theorem dR.one{nl:Nat}{S:List Nat}{f g:Env}{d:Nat}{v:Value}(hd:Zv S d=true)(h:dR nl S f g):dR nl S f (bz g d v):=fun s h1 h2=>by
 rw[lv _ _ (fun e=>by subst e;rw[hd]at h2;cases h2)];exact h s h1 h2
theorem dR.set{nl:Nat}{S:List Nat}{f g:Env}{d:Nat}{v:Value}(hv:f d=v)(h:dR nl (d::S) f g):dR nl S f (bz g d v):=fun s h1 h2=>by
 by_cases e:s=d
 .subst e;rw[iY,hv]
 .rw [lv _ _ e];refine h s h1 ?_;have:Nat.beq d s=false:=by
   cases hb:Nat.beq d s
   .rfl
   .exact absurd (Hg hb).symm e
  simp[Zv,this,h2]
def R5(S:List Nat):Nat->Bool
 |0=>true
 |k+1=>Zv S k&&R5 S k
theorem dR.all{nl:Nat}{S:List Nat}{f g:Env}(h:R5 S nl=true):dR nl S f g:=fun s h1 h2=>by
 exfalso
 induction nl with
 |zero=>omega
 |succ k ih=>
  simp only[R5,CV]at h;by_cases e:s=k
  .subst e;rw[h.1]at h2;cases h2
  .exact ih h.2 ab
theorem dR.eq{nl:Nat}{S:List Nat}{f g:Env}(h:dR nl S f g):g=Go.Rf.mrg nl S f g:=by
 funext s
 unfold Go.Rf.mrg;by_cases h1:s<nl
 .rw [ZV h1];cases h2:Zv S s with
  |true=>rfl
  |false=>rw[h s h1 h2];rfl
 .rw [Jdl h1];rfl
section
variable{P:Program}{Q:Exit->Act->World->Prop}{n:Nat}{f:Env}{w:World}
theorem Jh{σ:Type}{c:Code}(nl:Nat)(S:List Nat)(I:σ->Env->World->Prop)(μ:σ->Nat)(s:σ)(h0:I s f w)
 (hr:∀s g u,I s (mrg nl S f g) u->c.wp P (Exit.then (fun a' w'=>∃s' g',a'=A n g'/\(dR nl S f g'/\I s' g' w')/\μ s'<μ s) Q) (A n (mrg nl S f g)) u):(Code.loop c).wp P Q (A n f) w:=
 Jbg (fun s g u=>dR nl S f g/\I s g u) μ s ⟨dR.refl _ _ _,h0⟩ fun s g u ⟨hk,hI⟩=>by
  have e:=hk.eq;rw[e]at hI ⊢;exact hr s g u hI
theorem Jc{σ:Type}{nl:Nat}{S:List Nat}{f0:Env}{I:σ->Env->World->Prop}{μ:σ->Nat}{s:σ}(s':σ)(hk:dR nl S f0 f)(hI:I s' f w)(hm:μ s'<μ s):
 Exit.then (fun a' w'=>∃s' g',a'=A n g'/\(dR nl S f0 g'/\I s' g' w')/\μ s'<μ s) Q .normal (A n f) w:=⟨s',f,rfl,⟨hk,hI⟩,hm⟩
end
end
/-! ### a R6 AK and end -/
instance igf:Dfs:=⟨[]⟩
def PQ:Nat->List Value->Env
 |_,[]=>fun _=>undef
 |i,v::l=>bz (PQ (i+1) l) i v
theorem Jgo(l:List Value):∀i k,PQ i l (i+k)=l.getD k undef:=by
 induction l with
 |nil=>intro i k;simp[PQ]
 |cons v l ih=>
  intro i k;cases k with
  |zero=>simp[PQ,iY]
  |succ k=>
   rw[PQ,lv _ _ ab];have:=ih (i+1) k;rw[show i+(k+1)=i+1+k by omega,this];simp
theorem JeL{fn:Func}{l:List Value}{n:Nat}(hn:fn.ntmps=n)(hl:Nat.ble l.length n=true):
 ({tmps:=l.toArray++Array.replicate (fn.ntmps-l.toArray.size) undef,defers:=[]}:Act)=A n (PQ 0 l):=by
 have hle:=Dy hl;show Act.mk _ _=Act.mk _ _
 congr 1
 apply FK;intro i;show _=(A n (PQ 0 l)).tmps[i]?;rw[JcR];have hg:=Jgo l 0 i;rw[Di]at hg;rw[hg,hn];by_cases hi:i<l.length
 .rw [Ed tY,Cb ab];simp[List.getD,hi]
 .rw [Ia aZ];simp only[Ea,Array.getElem?_replicate];by_cases h2:i<n
  .rw [Cb ab,Cb h2];simp[List.getD,ED (by omega:l.length<=i)]
  .rw [SH ab,SH h2]
theorem enter{P:Program}{tF:FuncId}{fn:Func}{c:Code}{l:List Value}{w:World}{R:Ending->World->Prop}{n:Nat}
 (hf:P.funcs[tF]?=some fn) (hb:fn.body=some c) (hn:fn.ntmps=n) (hl:Nat.ble l.length n=true)
 (h:c.wp P (bodyPost P fn R) (A n (PQ 0 l)) w):Calls P tF l.toArray w R:=by
 refine calls_of_wp hf hb ?_;rw[JeL hn hl];exact h
section
variable{P:Program}{fn:Func}{R:Ending->World->Prop}{n:Nat}{f:Env}{w:World}
theorem JjV(hr:fn.results=#[])(h:R (.returned (.tuple #[])) w):bodyPost P fn R .ret (A n f) w:=
 ⟨rfl,.tuple #[],by simp[results,hr],h⟩
theorem WI(hr:fn.results=#[])(h:R (.returned (.tuple #[])) w):bodyPost P fn R .normal (A n f) w:=
 ⟨rfl,.tuple #[],by simp[results,hr],h⟩
theorem TF{t:Nat}{v:Value}(hr:fn.results=#[.tmp t])(hv:ev n f (.tmp t)=v)(h:R (.returned v) w):bodyPost P fn R .ret (A n f) w:=
 ⟨rfl,v,by
  have e:(A n f).tmps.getD t undef=v:=by rw[Wl];exact hv
  rw[DU]at e;simp[results,hr,e],h⟩
theorem JkC{t u:Nat}{v x:Value}(hr:fn.results=#[.tmp t,.tmp u])(hv:ev n f (.tmp t)=v)(hx:ev n f (.tmp u)=x)
 (h:R (.returned (.tuple #[v,x])) w):bodyPost P fn R .ret (A n f) w:=
 ⟨rfl,.tuple #[v,x],by
  have e:(A n f).tmps.getD t undef=v:=by rw[Wl];exact hv
  have e2:(A n f).tmps.getD u undef=x:=by rw[Wl];exact hx
  rw[DU]at e e2;simp[results,hr,e,e2],h⟩
theorem JjU{t ty:Nat}{v:Value}{a:Addr}(hr:fn.results=#[.cell t ty])(hv:ev n f (.tmp t)=.pointer (some a))(hl:(loadVar ty a).run P w=.ok v w)
 (h:R (.returned v) w):bodyPost P fn R .ret (A n f) w:=
 ⟨rfl,v,by
  have e:(A n f).tmps.getD t undef=.pointer (some a):=by rw[Wl];exact hv
  rw[DU]at e;simp[results,hr,e,asAddr,hl],h⟩
end
end
section
open Go.RowKit
structure Fr (S:List Nat) (w w':World):Prop where
 os:w'.os=w.os
 tape:w'.tape=w.tape
 output:w'.output=w.output
 size:w.heap.size<=w'.heap.size
 block:∀k,k<w.heap.size->k∉S->w'.heap[k]?=w.heap[k]?
 draw:w.drawn<=w'.drawn
theorem Fr.refl(S:List Nat)(w:World):Fr S w w:=⟨rfl,rfl,rfl,SX _,fun _ _ _=>rfl,SX _⟩
theorem Fr.trans{S T:List Nat}{a b c:World}(h:Fr S a b)(k:Fr T b c)(hT:∀x∈T,x∈S\/a.heap.size<=x):Fr S a c:=
 ⟨k.os.trans h.os,k.tape.trans h.tape,k.output.trans h.output,CG h.size k.size,fun i hi hS=>
  (k.block i (SV hi h.size) (fun e=>by rcases hT i e with h'|h';exact hS h';omega)).trans (h.block i hi hS),CG h.draw k.draw⟩
theorem Fr.Jb{S:List Nat}{a b c:World}(h:Fr S a b)(k:Fr [] b c):Fr S a c:=h.trans k (fun _ h=>by cases h)
theorem Fr.mono{S T:List Nat}{a b:World}(h:Fr S a b)(hT:∀x∈S,x∈T\/a.heap.size<=x):Fr T a b:=
 ⟨h.os,h.tape,h.output,h.size,fun i hi hS=>h.block i hi (fun e=>by rcases hT i e with h'|h';exact hS h';omega),h.draw⟩
theorem Fr.below{w w':World}(h:Fr [] w w'):Below w.heap.size w w':=⟨h.os,h.tape,h.output,h.size,fun k hk=>h.block k hk ap⟩
theorem Fr.drew(S:List Nat)(w:World):Fr S w w.drew:=⟨rfl,rfl,rfl,SX _,fun _ _ _=>rfl,Nat.le_succ _⟩
theorem Fr.alloc(S:List Nat)(w:World)(o:Obj):Fr S w (w.alloc o):=
 ⟨rfl,rfl,rfl,by simp,fun k hk _=>Below.heap_alloc _ _ _ hk,SX _⟩
theorem Fr.setCell(w:World)(a:Addr)(v:Value):Fr [a.block] w (w.setCell a v):=
 ⟨rfl,rfl,rfl,by simp[World.setCell],fun k _ h=>Below.heap_setCell _ _ _ _ mE,SX _⟩
theorem Fr.cell{S:List Nat}{w w':World}(h:Fr S w w'){a:Addr}(hb:a.block<w.heap.size)(hS:a.block∉S):w'.cell? a=w.cell? a:=
 World.cell?_of_block (w:=w) (h.block _ hb hS)
/-! ### a block known whole -/
def aG(w:World)(b:Nat)(l:List Value)(t:Nat):Prop:=w.heap[b]?=some (.cells l.toArray t (0,0))
theorem aG.lt{w:World}{b t:Nat}{l:List Value}(h:aG w b l t):b<w.heap.size:=lt_of_block h
theorem aG.tr{S:List Nat}{w w':World}{b t:Nat}{l:List Value}(h:aG w b l t)(hf:Fr S w w')(hS:b∉S):aG w' b l t:=by
 have:=hf.block b h.lt hS;unfold aG at*;rw[this];exact h
theorem aG.tr0{w w':World}{b t:Nat}{l:List Value}(h:aG w b l t)(hf:Fr [] w w'):aG w' b l t:=h.tr hf ap
theorem aG.cell{w:World}{b t o:Nat}{l:List Value}{v:Value}(h:aG w b l t)(ho:l[o]?=some v):w.cell? ⟨b,o,none⟩=some v:=by
 unfold aG at h;simp[World.cell?,h,ho]
theorem aG.free{w:World}{b t o:Nat}{l:List Value}(h:aG w b l t):w.frozen? ⟨b,o,none⟩=false:=by
 unfold aG at h;simp[World.frozen?,h]
theorem aG.set{w:World}{b t o:Nat}{l:List Value}{v:Value}(h:aG w b l t):aG (w.setCell ⟨b,o,none⟩ v) b (l.set o v) t:=by
 have aC:=h.lt;unfold aG at*;have h':w.heap[b]=.cells l.toArray t (0,0):=by simpa[Fh aC]using h
 show(w.heap.modify b _)[b]?=_;rw[Fh (by simpa using aC),Array.getElem_modify_self,h'];simp
theorem aG.new(w:World)(l:List Value)(t:Nat):aG (w.alloc (.cells l.toArray t)) w.heap.size l t:=heap_alloc_new w _
theorem aG.ne{w:World}{a b s t:Nat}{l m:List Value}(h:aG w a l s)(k:aG w b m t)(ai:s≠t):a≠b:=by
 intro e;subst e;unfold aG at*;rw[h]at k;simp at k;exact ai k.2
theorem ta(a:Addr):a.add 0=a:=by simp[Addr.add]
theorem add_lit(b o i:Nat):(⟨b,o,none⟩:Addr).add i=⟨b,o+i,none⟩:=by unfold Addr.add;split<;>simp_all
theorem fB(a:Addr)(i:Nat):(a.add i).block=a.block:=by unfold Addr.add;split<;>rfl
theorem add_add(a:Addr)(i j:Nat):(a.add i).add j=a.add (i+j):=by
 unfold Addr.add;by_cases hi:i=0
 .subst hi;simp
 .by_cases hj:j=0
  .subst hj;simp[hi]
  .simp [hi,hj];omega
/-! ### a slice rM can be read: m elements, tE cells ys -/
def Src(w:World)(v:Value)(m:Nat)(ys:List Value):Prop:=
 ∃ao c,v=.slice ao m c/\m<=c/\(ao=none->m=0/\c=0/\ys=[])/\∀ad,ao=some ad->∀j u,ys[j]?=some u->w.cell? (ad.add j)=some u
theorem Src.tr{S:List Nat}{w w':World}{v:Value}{m:Nat}{ys:List Value}(h:Src w v m ys)(hf:Fr S w w')(hS:∀ad n c,v=.slice (some ad) n c->0<ys.length->ad.block∉S):Src w' v m ys:=by
 obtain⟨ao,c,rfl,hm,hn,hc⟩:=h;refine⟨ao,c,rfl,hm,hn,fun ad ha j u hu=>?_⟩;have h0:=hc ad ha j u hu;have hl:0<ys.length:=by have:=(Df.1 hu).1;omega
 rw[hf.cell (World.block_lt_of_cell? w _ h0) (by rw[fB];exact hS ad m c (by rw[ha]) hl)];exact h0
theorem Src.tr0{w w':World}{v:Value}{m:Nat}{ys:List Value}(h:Src w v m ys)(hf:Fr [] w w'):Src w' v m ys:=h.tr hf ap
theorem Src.nil(w:World):Src w (.slice none 0 0) 0 []:=⟨none,0,rfl,SX _,fun _=>⟨rfl,rfl,rfl⟩,fun _ h=>by cases h⟩
theorem Src.lt{w:World}{m c:Nat}{ad:Addr}{ys:List Value}(h:Src w (.slice (some ad) m c) m ys)(hl:0<ys.length):ad.block<w.heap.size:=by
 obtain⟨ao,c',e,_,_,hc⟩:=h;simp only[Value.slice.injEq]at e;have:=hc ad e.1.symm 0 ys[0] (by simp[hl]);exact(fB ad 0)▸World.block_lt_of_cell? w _ this
theorem Src.cut{w:World}{ao:Option Addr}{m c j k size:Nat}{ys:List Value}(h:Src w (.slice ao m c) m ys)(hl:ys.length=m*size)(R7:j<=k)(hk:k<=m):
 Src w (.slice (if c=j then ao else ao.map (·.add (j*size))) (k-j) (c-j)) (k-j) ((ys.take (k*size)).drop (j*size)):=by
 obtain⟨pS,c',e,hm,hn,hc⟩:=h;simp only[Value.slice.injEq]at e;obtain⟨rfl,_,rfl⟩:=e;refine⟨_,_,rfl,by omega,?_,?_⟩
 .intro e0;have yY:ao=none\/(c=j/\ao=none):=by
   split at e0
   .exact .inl e0
   .left;cases ao<;>simp_all
  have:ao=none:=by rcases yY with h|h;exact h;exact h.2
  obtain⟨h1,h2,h3⟩:=hn this;subst h3;refine⟨by omega,by omega,by simp⟩
 .intro ad e0 i u hu;rw[EN,FP]at hu
  split at hu
  .rename_i aC
   split at e0
   .rename_i hcj;have:k=j:=by omega
    subst this;omega
   .obtain ⟨a0,R1,tw⟩:=DK.1 e0;subst tw;rw[add_add];exact hc a0 R1 _ u hu
  .cases hu
def mn(v:Value)(ys:List Value)(S:List Nat):Prop:=∀ad n c,v=.slice (some ad) n c->0<ys.length->ad.block∉S
theorem Src.off{w:World}{v:Value}{m:Nat}{ys:List Value}{S:List Nat}(h:Src w v m ys)(hS:∀k∈S,w.heap.size<=k):mn v ys S:=by
 intro ad n c e hl hm;subst e;obtain⟨ao,c',e,_,_,hc⟩:=h;simp only[Value.slice.injEq]at e;have h0:=hc ad e.1.symm 0 ys[0] (by simp[hl]);have:=World.block_lt_of_cell? w _ h0;rw[fB]at this;have:=hS _ hm;omega
theorem mn.mono{v:Value}{ys:List Value}{S T:List Nat}{w:World}{m:Nat}(hs:Src w v m ys)(h:mn v ys S)(hT:∀k∈T,k∈S\/w.heap.size<=k):mn v ys T:=by
 intro ad n c e hl hm;rcases hT _ hm with h'|h'
 .exact h ad n c e hl h'
 .exact hs.off (S:=[ad.block]) (by simpa using h') ad n c e hl ap
/-! ### a slice rM tE call igg -/
def bx(w:World)(e size:Nat)(v:Value)(n:Nat)(xs:List Value):Prop:=w.ownsRow 0 e size v n xs
def ag(v:Value):List Nat:=v.ownBlock.toList
theorem bx.nil(w:World)(e size:Nat):bx w e size (.slice none 0 0) 0 []:=World.ownsRow_nil w 0 e size
theorem bx.len{w:World}{e size n:Nat}{v:Value}{xs:List Value}(h:bx w e size v n xs):xs.length=n*size:=h.1
theorem bx.lt{w:World}{e size n:Nat}{v:Value}{xs:List Value}(h:bx w e size v n xs):∀k∈ag v,k<w.heap.size:=by
 intro k hk;simp only[ag,Option.mem_toList]at hk;exact(World.ownsRow.lt h k hk).2
theorem bx.tr{S:List Nat}{w w':World}{e size n:Nat}{v:Value}{xs:List Value}(h:bx w e size v n xs)(hf:Fr S w w')(hS:∀k∈ag v,k∉S):bx w' e size v n xs:=by
 refine⟨h.1,?_⟩;rcases h.2 with hn|⟨g,cap,eS,rfl,hb,sa,r⟩
 .exact .inl hn
 .refine .inr ⟨g,cap,eS,rfl,hb,?_,r⟩;rw[hf.block g (DI.1 sa).1 (hS g oz)];exact sa
theorem bx.tr0{w w':World}{e size n:Nat}{v:Value}{xs:List Value}(h:bx w e size v n xs)(hf:Fr [] w w'):bx w' e size v n xs:=h.tr hf ap
theorem bx.src{w:World}{e size n:Nat}{v:Value}{xs:List Value}(h:bx w e size v n xs):Src w v n xs:=by
 rcases h.2 with⟨rfl,rfl⟩|⟨g,cap,eS,rfl,_,sa,kY,_⟩
 .have:xs=[]:=Dj (by simpa using h.1);subst this;exact Src.nil w
 .refine ⟨some ⟨g,0,none⟩,cap,rfl,kY,fun e=>(by cases e),fun ad ha=>?_⟩;simp only[Sj]at ha;subst ha;exact World.ownsRow.cells h (g:=g) rfl
theorem bx.ne{w:World}{e size n b t:Nat}{v:Value}{xs l:List Value}(h:bx w e size v n xs)(hb:aG w b l t)(het:e≠t):∀k∈ag v,k≠b:=by
 intro k hk ug;subst ug;rcases h.2 with⟨rfl,rfl⟩|⟨g,cap,eS,rfl,_,sa,_⟩
 .simp [ag,Value.ownBlock]at hk
 .simp [ag,Value.ownBlock]at hk;subst hk;unfold aG at hb;rw[sa]at hb;simp at hb;exact het hb.2
theorem bx.slice{w:World}{e size n:Nat}{v:Value}{xs:List Value}(h:bx w e size v n xs):∃ao c,v=.slice ao n c:=by
 rcases h.2 with⟨rfl,rfl⟩|⟨g,cap,eS,rfl,_⟩
 .exact ⟨_,_,rfl⟩
 .exact ⟨_,_,rfl⟩
theorem bx.one{w:World}{e size n:Nat}{v:Value}{xs:List Value}(h:bx w e size v n xs):v.oneCell'=true:=by
 obtain⟨ao,c,rfl⟩:=h.slice;rfl
theorem Src.one{w:World}{m:Nat}{v:Value}{xs:List Value}(h:Src w v m xs):v.oneCell'=true:=by
 obtain⟨ao,c,rfl,_⟩:=h;rfl
/-! ### idT lay there before keeps -/
theorem aG.old{S:List Nat}{w w':World}{b t:Nat}{l:List Value}(h:aG w b l t)(hf:Fr S w w')(hS:∀k∈S,w.heap.size<=k):aG w' b l t:=h.tr hf (fun hm=>by have:=hS b hm;have:=h.lt;omega)
theorem bx.old{S:List Nat}{w w':World}{e size n:Nat}{v:Value}{xs:List Value}(h:bx w e size v n xs)(hf:Fr S w w')(hS:∀k∈S,w.heap.size<=k):bx w' e size v n xs:=
 h.tr hf (fun k hk hm=>by have:=hS k hm;have:=h.lt k hk;omega)
theorem Src.old{S:List Nat}{w w':World}{v:Value}{m:Nat}{ys:List Value}(h:Src w v m ys)(hf:Fr S w w')(hS:∀k∈S,w.heap.size<=k):Src w' v m ys:=h.tr hf (h.off hS)
/-! ### append, ibk tE source -/
class RowT (P:Program) (t:Nat) (e size bytes:outParam Nat):Prop where
 und:P.underlying t=some (.slice e)
 inf:∃i z,P.info? e=some i/\i.zero=some z/\i.size=size/\i.bytes=bytes/\z.cells.size=size
 pos:0<size
structure Gives (P:Program) (w:World) (size:Nat) (x:Value) (m:Nat) (ys:List Value):Prop where
 len:ys.length=m*size
 lenOf:∀u:World,(Builtin.lenOf x).run P u=.ok m u
 cells:∀u:World,(∀a,u.cell? a=w.cell? a)->(Builtin.firstCells size m x).run P u=.ok ys.toArray u
 one:∀y∈ys,y.oneCell'=true
theorem Src.gives{P:Program}{w:World}{v:Value}{m size:Nat}{ys:List Value}(h:Src w v m ys)(hl:ys.length=m*size)(h1:∀y∈ys,y.oneCell'=true):Gives P w size v m ys:=by
 obtain⟨ao,c,rfl,hm,hn,hc⟩:=h;refine⟨hl,fun u=>by simp[Builtin.lenOf],fun u hu=>?_,h1⟩;cases ao with
 |none=>
  obtain⟨rfl,rfl,rfl⟩:=hn rfl;simp[Builtin.firstCells]
 |some ad=>exact run_firstCells_some u size m ad m c ys hl (fun j y hy=>by rw[hu];exact hc ad rfl j y hy)
theorem JdA{P:Program}{t xt ty e size bytes:Nat}[R:RowT P t e size bytes]{w:World}{v x:Value}{n m:Nat}{xs ys:List Value}
 (Y4:(∃e',P.underlying xt=some (.slice e'))\/P.underlying xt=some .string) (cB:bx w e size v n xs) (hx:Gives P w size x m ys) (jW:n+m<=maxLen) (hb:(n+m)*bytes<=140737488355328):
 ∃v' w',(Builtin.append_ #[t,xt] ty #[v,x]).run P w=.ok v' w'/\bx w' e size v' (n+m) (xs++ys)/\Fr (ag v) w w'/\(∀k∈ag v',k∈ag v\/w.heap.size<=k)/\
  (v'=.slice none 0 0↔v=.slice none 0 0/\m=0):=by
 obtain⟨i,z,hi,hz,rfl,rfl,sc⟩:=R.inf;have ht:=R.und;have Tz:n+m<=9223372036854775807:=by simp only[maxLen]at jW;omega
 have hlen:(xs++ys).length=(n+m)*i.size:=by rw[Sm,cB.1,hx.len,Nat.add_mul]
 have hm0:m=0->ys=[]:=fun e=>Dj (by rw[hx.len,e];simp)
 have qQ:¬(9223372036854775807<((n:Int)+(m:Int))):=by omega
 have grown:∀(old:Nat),
  bx (w.drew.alloc (.cells (xs.toArray++ys.toArray++Builtin.zeroCells z.cells (grownCap w (n+m) old e-(n+m))) e)) e i.size
   (.slice (some ⟨w.heap.size,0,none⟩) (n+m) (grownCap w (n+m) old e)) (n+m) (xs++ys)/\
  Fr (ag v) w (w.drew.alloc (.cells (xs.toArray++ys.toArray++Builtin.zeroCells z.cells (grownCap w (n+m) old e-(n+m))) e)):=by
  intro old;have hJ:=grownCap_ge w (n+m) old e;have gO:grownCap w (n+m) old e<=maxLen:=grownCap_le_maxLen w (n+m) old e jW;refine⟨⟨hlen,.inr ⟨w.heap.size,_,_,rfl,SL _,heap_alloc_new w.drew _,hJ,gO,?_,?_⟩⟩,(Fr.drew _ w).Jb (Fr.alloc [] _ _)⟩
  .simp only[Ik,Ea,size_zeroCells,sc,cB.1,hx.len,<-Nat.add_mul]
   congr 1
   omega
  .simp only[IJ,List.append_assoc];rw[<-List.append_assoc,<-hlen];exact EW
 have hfx:=hx.cells w (fun _=>rfl);have jM:=hx.cells w.drew (fun _=>rfl);have Y5:=hx.lenOf w;rcases cB.2 with⟨rfl,rfl⟩|⟨g,cap,eS,rfl,hbg,hg,kY,gO,fG,pL⟩
 .have hxs:xs=[]:=Dj (by simpa using cB.1);subst hxs;by_cases hm:m=0
  .have jK:=hm0 hm;subst hm;subst jK;refine⟨.slice none 0 0,w,?_,bx.nil w e i.size,Fr.refl _ _,fun k hk=>by simp[ag,Value.ownBlock]at hk,by simp⟩;rcases Y4 with⟨e',hd⟩|hd<;>simp[Builtin.append_,run_underlying ht,run_underlying hd,sizeOf,typeInfo,hi,Y5,hfx]
  .have ye:¬(281474976710656<Builtin.nextslicecap m 0*i.bytes):=by
    have:=growslice_fits (bytes:=i.bytes) (show 0<m by omega) Ag;omega
   have yf:=grown 0;simp only[Di,CO,Array.empty_append]at yf qQ ⊢;refine⟨_,_,?_,yf.1,yf.2,fun k hk=>by simp[ag,Value.ownBlock]at hk;omega,by simp[hm]⟩;have ibl:¬(9223372036854775807<(m:Int)):=by omega
   rcases Y4 with⟨e',hd⟩|hd<;>simp[Builtin.append_,run_underlying ht,run_underlying hd,sizeOf,typeInfo,zeroValue,hi,hz,Y5,jM,hm,ibl,ye,Question.forced,run_firstCells_none,newRow,grownCap]
 .by_cases lB:n+m<=cap
  .have kN:n*i.size+ys.length<=eS.size:=by rw[hx.len,fG,<-Nat.add_mul];exact Em _ lB
   have ai:=run_storeCells_at P g (n*i.size) e ys 0 eS w hg (by simpa using kN) hx.one;simp only[En]at ai;have hr:(Builtin.append_ #[t,xt] ty #[.slice (some ⟨g,0,none⟩) n cap,x]).run P w=.ok (.slice (some ⟨g,0,none⟩) (n+m) cap) (w.setRow g (eS.toList.take (n*i.size)++ys++eS.toList.drop (n*i.size+ys.length)).toArray):=by
    rcases Y4 with⟨e',hd⟩|hd<;>simp[Builtin.append_,run_underlying ht,run_underlying hd,sizeOf,typeInfo,hi,Y5,lB,hfx,Addr.add_lit,ai]
   refine⟨_,_,hr,⟨hlen,.inr ⟨g,cap,_,rfl,hbg,setRow_heap w g eS _ e _ hg,lB,gO,?_,?_⟩⟩,⟨rfl,rfl,rfl,by simp,fun k _ hk=>setRow_other w g k _ (fun e=>hk Ykj),SX _⟩,fun k hk=>.inl hk,by simp⟩
   .simp only[Ea,Sm,C9,Dn,Es];omega
   .rw [pL,<-hlen];exact EW
  .have holds:∀j u,xs[j]?=some u->w.cell? ((⟨g,0,none⟩:Addr).add j)=some u:=World.ownsRow.cells cB (g:=g) rfl;have Y6:=run_firstCells_some (P:=P) w.drew i.size n ⟨g,0,none⟩ n cap xs cB.1 (by simpa using holds);have ye:¬(281474976710656<Builtin.nextslicecap (n+m) cap*i.bytes):=by
    have:=growslice_fits (bytes:=i.bytes) (show cap<n+m by omega) hb;omega
   have yf:=grown cap;refine⟨_,_,?_,yf.1,yf.2,fun k hk=>by simp[ag,Value.ownBlock]at hk;exact .inr ab,by simp⟩;exact Ybu
end
section
open Go.RowKit
class IntT (P:Program) (t:Nat) (k:outParam IntKind):Prop where u:P.underlying t=some (.int k)
class StrT (P:Program) (t:Nat):Prop where u:P.underlying t=some .string
class SliceT (P:Program) (t:Nat) (e:outParam Nat):Prop where u:P.underlying t=some (.slice e)
def JgI:TypeDesc->Bool|.struct _=>true|.array _ _=>true|_=>false
class OneT (P:Program) (t:Nat):Prop where
 agg:∃d,P.underlying t=some d/\JgI d=false
 size:∃i,P.info? t=some i/\i.size=1
class AggT (P:Program) (t:Nat) (n:outParam Nat):Prop where
 agg:∃d,P.underlying t=some d/\JgI d=true
 size:∃i,P.info? t=some i/\i.size=n
class ZeroT (P:Program) (t:Nat) (z:outParam Value):Prop where z:∃i,P.info? t=some i/\i.zero=some z
class FieldT (P:Program) (s i:Nat) (off:outParam Nat):Prop where
 f:∃fs fd j,P.underlying s=some (.struct fs)/\fs[i]?=some fd/\fd.offset=off/\P.info? fd.type=some j/\j.size≠0
class FnT (P:Program) (k:Nat):Prop where
 f:∃fn,P.funcs[k]?=some fn/\(fn.name== "runtime.NumGoroutine")=false/\fn.body.isNone=false
theorem Nh(a b:List UInt8):(a==b)=decide (a=b):=by
 by_cases h:a=b
 .simp [h]
 .simp [h]
theorem ZI{P:Program}{t:Nat}{d:TypeDesc}(h:P.underlying t=some d)(w:World):(isAgg t).run P w=.ok (JgI d) w:=by
 simp only[isAgg,Sem.run_bind,run_underlying h,Result.andThen_ok];cases d<;>rfl
theorem OneT.load{P:Program}{t:Nat}[o:OneT P t](a:Addr){w:World}{v:Value}(hc:w.cell? a=some v):(loadVar t a).run P w=.ok v w:=by
 obtain⟨d,hd,ha⟩:=o.agg;simp only[loadVar,Sem.run_bind,ZI hd,ha,Result.andThen_ok,CW,SS];simp[load,Sem.run,hc]
theorem AggT.load{P:Program}{t n:Nat}[o:AggT P t n](a:Addr){w:World}(l:List Value)(hl:l.length=n)(hc:∀j u,l[j]?=some u->w.cell? (a.add j)=some u):(loadVar t a).run P w=.ok (.agg l.toArray) w:=by
 obtain⟨d,hd,ha⟩:=o.agg;obtain⟨i,hi,hs⟩:=o.size;have:=run_loadCells_list (P:=P) w a l hc;simp[loadVar,ZI hd,ha,sizeOf,typeInfo,hi,hs,<-hl,this]
section
variable{D:Dfs}
variable{P:Program}{ops:Array Oper}{Q:Exit->Act->World->Prop}{rest:List Oper}{n:Nat}{f:Env}{w:World}
variable{d:Nat}{ty:TypeId}{ps:String}{af:Array Edge}{x y:Operand}{t t2:Nat}
theorem MR{v:Value}(hx:ev n f x=v)(h:wpList P ops Q rest (A n (bz f d v)) w):wpList P ops Q (⟨some d,.move x,ty,ps,af,none⟩::rest) (A n f) w:=JR (by simp[execOp,hx]) h
theorem ZG{v:Value}(hx:ev n f x=v)(h:wpList P ops Q rest (A n (bz f d v)) w):wpList P ops Q (⟨some d,.assign x,ty,ps,af,none⟩::rest) (A n f) w:=JR (by simp[execOp,hx]) h
theorem MQ{c:Operand}{b:Bool}{v:Value}(hc:ev n f c=.bool b)(hv:ev n f (cond b x y)=v)(h:wpList P ops Q rest (A n (bz f d v)) w):wpList P ops Q (⟨some d,.pick c x y,ty,ps,af,none⟩::rest) (A n f) w:=
 JR (v:=v) (by cases b<;>simp_all [execOp,asBool]) h
theorem Vy{a:Addr}(hx:ev n f x=.pointer (some a))(h:wpList P ops Q rest (A n (bz f d (.pointer (some a)))) w):wpList P ops Q (⟨some d,.nilCheck x,ty,ps,af,none⟩::rest) (A n f) w:=
 JR (by simp[execOp,hx]) h
theorem Ku{s i off:Nat}{a:Addr}[F:FieldT P s i off](hx:ev n f x=.pointer (some a))(h:wpList P ops Q rest (A n (bz f d (.pointer (some (a.add off))))) w):
 wpList P ops Q (⟨some d,.fieldAddr s x i,ty,ps,af,none⟩::rest) (A n f) w:=by
 obtain⟨fs,fd,j,h1,h2,h3,h4,h5⟩:=F.f;exact JR (by simp[execOp,hx,Instr.fieldAt,run_underlying h1,h2,Instr.sureAddr,fieldPlace,sizeOf,typeInfo,h4,h5,h3]) h
theorem Jfl{s i off b o:Nat}[F:FieldT P s i off](hx:ev n f x=.pointer (some ⟨b,o,none⟩))(h:wpList P ops Q rest (A n (bz f d (.pointer (some ⟨b,o+off,none⟩)))) w):
 wpList P ops Q (⟨some d,.fieldAddr s x i,ty,ps,af,none⟩::rest) (A n f) w:=by
 refine Ku hx ?_;rw[add_lit];exact h
theorem Gf{s i off b:Nat}[F:FieldT P s i off](hx:ev n f x=.pointer (some ⟨b,0,none⟩))(h:wpList P ops Q rest (A n (bz f d (.pointer (some ⟨b,off,none⟩)))) w):
 wpList P ops Q (⟨some d,.fieldAddr s x i,ty,ps,af,none⟩::rest) (A n f) w:=by
 refine Jfl hx ?_;rw[Di];exact h
/-! arithmetic: tE ibm ibn 'hr' ieX tE wrap igh where tE bounds are known -/
theorem XG{k:IntKind}{a b r:Int}(hx:ev n f x=.int k a)(hy:ev n f y=.int k b)(hr:k.wrap (a+b)=r)(h:wpList P ops Q rest (A n (bz f d (.int k r))) w):
 wpList P ops Q (⟨some d,.binOp .add t x y t2,ty,ps,af,none⟩::rest) (A n f) w:=JR Yjv h
theorem XZ{k:IntKind}{a b r:Int}(hx:ev n f x=.int k a)(hy:ev n f y=.int k b)(hr:k.wrap (a-b)=r)(h:wpList P ops Q rest (A n (bz f d (.int k r))) w):
 wpList P ops Q (⟨some d,.binOp .sub t x y t2,ty,ps,af,none⟩::rest) (A n f) w:=JR Yjv h
theorem LY{k:IntKind}{a b r:Int}(hx:ev n f x=.int k a)(hy:ev n f y=.int k b)(hr:k.wrap (a*b)=r)(h:wpList P ops Q rest (A n (bz f d (.int k r))) w):
 wpList P ops Q (⟨some d,.binOp .mul t x y t2,ty,ps,af,none⟩::rest) (A n f) w:=JR Yjv h
theorem LX{k:IntKind}{a b r:Int}(hx:ev n f x=.int k a)(hy:ev n f y=.int k b)(h0:¬b=0)(hr:k.wrap (a.tdiv b)=r)(h:wpList P ops Q rest (A n (bz f d (.int k r))) w):
 wpList P ops Q (⟨some d,.binOp .quo t x y t2,ty,ps,af,none⟩::rest) (A n f) w:=JR (by simp[execOp,eqGuard,binOp,Op.intDiv,hx,hy,h0,hr]) h
theorem Jdt{k:IntKind}{a b r:Int}(hx:ev n f x=.int k a)(hy:ev n f y=.int k b)(h0:¬b=0)(hr:a.tmod b=r)(h:wpList P ops Q rest (A n (bz f d (.int k r))) w):
 wpList P ops Q (⟨some d,.binOp .rem t x y t2,ty,ps,af,none⟩::rest) (A n f) w:=JR (by simp[execOp,eqGuard,binOp,Op.intDiv,hx,hy,h0,hr]) h
theorem Jne{k:IntKind}{a b r:Int}(hx:ev n f x=.int k a)(hy:ev n f y=.int k b)(hr:k.wrap ((BitVec.ofInt k.bits a&&& BitVec.ofInt k.bits b).toNat:Int)=r)(h:wpList P ops Q rest (A n (bz f d (.int k r))) w):
 wpList P ops Q (⟨some d,.binOp .and t x y t2,ty,ps,af,none⟩::rest) (A n f) w:=JR Ymt h
theorem Jkz{k:IntKind}{a b r:Int}(hx:ev n f x=.int k a)(hy:ev n f y=.int k b)(hr:k.wrap ((BitVec.ofInt k.bits a|||BitVec.ofInt k.bits b).toNat:Int)=r)(h:wpList P ops Q rest (A n (bz f d (.int k r))) w):
 wpList P ops Q (⟨some d,.binOp .or t x y t2,ty,ps,af,none⟩::rest) (A n f) w:=JR Ymt h
theorem Jh5{k:IntKind}{a b r:Int}(hx:ev n f x=.int k a)(hy:ev n f y=.int k b)(hr:k.wrap ((BitVec.ofInt k.bits a^^^BitVec.ofInt k.bits b).toNat:Int)=r)(h:wpList P ops Q rest (A n (bz f d (.int k r))) w):
 wpList P ops Q (⟨some d,.binOp .xor t x y t2,ty,ps,af,none⟩::rest) (A n f) w:=JR Ymt h
theorem Jh6{k k2:IntKind}{a b r:Int}(hx:ev n f x=.int k a)(hy:ev n f y=.int k2 b)(h0:¬b<0)(hr:k.wrap (a*2^(min b.toNat k.bits))=r)(h:wpList P ops Q rest (A n (bz f d (.int k r))) w):
 wpList P ops Q (⟨some d,.binOp .shl t x y t2,ty,ps,af,none⟩::rest) (A n f) w:=JR (by simp[execOp,eqGuard,binOp,Op.shift,hx,hy,h0,hr]) h
theorem Jfk{k k2:IntKind}{a b r:Int}(hx:ev n f x=.int k a)(hy:ev n f y=.int k2 b)(h0:¬b<0)(hr:a.fdiv (2^(min b.toNat k.bits))=r)(h:wpList P ops Q rest (A n (bz f d (.int k r))) w):
 wpList P ops Q (⟨some d,.binOp .shr t x y t2,ty,ps,af,none⟩::rest) (A n f) w:=JR (by simp[execOp,eqGuard,binOp,Op.shift,hx,hy,h0,hr]) h
theorem Jdw{k:IntKind}{a r:Int}(hx:ev n f x=.int k a)(hr:k.wrap (0-a)=r)(h:wpList P ops Q rest (A n (bz f d (.int k r))) w):
 wpList P ops Q (⟨some d,.unOp .neg t x,ty,ps,af,none⟩::rest) (A n f) w:=JR (by simp only[execOp,Op.unary,Op.intArith,hx,hr];simp) h
theorem Jdv{b:Bool}(hx:ev n f x=.bool b)(h:wpList P ops Q rest (A n (bz f d (.bool (!b)))) w):
 wpList P ops Q (⟨some d,.unOp .not t x,ty,ps,af,none⟩::rest) (A n f) w:=JR (by simp[execOp,Op.unary,hx]) h
theorem Q5{k k0:IntKind}{a r:Int}{src dst:Nat}[S:IntT P src k0][D:IntT P dst k](hx:ev n f x=.int k0 a)(hr:k.wrap a=r)(h:wpList P ops Q rest (A n (bz f d (.int k r))) w):
 wpList P ops Q (⟨some d,.convert src dst x,ty,ps,af,none⟩::rest) (A n f) w:=JR (by simp[execOp,convert,run_underlying S.u,run_underlying D.u,Conv.intToInt,hx,hr]) h
/-! PR: idU where igi ieY -/
theorem Z5{op:BinOp}{v v':Value}{p:Prop}[Decidable p](hx:ev n f x=v)(hy:ev n f y=v')(hr:(do eqGuard op t x y v v';binOp op t v v':Sem Value).run P w=.ok (.bool (decide p)) w)
 (ht:p->wpList P ops Q rest (A n (bz f d (.bool true))) w) (hf:¬p->wpList P ops Q rest (A n (bz f d (.bool false))) w):
 wpList P ops Q (⟨some d,.binOp op t x y t2,ty,ps,af,none⟩::rest) (A n f) w:=by
 by_cases hp:p
 .refine JR (v:=.bool true) ?_ (ht hp);simp only[execOp,hx,hy];rw[Sem.run_bind,hr];simp[hp]
 .refine JR (v:=.bool false) ?_ (hf hp);simp only[execOp,hx,hy];rw[Sem.run_bind,hr];simp[hp]
theorem Vg{k:IntKind}{a b:Int}(hx:ev n f x=.int k a)(hy:ev n f y=.int k b)(ht:a=b->wpList P ops Q rest (A n (bz f d (.bool true))) w)(hf:¬a=b->wpList P ops Q rest (A n (bz f d (.bool false))) w):
 wpList P ops Q (⟨some d,.binOp .eql t x y t2,ty,ps,af,none⟩::rest) (A n f) w:=Z5 hx hy (by simp[eqGuard,binOp,Op.intCmp];rfl) ht hf
theorem Vd{k:IntKind}{a b:Int}(hx:ev n f x=.int k a)(hy:ev n f y=.int k b)(ht:¬a=b->wpList P ops Q rest (A n (bz f d (.bool true))) w)(hf:a=b->wpList P ops Q rest (A n (bz f d (.bool false))) w):
 wpList P ops Q (⟨some d,.binOp .neq t x y t2,ty,ps,af,none⟩::rest) (A n f) w:=
 Z5 (p:=¬a=b) hx hy (by simp[eqGuard,binOp,Op.intCmp,bne];rfl) ht (fun h=>hf (Fz h))
theorem QZ{k:IntKind}{a b:Int}(hx:ev n f x=.int k a)(hy:ev n f y=.int k b)(ht:a<b->wpList P ops Q rest (A n (bz f d (.bool true))) w)(hf:¬a<b->wpList P ops Q rest (A n (bz f d (.bool false))) w):
 wpList P ops Q (⟨some d,.binOp .lss t x y t2,ty,ps,af,none⟩::rest) (A n f) w:=Z5 hx hy Ykg ht hf
theorem Vt{k:IntKind}{a b:Int}(hx:ev n f x=.int k a)(hy:ev n f y=.int k b)(ht:a<=b->wpList P ops Q rest (A n (bz f d (.bool true))) w)(hf:¬a<=b->wpList P ops Q rest (A n (bz f d (.bool false))) w):
 wpList P ops Q (⟨some d,.binOp .leq t x y t2,ty,ps,af,none⟩::rest) (A n f) w:=Z5 hx hy Ykg ht hf
theorem Ve{k:IntKind}{a b:Int}(hx:ev n f x=.int k a)(hy:ev n f y=.int k b)(ht:b<a->wpList P ops Q rest (A n (bz f d (.bool true))) w)(hf:¬b<a->wpList P ops Q rest (A n (bz f d (.bool false))) w):
 wpList P ops Q (⟨some d,.binOp .gtr t x y t2,ty,ps,af,none⟩::rest) (A n f) w:=Z5 hx hy Ykg ht hf
theorem Vf{k:IntKind}{a b:Int}(hx:ev n f x=.int k a)(hy:ev n f y=.int k b)(ht:b<=a->wpList P ops Q rest (A n (bz f d (.bool true))) w)(hf:¬b<=a->wpList P ops Q rest (A n (bz f d (.bool false))) w):
 wpList P ops Q (⟨some d,.binOp .geq t x y t2,ty,ps,af,none⟩::rest) (A n f) w:=Z5 hx hy Ykg ht hf
theorem JiD{a b:ByteArray}(hx:ev n f x=.string a)(hy:ev n f y=.string b)(ht:a.toList=b.toList->wpList P ops Q rest (A n (bz f d (.bool true))) w)(hf:¬a.toList=b.toList->wpList P ops Q rest (A n (bz f d (.bool false))) w):
 wpList P ops Q (⟨some d,.binOp .eql t x y t2,ty,ps,af,none⟩::rest) (A n f) w:=Z5 hx hy (by simp[eqGuard,binOp,Op.stringOp,Nh]) ht hf
theorem JiC{a b:ByteArray}(hx:ev n f x=.string a)(hy:ev n f y=.string b)(ht:¬a.toList=b.toList->wpList P ops Q rest (A n (bz f d (.bool true))) w)(hf:a.toList=b.toList->wpList P ops Q rest (A n (bz f d (.bool false))) w):
 wpList P ops Q (⟨some d,.binOp .neq t x y t2,ty,ps,af,none⟩::rest) (A n f) w:=
 Z5 (p:=¬a.toList=b.toList) hx hy (by simp[eqGuard,binOp,Op.stringOp,Nh]) ht (fun h=>hf (Fz h))
/-! rN, ibR -/
theorem Jdy{ao:Option Addr}{l c e:Nat}[S:SliceT P t e](hx:ev n f x=.slice ao l c)(h:wpList P ops Q rest (A n (bz f d (.int .i64 l))) w):
 wpList P ops Q (⟨some d,.call {callee:=.builtin .len,args:=#[x],argTypes:=#[t]},ty,ps,af,none⟩::rest) (A n f) w:=
 JR Yju h
theorem JaK{s:ByteArray}[S:StrT P t](hx:ev n f x=.string s)(h:wpList P ops Q rest (A n (bz f d (.int .i64 s.size))) w):
 wpList P ops Q (⟨some d,.call {callee:=.builtin .len,args:=#[x],argTypes:=#[t]},ty,ps,af,none⟩::rest) (A n f) w:=
 JR Yju h
theorem Jh7{k:IntKind}{a b r:Int}{at_:Array TypeId}(hx:ev n f x=.int k a)(hy:ev n f y=.int k b)(hr:(if b<a then b else a)=r)(h:wpList P ops Q rest (A n (bz f d (.int k r))) w):
 wpList P ops Q (⟨some d,.call {callee:=.builtin .min,args:=#[x,y],argTypes:=at_},ty,ps,af,none⟩::rest) (A n f) w:=
 JR (by simp[execOp,resolve,invoke,builtin,Builtin.min_,Builtin.min2,hx,hy,hr]) h
theorem Wq{ao:Option Addr}{a:Addr}{l c e size eZ:Nat}{k:IntKind}{i:Int}{j:Nat}[R:RowT P t e size eZ](hx:ev n f x=.slice ao l c)(hy:ev n f y=.int k i)(hi:i=(j:Int))(aC:j<l)(ha:ao=some a)
 (h:wpList P ops Q rest (A n (bz f d (.pointer (some (a.add (j*size)))))) w):wpList P ops Q (⟨some d,.indexAddr t x y,ty,ps,af,none⟩::rest) (A n f) w:=by
 obtain⟨i0,z,lp,hz,hs,hb,sc⟩:=R.inf;subst hi ha;have h2:(j:Int)<(l:Int):=by omega
 exact JR (by simp[execOp,Instr.indexAt,hx,hy,asIntOf,run_underlying R.und,aC,sizeOf,typeInfo,lp,hs]) h
theorem JgV{ao:Option Addr}{l c e size eZ:Nat}{lo hi:Option Operand}{j k:Nat}[R:RowT P t e size eZ](hx:ev n f x=.slice ao l c)
 (Ti:match lo with|some o=>∃kk,ev n f o=.int kk (j:Int)|none=>j=0) (PT:match hi with|some o=>∃kk,ev n f o=.int kk (k:Int)|none=>k=l) (h1:j<=k) (h2:k<=c) (h3:l<=c)
 (h:wpList P ops Q rest (A n (bz f d (.slice (if c=j then ao else ao.map (·.add (j*size))) (k-j) (c-j)))) w):wpList P ops Q (⟨some d,.slice t x lo hi none,ty,ps,af,none⟩::rest) (A n f) w:=by
 obtain⟨i0,z,lp,hz,hs,hb,sc⟩:=R.inf;refine JR (v:=.slice (if c=j then ao else ao.map (·.add (j*size))) (k-j) (c-j)) (w':=w) ?_ h;have e1:(j:Int)<=(k:Int):=by omega
 cases lo with
 |none=>
  simp only at Ti;subst Ti;cases hi with
  |none=>simp only at PT;subst PT;simp[execOp,hx,Instr.sliceAt,Instr.slice,run_underlying R.und,Instr.sliceBounds,sizeOf,typeInfo,lp,hs]
  |some o=>obtain⟨kk,hk⟩:=PT;simp[execOp,hx,hk,Instr.sliceAt,Instr.slice,run_underlying R.und,Instr.sliceBounds,Instr.sliceBound,asIntOf,sizeOf,typeInfo,lp,hs,h2]
 |some o'=>
  obtain⟨kk',nA⟩:=Ti;cases hi with
  |none=>simp only at PT;subst PT;simp[execOp,hx,nA,Instr.sliceAt,Instr.slice,run_underlying R.und,Instr.sliceBounds,Instr.sliceBound,asIntOf,sizeOf,typeInfo,lp,hs,h1]
  |some o=>obtain⟨kk,hk⟩:=PT;simp[execOp,hx,hk,nA,Instr.sliceAt,Instr.slice,run_underlying R.und,Instr.sliceBounds,Instr.sliceBound,asIntOf,sizeOf,typeInfo,lp,hs,h1,h2]
theorem ND{ao:Option Addr}{l c e size eZ:Nat}{lo hi:Option Operand}{ys:List Value}(j k:Nat)[R:RowT P t e size eZ](eo:Src w (.slice ao l c) l ys)(hx:ev n f x=.slice ao l c)(hl:ys.length=l*size)
 (Ti:match lo with|some o=>∃kk,ev n f o=.int kk (j:Int)|none=>j=0) (PT:match hi with|some o=>∃kk,ev n f o=.int kk (k:Int)|none=>k=l) (h1:j<=k) (h2:k<=l)
 (h:∀pS c',Src w (.slice pS (k-j) c') (k-j) ((ys.take (k*size)).drop (j*size))->(∀lC,pS=some lC->∃ad,ao=some ad/\lC.block=ad.block)->k-j<=c'->wpList P ops Q rest (A n (bz f d (.slice pS (k-j) c'))) w):
 wpList P ops Q (⟨some d,.slice t x lo hi none,ty,ps,af,none⟩::rest) (A n f) w:=by
 have xG:l<=c:=by
  obtain⟨pS,c',e,hm,_⟩:=eo;simp only[Value.slice.injEq]at e;omega
 refine JgV hx Ti PT h1 ab xG (h _ _ (eo.cut hl h1 h2) ?_ ab);intro lC e
 split at e
 .exact ⟨lC,e,rfl⟩
 .obtain ⟨a0,R1,tw⟩:=DK.1 e;subst tw;exact⟨a0,R1,fB _ _⟩
/-! memory -/
theorem KW{a:Addr}{v:Value}[O:OneT P t](hx:ev n f x=.pointer (some a))(hc:w.cell? a=some v)(h:wpList P ops Q rest (A n (bz f d v)) w):
 wpList P ops Q (⟨some d,.load t x,ty,ps,af,none⟩::rest) (A n f) w:=JR (by simp[execOp,hx,Instr.loadAt,Instr.sureAddr,O.load a hc]) h
theorem VH{b o tb:Nat}{l:List Value}{v:Value}[O:OneT P t](hx:ev n f x=.pointer (some ⟨b,o,none⟩))(hb:aG w b l tb)(ho:l[o]?=some v)(h:wpList P ops Q rest (A n (bz f d v)) w):
 wpList P ops Q (⟨some d,.load t x,ty,ps,af,none⟩::rest) (A n f) w:=KW hx (hb.cell ho) h
theorem ZB{a:Addr}{m:Nat}(l:List Value)[G:AggT P t m](hx:ev n f x=.pointer (some a))(hl:l.length=m)(hc:∀j u,l[j]?=some u->w.cell? (a.add j)=some u)(h:wpList P ops Q rest (A n (bz f d (.agg l.toArray))) w):
 wpList P ops Q (⟨some d,.load t x,ty,ps,af,none⟩::rest) (A n f) w:=JR (by simp[execOp,hx,Instr.loadAt,Instr.sureAddr,G.load a l hl hc]) h
theorem KE{b m tb:Nat}{l:List Value}[G:AggT P t m](hx:ev n f x=.pointer (some ⟨b,0,none⟩))(hb:aG w b l tb)(hl:l.length=m)(h:wpList P ops Q rest (A n (bz f d (.agg l.toArray))) w):
 wpList P ops Q (⟨some d,.load t x,ty,ps,af,none⟩::rest) (A n f) w:=ZB l hx hl (fun j u hu=>by rw[add_lit];exact hb.cell (by simpa using hu)) h
theorem Ji{b o tb:Nat}{l:List Value}{v:Value}[O:OneT P t](hx:ev n f x=.pointer (some ⟨b,o,none⟩))(hv:ev n f y=v)(h1:v.oneCell'=true)(hb:aG w b l tb)(ho_:Nat.blt o l.length=true)
 (h:∀w',aG w' b (l.set o v) tb->Fr [b] w w'->w'.heap.size=w.heap.size->wpList P ops Q rest (A n f) w'):wpList P ops Q (⟨none,.store t x y,ty,ps,af,none⟩::rest) (A n f) w:=by
 obtain⟨i,hi,hs⟩:=O.size;have ho:o<l.length:=Dy ho_;have fG:v.cells=#[v]:=by cases v<;>simp_all [Value.cells,Value.oneCell']
 have bV:w.cell? ⟨b,o,none⟩=some l[o]:=hb.cell (by simp[ho]);have fv:w.frozen? ⟨b,o,none⟩=false:=hb.free;refine X8 (w':=w.setCell ⟨b,o,none⟩ v) ?_ (h _ hb.set (Fr.setCell w ⟨b,o,none⟩ v) (by simp[World.setCell]));have ai:=run_store P w ⟨b,o,none⟩ v .plain h1;exact Ycq
theorem Jd{b tb m:Nat}{l cs:List Value}[G:AggT P t m](hx:ev n f x=.pointer (some ⟨b,0,none⟩))(hv:ev n f y=.agg cs.toArray)(hb:aG w b l tb)(h1:∀c∈cs,c.oneCell'=true)(hl:l.length=m)(hc:cs.length=m)
 (h:∀w',aG w' b cs tb->Fr [b] w w'->w'.heap.size=w.heap.size->wpList P ops Q rest (A n f) w'):wpList P ops Q (⟨none,.store t x y,ty,ps,af,none⟩::rest) (A n f) w:=by
 obtain⟨i,hi,hs⟩:=G.size;have ai:=run_storeCells_at P b 0 tb cs 0 l.toArray w hb (by simp[hl,hc]) h1;simp only[En,H7,CO]at ai;have e:(cs++l.toArray.toList.drop (0+cs.length)).toArray=cs.toArray:=by
  simp[hl,hc,Oe]
 rw[e]at ai;refine X8 (w':=w.setRow b cs.toArray) ?_ (h _ (setRow_heap w b l.toArray _ tb _ hb) ⟨rfl,rfl,rfl,by simp,fun k _ hk=>setRow_other w b k _ (by simpa using hk),SX _⟩ ap);simp[execOp,hx,hv,Instr.storeAt,Instr.sureAddr,storeVar,sizeOf,typeInfo,hi,hs,Value.cells,hc,ai]
theorem JcW{e k j:Nat}{u:Value}{xs:List Value}{ao:Option Addr}{a:Addr}{c:Nat}[O:OneT P t](cB:bx w e 1 (.slice ao k c) k xs)(yY:ao=some a)(hj:j<k)(hx:ev n f x=.pointer (some (a.add j)))(hv:ev n f y=u)(h1:u.oneCell'=true)
 (h:∀w',bx w' e 1 (.slice ao k c) k (xs.set j u)->Fr (ag (.slice ao k c)) w w'->w'.heap.size=w.heap.size->wpList P ops Q rest (A n f) w'):wpList P ops Q (⟨none,.store t x y,ty,ps,af,none⟩::rest) (A n f) w:=by
 obtain⟨i,hi,hs⟩:=O.size;have fG:u.cells=#[u]:=by cases u<;>simp_all [Value.cells,Value.oneCell']
 subst yY;obtain⟨hl,hh⟩:=id cB;rcases hh with⟨h0,_⟩|⟨g,cap,eS,hv',hb,hg,kY,gO,R8,yk⟩
 .cases h0
 .simp only[Value.slice.injEq,Sj]at hv';obtain⟨rfl,_,rfl⟩:=hv';rw[add_lit,Di]at hx;rw[Dq]at R8 hl yk;have hblk:aG w g eS.toList e:=by unfold aG;simpa using hg
  have jm:j<eS.toList.length:=by simp;omega
  have bV:w.cell? ⟨g,j,none⟩=some eS.toList[j]:=hblk.cell (by simp[jm]);have fv:w.frozen? ⟨g,j,none⟩=false:=hblk.free;have wG:aG (w.setCell ⟨g,j,none⟩ u) g (eS.toList.set j u) e:=hblk.set;refine X8 (w':=w.setCell ⟨g,j,none⟩ u) ?_ (h _ ⟨by simp[hl],.inr ⟨g,c,(eS.toList.set j u).toArray,rfl,hb,wG,kY,gO,by simp[R8],?_⟩⟩ (Fr.setCell w ⟨g,j,none⟩ u|>.mono oz) (by simp[World.setCell]))
  .have ai:=run_store P w ⟨g,j,none⟩ u .plain h1;exact Ycq
  .rw [Dq,<-yk];simp[List.take_set]
theorem WM{e:Nat}{z:Value}{l:List Value}[Z:ZeroT P e z](hz:z.cells=l.toArray)(h:∀w',aG w' w.heap.size l e->Fr [] w w'->w'.heap.size=w.heap.size+1->wpList P ops Q rest (A n (bz f d (.pointer (some ⟨w.heap.size,0,none⟩)))) w'):
 wpList P ops Q (⟨some d,.alloc e,ty,ps,af,none⟩::rest) (A n f) w:=by
 obtain⟨i,hi,hzz⟩:=Z.z;refine JR (w':=w.alloc (.cells l.toArray e)) ?_ (h _ (aG.new w l e) (Fr.alloc _ _ _) ap);simp[execOp,Instr.alloc,zeroValue,typeInfo,hi,hzz,newVar,newRow,hz]
theorem Gg{e:Nat}{v:Value}{l:List Value}(hx:ev n f x=v)(hv:v.cells=l.toArray)(h:∀w',aG w' w.heap.size l e->Fr [] w w'->w'.heap.size=w.heap.size+1->wpList P ops Q rest (A n (bz f d (.pointer (some ⟨w.heap.size,0,none⟩)))) w'):
 wpList P ops Q (⟨some d,.box e x,ty,ps,af,none⟩::rest) (A n f) w:=by
 refine JR (w':=w.alloc (.cells l.toArray e)) ?_ (h _ (aG.new w l e) (Fr.alloc _ _ _) ap);simp[execOp,Instr.box,hx,newVar,newRow,hv]
theorem Qr{e size eZ:Nat}[R:RowT P t e size eZ](h:∀w',bx w' e size (.slice (some ⟨w.heap.size,0,none⟩) 0 0) 0 []->Fr [] w w'->w'.heap.size=w.heap.size+1->wpList P ops Q rest (A n (bz f d (.slice (some ⟨w.heap.size,0,none⟩) 0 0))) w'):
 wpList P ops Q (⟨some d,.buildSlice t 0 #[],ty,ps,af,none⟩::rest) (A n f) w:=by
 obtain⟨i0,z,lp,hz,hs,hb,sc⟩:=R.inf;refine JR (w':=w.alloc (.cells #[] e)) ?_ (h _ ⟨by simp,.inr ⟨w.heap.size,0,#[],rfl,SL _,heap_alloc_new w _,SX _,SL _,by simp,by simp⟩⟩ (Fr.alloc _ _ _) ap);have e0:Array.range 0=#[]:=rfl;simp[execOp,Instr.buildSlice,run_underlying R.und,sizeOf,typeInfo,lp,Instr.fill,newRow,e0]
theorem QO{e eZ:Nat}{v:Value}[R:RowT P t e 1 eZ](hx:ev n f x=v)(h1:v.oneCell'=true)(h:∀w',bx w' e 1 (.slice (some ⟨w.heap.size,0,none⟩) 1 1) 1 [v]->Fr [] w w'->w'.heap.size=w.heap.size+1->wpList P ops Q rest (A n (bz f d (.slice (some ⟨w.heap.size,0,none⟩) 1 1))) w'):
 wpList P ops Q (⟨some d,.buildSlice t 1 #[(0,x)],ty,ps,af,none⟩::rest) (A n f) w:=by
 obtain⟨i0,z,lp,hz,hs,hb,sc⟩:=R.inf;have fG:v.cells=#[v]:=by cases v<;>simp_all [Value.cells,Value.oneCell']
 refine JR (w':=w.alloc (.cells #[v] e)) ?_ (h _ ⟨by simp,.inr ⟨w.heap.size,1,#[v],rfl,SL _,heap_alloc_new w _,SX _,(by simp[maxLen]),by simp,by simp⟩⟩ (Fr.alloc _ _ _) ap);obtain⟨zc,hzc⟩:∃zc,z.cells=#[zc]:=by
  have:=sc;rcases hh:z.cells with⟨l⟩
  rw[hh]at this
  match l,this with
  |[zc],_=>exact⟨zc,rfl⟩
 have e1:Array.range 1=#[0]:=rfl;simp[execOp,Instr.buildSlice,run_underlying R.und,sizeOf,typeInfo,zeroValue,lp,hz,hs,Instr.fill,newRow,hx,fG,hzc,e1]
theorem JC{s:Operand}{e size eZ:Nat}{v xv:Value}{k m:Nat}{xs ys:List Value}[R:RowT P t e size eZ](cB:bx w e size v k xs)(hs:ev n f s=v)(eo:Src w xv m ys)(hx:ev n f x=xv)(hl:ys.length=m*size)(h1:∀u∈ys,u.oneCell'=true)
 (jW:k+m<=maxLen) (hb:(k+m)*eZ<=140737488355328)
 (h:∀v' w',bx w' e size v' (k+m) (xs++ys)->Fr (ag v) w w'->(∀b∈ag v',b∈ag v\/w.heap.size<=b)->(v'=.slice none 0 0↔v=.slice none 0 0/\m=0)->wpList P ops Q rest (A n (bz f d v')) w'):
 wpList P ops Q (⟨some d,.call {callee:=.builtin .append,args:=#[s,x],argTypes:=#[t,t]},ty,ps,af,none⟩::rest) (A n f) w:=by
 obtain⟨v',w',hr,a1,a2,a3,a4⟩:=JdA (P:=P) (t:=t) (xt:=t) (ty:=ty) (.inl ⟨e,R.und⟩) cB (eo.gives (P:=P) hl h1) jW hb;exact JR Yjz (h v' w' a1 a2 a3 a4)
theorem Jer{s:Operand}{e eZ xt:Nat}{v:Value}{k:Nat}{xs:List Value}{str:ByteArray}[R:RowT P t e 1 eZ][X:StrT P xt](cB:bx w e 1 v k xs)(hs:ev n f s=v)(hx:ev n f x=.string str)
 (jW:k+str.size<=maxLen) (hb:(k+str.size)*eZ<=140737488355328)
 (h:∀v' w',bx w' e 1 v' (k+str.size) (xs++str.data.toList.map fun c=>.int .u8 c.toNat)->Fr (ag v) w w'->(∀b∈ag v',b∈ag v\/w.heap.size<=b)->(v'=.slice none 0 0↔v=.slice none 0 0/\str.size=0)->wpList P ops Q rest (A n (bz f d v')) w'):
 wpList P ops Q (⟨some d,.call {callee:=.builtin .append,args:=#[s,x],argTypes:=#[t,xt]},ty,ps,af,none⟩::rest) (A n f) w:=by
 have hg:Gives P w 1 (.string str) str.size (str.data.toList.map fun c=>.int .u8 c.toNat):=
  ⟨by simp,fun u=>by simp[Builtin.lenOf],fun u _=>by
   have:str.extract 0 str.size=str:=by simp
   simp only[Builtin.firstCells,this,Sem.run_pure]
   congr 1
   apply Array.ext';simp
   ,fun y hy=>by obtain⟨c,_,rfl⟩:=Du.1 hy;rfl⟩
 obtain⟨v',w',hr,a1,a2,a3,a4⟩:=JdA (P:=P) (t:=t) (xt:=xt) (ty:=ty) (.inr X.u) cB hg jW hb;exact JR Yjz (h v' w' a1 a2 a3 a4)
/-! calls -/
theorem aT{k:Nat}{l:List Operand}{vs:List Value}{at_:Array TypeId}{R:Ending->World->Prop}[F:FnT P k](hc:Calls P k vs.toArray w R)(ha:xJ n f l=vs)
 (h:∀e w',R e w'->∃v,e=.returned v/\wpList P ops Q rest (A n (bz f d v)) w'):wpList P ops Q (⟨some d,.call {callee:=.value (.func k),args:=l.toArray,argTypes:=at_},ty,ps,af,none⟩::rest) (A n f) w:=by
 obtain⟨fn,hf,hn,hb⟩:=F.f;refine wpList_plain rfl fun K hK=>?_
 unfold Oper.wp;rw[Zy];have hr:(execOp (ev n f) ⟨some d,.call {callee:=.value (.func k),args:=l.toArray,argTypes:=at_},ty,ps,af,none⟩).run P w=.ok (.enter k vs.toArray) w:=by
  simp only[execOp,resolve,invoke,callFunc,ev,Deferred.ofValue,EK,Ja8,ha];have PF:¬fn.name= "runtime.NumGoroutine":=by simpa using hn
  have sd:¬fn.body=none:=by intro e;rw[e]at hb;cases hb
  simp[hf,PF,sd]
 rw[hr];show Calls P k vs.toArray w _;refine hc.mono fun e w' hR=>?_
 obtain⟨v,rfl,hw⟩:=h e w' hR;show K _ _;rw[MK];exact hK _ _ hw
end
end
theorem JG{P:Program}{e size bytes:Nat}{z:Value}(h:(P.info? e).map (fun i=>(i.zero,i.size,i.bytes))=some (some z,size,bytes))(hz:z.cells.size=size):
 ∃i z,P.info? e=some i/\i.zero=some z/\i.size=size/\i.bytes=bytes/\z.cells.size=size:=by
 obtain⟨i,hi,he⟩:=DK.1 h;simp only[Sz]at he;exact⟨i,z,hi,he.1,he.2.1,he.2.2,hz⟩
theorem Jo{P:Program}{t n:Nat}(h:(P.info? t).map (·.size)=some n):∃i,P.info? t=some i/\i.size=n:=DK.1 h
theorem JO{P:Program}{t:Nat}{z:Value}(h:(P.info? t).map (·.zero)=some (some z)):∃i,P.info? t=some i/\i.zero=some z:=DK.1 h
theorem Jgk{P:Program}{s i off n:Nat}{fs:Array Field}{fd:Field}(hu:P.underlying s=some (.struct fs))(hf:fs[i]?=some fd)(ho:fd.offset=off)
 (hi:(P.info? fd.type).map (·.size)=some n) (hn:n≠0):∃fs fd j,P.underlying s=some (.struct fs)/\fs[i]?=some fd/\fd.offset=off/\P.info? fd.type=some j/\j.size≠0:=by
 obtain⟨j,hj,he⟩:=DK.1 hi;exact⟨fs,fd,j,hu,hf,ho,hj,by rw[he];exact hn⟩
section
open Go.RowKit
class PanicOk (Q:Exit->Act->World->Prop):Prop where ok:∀c a w d v,Q (.panic c) (Act.put a d v) w->Q (.panic c) a w
instance{K:Act->World->Prop}{Q:Exit->Act->World->Prop}[h:PanicOk Q]:PanicOk (Exit.then K Q):=⟨fun c a w d v k=>h.ok c a w d v k⟩
instance{i:Nat}{Q:Exit->Act->World->Prop}[h:PanicOk Q]:PanicOk (Exit.inBlock i Q):=⟨fun c a w d v k=>h.ok c a w d v k⟩
instance{P:Program}{fn:Func}{R:Ending->World->Prop}:PanicOk (bodyPost P fn R):=⟨fun c a w d v k=>by
 obtain⟨h1,h2⟩:=k;refine⟨?_,h2⟩;cases d<;>exact h1⟩
section
variable{D:Dfs}
variable{P:Program}{Q:Exit->Act->World->Prop}{S:World->Prop}{n:Nat}{f:Env}{w:World}{l:List Oper}{fuel:Nat}{au:Array Bool}
theorem JE{id m:Nat}(S:World->Prop)(hm:P.follows .mixedOrders=true)(hl:l.length=m)(h:wpAnyH P .any l.toArray Q S m (Array.replicate m false) (A n f) w.drew):(Code.region id l.toArray true).wp P Q (A n f) w:=by
 subst hl;exact wp_region_held (S:=S) hm mE
theorem XU{i d:Nat}{op:Op}{ty:TypeId}{ps:String}{af:Array Edge}{v:Value}[hQ:PanicOk Q](hi:l[i]?=some ⟨some d,op,ty,ps,af,none⟩)
 (hs:Region.noSelect l.toArray=true) (hf:Region.free .any l.toArray au i=true) (hr:(Region.ready .any l.toArray au).contains i=true)
 (aw:∀u,S u->(execOp (ev n f) ⟨some d,op,ty,ps,af,none⟩).run P u=.ok (.value v) u) (hS:S w)
 (h:wpAnyH P .any l.toArray Q S fuel (au.setIfInBounds i true) (A n (bz f d v)) w):wpAnyH P .any l.toArray Q S (fuel+1) au (A n f) w:=by
 refine wpAnyH_take (i:=i) (v:=v) tY hs hf hr (fun c a w=>hQ.ok c a w (some d) v) ?_ hS ?_
 .exact .inl ⟨rfl,fun u hu=>by rw[Zy];exact aw u hu⟩
 .rw [MK];exact h
theorem JkX{i d j:Nat}{b:Bool}{op:Op}{ty:TypeId}{ps:String}{af:Array Edge}[hQ:PanicOk Q](hi:l[i]?=some ⟨some d,op,ty,ps,af,some (j,b)⟩)
 (hy:(PP l n f j==some b)=false)
 (hs:Region.noSelect l.toArray=true) (hf:Region.free .any l.toArray au i=true) (hr:(Region.ready .any l.toArray au).contains i=true) (hS:S w)
 (h:wpAnyH P .any l.toArray Q S fuel (au.setIfInBounds i true) (A n (bz f d undef)) w):wpAnyH P .any l.toArray Q S (fuel+1) au (A n f) w:=by
 refine wpAnyH_take (i:=i) (v:=undef) tY hs hf hr (fun c a w=>hQ.ok c a w (some d) undef) ?_ hS ?_
 .exact .inr ⟨by simp only[Region.wanted,JaC];exact hy,rfl⟩
 .rw [MK];exact h
theorem V4{i d j:Nat}{b:Bool}{op:Op}{ty:TypeId}{ps:String}{af:Array Edge}{v:Value}[hQ:PanicOk Q](hi:l[i]?=some ⟨some d,op,ty,ps,af,some (j,b)⟩)
 (hy:PP l n f j=some b)
 (hs:Region.noSelect l.toArray=true) (hf:Region.free .any l.toArray au i=true) (hr:(Region.ready .any l.toArray au).contains i=true)
 (aw:∀u,S u->(execOp (ev n f) ⟨some d,op,ty,ps,af,none⟩).run P u=.ok (.value v) u) (hS:S w)
 (h:wpAnyH P .any l.toArray Q S fuel (au.setIfInBounds i true) (A n (bz f d v)) w):wpAnyH P .any l.toArray Q S (fuel+1) au (A n f) w:=by
 refine wpAnyH_take (i:=i) (v:=v) tY hs hf hr (fun c a w=>hQ.ok c a w (some d) v) ?_ hS ?_
 .exact .inl ⟨by simp[Region.wanted,JaC,hy],fun u hu=>by rw[Zy];exact aw u hu⟩
 .rw [MK];exact h
theorem JJ{i:Nat}{o:Oper}(hi:l[i]?=some o)(hr:Region.ready .any l.toArray au=[i])
 (h:wpList P l.toArray (Exit.then (fun a' w'=>S w'/\wpAnyH P .any l.toArray Q S fuel (au.setIfInBounds i true) a' w') Q) [o] (A n f) w):wpAnyH P .any l.toArray Q S (fuel+1) au (A n f) w:=by
 refine wpAnyH_all hr ap fun j hj=>?_
 simp only[Sv]at hj;subst hj;unfold wpOp;have hi':l.toArray[j]?=some o:=by simpa using hi
 exact Yba
theorem KC{i:Nat}{o:Oper}{K:Act->World->Prop}(hi:l[i]?=some o)(h:wpList P l.toArray (Exit.then K Q) [o] (A n f) w):wpOp P l.toArray Q i K (A n f) w:=by
 unfold wpOp;have hi':l.toArray[i]?=some o:=by simpa using hi
 exact Yba
theorem Xt{i j:Nat}{o o':Oper}(hi:l[i]?=some o)(hj:l[j]?=some o')(hr:Region.ready .any l.toArray au=[i,j])
 (h1:wpList P l.toArray (Exit.then (fun a' w'=>S w'/\wpAnyH P .any l.toArray Q S fuel (au.setIfInBounds i true) a' w') Q) [o] (A n f) w)
 (h2:wpList P l.toArray (Exit.then (fun a' w'=>S w'/\wpAnyH P .any l.toArray Q S fuel (au.setIfInBounds j true) a' w') Q) [o'] (A n f) w):wpAnyH P .any l.toArray Q S (fuel+1) au (A n f) w:=by
 refine wpAnyH_all hr ap fun k hk=>?_
 simp only[SC,S9,CU]at hk;rcases hk with rfl|rfl
 .exact KC hi h1
 .exact KC hj h2
theorem Jv{K:Act->World->Prop}{S:World->Prop}{a:Act}{w:World}(hS:S w)(h:K a w):Exit.then (fun a' w'=>S w'/\K a' w') Q .normal a w:=⟨hS,h⟩
theorem UH(hr:Region.ready .any l.toArray au=[])(h:Q .normal (A n f) w):wpAnyH P .any l.toArray Q S fuel au (A n f) w:=wpAnyH_done hr h fuel
end
/-! ### where ways meet again, inside a region -/
theorem Wp{P:Program}{ops:Array Oper}{Q Q':Exit->Act->World->Prop}(hq:∀e a w,Q e a w->Q' e a w):∀(l:List Oper) (a:Act) (w:World),wpList P ops Q l a w->wpList P ops Q' l a w
 |[],a,w,h=>hq _ _ _ h
 |o::l,a,w,h=>by
  unfold wpList at h ⊢
  split
  .rename_i hw;rw[Cb hw]at h;rcases h with h|⟨h1,a',w',h2⟩
   .refine .inl ?_;unfold Oper.wp at h ⊢;generalize (execOp a.eval o).run P w=r at h ⊢;cases r with
    |ok x w'=>
     cases x<;>simp only[Oper.upon]at h ⊢ <;>first
      |exact Wp hq l _ _ h
      |(refine Calls.mono h fun e w'' he=>?_;cases e<;>first|exact Wp hq l _ _ he|exact hq _ _ _ he|(obtain⟨a1,w1,h1⟩:=he;exact⟨a1,w1,hq _ _ _ h1⟩))
      |exact Rows.mono h (fun _ _ he=>Wp hq l _ _ he)
    |halt x w'=>cases x<;>simp only[Oper.upon]at h ⊢ <;>exact hq _ _ _ h
   .exact .inr ⟨h1,a',w',hq _ _ _ h2⟩
  .rename_i hw;rw[SH hw]at h;exact Wp hq l _ _ h
theorem JjD{P:Program}{ops:Array Oper}{Q:Exit->Act->World->Prop}{K:Act->World->Prop}{l:List Oper}{n:Nat}{f:Env}{w:World}(R:Env->World->Prop)
 (h1:wpList P ops (Exit.then (fun a w=>∃g,a=A n g/\R g w) Q) l (A n f) w) (h2:∀g w,R g w->K (A n g) w):wpList P ops (Exit.then K Q) l (A n f) w:=
 Wp (fun e a w h=>by
  cases e with
  |normal=>obtain⟨g,rfl,hR⟩:=h;exact h2 g w hR
  |_=>exact h) l _ w h1
/-! ### tE runs of quiet R9 -/
section
variable{D:Dfs}
variable{P:Program}{n:Nat}{f:Env}{w:World}
variable{d:Nat}{ty:TypeId}{ps:String}{af:Array Edge}{x y:Operand}{t t2:Nat}{gd:Option (Nat×Bool)}
theorem JfD{v:Value}(hx:ev n f x=v):(execOp (ev n f) ⟨some d,.move x,ty,ps,af,gd⟩).run P w=.ok (.value v) w:=by simp[execOp,hx]
theorem JfC{c:Operand}{b:Bool}{v:Value}(hc:ev n f c=.bool b)(hv:ev n f (cond b x y)=v):(execOp (ev n f) ⟨some d,.pick c x y,ty,ps,af,gd⟩).run P w=.ok (.value v) w:=by cases b<;>simp_all [execOp,asBool]
theorem NK{a:Addr}(hx:ev n f x=.pointer (some a)):(execOp (ev n f) ⟨some d,.nilCheck x,ty,ps,af,gd⟩).run P w=.ok (.value (.pointer (some a))) w:=by simp[execOp,hx]
theorem Mc{s i off:Nat}{a:Addr}[F:FieldT P s i off](hx:ev n f x=.pointer (some a)):(execOp (ev n f) ⟨some d,.fieldAddr s x i,ty,ps,af,gd⟩).run P w=.ok (.value (.pointer (some (a.add off)))) w:=by
 obtain⟨fs,fd,j,h1,h2,h3,h4,h5⟩:=F.f;simp[execOp,hx,Instr.fieldAt,run_underlying h1,h2,Instr.sureAddr,fieldPlace,sizeOf,typeInfo,h4,h5,h3]
theorem JbO{s i off b:Nat}[F:FieldT P s i off](hx:ev n f x=.pointer (some ⟨b,0,none⟩)):(execOp (ev n f) ⟨some d,.fieldAddr s x i,ty,ps,af,gd⟩).run P w=.ok (.value (.pointer (some ⟨b,off,none⟩))) w:=by
 have:=Mc (P:=P) (w:=w) (d:=d) (ty:=ty) (ps:=ps) (af:=af) (gd:=gd) (s:=s) (i:=i) (off:=off) hx;rw[add_lit,Di]at this;exact this
theorem Jia{k:IntKind}{a b r:Int}(hx:ev n f x=.int k a)(hy:ev n f y=.int k b)(hr:k.wrap (a+b)=r):(execOp (ev n f) ⟨some d,.binOp .add t x y t2,ty,ps,af,gd⟩).run P w=.ok (.value (.int k r)) w:=by simp[execOp,eqGuard,binOp,Op.intArith,hx,hy,hr]
theorem Jfy{k:IntKind}{a b r:Int}(hx:ev n f x=.int k a)(hy:ev n f y=.int k b)(hr:k.wrap (a-b)=r):(execOp (ev n f) ⟨some d,.binOp .sub t x y t2,ty,ps,af,gd⟩).run P w=.ok (.value (.int k r)) w:=by simp[execOp,eqGuard,binOp,Op.intArith,hx,hy,hr]
theorem Jh8{b:Bool}(hx:ev n f x=.bool b):(execOp (ev n f) ⟨some d,.unOp .not t x,ty,ps,af,gd⟩).run P w=.ok (.value (.bool (!b))) w:=by simp[execOp,Op.unary,hx]
theorem JaQ{k k0:IntKind}{a r:Int}{src dst:Nat}[S:IntT P src k0][D:IntT P dst k](hx:ev n f x=.int k0 a)(hr:k.wrap a=r):(execOp (ev n f) ⟨some d,.convert src dst x,ty,ps,af,gd⟩).run P w=.ok (.value (.int k r)) w:=by
 simp[execOp,convert,run_underlying S.u,run_underlying D.u,Conv.intToInt,hx,hr]
theorem Jh9{ao:Option Addr}{l c e:Nat}[S:SliceT P t e](hx:ev n f x=.slice ao l c):(execOp (ev n f) ⟨some d,.call {callee:=.builtin .len,args:=#[x],argTypes:=#[t]},ty,ps,af,gd⟩).run P w=.ok (.value (.int .i64 l)) w:=by
 simp[execOp,resolve,invoke,builtin,Builtin.len_,run_underlying S.u,hx,goInt]
theorem Zd{k:IntKind}{a b:Int}{p:Bool}(hx:ev n f x=.int k a)(hy:ev n f y=.int k b)(hp:decide (a=b)=p):(execOp (ev n f) ⟨some d,.binOp .eql t x y t2,ty,ps,af,gd⟩).run P w=.ok (.value (.bool p)) w:=by
 subst hp;simp[execOp,eqGuard,binOp,Op.intCmp,hx,hy];rfl
theorem WZ{k:IntKind}{a b:Int}{p:Bool}(hx:ev n f x=.int k a)(hy:ev n f y=.int k b)(hp:decide (¬a=b)=p):(execOp (ev n f) ⟨some d,.binOp .neq t x y t2,ty,ps,af,gd⟩).run P w=.ok (.value (.bool p)) w:=by
 subst hp;simp[execOp,eqGuard,binOp,Op.intCmp,hx,hy,bne];rfl
theorem W9{k:IntKind}{a b:Int}{p:Bool}(hx:ev n f x=.int k a)(hy:ev n f y=.int k b)(hp:decide (a<b)=p):(execOp (ev n f) ⟨some d,.binOp .lss t x y t2,ty,ps,af,gd⟩).run P w=.ok (.value (.bool p)) w:=by
 subst hp;simp[execOp,eqGuard,binOp,Op.intCmp,hx,hy]
theorem L9{k:IntKind}{a b:Int}{p:Bool}(hx:ev n f x=.int k a)(hy:ev n f y=.int k b)(hp:decide (a<=b)=p):(execOp (ev n f) ⟨some d,.binOp .leq t x y t2,ty,ps,af,gd⟩).run P w=.ok (.value (.bool p)) w:=by
 subst hp;simp[execOp,eqGuard,binOp,Op.intCmp,hx,hy]
theorem Z8{k:IntKind}{a b:Int}{p:Bool}(hx:ev n f x=.int k a)(hy:ev n f y=.int k b)(hp:decide (b<a)=p):(execOp (ev n f) ⟨some d,.binOp .gtr t x y t2,ty,ps,af,gd⟩).run P w=.ok (.value (.bool p)) w:=by
 subst hp;simp[execOp,eqGuard,binOp,Op.intCmp,hx,hy]
theorem Z9{k:IntKind}{a b:Int}{p:Bool}(hx:ev n f x=.int k a)(hy:ev n f y=.int k b)(hp:decide (b<=a)=p):(execOp (ev n f) ⟨some d,.binOp .geq t x y t2,ty,ps,af,gd⟩).run P w=.ok (.value (.bool p)) w:=by
 subst hp;simp[execOp,eqGuard,binOp,Op.intCmp,hx,hy]
theorem Qs{ao:Option Addr}{a:Addr}{l c e size eZ:Nat}{k:IntKind}{i:Int}{j:Nat}[R:RowT P t e size eZ](hx:ev n f x=.slice ao l c)(hy:ev n f y=.int k i)(hi:i=(j:Int))(aC:j<l)(ha:ao=some a):
 (execOp (ev n f) ⟨some d,.indexAddr t x y,ty,ps,af,gd⟩).run P w=.ok (.value (.pointer (some (a.add (j*size))))) w:=by
 obtain⟨i0,z,lp,hz,hs,hb,sc⟩:=R.inf;subst hi ha;have h2:(j:Int)<(l:Int):=by omega
 simp[execOp,Instr.indexAt,hx,hy,asIntOf,run_underlying R.und,aC,sizeOf,typeInfo,lp,hs]
theorem Gl{ao:Option Addr}{a:Addr}{l c e eZ:Nat}{k:IntKind}{i:Int}{j:Nat}[R:RowT P t e 1 eZ](hx:ev n f x=.slice ao l c)(hy:ev n f y=.int k i)(hi:i=(j:Int))(aC:j<l)(ha:ao=some a):
 (execOp (ev n f) ⟨some d,.indexAddr t x y,ty,ps,af,gd⟩).run P w=.ok (.value (.pointer (some (a.add j)))) w:=by
 have:=Qs (P:=P) (w:=w) (d:=d) (ty:=ty) (ps:=ps) (af:=af) (gd:=gd) (t:=t) hx hy hi aC ha;rw[Dq]at this;exact this
theorem Jam{ao:Option Addr}{l c e size eZ k:Nat}{kk:IntKind}{o:Operand}[R:RowT P t e size eZ](hx:ev n f x=.slice ao l c)(ho:ev n f o=.int kk (k:Int))(hk:k<=c):
 (execOp (ev n f) ⟨some d,.slice t x none (some o) none,ty,ps,af,gd⟩).run P w=.ok (.value (.slice ao k c)) w:=by
 obtain⟨i0,z,lp,hz,hs,hb,sc⟩:=R.inf;have e:(if c=0 then ao else ao.map (·.add (0*i0.size)))=ao:=by
  split
  .rfl
  .cases ao<;>simp[ta]
 simp only[D8]at e;simp[execOp,hx,ho,Instr.sliceAt,Instr.slice,run_underlying R.und,Instr.sliceBounds,Instr.sliceBound,asIntOf,sizeOf,typeInfo,lp,hk,e]
theorem J7{a:Addr}{v:Value}[O:OneT P t](hx:ev n f x=.pointer (some a))(hc:w.cell? a=some v):(execOp (ev n f) ⟨some d,.load t x,ty,ps,af,gd⟩).run P w=.ok (.value v) w:=by
 simp[execOp,hx,Instr.loadAt,Instr.sureAddr,O.load a hc]
theorem La{a:Addr}{m:Nat}(l:List Value)[G:AggT P t m](hx:ev n f x=.pointer (some a))(hl:l.length=m)(hc:∀j u,l[j]?=some u->w.cell? (a.add j)=some u):(execOp (ev n f) ⟨some d,.load t x,ty,ps,af,gd⟩).run P w=.ok (.value (.agg l.toArray)) w:=by
 simp[execOp,hx,Instr.loadAt,Instr.sureAddr,G.load a l hl hc]
end
theorem Src.to{w:World}{ao:Option Addr}{m c k size:Nat}{ys:List Value}(h:Src w (.slice ao m c) m ys)(hk:k<=m):Src w (.slice ao k c) k (ys.take (k*size)):=by
 obtain⟨pS,c',e,hm,hn,hc⟩:=h;simp only[Value.slice.injEq]at e;obtain⟨rfl,_,rfl⟩:=e;refine⟨ao,c,rfl,by omega,fun e=>?_,fun ad ha j u hu=>?_⟩
 .obtain ⟨h1,h2,h3⟩:=hn e;subst h3;exact⟨by omega,h2,by simp⟩
 .rw [FP]at hu
  split at hu
  .exact hc ad ha j u hu
  .cases hu
theorem BZ{D:Dfs}{P:Program}{ops:Array Oper}{Q:Exit->Act->World->Prop}{rest:List Oper}{n:Nat}{f:Env}{w:World}{d:Nat}{ty:TypeId}{ps:String}{af:Array Edge}{x y:Operand}{t:Nat}
 {ao:Option Addr} {a:Addr} {l c e eZ:Nat} {k:IntKind} {i:Int} {j:Nat} [R:RowT P t e 1 eZ] (hx:ev n f x=.slice ao l c) (hy:ev n f y=.int k i) (hi:i=(j:Int)) (aC:j<l) (ha:ao=some a)
 (h:wpList P ops Q rest (A n (bz f d (.pointer (some (a.add j))))) w):wpList P ops Q (⟨some d,.indexAddr t x y,ty,ps,af,none⟩::rest) (A n f) w:=JR (Gl hx hy hi aC ha) h
end
section
open Go.RowKit
/-! ### composite ibo -/
def Xr(place:Nat->Option (Nat×Nat)):List Value->List (Nat×Value)->Option (List Value)
 |cs,[]=>some cs
 |cs,(i,v)::r=>
  match place i with
  |none=>none
  |some (off,size)=>match v.cells.toList with
   |vc=>cond (Nat.beq vc.length size&&Nat.ble (off+vc.length) cs.length) (Xr place (cs.take off++vc++cs.drop (off+vc.length)) r) none
theorem tG(vc:List Value):∀(cs:List Value) (off k:Nat),off+k+vc.length<=cs.length->
 (vc.zipIdx k).foldl (fun(a:Array Value) (p:Value×Nat)=>a.setIfInBounds (off+p.2) p.1) cs.toArray=(cs.take (off+k)++vc++cs.drop (off+k+vc.length)).toArray:=by
 induction vc with
 |nil=>intro cs off k _;simp
 |cons v vc ih=>
  intro cs off k h;simp only[SI]at h;rw[List.zipIdx_cons,Dz];simp only[List.setIfInBounds_toArray];rw[ih _ off (k+1) aZ]
  congr 1
  rw[List.take_set,List.drop_set];have e1:off+(k+1)=off+k+1:=by omega
  rw[e1];have aC:off+k<cs.length:=by omega
  rw[SK aC];simp only[SI];rw[Cb ab];have e2:off+k+1+vc.length=off+k+(vc.length+1):=by omega
  rw[e2];have e3:(cs.take (off+k)++[cs[off+k]]).set (off+k) v=cs.take (off+k)++[v]:=by
   rw[IE _ _ aZ];simp[Hw (Iq aC)]
  rw[e3];simp
theorem LH(place:Nat->Option (Nat×Nat)):∀(parts:List (Nat×Value)) (cs cells:List Value),Xr place cs parts=some cells->Instr.fill place cs.toArray parts=some cells.toArray:=by
 intro parts
 induction parts with
 |nil=>intro cs cells h;simp only[Xr,Sj]at h;subst h;rfl
 |cons p r ih=>
  obtain⟨i,v⟩:=p;intro cs cells h;unfold Xr at h;unfold Instr.fill;cases hp:place i with
  |none=>rw[hp]at h;cases h
  |some os=>
   obtain⟨off,size⟩:=os;rw[hp]at h;simp only at h ⊢;cases hb:(Nat.beq v.cells.toList.length size&&Nat.ble (off+v.cells.toList.length) cs.length)with
   |false=>rw[hb]at h;cases h
   |true=>
    rw[hb]at h;simp only[Ic]at h;simp only[CV]at hb;have h1:=Hg hb.1;have h2:=Dy hb.2;rw[Es]at h1 h2;rw[SH (by simp[h1];omega)];have e:v.cells.zipIdx.foldl (fun(a:Array Value) (p:Value×Nat)=>a.setIfInBounds (off+p.2) p.1) cs.toArray=(cs.take off++v.cells.toList++cs.drop (off+v.cells.toList.length)).toArray:=by
     have:=tG v.cells.toList cs off 0 (by rw[Es];omega);rw[En]at this;rw[<-this,<-Array.foldl_toList,Array.toList_zipIdx]
    rw[e];exact ih _ _ h
class BuildT (P:Program) (t:Nat) (z:outParam (List Value)) (pl:outParam (List (Nat×Nat))):Prop where
 z:∃i v,P.info? t=some i/\i.zero=some v/\v.cells=z.toArray
 pl:∃fs,P.underlying t=some (.struct fs)/\∀w,(fs.mapM (m:=Sem) fun f=>do pure (f.offset,<-sizeOf f.type)).run P w=.ok pl.toArray w
def UR(n:Nat)(f:Env):List (Nat×Operand)->List (Nat×Value)
 |[]=>[]
 |(i,x)::l=>(i,ev n f x)::UR n f l
theorem Nk(n:Nat)(f:Env)(l:List (Nat×Operand)):l.map (fun p=>(p.1,ev n f p.2))=UR n f l:=by
 induction l with
 |nil=>rfl
 |cons x l ih=>obtain⟨i,x⟩:=x;simp[UR,ih]
section
variable{D:Dfs}
variable{P:Program}{ops:Array Oper}{Q:Exit->Act->World->Prop}{rest:List Oper}{n:Nat}{f:Env}{w:World}
variable{d:Nat}{ty:TypeId}{ps:String}{af:Array Edge}{x y:Operand}{t t2:Nat}{gd:Option (Nat×Bool)}
theorem QU{z:List Value}{pl:List (Nat×Nat)}{parts:List (Nat×Operand)}(cells:List Value)[B:BuildT P t z pl](h:Xr (pl[·]?) z (UR n f parts)=some cells):
 (execOp (ev n f) ⟨some d,.build t parts.toArray,ty,ps,af,gd⟩).run P w=.ok (.value (.agg cells.toArray)) w:=by
 obtain⟨i,v,hi,hz,hc⟩:=B.z;obtain⟨fs,hu,hm⟩:=B.pl;have hf:=LH _ _ _ _ h;simp only[execOp,Instr.build,EK,Nk];have iD:(Array.mapM (fun f=>Prod.mk f.offset<$>sizeOf f.type) fs).run P w=.ok pl.toArray w:=by
  have:=hm w;simpa using this
 simp[zeroValue,typeInfo,hi,hz,hc,run_underlying hu,iD,hf]
theorem JF{z:List Value}{pl:List (Nat×Nat)}{parts:List (Nat×Operand)}(cells:List Value)[B:BuildT P t z pl](h:Xr (pl[·]?) z (UR n f parts)=some cells)
 (hk:wpList P ops Q rest (A n (bz f d (.agg cells.toArray))) w):wpList P ops Q (⟨some d,.build t parts.toArray,ty,ps,af,none⟩::rest) (A n f) w:=JR (QU cells h) hk
def bG(z:List Value):Nat->List Value
 |0=>[]
 |k+1=>z++bG z k
theorem U3(z:List Value)(k:Nat):(bG z k).length=k*z.length:=by
 induction k with
 |zero=>simp[bG]
 |succ k ih=>simp[bG,ih,DN];omega
theorem U4(z:List Value)(hz:0<z.length):∀(k i:Nat),i<k*z.length->(bG z k)[i]?=z[i%z.length]?:=by
 intro k
 induction k with
 |zero=>intro i h;omega
 |succ k ih=>
  intro i h;simp only[bG];by_cases hi:i<z.length
  .rw [Ej hi,Nat.mod_eq_of_lt hi]
  .rw [Ee ab,ih _ (by rw[DN]at h;omega)]
   congr 1
   rw[<-Nat.mod_eq_sub_mod ab]
class RowZ (P:Program) (t:Nat) (e size eZ:outParam Nat) (z:outParam (List Value)):Prop where
 row:RowT P t e size eZ
 z:∃i v,P.info? e=some i/\i.zero=some v/\v.cells=z.toArray/\z.length=size
theorem J3{e size eZ len:Nat}{z:List Value}{parts:List (Nat×Operand)}(cells:List Value)[R:RowZ P t e size eZ z](hlen:Nat.ble (len*size) 16777216=true)(idV:Nat.blt 0 len=true)
 (h:Xr (fun i=>some (i*size,size)) (bG z len) (UR n f parts)=some cells) (fg:cells.length=len*size)
 (hk:∀w',bx w' e size (.slice (some ⟨w.heap.size,0,none⟩) len len) len cells->Fr [] w w'->w'.heap.size=w.heap.size+1->wpList P ops Q rest (A n (bz f d (.slice (some ⟨w.heap.size,0,none⟩) len len))) w'):
 wpList P ops Q (⟨some d,.buildSlice t len parts.toArray,ty,ps,af,none⟩::rest) (A n f) w:=by
 have Rr:=R.row;obtain⟨i0,z0,lp,hz0,hs,hb,sc⟩:=Rr.inf;obtain⟨i,v,hi,hz,hc,oo⟩:=R.z;rw[lp]at hi;simp only[Sj]at hi;subst hi;have eJ:=Dy hlen;have ibp:0<len:=Dy idV;have fA:=Rr.pos;have iz:¬(len*size=0):=by
  have:=Nat.mul_pos ibp fA;omega
 have hzr:(Array.range (len*size)).map (fun i=>z.toArray[i%z.toArray.size]!)=(bG z len).toArray:=by
  apply FK;intro j;rw[Array.getElem?_map];by_cases hj:j<len*size
  .simp only[Array.getElem?_range,hj];have:=U4 z ab len j (by rw[oo];exact hj);have hm:j%z.length<z.length:=Nat.mod_lt _ ab;simp[this,hm,hj]
  .have:(bG z len).length<=j:=by rw[U3,oo];omega
   simp[hj,this]
 have hf:=LH _ _ _ _ h;refine JR (w':=w.alloc (.cells cells.toArray e)) ?_ (hk _ ⟨fg,.inr ⟨w.heap.size,len,cells.toArray,rfl,SL _,heap_alloc_new w _,SX _,?_,by simpa using fg,by simp[<-fg]⟩⟩ (Fr.alloc _ _ _) ap)
 .simp only[execOp,Instr.buildSlice,EK,Nk];have hgt:¬(16777216<len*size):=by omega
  simp only[Sem.run_bind,run_underlying Rr.und,Result.andThen_ok,sizeOf,typeInfo,zeroValue];simp[lp,hs,hgt,iz,hz,hc];simp at hzr;rw[hzr,hf];simp[newRow]
 .have:len<=len*size:=Nat.le_mul_of_pos_right _ fA;unfold maxLen;omega
/-! ### strings and bytes -/
def strOf(zs:List Int):ByteArray:=⟨(zs.map fun z=>UInt8.ofNat z.toNat).toArray⟩
class U8T (P:Program) (t:Nat):Prop where e:∃e,P.underlying t=some (.slice e)/\P.underlying e=some (.int .u8)
theorem foldl_push(l:List Int):∀r:ByteArray,l.foldl (fun r z=>r.push (UInt8.ofNat z.toNat)) r=⟨r.data++(l.map fun z=>UInt8.ofNat z.toNat).toArray⟩:=by
 induction l with
 |nil=>intro r;simp
 |cons b l ih=>
  intro r;simp only[DL,Dz];rw[ih];simp[ByteArray.push]
theorem Jm2{ao:Option Addr}{m c dst:Nat}{zs:List Int}[U:U8T P t][S:StrT P dst](hx:ev n f x=.slice ao m c)(eo:Src w (.slice ao m c) m (zs.map (.int .u8)))(hl:zs.length=m):
 (execOp (ev n f) ⟨some d,.convert t dst x,ty,ps,af,gd⟩).run P w=.ok (.value (.string (strOf zs))) w:=by
 obtain⟨e,hu,he⟩:=U.e;obtain⟨pS,c',eq,_,hn,hc⟩:=eo;simp only[Value.slice.injEq]at eq;obtain⟨rfl,_,rfl⟩:=eq;simp only[execOp,hx];cases ao with
 |none=>
  obtain⟨rfl,rfl,h0⟩:=hn rfl;have:zs=[]:=by simpa using h0
  subst this;simp[run_convert_bytes_nil w t e hu he 0 0 dst S.u,strOf,ByteArray.empty,ByteArray.emptyWithCapacity];rfl
 |some a=>
  have h1:=run_loadCells_list (P:=P) w a (zs.map (.int .u8)) (hc a rfl);rw[Sr,hl]at h1;simp only[Sem.run_bind];rw[run_convert_bytes_string w t dst e (some a) m c hu he S.u,run_bytesToString w a m c zs h1,foldl_push];simp[strOf,ByteArray.empty,ByteArray.emptyWithCapacity];rfl
theorem JmW{ao:Option Addr}{m c dst:Nat}{zs:List Int}[U:U8T P t][S:StrT P dst](eo:Src w (.slice ao m c) m (zs.map (.int .u8)))(hx:ev n f x=.slice ao m c)(hl:zs.length=m)
 (h:wpList P ops Q rest (A n (bz f d (.string (strOf zs)))) w):wpList P ops Q (⟨some d,.convert t dst x,ty,ps,af,none⟩::rest) (A n f) w:=JR (Jm2 hx eo hl) h
theorem Jad{src:Nat}{s:ByteArray}[U:U8T P t][S:StrT P src](hx:ev n f x=.string s)
 (h:∀c w',s.size<=c->Src w' (.slice (some ⟨w.heap.size,0,none⟩) s.size c) s.size (s.data.toList.map fun b=>.int .u8 b.toNat)->Fr [] w w'->wpList P ops Q rest (A n (bz f d (.slice (some ⟨w.heap.size,0,none⟩) s.size c))) w'):
 wpList P ops Q (⟨some d,.convert src t x,ty,ps,af,none⟩::rest) (A n f) w:=by
 obtain⟨e,hu,he⟩:=U.e;have hr:=run_bytes_of_string w src t e s S.u hu he;have hJ:=grownCap_ge w s.size 0 e;refine JR (by simp only[execOp,hx,Sem.run_bind,hr];rfl) (h _ _ hJ ⟨_,_,rfl,hJ,fun e=>(by cases e),?_⟩ ?_)
 .intro ad ha j u hu;simp only[Sj]at ha;subst ha;rw[add_lit];simp only[World.cell?];rw[show((0:Nat)+j)=j by omega];have hb:(w.drew.alloc (.cells (bytesRow s (grownCap w s.size 0 e)) e ((bytesRow s (grownCap w s.size 0 e)).size,(bytesRow s (grownCap w s.size 0 e)).size+1))).heap[w.heap.size]?=some (.cells (bytesRow s (grownCap w s.size 0 e)) e ((bytesRow s (grownCap w s.size 0 e)).size,(bytesRow s (grownCap w s.size 0 e)).size+1)):=heap_alloc_new w.drew _;rw[hb];simp only[IW,SS,CW];have hj:j<s.data.size:=by
   have:=(Df.1 hu).1;simpa using this
  have h2:(s.data.map fun b=>Value.int .u8 (b.toNat:Int))[j]?=some u:=by
   rw[<-Array.getElem?_toList,Array.toList_map];exact hu
  show(bytesRow s (grownCap w s.size 0 e))[j]?=some u;unfold bytesRow;rw[Ed (by simpa using hj)];exact h2
 .exact (Fr.drew _ w).Jb (Fr.alloc [] _ _)
/-! ### ibq ibS nil -/
class PtrT (P:Program) (t:Nat):Prop where u:∃e,P.underlying t=some (.pointer e)
theorem UF(dd:Nat){a:Addr}{e:Nat}(hu:P.underlying t=some (.pointer e)):(Op.equalIn (dd+1) t (.pointer (some a)) (.pointer none)).run P w=.ok false w:=by
 simp[Op.equalIn,run_underlying hu]
theorem Ja9{a:Addr}{e:Nat}(hu:P.underlying t=some (.pointer e)):(Op.equal t (.pointer (some a)) (.pointer none)).run P w=.ok false w:=UF 9999 hu
theorem BU{a:Addr}[T:PtrT P t](hx:ev n f x=.pointer (some a))(hy:ev n f y=.pointer none)(h:wpList P ops Q rest (A n (bz f d (.bool false))) w):
 wpList P ops Q (⟨some d,.binOp .eql t x y t2,ty,ps,af,none⟩::rest) (A n f) w:=by
 exact Yct
theorem Xl{a:Addr}[T:PtrT P t](hx:ev n f x=.pointer (some a))(hy:ev n f y=.pointer none)(h:wpList P ops Q rest (A n (bz f d (.bool true))) w):
 wpList P ops Q (⟨some d,.binOp .neq t x y t2,ty,ps,af,none⟩::rest) (A n f) w:=by
 exact Yct
/-! ### ibr values -/
theorem XM{fn:Fn}{first captured:List Operand}{a b:List Value}(h1:xJ n f first=a)(h2:xJ n f captured=b)(h:wpList P ops Q rest (A n (bz f d (.func fn a.toArray b.toArray))) w):
 wpList P ops Q (⟨some d,.makeFunc fn first.toArray captured.toArray,ty,ps,af,none⟩::rest) (A n f) w:=
 JR (by simp only[execOp,Instr.makeFunc,EK,Ja8,h1,h2];simp) h
theorem ZF{k:Nat}{g:Nat}{l:List Operand}{first cap vs all:List Value}{at_:Array TypeId}{R:Ending->World->Prop}[F:FnT P k](hc:Calls P k all.toArray w R)(hg:ev n f (.tmp g)=.func (.func k) first.toArray cap.toArray)(ha:xJ n f l=vs)
 (rI:first++vs++cap=all) (h:∀e w',R e w'->∃v,e=.returned v/\wpList P ops Q rest (A n (bz f d v)) w'):
 wpList P ops Q (⟨some d,.call {callee:=.value (.tmp g),args:=l.toArray,argTypes:=at_},ty,ps,af,none⟩::rest) (A n f) w:=by
 obtain⟨fn,hf,hn,hb⟩:=F.f;subst rI;refine wpList_plain rfl fun K hK=>?_
 unfold Oper.wp;rw[Zy];have hr:(execOp (ev n f) ⟨some d,.call {callee:=.value (.tmp g),args:=l.toArray,argTypes:=at_},ty,ps,af,none⟩).run P w=.ok (.enter k (first++vs++cap).toArray) w:=by
  simp only[execOp,resolve,invoke,callFunc,hg,Deferred.ofValue,EK,Ja8,ha];have PF:¬fn.name= "runtime.NumGoroutine":=by simpa using hn
  have sd:¬fn.body=none:=by intro e;rw[e]at hb;cases hb
  simp[hf,PF,sd]
 rw[hr];show Calls P k (first++vs++cap).toArray w _;refine hc.mono fun e w' hR=>?_
 obtain⟨v,rfl,hw⟩:=h e w' hR;show K _ _;rw[MK];exact hK _ _ hw
end
end
theorem KT{P:Program}{e size:Nat}{v:Value}{z:List Value}(h:(P.info? e).map (·.zero)=some (some v))(hc:v.cells=z.toArray)(hl:z.length=size):∃i v,P.info? e=some i/\i.zero=some v/\v.cells=z.toArray/\z.length=size:=by
 obtain⟨i,hi,he⟩:=DK.1 h;exact⟨i,v,hi,he,hc,hl⟩
theorem J9{P:Program}{t:Nat}{v:Value}{z:List Value}(h:(P.info? t).map (·.zero)=some (some v))(hc:v.cells=z.toArray):∃i v,P.info? t=some i/\i.zero=some v/\v.cells=z.toArray:=by
 obtain⟨i,hi,he⟩:=DK.1 h;exact⟨i,v,hi,he,hc⟩
section
open Go.RowKit
structure Got (G:Prop):Prop where k:G
theorem rn{G G':Prop}(k:G')(h:Got G'->G:=by(intro h;(repeat(first|with_reducible refine wp_seq ?_|with_reducible refine KA ?_|with_reducible refine wp_block ?_|with_reducible refine wpList_nil ?_|with_reducible refine wp_skip ?_|with_reducible refine wp_exit ?_|with_reducible refine wp_ret ?_|with_reducible refine QG ?_|with_reducible refine Ze ?_|with_reducible refine Bl ?_|with_reducible refine JfI ?_|with_reducible refine Lc ?_|with_reducible refine NU ?_|refine NT rfl ?_|refine Jdk rfl ?_|refine Jbh rfl ?_|((with_reducible apply MR);conv=>lhs;whnf)|((with_reducible apply ZG);conv=>lhs;whnf)|refine MH rfl ?_|refine Jhv rfl ?_|((with_reducible apply MQ);exact rfl;conv=>lhs;whnf)|refine Vy rfl ?_|refine Gf rfl ?_|refine Ku rfl ?_|refine Jdy rfl ?_|refine JaK rfl ?_|refine Jdv rfl ?_|refine VH rfl gi rfl ?_|refine BU rfl rfl ?_|refine Xl rfl rfl ?_|refine XG rfl rfl (IntWalk.i64_in _ ab) ?_|refine XZ rfl rfl (IntWalk.i64_in _ ab) ?_|refine LY rfl rfl (IntWalk.i64_in _ ab) ?_|refine Jdw rfl (IntWalk.i64_in _ ab) ?_|refine Q5 rfl (IntWalk.i64_in _ ab) ?_|refine LX rfl rfl ab (IntWalk.i64_quo _ _ ab) ?_|refine Jdt rfl rfl ab (Ef ab) ?_|refine XG rfl rfl (IntWalk.u64_in _ ab) ?_|refine XZ rfl rfl (IntWalk.u64_in _ ab) ?_|refine LY rfl rfl (IntWalk.u64_in _ ab) ?_|refine Q5 rfl (IntWalk.u64_in _ ab) ?_|refine Q5 rfl (IntWalk.u8_in _ ab) ?_|refine LX rfl rfl ab (IntWalk.u64_quo _ _ ab) ?_|refine XG rfl rfl (IntWalk.u8_in _ ab) ?_|refine XZ rfl rfl (IntWalk.u8_in _ ab) ?_|refine QZ rfl rfl (fun _=>?_) (fun h=>absurd h ab)|refine QZ rfl rfl (fun h=>absurd h ab) (fun _=>?_)|refine Vt rfl rfl (fun _=>?_) (fun h=>absurd h ab)|refine Vt rfl rfl (fun h=>absurd h ab) (fun _=>?_)|refine Ve rfl rfl (fun _=>?_) (fun h=>absurd h ab)|refine Ve rfl rfl (fun h=>absurd h ab) (fun _=>?_)|refine Vf rfl rfl (fun _=>?_) (fun h=>absurd h ab)|refine Vf rfl rfl (fun h=>absurd h ab) (fun _=>?_)|refine Vg rfl rfl (fun _=>?_) (fun h=>absurd h ab)|refine Vg rfl rfl (fun h=>absurd h ab) (fun _=>?_)|refine Vd rfl rfl (fun _=>?_) (fun h=>absurd h ab)|refine Vd rfl rfl (fun h=>absurd h ab) (fun _=>?_)));exact h.k)):G:=h ⟨k⟩
theorem rnc{G G':Prop}(k:G')(h:Got G'->G:=by(intro h;(repeat(first|with_reducible refine wp_seq ?_|with_reducible refine KA ?_|with_reducible refine wp_block ?_|with_reducible refine wpList_nil ?_|with_reducible refine wp_skip ?_|with_reducible refine wp_exit ?_|with_reducible refine wp_ret ?_|with_reducible refine QG ?_|with_reducible refine Ze ?_|with_reducible refine Bl ?_|with_reducible refine JfI ?_|with_reducible refine Lc ?_|with_reducible refine NU ?_|refine NT rfl ?_|refine Jdk rfl ?_|refine Jbh rfl ?_|((with_reducible apply MR);conv=>lhs;whnf)|((with_reducible apply ZG);conv=>lhs;whnf)|refine MH rfl ?_|refine Jhv rfl ?_|((with_reducible apply MQ);exact rfl;conv=>lhs;whnf)|refine Vy rfl ?_|refine Gf rfl ?_|refine Ku rfl ?_|refine Jdy rfl ?_|refine JaK rfl ?_|refine Jdv rfl ?_|refine VH rfl gi rfl ?_|refine BU rfl rfl ?_|refine Xl rfl rfl ?_|refine XG rfl rfl (IntWalk.i64_in _ ab) ?_|refine XZ rfl rfl (IntWalk.i64_in _ ab) ?_|refine LY rfl rfl (IntWalk.i64_in _ ab) ?_|refine Jdw rfl (IntWalk.i64_in _ ab) ?_|refine Q5 rfl (IntWalk.i64_in _ ab) ?_|refine LX rfl rfl ab (IntWalk.i64_quo _ _ ab) ?_|refine Jdt rfl rfl ab (Ef ab) ?_|refine XG rfl rfl (IntWalk.u64_in _ ab) ?_|refine XZ rfl rfl (IntWalk.u64_in _ ab) ?_|refine LY rfl rfl (IntWalk.u64_in _ ab) ?_|refine Q5 rfl (IntWalk.u64_in _ ab) ?_|refine Q5 rfl (IntWalk.u8_in _ ab) ?_|refine LX rfl rfl ab (IntWalk.u64_quo _ _ ab) ?_|refine XG rfl rfl (IntWalk.u8_in _ ab) ?_|refine XZ rfl rfl (IntWalk.u8_in _ ab) ?_));exact h.k)):G:=h ⟨k⟩
theorem JhI{D:Dfs}{P:Program}{Q:Exit->Act->World->Prop}{S:World->Prop}{n:Nat}{f:Env}{w:World}{l:List Oper}{fuel:Nat}{au:Array Bool}{d:Nat}{op:Op}{ty:TypeId}{ps:String}{af:Array Edge}{v:Value}[hQ:PanicOk Q](i:Nat)(hS:S w)
 (h:wpAnyH P .any l.toArray Q S fuel (au.setIfInBounds i true) (A n (bz f d v)) w)
 (hi:l[i]?=some ⟨some d,op,ty,ps,af,none⟩:=by exact rfl)
 (hs:Region.noSelect l.toArray=true:=by kernel_rfl) (hf:Region.free .any l.toArray au i=true:=by kernel_rfl) (hr:(Region.ready .any l.toArray au).contains i=true:=by kernel_rfl)
 (aw:∀u,S u->(execOp (ev n f) ⟨some d,op,ty,ps,af,none⟩).run P u=.ok (.value v) u:=by(intro u hu;(first|(apply JfD;conv=>lhs;whnf)|exact NK rfl|exact JbO rfl|exact Jh9 rfl|exact Jh8 rfl|exact Jia rfl rfl (IntWalk.i64_in _ ab)|exact Jfy rfl rfl (IntWalk.i64_in _ ab)|exact JaQ rfl (IntWalk.u64_in _ ab)|exact JaQ rfl (IntWalk.i64_in _ ab)|exact W9 rfl rfl (SN ab)|exact W9 rfl rfl (SG ab)|exact Zd rfl rfl (SN ab)|exact Zd rfl rfl (SG ab)|exact WZ rfl rfl (SN ab)|exact WZ rfl rfl (SG ab)|exact Z8 rfl rfl (SN ab)|exact Z8 rfl rfl (SG ab)|exact Z9 rfl rfl (SN ab)|exact Z9 rfl rfl (SG ab)|exact L9 rfl rfl (SN ab)|exact L9 rfl rfl (SG ab)|(apply JfC;exact rfl;conv=>lhs;whnf)))):wpAnyH P .any l.toArray Q S (fuel+1) au (A n f) w:=XU hi hs hf hr aw hS h
end
section
open Go.RowKit
/-! ### a loop within a loop -/
def JdT(S:List Nat)(YA:Nat)(S2:List Nat):Nat->Bool
 |0=>true
 |k+1=>(Zv S k||(Nat.blt k YA&& !Zv S2 k))&&JdT S YA S2 k
theorem dR.inn{nl YA:Nat}{S S2:List Nat}{f h g:Env}(hc:JdT S YA S2 nl=true)(hk:dR nl S f h):dR nl S f (Go.Rf.mrg YA S2 h g):=by
 have key:∀k s,JdT S YA S2 k=true->s<k->Zv S s=false->Nat.blt s YA=true/\Zv S2 s=false:=by
  intro k
  induction k with
  |zero=>intro s _ h;omega
  |succ k ih=>
   intro s hb hs he;simp only[JdT,CV]at hb;by_cases e:s=k
   .subst e;rw[he]at hb;simpa using hb.1
   .exact ih s hb.2 ab he
 intro s h1 h2;obtain⟨h3,h4⟩:=key nl s hc h1 h2;simp only[Go.Rf.mrg,h3,h4,Ic,cond_false];exact hk s h1 h2
/-! ### cells rM are known -/
def Cells(w:World)(a:Addr)(l:List Value):Prop:=∀j u,l[j]?=some u->w.cell? (a.add j)=some u
theorem Cells.get{w:World}{a:Addr}{l:List Value}{j:Nat}{u:Value}(h:Cells w a l)(e:l[j]?=some u):w.cell? (a.add j)=some u:=h j u e
theorem Cells.tr{S:List Nat}{w w':World}{a:Addr}{l:List Value}(h:Cells w a l)(hf:Fr S w w')(hS:a.block∉S):Cells w' a l:=by
 intro j u hu;have h0:=h j u hu;rw[hf.cell (World.block_lt_of_cell? w _ h0) (by rw[fB];exact hS)];exact h0
theorem Cells.tr0{w w':World}{a:Addr}{l:List Value}(h:Cells w a l)(hf:Fr [] w w'):Cells w' a l:=h.tr hf ap
theorem Cells.sub{w:World}{a:Addr}{l:List Value}(h:Cells w a l)(o m:Nat):Cells w (a.add o) ((l.drop o).take m):=by
 intro j u hu;rw[FP]at hu
 split at hu
 .rw [EN]at hu;rw[add_add];exact h _ _ hu
 .cases hu
theorem Cells.Jid{w:World}{ad:Addr}{m c:Nat}{ys:List Value}(h:Src w (.slice (some ad) m c) m ys):Cells w ad ys:=by
 intro j u hu;obtain⟨pS,c',e,_,_,hc⟩:=h;simp only[Value.slice.injEq]at e;exact hc ad e.1.symm j u hu
theorem Cells.VO{w:World}{b t:Nat}{l:List Value}(h:aG w b l t):Cells w ⟨b,0,none⟩ l:=by
 intro j u hu;rw[add_lit,Di];exact h.cell hu
section
variable{D:Dfs}
variable{P:Program}{ops:Array Oper}{Q:Exit->Act->World->Prop}{rest:List Oper}{n:Nat}{f:Env}{w:World}
variable{d:Nat}{ty:TypeId}{ps:String}{af:Array Edge}{x y:Operand}{t t2:Nat}{gd:Option (Nat×Bool)}
theorem Jdx{a:Addr}{j:Nat}{l:List Value}{v:Value}[O:OneT P t](hx:ev n f x=.pointer (some (a.add j)))(hc:Cells w a l)(ho:l[j]?=some v)(h:wpList P ops Q rest (A n (bz f d v)) w):
 wpList P ops Q (⟨some d,.load t x,ty,ps,af,none⟩::rest) (A n f) w:=KW hx (hc.get ho) h
theorem Vz{a:Addr}{m:Nat}{l:List Value}[G:AggT P t m](hx:ev n f x=.pointer (some a))(hc:Cells w a l)(hl:l.length=m)(h:wpList P ops Q rest (A n (bz f d (.agg l.toArray))) w):
 wpList P ops Q (⟨some d,.load t x,ty,ps,af,none⟩::rest) (A n f) w:=ZB l hx hl hc h
theorem Jac{a:Addr}{m o:Nat}{l:List Value}[G:AggT P t m](hx:ev n f x=.pointer (some (a.add o)))(hc:Cells w a l)(hl:((l.drop o).take m).length=m)(h:wpList P ops Q rest (A n (bz f d (.agg ((l.drop o).take m).toArray))) w):
 wpList P ops Q (⟨some d,.load t x,ty,ps,af,none⟩::rest) (A n f) w:=ZB _ hx hl (hc.sub o m) h
theorem NC{b m o tb:Nat}{l:List Value}[G:AggT P t m](hx:ev n f x=.pointer (some ⟨b,o,none⟩))(hb:aG w b l tb)(hl:((l.drop o).take m).length=m)(h:wpList P ops Q rest (A n (bz f d (.agg ((l.drop o).take m).toArray))) w):
 wpList P ops Q (⟨some d,.load t x,ty,ps,af,none⟩::rest) (A n f) w:=
 ZB _ hx hl Yjs h
theorem Kv{a:Addr}{m:Nat}{l:List Value}[G:AggT P t m](hx:ev n f x=.pointer (some a))(hc:Cells w a l)(hl:l.length=m):(execOp (ev n f) ⟨some d,.load t x,ty,ps,af,gd⟩).run P w=.ok (.value (.agg l.toArray)) w:=La l hx hl hc
theorem ZJ{a:Addr}{m o:Nat}{l:List Value}[G:AggT P t m](hx:ev n f x=.pointer (some (a.add o)))(hc:Cells w a l)(hl:((l.drop o).take m).length=m):(execOp (ev n f) ⟨some d,.load t x,ty,ps,af,gd⟩).run P w=.ok (.value (.agg ((l.drop o).take m).toArray)) w:=La _ hx hl (hc.sub o m)
theorem NM{b m o tb:Nat}{l:List Value}[G:AggT P t m](hx:ev n f x=.pointer (some ⟨b,o,none⟩))(hb:aG w b l tb)(hl:((l.drop o).take m).length=m):(execOp (ev n f) ⟨some d,.load t x,ty,ps,af,gd⟩).run P w=.ok (.value (.agg ((l.drop o).take m).toArray)) w:=
 La _ hx hl Yjs
/-! ### idW -/
theorem Jao{vs:List Value}{i:Nat}{v:Value}(hx:ev n f x=.tuple vs.toArray)(hv:vs[i]?=some v):(execOp (ev n f) ⟨some d,.extract x i,ty,ps,af,gd⟩).run P w=.ok (.value v) w:=by
 simp[execOp,Instr.extract,hx,hv]
theorem Jae{vs:List Value}{i:Nat}{v:Value}(hx:ev n f x=.tuple vs.toArray)(hv:vs[i]?=some v)(h:wpList P ops Q rest (A n (bz f d v)) w):
 wpList P ops Q (⟨some d,.extract x i,ty,ps,af,none⟩::rest) (A n f) w:=JR (Jao hx hv) h
/-! ### idX -/
class ArrT (P:Program) (t:Nat) (k e size:outParam Nat):Prop where
 u:P.underlying t=some (.array k e)
 inf:∃i,P.info? e=some i/\i.size=size
theorem Jc5{k e:Nat}{cs:List Value}{kk:IntKind}{j:Nat}{v:Value}[R:ArrT P t k e 1][O:OneT P e](hx:ev n f x=.agg cs.toArray)(hy:ev n f y=.int kk (j:Int))(hj:j<k)(hv:cs[j]?=some v):
 (execOp (ev n f) ⟨some d,.index t x y,ty,ps,af,gd⟩).run P w=.ok (.value v) w:=by
 obtain⟨i,hi,hs⟩:=R.inf;obtain⟨dd,hd,ha⟩:=O.agg;have h2:(j:Int)<(k:Int):=by omega
 simp[execOp,Instr.index,hx,hy,asIntOf,run_underlying R.u,hj,sizeOf,typeInfo,hi,hs,part,ZI hd,ha,hv]
theorem JcY{k e:Nat}{cs:List Value}{kk:IntKind}{j:Nat}{v:Value}[R:ArrT P t k e 1][O:OneT P e](hx:ev n f x=.agg cs.toArray)(hy:ev n f y=.int kk (j:Int))(hj:j<k)(hv:cs[j]?=some v)(h:wpList P ops Q rest (A n (bz f d v)) w):
 wpList P ops Q (⟨some d,.index t x y,ty,ps,af,none⟩::rest) (A n f) w:=JR (Jc5 hx hy hj hv) h
theorem V8{k e size:Nat}{a:Addr}{kk:IntKind}{j:Nat}[R:ArrT P t k e size](hx:ev n f x=.pointer (some a))(hy:ev n f y=.int kk (j:Int))(hj:j<k):
 (execOp (ev n f) ⟨some d,.indexAddr t x y,ty,ps,af,gd⟩).run P w=.ok (.value (.pointer (some (a.add (j*size))))) w:=by
 obtain⟨i,hi,hs⟩:=R.inf;have h2:(j:Int)<(k:Int):=by omega
 simp[execOp,Instr.indexAt,hx,hy,asIntOf,run_underlying R.u,hj,sizeOf,typeInfo,hi,hs,Instr.sureAddr]
theorem NG{k e b:Nat}{kk:IntKind}{j:Nat}[R:ArrT P t k e 1](hx:ev n f x=.pointer (some ⟨b,0,none⟩))(hy:ev n f y=.int kk (j:Int))(hj:j<k)(h:wpList P ops Q rest (A n (bz f d (.pointer (some ⟨b,j,none⟩)))) w):
 wpList P ops Q (⟨some d,.indexAddr t x y,ty,ps,af,none⟩::rest) (A n f) w:=by
 refine JR (V8 hx hy hj) ?_;rw[Dq,add_lit,Di];exact h
theorem NR{k e size:Nat}{z:List Value}{parts:List (Nat×Operand)}(cells:List Value)[R:ArrT P t k e size][Z:ZeroT P t (.agg z.toArray)](h:Xr (fun i=>some (i*size,size)) z (UR n f parts)=some cells):
 (execOp (ev n f) ⟨some d,.build t parts.toArray,ty,ps,af,gd⟩).run P w=.ok (.value (.agg cells.toArray)) w:=by
 obtain⟨i,hi,hz⟩:=Z.z;obtain⟨j,hj,hs⟩:=R.inf;have hf:=LH _ _ _ _ h;simp only[execOp,Instr.build,EK,Nk];simp[zeroValue,typeInfo,hi,hz,Value.cells,run_underlying R.u,sizeOf,hj,hs,hf]
theorem JmD{k e size:Nat}{z:List Value}{parts:List (Nat×Operand)}(cells:List Value)[R:ArrT P t k e size][Z:ZeroT P t (.agg z.toArray)](h:Xr (fun i=>some (i*size,size)) z (UR n f parts)=some cells)
 (hk:wpList P ops Q rest (A n (bz f d (.agg cells.toArray))) w):wpList P ops Q (⟨some d,.build t parts.toArray,ty,ps,af,none⟩::rest) (A n f) w:=JR (NR cells h) hk
/-! ### strings -/
theorem Jc4{s:ByteArray}{kk:IntKind}{j:Nat}{b:UInt8}[S:StrT P t](hx:ev n f x=.string s)(hy:ev n f y=.int kk (j:Int))(hb:s.data.toList[j]?=some b):
 (execOp (ev n f) ⟨some d,.index t x y,ty,ps,af,gd⟩).run P w=.ok (.value (.int .u8 b.toNat)) w:=by
 have hj:s[j]?=some b:=by
  have aC:=(Df.1 hb).1;have qX:j<s.size:=by simpa using aC
  rw[getElem?_pos s j qX];simp at hb;obtain⟨h1,h2⟩:=DI.1 hb;simp only[Sj];exact h2
 have h0:(0:Int)<=(j:Int):=by omega
 simp[execOp,Instr.index,hx,hy,asIntOf,run_underlying S.u,hj]
theorem J4{s:ByteArray}{kk:IntKind}{j:Nat}{b:UInt8}[S:StrT P t](hx:ev n f x=.string s)(hy:ev n f y=.int kk (j:Int))(hb:s.data.toList[j]?=some b)(h:wpList P ops Q rest (A n (bz f d (.int .u8 b.toNat))) w):
 wpList P ops Q (⟨some d,.index t x y,ty,ps,af,none⟩::rest) (A n f) w:=JR (Jc4 hx hy hb) h
theorem toList_inj{a b:ByteArray}:a.toList=b.toList↔a=b:=by
 constructor
 .intro h;rw[ByteArray.toList_eq,ByteArray.toList_eq]at h;cases a;cases b
  congr 1
  exact Oc.1 h
 .intro h;rw[h]
theorem QB{a b:ByteArray}(hx:ev n f x=.string a)(hy:ev n f y=.string b)(ht:a=b->wpList P ops Q rest (A n (bz f d (.bool true))) w)(hf:¬a=b->wpList P ops Q rest (A n (bz f d (.bool false))) w):
 wpList P ops Q (⟨some d,.binOp .eql t x y t2,ty,ps,af,none⟩::rest) (A n f) w:=JiD hx hy (fun h=>ht (toList_inj.1 h)) (fun h=>hf (fun e=>h (toList_inj.2 e)))
theorem Qv{a b:ByteArray}(hx:ev n f x=.string a)(hy:ev n f y=.string b)(ht:¬a=b->wpList P ops Q rest (A n (bz f d (.bool true))) w)(hf:a=b->wpList P ops Q rest (A n (bz f d (.bool false))) w):
 wpList P ops Q (⟨some d,.binOp .neq t x y t2,ty,ps,af,none⟩::rest) (A n f) w:=JiC hx hy (fun h=>ht (fun e=>h (toList_inj.2 e))) (fun h=>hf (toList_inj.1 h))
theorem NQ{a b:ByteArray}{p:Bool}(hx:ev n f x=.string a)(hy:ev n f y=.string b)(hp:decide (a=b)=p):(execOp (ev n f) ⟨some d,.binOp .eql t x y t2,ty,ps,af,gd⟩).run P w=.ok (.value (.bool p)) w:=by
 exact Yco
theorem Jk7{a b:ByteArray}{p:Bool}(hx:ev n f x=.string a)(hy:ev n f y=.string b)(hp:decide (¬a=b)=p):(execOp (ev n f) ⟨some d,.binOp .neq t x y t2,ty,ps,af,gd⟩).run P w=.ok (.value (.bool p)) w:=by
 exact Yco
theorem WG{a b:ByteArray}(hx:ev n f x=.string a)(hy:ev n f y=.string b)(ht:Op.bytesLess a.toList b.toList=true->wpList P ops Q rest (A n (bz f d (.bool true))) w)(hf:¬Op.bytesLess a.toList b.toList=true->wpList P ops Q rest (A n (bz f d (.bool false))) w):
 wpList P ops Q (⟨some d,.binOp .lss t x y t2,ty,ps,af,none⟩::rest) (A n f) w:=Z5 hx hy (by simp[eqGuard,binOp,Op.stringOp]) ht hf
theorem WY{a b:ByteArray}(hx:ev n f x=.string a)(hy:ev n f y=.string b)(ht:¬(Op.bytesLess a.toList b.toList=true\/a=b)->wpList P ops Q rest (A n (bz f d (.bool true))) w)
 (hf:(Op.bytesLess a.toList b.toList=true\/a=b)->wpList P ops Q rest (A n (bz f d (.bool false))) w):
 wpList P ops Q (⟨some d,.binOp .gtr t x y t2,ty,ps,af,none⟩::rest) (A n f) w:=
 Z5 (p:=¬(Op.bytesLess a.toList b.toList=true\/a=b)) hx hy (by simp[eqGuard,binOp,Op.stringOp,Nh,toList_inj]) ht (fun h=>hf (Fz h))
/-! ### made rN -/
theorem MN{z:List Value}(hz:0<z.length)(k:Nat):(madeCells z.toArray (k*z.length)).toList=bG z k:=by
 apply Il;intro i;unfold madeCells;by_cases hi:i<k*z.length
 .rw [U4 z hz k i hi];have hm:i%z.length<z.length:=Nat.mod_lt _ hz;simp[hi,hm]
 .have h1:(bG z k).length<=i:=by rw[U3];omega
  rw[ED h1];simp;omega
theorem Qh{e size eZ k:Nat}{z:List Value}{kl kc:IntKind}[R:RowZ P t e size eZ z](hx:ev n f x=.int kl (k:Int))(hy:ev n f y=.int kc (k:Int))(hb:eZ*k<=281474976710656)(jW:k<=maxLen)
 (h:∀w',bx w' e size (.slice (some ⟨w.heap.size,0,none⟩) k k) k (bG z k)->Fr [] w w'->w'.heap.size=w.heap.size+1->wpList P ops Q rest (A n (bz f d (.slice (some ⟨w.heap.size,0,none⟩) k k))) w'):
 wpList P ops Q (⟨some d,.makeSlice t x y,ty,ps,af,none⟩::rest) (A n f) w:=by
 have Rr:=R.row;obtain⟨i0,z0,lp,hz0,hs,ph,sc⟩:=Rr.inf;obtain⟨i,v,hi,hz,hc,oo⟩:=R.z;rw[lp]at hi;simp only[Sj]at hi;subst hi;have qQ:(k:Int)<=9223372036854775807:=by
  have h:=jW;simp[maxLen]at h;omega
 have sd:(i0.bytes:Int)*(k:Int)<=281474976710656:=by
  have h:((i0.bytes*k:Nat):Int)<=281474976710656:=by rw[ph];omega
  rwa [Int.natCast_mul]at h
 have hr:=run_make (P:=P) w t e i0 v Rr.und lp hz kl kc k k ab (Int.le_refl _) sd qQ;simp only[EG]at hr;have hm:=MN (z:=z) (by rw[oo];exact Rr.pos) k;rw[oo]at hm;rw[hc,hs]at hr;refine JR (by simp only[execOp,hx,hy];rw[Sem.run_bind,hr];rfl) (h _ ?_ (Fr.alloc _ _ _) ap);have ho:bx (w.alloc (.cells (madeCells z.toArray (k*size)) e)) e size (.slice (some ⟨w.heap.size,0,none⟩) k k) k (madeCells z.toArray (k*size)).toList:=by
  refine World.ownsRow_lit w _ k (SL _) jW ?_;simp[madeCells]
 rw[hm]at ho;exact ho
/-! ### idY igj owned rN -/
theorem N8{e size k c q:Nat}{xs cs:List Value}{ao:Option Addr}{a:Addr}(cB:bx w e size (.slice ao k c) k xs)(yY:ao=some a)(hq:q+cs.length<=k*size)(h1:∀u∈cs,u.oneCell'=true):
 ∃w',(storeCells (a.add q) cs).run P w=.ok () w'/\bx w' e size (.slice ao k c) k (xs.take q++cs++xs.drop (q+cs.length))/\Fr (ag (.slice ao k c)) w w'/\w'.heap.size=w.heap.size:=by
 subst yY;obtain⟨hl,hh⟩:=id cB;rcases hh with⟨h0,_⟩|⟨g,cap,eS,hv',hb,hg,kY,gO,R8,yk⟩
 .cases h0
 .simp only[Value.slice.injEq,Sj]at hv';obtain⟨rfl,_,rfl⟩:=hv';have hkc:k*size<=eS.size:=by
   have:=Em size kY;omega
  have ai:=run_storeCells_at P g q e cs 0 eS w hg ab h1;simp only[En]at ai;refine⟨w.setRow g (eS.toList.take q++cs++eS.toList.drop (q+cs.length)).toArray,?_,⟨?_,.inr ⟨g,c,_,rfl,hb,setRow_heap w g eS _ e _ hg,kY,gO,?_,?_⟩⟩,⟨rfl,rfl,rfl,by simp,fun j _ hk=>setRow_other w g j _ (fun e=>hk Ykj),SX _⟩,by simp⟩
  .rw [add_lit,Di];exact ai
  .have:q+cs.length<=xs.length:=by rw[hl];exact hq
   simp only[Sm,C9,Dn];rw[<-hl];omega
  .simp only[Ea,Sm,C9,Dn,Es];omega
  .simp only;rw[<-yk];apply Il;intro j;simp only[FP,List.getElem?_append,Sm,C9,EN,Es,List.take_take];have e1:min q eS.size=q:=by omega
   have e2:min q (k*size)=q:=by omega
   have e3:min (min q (k*size)) eS.size=q:=by omega
   have e4:min q (min (k*size) eS.size)=q:=by omega
   by_cases hj:j<k*size
   .rw [Cb hj];simp only[e1,e2,e3,e4];by_cases h5:j<q
    .have h8:j<min q (min (k*size) eS.size):=by omega
     have h9:j<q+cs.length:=by omega
     simp[h5,h8,h9]
    .by_cases h6:j<q+cs.length
     .simp [h5,h6]
     .simp [h5,h6];intro h7;omega
   .rw [SH hj];simp only[e1,e2,e3,e4];have h5:¬j<q:=by omega
    have h6:¬j<q+cs.length:=by omega
    simp[h5,h6];intro h7;omega
theorem JbF{e size k c q:Nat}{u:Value}{xs:List Value}{ao:Option Addr}{a b:Addr}[O:OneT P t](cB:bx w e size (.slice ao k c) k xs)(yY:ao=some a)(hx:ev n f x=.pointer (some b))(hb:b=a.add q)(hv:ev n f y=u)(h1:u.oneCell'=true)(hq:q<k*size)
 (h:∀w',bx w' e size (.slice ao k c) k (xs.take q++[u]++xs.drop (q+1))->Fr (ag (.slice ao k c)) w w'->w'.heap.size=w.heap.size->wpList P ops Q rest (A n f) w'):wpList P ops Q (⟨none,.store t x y,ty,ps,af,none⟩::rest) (A n f) w:=by
 obtain⟨i,hi,hs⟩:=O.size;have fG:u.cells=#[u]:=by cases u<;>simp_all [Value.cells,Value.oneCell']
 obtain⟨w',hr,ho,hf,hz⟩:=N8 (P:=P) (cs:=[u]) (q:=q) cB yY aZ (by simpa using h1);subst hb;refine X8 (w':=w') ?_ (h w' ho hf hz);simp[execOp,hx,hv,Instr.storeAt,Instr.sureAddr,storeVar,sizeOf,typeInfo,hi,hs,fG,hr]
theorem Qj{e size k c q m:Nat}{xs cs:List Value}{ao:Option Addr}{a b:Addr}[O:AggT P t m](cB:bx w e size (.slice ao k c) k xs)(yY:ao=some a)(hx:ev n f x=.pointer (some b))(hb:b=a.add q)(hv:ev n f y=.agg cs.toArray)(hm:cs.length=m)(h1:∀u∈cs,u.oneCell'=true)(hq:q+m<=k*size)
 (h:∀w',bx w' e size (.slice ao k c) k (xs.take q++cs++xs.drop (q+m))->Fr (ag (.slice ao k c)) w w'->w'.heap.size=w.heap.size->wpList P ops Q rest (A n f) w'):wpList P ops Q (⟨none,.store t x y,ty,ps,af,none⟩::rest) (A n f) w:=by
 obtain⟨i,hi,hs⟩:=O.size;subst hm;obtain⟨w',hr,ho,hf,hz⟩:=N8 (P:=P) (cs:=cs) cB yY hq h1;subst hb;refine X8 (w':=w') ?_ (h w' ho hf hz);simp[execOp,hx,hv,Instr.storeAt,Instr.sureAddr,storeVar,sizeOf,typeInfo,hi,hs,Value.cells,hr]
theorem Jt{b tb m o:Nat}{l cs:List Value}[G:AggT P t m](hx:ev n f x=.pointer (some ⟨b,o,none⟩))(hv:ev n f y=.agg cs.toArray)(hb:aG w b l tb)(h1:∀c∈cs,c.oneCell'=true)(hl:o+m<=l.length)(hc:cs.length=m)
 (h:∀w',aG w' b (l.take o++cs++l.drop (o+m)) tb->Fr [b] w w'->w'.heap.size=w.heap.size->wpList P ops Q rest (A n f) w'):wpList P ops Q (⟨none,.store t x y,ty,ps,af,none⟩::rest) (A n f) w:=by
 obtain⟨i,hi,hs⟩:=G.size;have ai:=run_storeCells_at P b o tb cs 0 l.toArray w hb (by simpa[hc]using hl) h1;simp only[En]at ai;refine X8 (w':=w.setRow b (l.take o++cs++l.drop (o+cs.length)).toArray) ?_ (h _ (by rw[<-hc];exact setRow_heap w b l.toArray _ tb _ hb) ⟨rfl,rfl,rfl,by simp,fun k _ hk=>setRow_other w b k _ (by simpa using hk),SX _⟩ ap);rw[hc]at ai ⊢;have idZ:(storeCells ⟨b,o,none⟩ cs).run P w=.ok () (w.setRow b (l.take o++cs++l.drop (o+m)).toArray):=by simpa using ai
 simp[execOp,hx,hv,Instr.storeAt,Instr.sureAddr,storeVar,sizeOf,typeInfo,hi,hs,Value.cells,hc,idZ]
end
end
section
open Go.RowKit
theorem rx{G G':Prop}(k:G')(h:Got G'->G:=by(intro h;(repeat(first|with_reducible refine wp_seq ?_|with_reducible refine KA ?_|with_reducible refine wp_block ?_|with_reducible refine wpList_nil ?_|with_reducible refine wp_skip ?_|with_reducible refine wp_exit ?_|with_reducible refine wp_ret ?_|with_reducible refine QG ?_|with_reducible refine Ze ?_|with_reducible refine Bl ?_|with_reducible refine JfI ?_|with_reducible refine Lc ?_|with_reducible refine NU ?_|refine NT rfl ?_|refine Jdk rfl ?_|refine Jbh rfl ?_|((with_reducible apply MR);conv=>lhs;whnf)|((with_reducible apply ZG);conv=>lhs;whnf)|refine MH rfl ?_|refine Jhv rfl ?_|((with_reducible apply MQ);exact rfl;conv=>lhs;whnf)|refine Vy rfl ?_|refine Gf rfl ?_|refine Ku rfl ?_|refine Jdy rfl ?_|refine JaK rfl ?_|refine Jdv rfl ?_|refine VH rfl gi rfl ?_|refine BU rfl rfl ?_|refine Xl rfl rfl ?_|refine Jae rfl rfl ?_|refine Wq rfl rfl rfl ab rfl ?_|refine NG rfl rfl ab ?_|refine Jdx rfl gi rfl ?_|refine Vz rfl gi fD ?_|refine KE rfl gi fD ?_|refine Jac rfl gi fD ?_|refine NC rfl gi fD ?_|refine QB rfl rfl (fun _=>?_) (fun h=>absurd gi h)|refine QB rfl rfl (fun h=>absurd h gi) (fun _=>?_)|refine Qv rfl rfl (fun _=>?_) (fun h=>absurd h gi)|refine Qv rfl rfl (fun h=>absurd gi h) (fun _=>?_)|refine WG rfl rfl (fun _=>?_) (fun h=>absurd gi h)|refine WG rfl rfl (fun h=>absurd h gi) (fun _=>?_)|refine WY rfl rfl (fun _=>?_) (fun h=>absurd h gi)|refine WY rfl rfl (fun h=>absurd gi h) (fun _=>?_)|refine XG rfl rfl (IntWalk.i64_in _ ab) ?_|refine XZ rfl rfl (IntWalk.i64_in _ ab) ?_|refine LY rfl rfl (IntWalk.i64_in _ ab) ?_|refine Jdw rfl (IntWalk.i64_in _ ab) ?_|refine Q5 rfl (IntWalk.i64_in _ ab) ?_|refine LX rfl rfl ab (IntWalk.i64_quo _ _ ab) ?_|refine Jdt rfl rfl ab (Ef ab) ?_|refine XG rfl rfl (IntWalk.u64_in _ ab) ?_|refine XZ rfl rfl (IntWalk.u64_in _ ab) ?_|refine LY rfl rfl (IntWalk.u64_in _ ab) ?_|refine Q5 rfl (IntWalk.u64_in _ ab) ?_|refine Q5 rfl (IntWalk.u8_in _ ab) ?_|refine LX rfl rfl ab (IntWalk.u64_quo _ _ ab) ?_|refine XG rfl rfl (IntWalk.u8_in _ ab) ?_|refine XZ rfl rfl (IntWalk.u8_in _ ab) ?_|refine QZ rfl rfl (fun _=>?_) (fun h=>absurd h ab)|refine QZ rfl rfl (fun h=>absurd h ab) (fun _=>?_)|refine Vt rfl rfl (fun _=>?_) (fun h=>absurd h ab)|refine Vt rfl rfl (fun h=>absurd h ab) (fun _=>?_)|refine Ve rfl rfl (fun _=>?_) (fun h=>absurd h ab)|refine Ve rfl rfl (fun h=>absurd h ab) (fun _=>?_)|refine Vf rfl rfl (fun _=>?_) (fun h=>absurd h ab)|refine Vf rfl rfl (fun h=>absurd h ab) (fun _=>?_)|refine Vg rfl rfl (fun _=>?_) (fun h=>absurd h ab)|refine Vg rfl rfl (fun h=>absurd h ab) (fun _=>?_)|refine Vd rfl rfl (fun _=>?_) (fun h=>absurd h ab)|refine Vd rfl rfl (fun h=>absurd h ab) (fun _=>?_)));exact h.k)):G:=h ⟨k⟩
theorem rr{G G':Prop}(k:G')(h:Got G'->G:=by(intro h;(repeat(first|((with_reducible apply MR);conv=>lhs;whnf)|((with_reducible apply ZG);conv=>lhs;whnf)|refine MH rfl ?_|refine Jhv rfl ?_|((with_reducible apply MQ);exact rfl;conv=>lhs;whnf)|refine Vy rfl ?_|refine Gf rfl ?_|refine Ku rfl ?_|refine Jdy rfl ?_|refine JaK rfl ?_|refine Jdv rfl ?_|refine VH rfl gi rfl ?_|refine BU rfl rfl ?_|refine Xl rfl rfl ?_|refine Jae rfl rfl ?_|refine Wq rfl rfl rfl ab rfl ?_|refine NG rfl rfl ab ?_|refine Jdx rfl gi rfl ?_|refine Vz rfl gi fD ?_|refine KE rfl gi fD ?_|refine Jac rfl gi fD ?_|refine NC rfl gi fD ?_|refine QB rfl rfl (fun _=>?_) (fun h=>absurd gi h)|refine QB rfl rfl (fun h=>absurd h gi) (fun _=>?_)|refine Qv rfl rfl (fun _=>?_) (fun h=>absurd h gi)|refine Qv rfl rfl (fun h=>absurd gi h) (fun _=>?_)|refine WG rfl rfl (fun _=>?_) (fun h=>absurd gi h)|refine WG rfl rfl (fun h=>absurd h gi) (fun _=>?_)|refine WY rfl rfl (fun _=>?_) (fun h=>absurd h gi)|refine WY rfl rfl (fun h=>absurd gi h) (fun _=>?_)|refine XG rfl rfl (IntWalk.i64_in _ ab) ?_|refine XZ rfl rfl (IntWalk.i64_in _ ab) ?_|refine LY rfl rfl (IntWalk.i64_in _ ab) ?_|refine Jdw rfl (IntWalk.i64_in _ ab) ?_|refine Q5 rfl (IntWalk.i64_in _ ab) ?_|refine LX rfl rfl ab (IntWalk.i64_quo _ _ ab) ?_|refine Jdt rfl rfl ab (Ef ab) ?_|refine XG rfl rfl (IntWalk.u64_in _ ab) ?_|refine XZ rfl rfl (IntWalk.u64_in _ ab) ?_|refine LY rfl rfl (IntWalk.u64_in _ ab) ?_|refine Q5 rfl (IntWalk.u64_in _ ab) ?_|refine Q5 rfl (IntWalk.u8_in _ ab) ?_|refine LX rfl rfl ab (IntWalk.u64_quo _ _ ab) ?_|refine XG rfl rfl (IntWalk.u8_in _ ab) ?_|refine XZ rfl rfl (IntWalk.u8_in _ ab) ?_|refine QZ rfl rfl (fun _=>?_) (fun h=>absurd h ab)|refine QZ rfl rfl (fun h=>absurd h ab) (fun _=>?_)|refine Vt rfl rfl (fun _=>?_) (fun h=>absurd h ab)|refine Vt rfl rfl (fun h=>absurd h ab) (fun _=>?_)|refine Ve rfl rfl (fun _=>?_) (fun h=>absurd h ab)|refine Ve rfl rfl (fun h=>absurd h ab) (fun _=>?_)|refine Vf rfl rfl (fun _=>?_) (fun h=>absurd h ab)|refine Vf rfl rfl (fun h=>absurd h ab) (fun _=>?_)|refine Vg rfl rfl (fun _=>?_) (fun h=>absurd h ab)|refine Vg rfl rfl (fun h=>absurd h ab) (fun _=>?_)|refine Vd rfl rfl (fun _=>?_) (fun h=>absurd h ab)|refine Vd rfl rfl (fun h=>absurd h ab) (fun _=>?_)));exact h.k)):G:=h ⟨k⟩
theorem Kw{D:Dfs}{P:Program}{Q:Exit->Act->World->Prop}{S:World->Prop}{n:Nat}{f:Env}{w:World}{l:List Oper}{fuel:Nat}{au:Array Bool}{d:Nat}{op:Op}{ty:TypeId}{ps:String}{af:Array Edge}{v:Value}[hQ:PanicOk Q](i:Nat)(hS:S w)
 (h:wpAnyH P .any l.toArray Q S fuel (au.setIfInBounds i true) (A n (bz f d v)) w)
 (hi:l[i]?=some ⟨some d,op,ty,ps,af,none⟩:=by exact rfl)
 (hs:Region.noSelect l.toArray=true:=by kernel_rfl) (hf:Region.free .any l.toArray au i=true:=by kernel_rfl) (hr:(Region.ready .any l.toArray au).contains i=true:=by kernel_rfl)
 (aw:∀u,S u->(execOp (ev n f) ⟨some d,op,ty,ps,af,none⟩).run P u=.ok (.value v) u:=by exact dqx):wpAnyH P .any l.toArray Q S (fuel+1) au (A n f) w:=XU hi hs hf hr aw hS h
theorem Kz{D:Dfs}{P:Program}{Q:Exit->Act->World->Prop}{S:World->Prop}{n:Nat}{f:Env}{w:World}{l:List Oper}{fuel:Nat}{au:Array Bool}{d j:Nat}{b:Bool}{op:Op}{ty:TypeId}{ps:String}{af:Array Edge}{v:Value}[hQ:PanicOk Q](i:Nat)(hS:S w)
 (h:wpAnyH P .any l.toArray Q S fuel (au.setIfInBounds i true) (A n (bz f d v)) w)
 (hi:l[i]?=some ⟨some d,op,ty,ps,af,some (j,b)⟩:=by exact rfl) (hy:PP l n f j=some b:=by exact rfl)
 (hs:Region.noSelect l.toArray=true:=by kernel_rfl) (hf:Region.free .any l.toArray au i=true:=by kernel_rfl) (hr:(Region.ready .any l.toArray au).contains i=true:=by kernel_rfl)
 (aw:∀u,S u->(execOp (ev n f) ⟨some d,op,ty,ps,af,none⟩).run P u=.ok (.value v) u:=by exact dqx):wpAnyH P .any l.toArray Q S (fuel+1) au (A n f) w:=V4 hi hy hs hf hr aw hS h
theorem Jkj{D:Dfs}{P:Program}{Q:Exit->Act->World->Prop}{S:World->Prop}{n:Nat}{f:Env}{w:World}{l:List Oper}{fuel:Nat}{au:Array Bool}{d j:Nat}{b:Bool}{op:Op}{ty:TypeId}{ps:String}{af:Array Edge}[hQ:PanicOk Q](i:Nat)(hS:S w)
 (h:wpAnyH P .any l.toArray Q S fuel (au.setIfInBounds i true) (A n (bz f d undef)) w)
 (hi:l[i]?=some ⟨some d,op,ty,ps,af,some (j,b)⟩:=by exact rfl) (hy:(PP l n f j==some b)=false:=by exact rfl)
 (hs:Region.noSelect l.toArray=true:=by kernel_rfl) (hf:Region.free .any l.toArray au i=true:=by kernel_rfl) (hr:(Region.ready .any l.toArray au).contains i=true:=by kernel_rfl):wpAnyH P .any l.toArray Q S (fuel+1) au (A n f) w:=JkX hi hy hs hf hr hS h
end
section
open Go.RowKit
section
variable {D : Dfs} {P : Program} {ops : Array Oper} {Q : Exit -> Act -> World -> Prop} {rest : List Oper} {n : Nat} {f : Env} {w : World} {d : Nat} {ty : TypeId} {ps : String} {af : Array Edge} {x : Operand}
theorem Jg {k : Nat} {l : List Operand} {at_ : Array TypeId} {v : Value} {R : World -> Prop} [F : FnT P k] (hc : Calls P k (xJ n f l).toArray w (fun e w' => e = .returned v /\ R w')) (h : ∀ w', R w' -> wpList P ops Q rest (A n (bz f d v)) w') : wpList P ops Q (⟨some d, .call { callee := .value (.func k), args := l.toArray, argTypes := at_ }, ty, ps, af, none⟩ :: rest) (A n f) w := aT hc rfl (fun _ w' ⟨he, hr⟩ => ⟨v, he, h w' hr⟩)
theorem Jl {α : Type _} {k : Nat} {l : List Operand} {at_ : Array TypeId} {v : α -> Value} {R : α -> World -> Prop} [F : FnT P k] (hc : Calls P k (xJ n f l).toArray w (fun e w' => ∃ a, e = .returned (v a) /\ R a w')) (h : ∀ a w', R a w' -> wpList P ops Q rest (A n (bz f d (v a))) w') : wpList P ops Q (⟨some d, .call { callee := .value (.func k), args := l.toArray, argTypes := at_ }, ty, ps, af, none⟩ :: rest) (A n f) w := aT hc rfl (fun _ w' ⟨a, he, hr⟩ => ⟨v a, he, h a w' hr⟩)
theorem Y9 {α β : Type _} {k : Nat} {l : List Operand} {at_ : Array TypeId} {v : α -> β -> Value} {R : α -> β -> World -> Prop} [F : FnT P k] (hc : Calls P k (xJ n f l).toArray w (fun e w' => ∃ a b, e = .returned (v a b) /\ R a b w')) (h : ∀ a b w', R a b w' -> wpList P ops Q rest (A n (bz f d (v a b))) w') : wpList P ops Q (⟨some d, .call { callee := .value (.func k), args := l.toArray, argTypes := at_ }, ty, ps, af, none⟩ :: rest) (A n f) w := aT hc rfl (fun _ w' ⟨a, b, he, hr⟩ => ⟨v a b, he, h a b w' hr⟩)
theorem Jm {e : Nat} {z : Value} {l : List Value} [Z : ZeroT P e z] (hz : z.cells = l.toArray) (h : ∀ w' b, b = w.heap.size -> aG w' b l e -> Fr [] w w' -> w'.heap.size = w.heap.size + 1 -> wpList P ops Q rest (A n (bz f d (.pointer (some ⟨b, 0, none⟩)))) w') : wpList P ops Q (⟨some d, .alloc e, ty, ps, af, none⟩ :: rest) (A n f) w := WM hz (fun w' h1 h2 h3 => h w' _ rfl h1 h2 h3)
theorem Ju {e : Nat} {v : Value} {l : List Value} (hx : ev n f x = v) (hv : v.cells = l.toArray) (h : ∀ w' b, b = w.heap.size -> aG w' b l e -> Fr [] w w' -> w'.heap.size = w.heap.size + 1 -> wpList P ops Q rest (A n (bz f d (.pointer (some ⟨b, 0, none⟩)))) w') : wpList P ops Q (⟨some d, .box e x, ty, ps, af, none⟩ :: rest) (A n f) w := Gg hx hv (fun w' h1 h2 h3 => h w' _ rfl h1 h2 h3)
end
section
variable {D : Dfs} {P : Program} {Q : Exit -> Act -> World -> Prop} {S : World -> Prop} {n : Nat} {f f' : Env} {w : World} {l : List Oper} {fuel : Nat} {au : Array Bool} {d : Nat} {v : Value} [hQ : PanicOk Q]
theorem bH (i : Nat) (hS : S w) (h : wpAnyH P .any l.toArray Q S fuel (au.setIfInBounds i true) (A n f') w) (hz : Ix i -> S w -> wpAnyH P .any l.toArray Q S fuel (au.setIfInBounds i true) (A n f') w -> wpAnyH P .any l.toArray Q S (fuel + 1) au (A n f) w := by intro _ a b; first | exact Kw _ a b | exact Kz _ a b | exact Jkj _ a b) : wpAnyH P .any l.toArray Q S (fuel + 1) au (A n f) w := hz trivial hS h
theorem AL {i : Nat} (_ : Ix i) (hS : S w) (h : wpAnyH P .any l.toArray Q S fuel (au.setIfInBounds i true) (A n f') w) (hz : Ix i -> S w -> wpAnyH P .any l.toArray Q S fuel (au.setIfInBounds i true) (A n f') w -> wpAnyH P .any l.toArray Q S (fuel + 1) au (A n f) w := by intro _ a b; first | exact Kw _ a b | exact Kz _ a b | exact Jkj _ a b) : wpAnyH P .any l.toArray Q S (fuel + 1) au (A n f) w := hz trivial hS h
theorem JX (i j : Nat) (hS : S w) (h : wpAnyH P .any l.toArray Q S fuel ((au.setIfInBounds i true).setIfInBounds j true) (A n f') w) (hz : Ix i -> Ix j -> S w -> wpAnyH P .any l.toArray Q S fuel ((au.setIfInBounds i true).setIfInBounds j true) (A n f') w -> wpAnyH P .any l.toArray Q S (fuel + 2) au (A n f) w := by intro t u a b; refine AL t a ?_; refine AL u a ?_; exact b) : wpAnyH P .any l.toArray Q S (fuel + 2) au (A n f) w := hz trivial trivial hS h
theorem Jj (i j k m : Nat) (hS : S w) (h : wpAnyH P .any l.toArray Q S fuel ((((au.setIfInBounds i true).setIfInBounds j true).setIfInBounds k true).setIfInBounds m true) (A n f') w) (hz : Ix i -> Ix j -> Ix k -> Ix m -> S w -> wpAnyH P .any l.toArray Q S fuel ((((au.setIfInBounds i true).setIfInBounds j true).setIfInBounds k true).setIfInBounds m true) (A n f') w -> wpAnyH P .any l.toArray Q S (fuel + 4) au (A n f) w := by intro t u x y a b; refine AL t a ?_; refine AL u a ?_; refine AL x a ?_; refine AL y a ?_; exact b) : wpAnyH P .any l.toArray Q S (fuel + 4) au (A n f) w := hz trivial trivial trivial trivial hS h
end
theorem bc {P : Program} {k : Nat} {fn : Func} (h : P.funcs[k]? = some fn) (a : (fn.name == "runtime.NumGoroutine") = false := by kernel_rfl) (b : fn.body.isNone = false := by kernel_rfl) : FnT P k := ⟨⟨fn, h, a, b⟩⟩
theorem cw (n : Nat) {P : Program} {s i off : Nat} {fs : Array Field} {fd : Field} (hu : P.underlying s = some (.struct fs)) (hf : fs[i]? = some fd := by exact rfl) (ho : fd.offset = off := by exact rfl) (hi : (P.info? fd.type).map (·.size) = some n := by kernel_rfl) (hn : n ≠ 0 := by decide) : FieldT P s i off := ⟨Jgk hu hf ho hi hn⟩
end
end Go.Rf
