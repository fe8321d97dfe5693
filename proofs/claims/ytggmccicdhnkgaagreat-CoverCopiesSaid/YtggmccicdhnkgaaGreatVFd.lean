/-
 The reference's Faults:types,parameters.
-/
import Derived.Test.YtggmccicdhnkgaaGreatVK1
import Derived.Maps.RangeRun
import Derived.Test.YtggmccicdhnkgaaGreatVFc
set_option linter.all false
set_option maxHeartbeats 64000000
namespace Go.Rf
open Go.RowKit
variable{K:Act->World->Prop}{f:Env}{Q:Exit->Act->World->Prop}{S:List Nat}{c k n nl:Nat}{P:Program}{w:World}
theorem JdY{R:Env->World->Prop}(h2:∀g w,R (mrg nl S f g) w->K (A n (mrg nl S f g)) w):∀g w,(dR nl S f g/\R g w)->K (A n g) w:=fun g w ⟨hk,hR⟩=>by
 have e:=hk.eq;rw[e]at hR ⊢;exact h2 g w hR
theorem JaE{ops:Array Oper}{l:List Oper}(nl:Nat)(S:List Nat)(R:Env->World->Prop)
 (h1:wpList P ops (Exit.then (fun a w=>∃g,a=A n g/\(dR nl S f g/\R g w)) Q) l (A n f) w) (h2:∀g w,R (mrg nl S f g) w->K (A n (mrg nl S f g)) w):wpList P ops (Exit.then K Q) l (A n f) w:=
 JjD (fun g w=>dR nl S f g/\R g w) h1 (JdY h2)
theorem KZ{c:Code}(nl:Nat)(S:List Nat)(R:Env->World->Prop)
 (h1:c.wp P (Exit.then (fun a w=>∃g,a=A n g/\(dR nl S f g/\R g w)) Q) (A n f) w) (h2:∀g w,R (mrg nl S f g) w->K (A n (mrg nl S f g)) w):c.wp P (Exit.then K Q) (A n f) w:=
 Qw (fun g w=>dR nl S f g/\R g w) h1 (JdY h2)
theorem JK{f0:Env}{R:Env->World->Prop}(hk:dR nl S f0 f)(h:R f w):Exit.then (fun a w=>∃g,a=A n g/\(dR nl S f0 g/\R g w)) Q .normal (A n f) w:=⟨f,rfl,hk,h⟩
class KeyT (P:Program) (k:Nat) {α:Type} [DecidableEq α] (key:α->Value):Prop where
 now:∃d,P.underlying k=some d/\((∀a b,Instr.sameNow d (key a) (key b)=some (decide (a=b)))\/(∀a b,Instr.sameNow d (key a) (key b)=none))
 eqv:∀a b w,(Op.equal k (key a) (key b)).run P w=.ok (decide (a=b)) w
 chk:∀(e:Bool) a w,(Instr.checkKey e 10000 k (key a)).run P w=.ok () w
 same:∀a,Instr.sameBits 10000 (key a) (key a)=true
class MapT (P:Program) (t:Nat) (k e:outParam Nat):Prop where u:P.underlying t=some (.map k e)
section
variable{α β:Type}[DecidableEq α]
def getM:List (α×β)->α->Option β
 |[],_=>none
 |p::m,a=>if a=p.1 then some p.2 else getM m a
def VJ:List (α×β)->α->β->List (α×β)
 |[],a,v=>[(a,v)]
 |p::m,a,v=>if a=p.1 then(a,v)::m else p::VJ m a v
def Wv:List (α×β)->α->Nat->Option (Nat×β)
 |[],_,_=>none
 |p::m,a,i=>if a=p.1 then some (i,p.2) else Wv m a (i+1)
theorem Lu:∀(m:List (α×β)) (a:α) (i:Nat),(Wv m a i).map (·.2)=getM m a
 |[],a,i=>rfl
 |p::m,a,i=>by
  rw[Wv,getM]
  split
  .rfl
  .exact Lu m a (i+1)
theorem BD:∀{m:List (α×β)} {a:α} {i:Nat},Wv m a i=none↔a∉m.map Prod.fst
 |[],a,i=>by simp[Wv]
 |p::m,a,i=>by
  rw[Wv]
  split
  .rename_i h;simp[h]
  .rename_i h;rw[BD];simp[h]
theorem BA:∀{m:List (α×β)} {a:α} {i j:Nat} {v:β},Wv m a i=some (j,v)->i<=j/\m[j-i]?=some (a,v)/\∀v',VJ m a v'=m.set (j-i) (a,v')
 |[],a,i,j,v,h=>by simp[Wv]at h
 |p::m,a,i,j,v,h=>by
  rw[Wv]at h
  split at h
  .rename_i hp;simp only[Sj,Sz]at h;obtain⟨rfl,rfl⟩:=h;refine⟨SX _,by rw[DV,hp];rfl,fun v'=>by rw[DV,VJ,Cb hp];rfl⟩
  .rename_i hp;obtain⟨h1,h2,h3⟩:=BA h;obtain⟨q,hq⟩:∃q,j-i=q+1:=⟨j-i-1,by omega⟩;have TW:j-(i+1)=q:=by omega
   rw[TW]at h2 h3;rw[hq];exact⟨by omega,by simpa using h2,fun v'=>by rw[VJ,SH hp,h3];rfl⟩
theorem Gm{m:List (α×β)}{a:α}{v:β}(h:a∉m.map Prod.fst):VJ m a v=m++[(a,v)]:=by
 induction m with
 |nil=>rfl
 |cons p m ih=>
  simp only[DL,SC,IC]at h;rw[VJ,SH h.1,ih h.2];rfl
theorem Ld{m:List (α×β)}{a:α}{v:β}:(VJ m a v).map Prod.fst=if a∈m.map Prod.fst then m.map Prod.fst else m.map Prod.fst++[a]:=by
 induction m with
 |nil=>simp[VJ]
 |cons p m ih=>
  rw[VJ];by_cases h:a=p.1
  .simp [h]
  .rw [SH h,DL,ih];simp only[DL,SC,h,false_or]
   split<;>simp
theorem JaS{m:List (α×β)}{a:α}{v:β}(h:(m.map Prod.fst).Nodup):((VJ m a v).map Prod.fst).Nodup:=by
 rw[Ld]
 split
 .exact h
 .rename_i hn;rw[DW];exact⟨h,by simp,fun x hx y hy=>by rw[Sv]at hy;subst hy;exact fun e=>hn (e▸hx)⟩
theorem GK{m:List (α×β)}{a c:α}{v:β}:getM (VJ m a v) c=if c=a then some v else getM m c:=by
 induction m with
 |nil=>rfl
 |cons p m ih=>
  rw[VJ];by_cases h:a=p.1
  .rw [Cb h,getM,getM];by_cases hc:c=a
   .rw [Cb hc,Cb hc]
   .rw [SH hc,SH hc,SH (fun e=>hc (by rw[e,h]))]
  .rw [SH h,getM,getM,ih];by_cases hc:c=p.1
   .rw [Cb hc,SH (fun e=>h (by rw[<-e,hc])),Cb hc]
   .rw [SH hc,SH hc]
theorem getM_none{m:List (α×β)}{a:α}:getM m a=none↔a∉m.map Prod.fst:=by
 induction m with
 |nil=>simp[getM]
 |cons p m ih=>
  rw[getM];by_cases h:a=p.1
  .simp [h]
  .rw [SH h,ih];simp[h]
theorem Jll{m:List (α×β)}(hn:(m.map Prod.fst).Nodup){a:α}{v:β}:getM m a=some v↔(a,v)∈m:=by
 induction m with
 |nil=>simp[getM]
 |cons p m ih=>
  simp only[DL,EF]at hn;rw[getM];by_cases h:a=p.1
  .rw [Cb h];constructor
   .intro e;cases e;rw[h];simp
   .intro hm;rcases SC.1 hm with e|hm
    .rw [<-e]
    .exact absurd (Du.2 ⟨_,hm,h⟩) hn.1
  .rw [SH h,ih hn.2];simp only[SC];constructor
   .exact .inr
   .rintro (e|hm)
    .exact absurd (by rw[<-e]) h
    .exact hm
end
/-! ### a map in memory -/
section
variable{α β:Type}
def dG(key:α->Value)(val:β->Value):List (α×β)->List Nat->List MapEntry
 |p::m,n::ns=>⟨key p.1,val p.2,n⟩::dG key val m ns
 |_,_=>[]
theorem Jci(key:α->Value)(val:β->Value):∀{m:List (α×β)} {ns:List Nat},ns.length=m.length->(dG key val m ns).length=m.length
 |[],[],_=>rfl
 |[],n::ns,h=>by simp at h
 |p::m,[],h=>by simp at h
 |p::m,n::ns,h=>by simp only[dG,SI];rw[Jci key val mE]
theorem UG(key:α->Value)(val:β->Value):∀{m:List (α×β)} {ns:List Nat} {i:Nat} {p:α×β} {n:Nat},m[i]?=some p->ns[i]?=some n->(dG key val m ns)[i]?=some ⟨key p.1,val p.2,n⟩
 |[],ns,i,p,n,h,_=>by simp at h
 |q::m,[],i,p,n,_,h=>by simp at h
 |q::m,k::ns,0,p,n,h1,h2=>by
  simp only[Ep,Sj]at h1 h2;subst h1 h2;rfl
 |q::m,k::ns,i+1,p,n,h1,h2=>by
  simp only[DX]at h1 h2;simpa[dG]using UG key val h1 h2
theorem LK(key:α->Value)(val:β->Value):∀{m:List (α×β)} {ns:List Nat} {p:α×β} {n:Nat},ns.length=m.length->dG key val (m++[p]) (ns++[n])=dG key val m ns++[⟨key p.1,val p.2,n⟩]
 |[],[],p,n,_=>rfl
 |[],k::ns,p,n,h=>by simp at h
 |q::m,[],p,n,h=>by simp at h
 |q::m,k::ns,p,n,h=>by simp only[CQ,dG];rw[LK key val mE]
theorem Jch(key:α->Value)(val:β->Value)(a:α)(v:β):∀{m:List (α×β)} {ns:List Nat} {i:Nat},ns.length=m.length->(dG key val m ns).modify i (fun e=>{e with key:=key a,val:=val v})=dG key val (m.set i (a,v)) ns
 |[],[],i,_=>by simp[dG]
 |[],k::ns,i,h=>by simp at h
 |q::m,[],i,h=>by simp at h
 |q::m,k::ns,0,h=>by simp[dG]
 |q::m,k::ns,i+1,h=>by
  simp only[dG,Hl,Ie];rw[Jch key val a v mE]
end
section
variable{α β:Type}
def Mp(key:α->Value)(val:β->Value)(w:World)(b:Nat)(m:List (α×β)):Prop:=
 ∃ns clock,ns.length=m.length/\w.heap[b]?=some (.map (dG key val m ns).toArray clock)/\(m.map Prod.fst).Nodup/\ns.Nodup/\∀n∈ns,n<clock
variable{key:α->Value}{val:β->Value}{w w':World}{b:Nat}{m:List (α×β)}
theorem Mp.lt(h:Mp key val w b m):b<w.heap.size:=by
 obtain⟨ns,c,_,h,_⟩:=h;exact(DI.1 h).1
theorem Mp.tr(h:Mp key val w b m)(hf:Fr S w w')(hS:b∉S):Mp key val w' b m:=by
 have hl:=h.lt;exact Ydi
theorem Mp.tr0(h:Mp key val w b m)(hf:Fr [] w w'):Mp key val w' b m:=h.tr hf ap
theorem Mp.nd(h:Mp key val w b m):(m.map Prod.fst).Nodup:=by obtain⟨ns,c,_,_,h,_⟩:=h;exact h
theorem Mp.ne{l:List Value}{t:Nat}(h:Mp key val w b m)(hb:aG w c l t):b≠c:=by
 intro e;subst e;obtain⟨ns,c,_,h,_⟩:=h;unfold aG at hb;rw[h]at hb;cases hb
section
variable{P:Program}{ops:Array Oper}{Q:Exit->Act->World->Prop}{rest:List Oper}{n:Nat}{f:Env}{D:Dfs}
variable{d:Nat}{d':Option Nat}{ty:TypeId}{ps:String}{af:Array Edge}{gd:Option (Nat×Bool)}{x y z:Operand}{t k e:Nat}
theorem Kt(h:∀w',Mp key val w' w.heap.size ([]:List (α×β))->Fr [] w w'->w'.heap.size=w.heap.size+1->wpList P ops Q rest (A n (bz f d (.map (some w.heap.size)))) w'):
 wpList P ops Q (⟨some d,.makeMap t none,ty,ps,af,none⟩::rest) (A n f) w:=by
 refine JR (w':=w.alloc (.map #[] 0)) (v:=.map (some w.heap.size)) ?_ (h _ ⟨[],0,rfl,(MapKept.heap_alloc w _).1,by simp,by simp,by simp⟩ (Fr.alloc _ _ _) ap);simp only[execOp,Instr.makeMap,newObj,Iw];rfl
theorem JfF{b:Nat}[T:MapT P t k e](hx:ev n f x=.map (some b))(hm:Mp key val w b m):
 (execOp (ev n f) ⟨some d,.call {callee:=.builtin .len,args:=#[x],argTypes:=#[t]},ty,ps,af,gd⟩).run P w=.ok (.value (iV (m.length:Nat))) w:=by
 obtain⟨ns,c,h1,h2,_⟩:=hm;simp[execOp,resolve,invoke,builtin,Builtin.len_,run_underlying T.u,hx,goInt,MapKept.run_getObj_map h2,Jci key val h1]
theorem G7{b:Nat}[T:MapT P t k e](hx:ev n f x=.map (some b))(hm:Mp key val w b m)(h:wpList P ops Q rest (A n (bz f d (iV (m.length:Nat)))) w):
 wpList P ops Q (⟨some d,.call {callee:=.builtin .len,args:=#[x],argTypes:=#[t]},ty,ps,af,none⟩::rest) (A n f) w:=JR (JfF hx hm) h
end
variable[DecidableEq α]
theorem Jca{d:TypeDesc}(hd:∀a b,Instr.sameNow d (key a) (key b)=some (decide (a=b)))(a:α):∀{m:List (α×β)} {ns:List Nat} {i:Nat},ns.length=m.length->Instr.findNow d (key a) (dG key val m ns) i=some ((Wv m a i).map fun p=>(p.1,val p.2))
 |[],[],i,_=>rfl
 |[],n::ns,i,h=>by simp at h
 |p::m,[],i,h=>by simp at h
 |p::m,n::ns,i,h=>by
  rw[dG,Instr.findNow,Wv,hd];by_cases e:a=p.1
  .rw [Cb e,SN e];rfl
  .rw [SH e,SG e];exact Jca hd a mE
theorem Jcb(hd:∀a b w,(Op.equal k (key a) (key b)).run P w=.ok (decide (a=b)) w)(a:α):∀{m:List (α×β)} {ns:List Nat} {i:Nat},ns.length=m.length->(Instr.findAsking k (key a) (dG key val m ns) i).run P w=.ok ((Wv m a i).map fun p=>(p.1,val p.2)) w
 |[],[],i,_=>rfl
 |[],n::ns,i,h=>by simp at h
 |p::m,[],i,h=>by simp at h
 |p::m,n::ns,i,h=>by
  rw[dG,Instr.findAsking,Wv];simp only[Sem.run_bind,hd,Result.andThen_ok];by_cases e:a=p.1
  .rw [Cb e,Cb (SN e)];rfl
  .rw [SH e,SH (by simpa using e)];exact Jcb hd a mE
theorem UC[K:KeyT P k key](a:α){ns:List Nat}(h:ns.length=m.length):(Instr.findKey k (key a) (dG key val m ns)).run P w=.ok ((Wv m a 0).map fun p=>(p.1,val p.2)) w:=by
 obtain⟨d,hd,hn⟩:=K.now;unfold Instr.findKey;simp only[Sem.run_bind,run_underlying hd,Result.andThen_ok];rcases hn with hn|hn
 .rw [Jca hn a h];rfl
 .cases m with
  |nil=>
   cases ns with
   |nil=>rfl
   |cons n ns=>simp at h
  |cons p m=>
   cases ns with
   |nil=>simp at h
   |cons n ns=>
    have:Instr.findNow d (key a) (dG key val (p::m) (n::ns)) 0=none:=by rw[dG,Instr.findNow,hn]
    rw[this];exact Jcb K.eqv a h
section
variable{P:Program}{ops:Array Oper}{Q:Exit->Act->World->Prop}{rest:List Oper}{n:Nat}{f:Env}{D:Dfs}
variable{d:Nat}{d':Option Nat}{ty:TypeId}{ps:String}{af:Array Edge}{gd:Option (Nat×Bool)}{x y z:Operand}{t k e:Nat}
theorem Jc3{b:Nat}{a:α}{ok:Bool}[T:MapT P t k e][K:KeyT P k key]{zv:Value}[Z:ZeroT P e zv](hx:ev n f x=.map (some b))(hy:ev n f y=key a)(hm:Mp key val w b m):
 (execOp (ev n f) ⟨some d,.lookup t x y ok,ty,ps,af,gd⟩).run P w=.ok (.value (match getM m a with|some v=>if ok then .tuple #[val v,.bool true] else val v|none=>if ok then .tuple #[zv,.bool false] else zv)) w:=by
 obtain⟨ns,c,h1,h2,_⟩:=hm;obtain⟨i,hi,hz⟩:=Z.z;have hf:=UC (P:=P) (k:=k) (w:=w) (key:=key) (val:=val) a h1;simp only[execOp,Instr.lookup,Sem.run_bind,run_underlying T.u,hx,hy,Result.andThen_ok,Sem.run_pure,MapKept.run_getObj_map h2,K.chk];rw[hf];rw[<-Lu m a 0];cases hl:Wv m a 0 with
 |none=>cases ok<;>simp[zeroValue,typeInfo,hi,hz]
 |some p=>cases ok<;>simp
theorem Uo{o:Obj}{b:Nat}{es:Array MapEntry}(h:w.heap[b]?=some (.map es c)):Fr [b] w (ChangeMaps.setBlock w b o)/\(ChangeMaps.setBlock w b o).heap[b]?=some o:=by
 have hl:=(DI.1 h).1;refine⟨⟨rfl,rfl,rfl,by simp[ChangeMaps.setBlock],fun i _ hi=>?_,SX _⟩,?_⟩
 .have:¬b=i:=fun e=>hi (by rw[e];simp)
  simp[ChangeMaps.setBlock,EY,this]
 .simp [ChangeMaps.setBlock,EY,hl]
theorem JcZ{b:Nat}{a:α}{v:β}[T:MapT P t k e][K:KeyT P k key](hm:Mp key val w b m):
 ∃w',(Instr.mapUpdate t (.map (some b)) (key a) (val v)).run P w=.ok () w'/\Mp key val w' b (VJ m a v)/\Fr [b] w w'/\w'.heap.size=w.heap.size:=by
 obtain⟨ns,c,h1,h2,h3,h4,h5⟩:=hm;have hf:=UC (P:=P) (k:=k) (w:=w) (key:=key) (val:=val) a h1;cases hl:Wv m a 0 with
 |none=>
  rw[hl]at hf;have lm:=BD.1 hl;have hs:=Uo (o:=.map (dG key val (m++[(a,v)]) (ns++[c])).toArray (c+1)) h2;refine⟨_,?_,⟨ns++[c],c+1,by simp[Gm lm,h1],?_,JaS h3,?_,?_⟩,hs.1,by simp[ChangeMaps.setBlock]⟩
  .simp only[Instr.mapUpdate,Sem.run_bind,run_underlying T.u,Result.andThen_ok,MapKept.run_getObj_map h2,K.chk];rw[hf];simp only[Iw,Result.andThen_ok,MapKept.run_setObj_map _ h2];rw[LK key val h1];simp[ChangeMaps.setBlock]
  .rw [Gm lm];exact hs.2
  .rw [DW];exact Ycw
  .intro q hq;exact Ydf
 |some p=>
  obtain⟨j,v0⟩:=p;rw[hl]at hf;obtain⟨_,g1,g2⟩:=BA hl;rw[EJ]at g1 g2;have jm:j<m.length:=(Df.1 g1).1;have hs:=Uo (o:=.map (dG key val (m.set j (a,v)) ns).toArray c) h2;have hJ:=UG key val (i:=j) g1 (Dc (show j<ns.length by omega));refine⟨_,?_,⟨ns,c,by rw[g2];simp[h1],?_,JaS h3,h4,h5⟩,hs.1,by simp[ChangeMaps.setBlock]⟩
  .simp only[Instr.mapUpdate,Sem.run_bind,run_underlying T.u,Result.andThen_ok,MapKept.run_getObj_map h2,K.chk];rw[hf];simp only[EO,Result.andThen_ok,Sem.run_bind,EX,hJ,E8,Instr.keyThatStays,K.same,CX,Sem.run_pure,MapKept.run_setObj_map _ h2];rw[<-Jch key val a v h1];simp[ChangeMaps.setBlock]
  .rw [g2];exact hs.2
theorem BX{b:Nat}{a:α}{v:β}[T:MapT P t k e][K:KeyT P k key](hm:Mp key val w b m)(hx:ev n f x=.map (some b))(hy:ev n f y=key a)(hz:ev n f z=val v)
 (h:∀w',Mp key val w' b (VJ m a v)->Fr [b] w w'->w'.heap.size=w.heap.size->wpList P ops Q rest (A n (AJ f d' undef)) w'):
 wpList P ops Q (⟨d',.mapUpdate t x y z,ty,ps,af,none⟩::rest) (A n f) w:=by
 obtain⟨w',hr,h1,h2,h3⟩:=JcZ (P:=P) (t:=t) (a:=a) (v:=v) hm;refine X8 (w':=w') ?_ (h w' h1 h2 h3);simp[execOp,hx,hy,hz,hr,Result.andThen]
end
end
/-! ### keys rM are strings -/
theorem LM(a b:ByteArray):(a==b)=decide (a=b):=by
 by_cases h:a=b
 .rw [SN h];exact(MapKept.bytes_beq a b).2 h
 .rw [SG h];cases hb:a==b
  .rfl
  .exact absurd ((MapKept.bytes_beq a b).1 hb) h
theorem JhD(h:P.underlying k=some .string)(a b:ByteArray)(w:World):(Op.equal k (.string a) (.string b)).run P w=.ok (decide (a=b)) w:=by
 have e:=LM a b;show(Op.equalIn (9999+1) k _ _).run P w=_;rw[Op.equalIn];simp only[Sem.run_bind,run_underlying h,Result.andThen_ok,Sem.run_pure,e]
instance id6{P:Program}{k:Nat}[S:StrT P k]:KeyT P k Value.string where
 now:=⟨_,S.u,.inl fun a b=>by
  have e:=LM a b;simp[Instr.sameNow,e]⟩
 eqv:=JhD S.u
 chk:=fun e a w=>by
  show(Instr.checkKey e (9999+1) k (.string a)).run P w=_;rw[Instr.checkKey];simp only[Sem.run_bind,run_underlying S.u,Result.andThen_ok];rfl
 same:=fun a=>by
  show Instr.sameBits (9999+1) _ _=true;rw[Instr.sameBits];exact(MapKept.bytes_beq a a).2 rfl
end Go.Rf
namespace Go.Proofs.YtggmccicdhnkgaaGreat
open Go.Proofs.Tryz
open Go.Rf Go.RowKit
variable{w:World}
attribute [local irreducible] Code.wp wpList Exit.then Exit.inBlock bodyPost A Calls execOp Addr.add
theorem Jba{P:Program}(dd:Nat){e:Nat}(he:P.underlying e=some .bool)(x y:Bool):(Op.equalIn (dd+1) e (.bool x) (.bool y)).run P w=.ok (x==y) w:=by
 simp[Op.equalIn,run_underlying he]
theorem JbG{ops:Array Oper}{Q:Exit->Act->World->Prop}{rest:List Oper}{n:Nat}{f:Env}{d:Nat}{ty t2:TypeId}{ps:String}{af:Array Edge}{x y:Operand}{a b:Bool}(hx:ev n f x=.bool a)(hy:ev n f y=.bool b)(h:wpList prog ops Q rest (A n (bz f d (.bool (a==b)))) w):
 wpList prog ops Q (⟨some d,.binOp .eql 4 x y t2,ty,ps,af,none⟩::rest) (A n f) w:=by
 have hu:prog.underlying 4=some .bool:=underlying4;have hg:prog.eqGuardType prog.depth 4=false:=by kernel_rfl
 have e:(Op.equal 4 (.bool a) (.bool b)).run prog w=.ok (a==b) w:=by
  exact Jba 9999 hu a b
 exact JR (by simp[execOp,eqGuard,binOp,hx,hy,e,hg]) h
theorem Jj2(q:Nat):∀(m:Nat) (t:Ty),yu t<=m->∀(w:World) (S:List Nat) (cs:List Value),q∈S->FB w q->RD w S (cg t) cs->Calls prog 216 #[.pointer (some ⟨q,0,none⟩),.agg cs.toArray] w (FC q w):=by
 intro m
 induction m with
 |zero=>intro t h;rw[JaG]at h;omega
 |succ m ih=>
  intro t ht w S cs cX eY hd;have pq:=eY.lt;obtain⟨s,rfl,hk⟩:=mc.1 hd;obtain⟨ao,c,rfl,_⟩:=hk.slice;have gM:=hk.bound;have e:=JaG t;have hl:(t.kids.map cg).length=t.kids.length:=Sr ..;refine enter func216 rfl ntmps216 rfl ?_;refine rx ?_;refine Ju rfl rfl (fun w1 b hb hB aj bh=>?_);have ah:b≠q:=by omega
  have ai:ST q b _ 90 w w1:=⟨eY.tr0 aj,QL aj,hB⟩;refine rr ?_;refine wpList_nil ?_;refine QG ?_;refine wp_seq ?_;refine KA ?_;refine JaE 4 [] (fun g u=>(ST q b (tyV t (.slice ao (t.kids.map cg).length c)) 90 w) u) ?_ ?_
  .refine rx ?_
   repeat' (first|exact JK a6 gi|exact wpList_nil (JK a6 gi)|(refine Jg (U1 q _ _ ai.1) ?_;rintro _ ⟨a7,bW⟩;have ai:=ai.step ah a7 bW;have hB:=ai.2.2;clear a7 bW;refine rx ?_)|(refine JbG rfl rfl ?_;refine rx ?_)|(first|refine Vg rfl rfl (fun _=>?_) (fun _=>?_)|refine Vd rfl rfl (fun _=>?_) (fun _=>?_)|refine QZ rfl rfl (fun _=>?_) (fun _=>?_)|refine Vt rfl rfl (fun _=>?_) (fun _=>?_)|refine Ve rfl rfl (fun _=>?_) (fun _=>?_)|refine Vf rfl rfl (fun _=>?_) (fun _=>?_)|refine QB rfl rfl (fun _=>?_) (fun _=>?_)|refine Qv rfl rfl (fun _=>?_) (fun _=>?_))<;>refine rx ?_)
  clear ai hB;rintro g u ai;have hB:aG u b [iV t.kind,.string t.name,.slice ao (t.kids.map cg).length c] 90:=ai.2.2;refine wp_seq ?_;refine KZ 4 [] (fun g u=>ST q b (tyV t (.slice ao (t.kids.map cg).length c)) 90 w u) ?_ ?_
  .refine rx ?_
   repeat' (first|exact JK a6 gi|exact wpList_nil (JK a6 gi)|(refine Jg (Vo q _ _ _ ai.1) ?_;rintro _ ⟨a7,bW⟩;have ai:=ai.step ah a7 bW;have hB:=ai.2.2;clear a7 bW;refine rx ?_)|(refine Jg (Vo q _ 1 _ ai.1) ?_;rintro _ ⟨a7,bW⟩;have ai:=ai.step ah a7 bW;have hB:=ai.2.2;clear a7 bW;refine rx ?_)|(first|refine Vg rfl rfl (fun _=>?_) (fun _=>?_)|refine Vd rfl rfl (fun _=>?_) (fun _=>?_)|refine QZ rfl rfl (fun _=>?_) (fun _=>?_)|refine Vt rfl rfl (fun _=>?_) (fun _=>?_)|refine Ve rfl rfl (fun _=>?_) (fun _=>?_)|refine Vf rfl rfl (fun _=>?_) (fun _=>?_)|refine QB rfl rfl (fun _=>?_) (fun _=>?_)|refine Qv rfl rfl (fun _=>?_) (fun _=>?_))<;>refine rx ?_)
  clear ai hB;rintro g u ai;refine rx ?_;refine Jh 5 [4] (σ:=Nat) (fun i g u=>g 4=iV i/\i<=t.kids.length/\ST q b (tyV t (.slice ao (t.kids.map cg).length c)) 90 w u) (fun i=>t.kids.length-i) 0 ⟨rfl,SL _,ai⟩ ?_;clear ai;rintro i g u ⟨h4,hi,ai⟩;rw[Ja h4];have hB:aG u b [iV t.kind,.string t.name,.slice ao (t.kids.map cg).length c] 90:=ai.2.2;by_cases aC:i<t.kids.length
  case neg=>
   refine rx ?_;exact yw
  obtain⟨ad,gU,bi,hr,hc⟩:=DR.at QT (hk.old ai.2.1 (Je cX)) aC;subst bi;have gY:=hr;obtain⟨s2,rfl,cu⟩:=mc.1 hr;have hg:=Jbw aC;refine rx ?_;refine Jg (ih t.kids[i] ab u S _ cX ai.1 gY) ?_;rintro w2 ⟨a7,bW⟩;have ai:=ai.step ah a7 bW;have hB:=ai.2.2;clear a7 bW;refine rx ?_;exact Pc
theorem QK{a b:Nat}(h:j9 a b=false):b<=a:=by
 rcases DF a b with h1|h1
 .simp only[j9]at h;rw[ZV h1]at h;cases h
 .exact h1
theorem Ra(q:Nat)(t:Ty)(bO:UY t=false)(w:World)(S:List Nat)(cs:List Value)(cX:q∈S)(eY:FB w q)(hd:RD w S (cg t) cs):Calls prog 171 #[.pointer (some ⟨q,0,none⟩),.agg cs.toArray] w (FC q w):=by
 have Pd:yu t<=32:=QK bO;have pK:=hd;obtain⟨s,rfl,hk⟩:=mc.1 hd;obtain⟨ao,c,rfl,_⟩:=hk.slice;refine enter func171 rfl ntmps171 rfl ?_;refine rx ?_;refine Ju rfl rfl (fun w1 b hb hB aj bh=>?_);have pq:=eY.lt;have ah:b≠q:=by omega
 obtain⟨b1,b2,b3,hQ⟩:=eY.tr0 aj;refine rx ?_;refine Jg (Jis 32 ab t Pd w1 S _ (pK.tr0 aj)) ?_;rintro w2 aq;have hQ:=hQ.tr0 aq;have hB:=hB.tr0 aq;refine rx ?_
 ((with_reducible apply Ji);exact rfl;(conv=>lhs;whnf);exact rfl;exact hQ;exact rfl)
 intro w3 hQ aF dO;have hB:aG w3 b _ 90:=hB.tr aF Ah;have hF:Fr [q] w w3:=(QL (aj.Jb aq)).trans aF (fun x hx=>.inl hx);refine rx ?_;refine Jg (Jj2 q 32 t Pd w3 S _ cX ⟨_,_,_,hQ⟩ (pK.old hF (Je cX))) ?_;exact Ych
theorem JaT(q:Nat)(l:List Pm)(bO:Us l=false)(w:World)(S:List Nat)(v:Value)(cX:q∈S)(eY:FB w q)(hd:DR w S (.l (l.map eK)) v):Calls prog 172 #[.pointer (some ⟨q,0,none⟩),v] w (FC q w):=by
 simp only[Us,Cc,DC]at bO;obtain⟨mK,bO⟩:=bO;obtain⟨ao,c,rfl,_⟩:=hd.slice;have gM:=hd.bound;have hl:(l.map eK).length=l.length:=Sr ..;refine enter func172 rfl ntmps172 rfl ?_;refine rx ?_;refine Jg (Jf0 q _ w eY (by rw[hl];exact mK)) ?_;rintro w1 ⟨h1,aj⟩;refine Yfu ?_;rintro i g u ⟨h4,hi,hq,hf⟩;rw[Ja h4];by_cases aC:i<l.length
 case neg=>
  refine rx ?_;exact WI rfl ⟨rfl,hq,hf⟩
 obtain⟨ad,gU,bi,hr,hc⟩:=DR.at Xn (hd.old hf (Je cX)) aC;subst bi;obtain⟨xM,rfl,gY⟩:=hr.JI;obtain⟨s2,rfl,cu⟩:=mc.1 gY;have hc:Cells u (ad.add (i*4)) [.string l[i].name,iV l[i].type.kind,.string l[i].type.name,s2]:=hc;refine rx ?_;refine Jg (Vo q _ 0 _ hq) ?_;rintro w2 ⟨nv,aq⟩;have aS:=hf.trans aq (fun x hx=>.inl hx);obtain⟨lC,gU,bi,ea,fO⟩:=DR.at Xn (hd.old aS (Je cX)) aC;obtain rfl:=Dl bi;obtain⟨xM,rfl,iav⟩:=ea.JI;obtain⟨s3,rfl,lg⟩:=mc.1 iav;have fO:Cells w2 (ad.add (i*4)) [.string l[i].name,iV l[i].type.kind,.string l[i].type.name,s3]:=fO;refine rx ?_;refine Jg (Ra q l[i].type (by simpa using bO l[i] (Cj aC)) w2 S _ cX nv iav) ?_;rintro w3 ⟨Pe,aF⟩;refine rx ?_;exact Jc (i+1) a6 ⟨rfl,by omega,Pe,aS.trans aF (fun x hx=>.inl hx)⟩ ab
end Go.Proofs.YtggmccicdhnkgaaGreat
