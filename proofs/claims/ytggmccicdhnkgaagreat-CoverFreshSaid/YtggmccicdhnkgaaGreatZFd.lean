/-
 The reference's Faults:types,parameters.
-/
import Derived.Test.YtggmccicdhnkgaaGreatZK1
import Derived.Maps.RangeRun
import Derived.Test.YtggmccicdhnkgaaGreatZFc
set_option linter.all false
namespace Go.Rf
open Go.RowKit
variable{K:Act->World->Prop}{f:Env}{Q:Exit->Act->World->Prop}{S:List Nat}{c k n nl:Nat}{P:Program}{w:World}
theorem cut_key{R:Env->World->Prop}(h2:∀g w,R (mrg nl S f g) w->K (A n (mrg nl S f g)) w):∀g w,(Keep nl S f g/\R g w)->K (A n g) w:=fun g w ⟨hk,hR⟩=>by
 have e:=hk.eq
 rw[e]at hR ⊢
 exact h2 g w hR
theorem w_cutK{ops:Array Oper}{l:List Oper}(nl:Nat)(S:List Nat)(R:Env->World->Prop)
 (h1:wpList P ops (Exit.then (fun a w=>∃g,a=A n g/\(Keep nl S f g/\R g w)) Q) l (A n f) w) (h2:∀g w,R (mrg nl S f g) w->K (A n (mrg nl S f g)) w):wpList P ops (Exit.then K Q) l (A n f) w:=
 w_cut (fun g w=>Keep nl S f g/\R g w) h1 (cut_key h2)
theorem c_cutK{c:Code}(nl:Nat)(S:List Nat)(R:Env->World->Prop)
 (h1:c.wp P (Exit.then (fun a w=>∃g,a=A n g/\(Keep nl S f g/\R g w)) Q) (A n f) w) (h2:∀g w,R (mrg nl S f g) w->K (A n (mrg nl S f g)) w):c.wp P (Exit.then K Q) (A n f) w:=
 c_cut (fun g w=>Keep nl S f g/\R g w) h1 (cut_key h2)
theorem q_cutK{f0:Env}{R:Env->World->Prop}(hk:Keep nl S f0 f)(h:R f w):Exit.then (fun a w=>∃g,a=A n g/\(Keep nl S f0 g/\R g w)) Q .normal (A n f) w:=⟨f,rfl,hk,h⟩
class KeyT (P:Program) (k:Nat) {α:Type} [DecidableEq α] (key:α->Value):Prop where
 now:∃d,P.underlying k=some d/\((∀a b,Instr.sameNow d (key a) (key b)=some (decide (a=b)))\/(∀a b,Instr.sameNow d (key a) (key b)=none))
 eqv:∀a b w,(Op.equal k (key a) (key b)).run P w=.ok (decide (a=b)) w
 chk:∀(e:Bool) a w,(Instr.checkKey e 10000 k (key a)).run P w=.ok () w
 same:∀a,Instr.sameBits 10000 (key a) (key a)=true
class MapT (P:Program) (t:Nat) (k e:outParam Nat):Prop where u:P.underlying t=some (.map k e)
section
variable{α β:Type}[DecidableEq α]
def getM:List (α×β)->α->Option β
 |[],_=>none
 |p::m,a=>if a=p.1 then some p.2 else getM m a
def putM:List (α×β)->α->β->List (α×β)
 |[],a,v=>[(a,v)]
 |p::m,a,v=>if a=p.1 then(a,v)::m else p::putM m a v
def lookI:List (α×β)->α->Nat->Option (Nat×β)
 |[],_,_=>none
 |p::m,a,i=>if a=p.1 then some (i,p.2) else lookI m a (i+1)
theorem lookI_get:∀(m:List (α×β)) (a:α) (i:Nat),(lookI m a i).map (·.2)=getM m a
 |[],a,i=>rfl
 |p::m,a,i=>by
  rw[lookI,getM]
  split
  .rfl
  .exact lookI_get m a (i+1)
theorem lookI_none:∀{m:List (α×β)} {a:α} {i:Nat},lookI m a i=none↔a∉m.map Prod.fst
 |[],a,i=>by simp[lookI]
 |p::m,a,i=>by
  rw[lookI]
  split
  .rename_i h;simp[h]
  .rename_i h;rw[lookI_none];simp[h]
theorem lookI_some:∀{m:List (α×β)} {a:α} {i j:Nat} {v:β},lookI m a i=some (j,v)->i<=j/\m[j-i]?=some (a,v)/\∀v',putM m a v'=m.set (j-i) (a,v')
 |[],a,i,j,v,h=>by simp[lookI]at h
 |p::m,a,i,j,v,h=>by
  rw[lookI]at h
  split at h
  .rename_i hp
   simp only[Option.some.injEq,Prod.mk.injEq]at h
   obtain⟨rfl,rfl⟩:=h
   refine⟨Nat.le_refl _,by rw[Nat.sub_self,hp];rfl,fun v'=>by rw[Nat.sub_self,putM,if_pos hp];rfl⟩
  .rename_i hp
   obtain⟨h1,h2,h3⟩:=lookI_some h
   obtain⟨q,hq⟩:∃q,j-i=q+1:=⟨j-i-1,by omega⟩
   have hq':j-(i+1)=q:=by omega
   rw[hq']at h2 h3
   rw[hq]
   exact⟨by omega,by simpa using h2,fun v'=>by rw[putM,if_neg hp,h3];rfl⟩
theorem putM_new{m:List (α×β)}{a:α}{v:β}(h:a∉m.map Prod.fst):putM m a v=m++[(a,v)]:=by
 induction m with
 |nil=>rfl
 |cons p m ih=>
  simp only[List.map_cons,List.mem_cons,not_or]at h
  rw[putM,if_neg h.1,ih h.2];rfl
theorem putM_keys{m:List (α×β)}{a:α}{v:β}:(putM m a v).map Prod.fst=if a∈m.map Prod.fst then m.map Prod.fst else m.map Prod.fst++[a]:=by
 induction m with
 |nil=>simp[putM]
 |cons p m ih=>
  rw[putM]
  by_cases h:a=p.1
  .simp [h]
  .rw [if_neg h,List.map_cons,ih]
   simp only[List.map_cons,List.mem_cons,h,false_or]
   split<;>simp
theorem putM_nd{m:List (α×β)}{a:α}{v:β}(h:(m.map Prod.fst).Nodup):((putM m a v).map Prod.fst).Nodup:=by
 rw[putM_keys]
 split
 .exact h
 .rename_i hn
  rw[List.nodup_append]
  exact⟨h,by simp,fun x hx y hy=>by rw[List.mem_singleton]at hy;subst hy;exact fun e=>hn (e▸hx)⟩
theorem getM_put{m:List (α×β)}{a c:α}{v:β}:getM (putM m a v) c=if c=a then some v else getM m c:=by
 induction m with
 |nil=>rfl
 |cons p m ih=>
  rw[putM]
  by_cases h:a=p.1
  .rw [if_pos h,getM,getM]
   by_cases hc:c=a
   .rw [if_pos hc,if_pos hc]
   .rw [if_neg hc,if_neg hc,if_neg (fun e=>hc (by rw[e,h]))]
  .rw [if_neg h,getM,getM,ih]
   by_cases hc:c=p.1
   .rw [if_pos hc,if_neg (fun e=>h (by rw[<-e,hc])),if_pos hc]
   .rw [if_neg hc,if_neg hc]
theorem getM_none{m:List (α×β)}{a:α}:getM m a=none↔a∉m.map Prod.fst:=by
 induction m with
 |nil=>simp[getM]
 |cons p m ih=>
  rw[getM]
  by_cases h:a=p.1
  .simp [h]
  .rw [if_neg h,ih];simp[h]
end
/-! ### a map in memory -/
section
variable{α β:Type}
def ents(key:α->Value)(val:β->Value):List (α×β)->List Nat->List MapEntry
 |p::m,n::ns=>⟨key p.1,val p.2,n⟩::ents key val m ns
 |_,_=>[]
theorem ents_len(key:α->Value)(val:β->Value):∀{m:List (α×β)} {ns:List Nat},ns.length=m.length->(ents key val m ns).length=m.length
 |[],[],_=>rfl
 |[],n::ns,h=>by simp at h
 |p::m,[],h=>by simp at h
 |p::m,n::ns,h=>by simp only[ents,List.length_cons];rw[ents_len key val Yic]
theorem ents_get(key:α->Value)(val:β->Value):∀{m:List (α×β)} {ns:List Nat} {i:Nat} {p:α×β} {n:Nat},m[i]?=some p->ns[i]?=some n->(ents key val m ns)[i]?=some ⟨key p.1,val p.2,n⟩
 |[],ns,i,p,n,h,_=>by simp at h
 |q::m,[],i,p,n,_,h=>by simp at h
 |q::m,k::ns,0,p,n,h1,h2=>by
  simp only[List.getElem?_cons_zero,Option.some.injEq]at h1 h2
  subst h1 h2;rfl
 |q::m,k::ns,i+1,p,n,h1,h2=>by
  simp only[List.getElem?_cons_succ]at h1 h2
  simpa[ents]using ents_get key val h1 h2
theorem ents_snoc(key:α->Value)(val:β->Value):∀{m:List (α×β)} {ns:List Nat} {p:α×β} {n:Nat},ns.length=m.length->ents key val (m++[p]) (ns++[n])=ents key val m ns++[⟨key p.1,val p.2,n⟩]
 |[],[],p,n,_=>rfl
 |[],k::ns,p,n,h=>by simp at h
 |q::m,[],p,n,h=>by simp at h
 |q::m,k::ns,p,n,h=>by simp only[List.cons_append,ents];rw[ents_snoc key val Yic]
theorem ents_mod(key:α->Value)(val:β->Value)(a:α)(v:β):∀{m:List (α×β)} {ns:List Nat} {i:Nat},ns.length=m.length->(ents key val m ns).modify i (fun e=>{e with key:=key a,val:=val v})=ents key val (m.set i (a,v)) ns
 |[],[],i,_=>by simp[ents]
 |[],k::ns,i,h=>by simp at h
 |q::m,[],i,h=>by simp at h
 |q::m,k::ns,0,h=>by simp[ents]
 |q::m,k::ns,i+1,h=>by
  simp only[ents,List.modify_succ_cons,List.set_cons_succ]
  rw[ents_mod key val a v Yic]
end
section
variable{α β:Type}
def Mp(key:α->Value)(val:β->Value)(w:World)(b:Nat)(m:List (α×β)):Prop:=
 ∃ns clock,ns.length=m.length/\w.heap[b]?=some (.map (ents key val m ns).toArray clock)/\(m.map Prod.fst).Nodup/\ns.Nodup/\∀n∈ns,n<clock
variable{key:α->Value}{val:β->Value}{w w':World}{b:Nat}{m:List (α×β)}
theorem Mp.lt(h:Mp key val w b m):b<w.heap.size:=by
 obtain⟨ns,c,_,h,_⟩:=h
 exact(Array.getElem?_eq_some_iff.1 h).1
theorem Mp.tr(h:Mp key val w b m)(hf:Fr S w w')(hS:b∉S):Mp key val w' b m:=by
 have hl:=h.lt
 exact Ydc
theorem Mp.tr0(h:Mp key val w b m)(hf:Fr [] w w'):Mp key val w' b m:=h.tr hf Yhi
theorem Mp.nd(h:Mp key val w b m):(m.map Prod.fst).Nodup:=by obtain⟨ns,c,_,_,h,_⟩:=h;exact h
theorem Mp.ne{l:List Value}{t:Nat}(h:Mp key val w b m)(hb:Blk w c l t):b≠c:=by
 intro e;subst e
 obtain⟨ns,c,_,h,_⟩:=h
 unfold Blk at hb
 rw[h]at hb;cases hb
section
variable{P:Program}{ops:Array Oper}{Q:Exit->Act->World->Prop}{rest:List Oper}{n:Nat}{f:Env}{D:Dfs}
variable{d:Nat}{d':Option Nat}{ty:TypeId}{ps:String}{af:Array Edge}{gd:Option (Nat×Bool)}{x y z:Operand}{t k e:Nat}
theorem s_makeMap(h:∀w',Mp key val w' w.heap.size ([]:List (α×β))->Fr [] w w'->w'.heap.size=w.heap.size+1->wpList P ops Q rest (A n (upd f d (.map (some w.heap.size)))) w'):
 wpList P ops Q (⟨some d,.makeMap t none,ty,ps,af,none⟩::rest) (A n f) w:=by
 refine s_run (w':=w.alloc (.map #[] 0)) (v:=.map (some w.heap.size)) ?_ (h _ ⟨[],0,rfl,(MapKept.heap_alloc w _).1,by simp,by simp,by simp⟩ (Fr.alloc _ _ _) Yhi)
 simp only[execOp,Instr.makeMap,newObj,Option.map_none]
 rfl
theorem r_lenM{b:Nat}[T:MapT P t k e](hx:ev n f x=.map (some b))(hm:Mp key val w b m):
 (execOp (ev n f) ⟨some d,.call {callee:=.builtin .len,args:=#[x],argTypes:=#[t]},ty,ps,af,gd⟩).run P w=.ok (.value (iV (m.length:Nat))) w:=by
 obtain⟨ns,c,h1,h2,_⟩:=hm
 simp[execOp,resolve,invoke,builtin,Builtin.len_,run_underlying T.u,hx,goInt,MapKept.run_getObj_map h2,ents_len key val h1]
theorem s_lenM{b:Nat}[T:MapT P t k e](hx:ev n f x=.map (some b))(hm:Mp key val w b m)(h:wpList P ops Q rest (A n (upd f d (iV (m.length:Nat)))) w):
 wpList P ops Q (⟨some d,.call {callee:=.builtin .len,args:=#[x],argTypes:=#[t]},ty,ps,af,none⟩::rest) (A n f) w:=s_run (r_lenM hx hm) h
end
variable[DecidableEq α]
theorem find_now{d:TypeDesc}(hd:∀a b,Instr.sameNow d (key a) (key b)=some (decide (a=b)))(a:α):∀{m:List (α×β)} {ns:List Nat} {i:Nat},ns.length=m.length->Instr.findNow d (key a) (ents key val m ns) i=some ((lookI m a i).map fun p=>(p.1,val p.2))
 |[],[],i,_=>rfl
 |[],n::ns,i,h=>by simp at h
 |p::m,[],i,h=>by simp at h
 |p::m,n::ns,i,h=>by
  rw[ents,Instr.findNow,lookI,hd]
  by_cases e:a=p.1
  .rw [if_pos e,decide_eq_true e];rfl
  .rw [if_neg e,decide_eq_false e]
   exact find_now hd a Yic
theorem find_ask(hd:∀a b w,(Op.equal k (key a) (key b)).run P w=.ok (decide (a=b)) w)(a:α):∀{m:List (α×β)} {ns:List Nat} {i:Nat},ns.length=m.length->(Instr.findAsking k (key a) (ents key val m ns) i).run P w=.ok ((lookI m a i).map fun p=>(p.1,val p.2)) w
 |[],[],i,_=>rfl
 |[],n::ns,i,h=>by simp at h
 |p::m,[],i,h=>by simp at h
 |p::m,n::ns,i,h=>by
  rw[ents,Instr.findAsking,lookI]
  simp only[Sem.run_bind,hd,Result.andThen_ok]
  by_cases e:a=p.1
  .rw [if_pos e,if_pos (decide_eq_true e)];rfl
  .rw [if_neg e,if_neg (by simpa using e)]
   exact find_ask hd a Yic
theorem find_key[K:KeyT P k key](a:α){ns:List Nat}(h:ns.length=m.length):(Instr.findKey k (key a) (ents key val m ns)).run P w=.ok ((lookI m a 0).map fun p=>(p.1,val p.2)) w:=by
 obtain⟨d,hd,hn⟩:=K.now
 unfold Instr.findKey
 simp only[Sem.run_bind,run_underlying hd,Result.andThen_ok]
 rcases hn with hn|hn
 .rw [find_now hn a h];rfl
 .cases m with
  |nil=>
   cases ns with
   |nil=>rfl
   |cons n ns=>simp at h
  |cons p m=>
   cases ns with
   |nil=>simp at h
   |cons n ns=>
    have:Instr.findNow d (key a) (ents key val (p::m) (n::ns)) 0=none:=by rw[ents,Instr.findNow,hn]
    rw[this]
    exact find_ask K.eqv a h
section
variable{P:Program}{ops:Array Oper}{Q:Exit->Act->World->Prop}{rest:List Oper}{n:Nat}{f:Env}{D:Dfs}
variable{d:Nat}{d':Option Nat}{ty:TypeId}{ps:String}{af:Array Edge}{gd:Option (Nat×Bool)}{x y z:Operand}{t k e:Nat}
theorem r_look{b:Nat}{a:α}{ok:Bool}[T:MapT P t k e][K:KeyT P k key]{zv:Value}[Z:ZeroT P e zv](hx:ev n f x=.map (some b))(hy:ev n f y=key a)(hm:Mp key val w b m):
 (execOp (ev n f) ⟨some d,.lookup t x y ok,ty,ps,af,gd⟩).run P w=.ok (.value (match getM m a with|some v=>if ok then .tuple #[val v,.bool true] else val v|none=>if ok then .tuple #[zv,.bool false] else zv)) w:=by
 obtain⟨ns,c,h1,h2,_⟩:=hm
 obtain⟨i,hi,hz⟩:=Z.z
 have hf:=find_key (P:=P) (k:=k) (w:=w) (key:=key) (val:=val) a h1
 simp only[execOp,Instr.lookup,Sem.run_bind,run_underlying T.u,hx,hy,Result.andThen_ok,Sem.run_pure,MapKept.run_getObj_map h2,K.chk]
 rw[hf]
 rw[<-lookI_get m a 0]
 cases hl:lookI m a 0 with
 |none=>cases ok<;>simp[zeroValue,typeInfo,hi,hz]
 |some p=>cases ok<;>simp
theorem mp_set{o:Obj}{b:Nat}{es:Array MapEntry}(h:w.heap[b]?=some (.map es c)):Fr [b] w (ChangeMaps.setBlock w b o)/\(ChangeMaps.setBlock w b o).heap[b]?=some o:=by
 have hl:=(Array.getElem?_eq_some_iff.1 h).1
 refine⟨⟨rfl,rfl,rfl,by simp[ChangeMaps.setBlock],fun i _ hi=>?_,Nat.le_refl _⟩,?_⟩
 .have:¬b=i:=fun e=>hi (by rw[e];simp)
  simp[ChangeMaps.setBlock,Array.getElem?_setIfInBounds,this]
 .simp [ChangeMaps.setBlock,Array.getElem?_setIfInBounds,hl]
theorem run_mapUpd{b:Nat}{a:α}{v:β}[T:MapT P t k e][K:KeyT P k key](hm:Mp key val w b m):
 ∃w',(Instr.mapUpdate t (.map (some b)) (key a) (val v)).run P w=.ok () w'/\Mp key val w' b (putM m a v)/\Fr [b] w w'/\w'.heap.size=w.heap.size:=by
 obtain⟨ns,c,h1,h2,h3,h4,h5⟩:=hm
 have hf:=find_key (P:=P) (k:=k) (w:=w) (key:=key) (val:=val) a h1
 cases hl:lookI m a 0 with
 |none=>
  rw[hl]at hf
  have hnm:=lookI_none.1 hl
  have hs:=mp_set (o:=.map (ents key val (m++[(a,v)]) (ns++[c])).toArray (c+1)) h2
  refine⟨_,?_,⟨ns++[c],c+1,by simp[putM_new hnm,h1],?_,putM_nd h3,?_,?_⟩,hs.1,by simp[ChangeMaps.setBlock]⟩
  .simp only[Instr.mapUpdate,Sem.run_bind,run_underlying T.u,Result.andThen_ok,MapKept.run_getObj_map h2,K.chk]
   rw[hf]
   simp only[Option.map_none,Result.andThen_ok,MapKept.run_setObj_map _ h2]
   rw[ents_snoc key val h1]
   simp[ChangeMaps.setBlock]
  .rw [putM_new hnm];exact hs.2
  .rw [List.nodup_append]
   exact Ycs
  .intro q hq
   exact Ycz
 |some p=>
  obtain⟨j,v0⟩:=p
  rw[hl]at hf
  obtain⟨_,g1,g2⟩:=lookI_some hl
  rw[Nat.sub_zero]at g1 g2
  have hjl:j<m.length:=(List.getElem?_eq_some_iff.1 g1).1
  have hs:=mp_set (o:=.map (ents key val (m.set j (a,v)) ns).toArray c) h2
  have hge:=ents_get key val (i:=j) g1 (List.getElem?_eq_getElem (show j<ns.length by omega))
  refine⟨_,?_,⟨ns,c,by rw[g2];simp[h1],?_,putM_nd h3,h4,h5⟩,hs.1,by simp[ChangeMaps.setBlock]⟩
  .simp only[Instr.mapUpdate,Sem.run_bind,run_underlying T.u,Result.andThen_ok,MapKept.run_getObj_map h2,K.chk]
   rw[hf]
   simp only[Option.map_some,Result.andThen_ok,Sem.run_bind,List.getElem?_toArray,hge,Option.getD_some,Instr.keyThatStays,K.same,if_true,Sem.run_pure,MapKept.run_setObj_map _ h2]
   rw[<-ents_mod key val a v h1]
   simp[ChangeMaps.setBlock]
  .rw [g2];exact hs.2
theorem s_mapUpd{b:Nat}{a:α}{v:β}[T:MapT P t k e][K:KeyT P k key](hm:Mp key val w b m)(hx:ev n f x=.map (some b))(hy:ev n f y=key a)(hz:ev n f z=val v)
 (h:∀w',Mp key val w' b (putM m a v)->Fr [b] w w'->w'.heap.size=w.heap.size->wpList P ops Q rest (A n (updo f d' undef)) w'):
 wpList P ops Q (⟨d',.mapUpdate t x y z,ty,ps,af,none⟩::rest) (A n f) w:=by
 obtain⟨w',hr,h1,h2,h3⟩:=run_mapUpd (P:=P) (t:=t) (a:=a) (v:=v) hm
 refine s_skip (w':=w') ?_ (h w' h1 h2 h3)
 simp[execOp,hx,hy,hz,hr,Result.andThen]
end
end
/-! ### keys that are strings -/
theorem bytes_dec(a b:ByteArray):(a==b)=decide (a=b):=by
 by_cases h:a=b
 .rw [decide_eq_true h];exact(MapKept.bytes_beq a b).2 h
 .rw [decide_eq_false h]
  cases hb:a==b
  .rfl
  .exact absurd ((MapKept.bytes_beq a b).1 hb) h
theorem eqv_str(h:P.underlying k=some .string)(a b:ByteArray)(w:World):(Op.equal k (.string a) (.string b)).run P w=.ok (decide (a=b)) w:=by
 have e:=bytes_dec a b
 show(Op.equalIn (9999+1) k _ _).run P w=_
 rw[Op.equalIn]
 simp only[Sem.run_bind,run_underlying h,Result.andThen_ok,Sem.run_pure,e]
instance keyStr{P:Program}{k:Nat}[S:StrT P k]:KeyT P k Value.string where
 now:=⟨_,S.u,.inl fun a b=>by
  have e:=bytes_dec a b
  simp[Instr.sameNow,e]⟩
 eqv:=eqv_str S.u
 chk:=fun e a w=>by
  show(Instr.checkKey e (9999+1) k (.string a)).run P w=_
  rw[Instr.checkKey]
  simp only[Sem.run_bind,run_underlying S.u,Result.andThen_ok]
  rfl
 same:=fun a=>by
  show Instr.sameBits (9999+1) _ _=true
  rw[Instr.sameBits]
  exact(MapKept.bytes_beq a a).2 rfl
end Go.Rf
namespace Go.Proofs.YtggmccicdhnkgaaGreat
open Go.Proofs.Tryz
open Go.Rf Go.RowKit
variable{w:World}
attribute [local irreducible] Code.wp wpList Exit.then Exit.inBlock bodyPost A Calls execOp Addr.add
theorem equalIn_bool{P:Program}(dd:Nat){e:Nat}(he:P.underlying e=some .bool)(x y:Bool):(Op.equalIn (dd+1) e (.bool x) (.bool y)).run P w=.ok (x==y) w:=by
 simp[Op.equalIn,run_underlying he]
theorem s_eqBool{ops:Array Oper}{Q:Exit->Act->World->Prop}{rest:List Oper}{n:Nat}{f:Env}{d:Nat}{ty t2:TypeId}{ps:String}{af:Array Edge}{x y:Operand}{a b:Bool}(hx:ev n f x=.bool a)(hy:ev n f y=.bool b)(h:wpList prog ops Q rest (A n (upd f d (.bool (a==b)))) w):
 wpList prog ops Q (⟨some d,.binOp .eql 4 x y t2,ty,ps,af,none⟩::rest) (A n f) w:=by
 have hu:prog.underlying 4=some .bool:=underlying4
 have hg:prog.eqGuardType prog.depth 4=false:=by kernel_rfl
 have e:(Op.equal 4 (.bool a) (.bool b)).run prog w=.ok (a==b) w:=by
  exact equalIn_bool 9999 hu a b
 exact s_run (by simp[execOp,eqGuard,binOp,hx,hy,e,hg]) h
set_option maxHeartbeats 8000000 in
theorem partC(q:Nat):∀(m:Nat) (t:Ty),tyD t<=m->∀(w:World) (S:List Nat) (cs:List Value),q∈S->FB w q->RD w S (tyC t) cs->Calls prog 216 #[.pointer (some ⟨q,0,none⟩),.agg cs.toArray] w (FC q w):=by
 intro m
 induction m with
 |zero=>intro t h;rw[tyD_eq]at h;omega
 |succ m ih=>
  intro t ht w S cs hqS hFB hd
  have hqw:=hFB.lt
  obtain⟨s,rfl,hk⟩:=tyR.1 hd
  obtain⟨ao,c,rfl,_⟩:=hk.slice
  have hbn:=hk.bound
  have e:=tyD_eq t
  have hl:(t.kids.map tyC).length=t.kids.length:=List.length_map ..
  refine enter func216 rfl ntmps216 rfl ?_
  refine rx ?_
  refine s_boxN rfl rfl (fun w1 b hb hB hf1 hs1=>?_)
  have hbq:b≠q:=by omega
  have hst:ST q b _ 90 w w1:=⟨hFB.tr0 hf1,fr_new hf1,hB⟩
  refine rr ?_;refine wpList_nil ?_;refine q_then ?_;refine wp_seq ?_;refine c_region ?_
  refine w_cutK 4 [] (fun g u=>(ST q b (tyV t (.slice ao (t.kids.map tyC).length c)) 90 w) u) ?_ ?_
  .refine rx ?_
   repeat' (first|exact q_cutK Yhb Yhp|exact wpList_nil (q_cutK Yhb Yhp)|(refine s_cE (argC q _ _ hst.1) ?_;rintro _ ⟨hx1,hx2⟩;have hst:=hst.step hbq hx1 hx2;have hB:=hst.2.2;clear hx1 hx2;refine rx ?_)|(refine s_eqBool rfl rfl ?_;refine rx ?_)|(first|refine s_eql rfl rfl (fun _=>?_) (fun _=>?_)|refine s_neq rfl rfl (fun _=>?_) (fun _=>?_)|refine s_lss rfl rfl (fun _=>?_) (fun _=>?_)|refine s_leq rfl rfl (fun _=>?_) (fun _=>?_)|refine s_gtr rfl rfl (fun _=>?_) (fun _=>?_)|refine s_geq rfl rfl (fun _=>?_) (fun _=>?_)|refine s_eqlE rfl rfl (fun _=>?_) (fun _=>?_)|refine s_neqE rfl rfl (fun _=>?_) (fun _=>?_))<;>refine rx ?_)
  clear hst hB
  rintro g u hst
  have hB:Blk u b [iV t.kind,.string t.name,.slice ao (t.kids.map tyC).length c] 90:=hst.2.2
  refine wp_seq ?_
  refine c_cutK 4 [] (fun g u=>ST q b (tyV t (.slice ao (t.kids.map tyC).length c)) 90 w u) ?_ ?_
  .refine rx ?_
   repeat' (first|exact q_cutK Yhb Yhp|exact wpList_nil (q_cutK Yhb Yhp)|(refine s_cE (namedC q _ _ _ hst.1) ?_;rintro _ ⟨hx1,hx2⟩;have hst:=hst.step hbq hx1 hx2;have hB:=hst.2.2;clear hx1 hx2;refine rx ?_)|(refine s_cE (namedC q _ 1 _ hst.1) ?_;rintro _ ⟨hx1,hx2⟩;have hst:=hst.step hbq hx1 hx2;have hB:=hst.2.2;clear hx1 hx2;refine rx ?_)|(first|refine s_eql rfl rfl (fun _=>?_) (fun _=>?_)|refine s_neq rfl rfl (fun _=>?_) (fun _=>?_)|refine s_lss rfl rfl (fun _=>?_) (fun _=>?_)|refine s_leq rfl rfl (fun _=>?_) (fun _=>?_)|refine s_gtr rfl rfl (fun _=>?_) (fun _=>?_)|refine s_geq rfl rfl (fun _=>?_) (fun _=>?_)|refine s_eqlE rfl rfl (fun _=>?_) (fun _=>?_)|refine s_neqE rfl rfl (fun _=>?_) (fun _=>?_))<;>refine rx ?_)
  clear hst hB
  rintro g u hst
  refine rx ?_
  refine c_loopK 5 [4] (σ:=Nat) (fun i g u=>g 4=iV i/\i<=t.kids.length/\ST q b (tyV t (.slice ao (t.kids.map tyC).length c)) 90 w u) (fun i=>t.kids.length-i) 0 ⟨rfl,Nat.zero_le _,hst⟩ ?_
  clear hst
  rintro i g u ⟨h4,hi,hst⟩
  rw[eq_upd h4]
  have hB:Blk u b [iV t.kind,.string t.name,.slice ao (t.kids.map tyC).length c] 90:=hst.2.2
  by_cases hlt:i<t.kids.length
  case neg=>
   refine rx ?_
   exact Yfx
  obtain⟨ad,cs2,had,hr,hc⟩:=DR.at tyC_len (hk.old hst.2.1 (one_in hqS)) hlt
  subst had
  have hr0:=hr
  obtain⟨s2,rfl,hk2⟩:=tyR.1 hr
  have hg:=tyDs_get hlt
  refine rx ?_
  refine s_cE (ih t.kids[i] Yhd u S _ hqS hst.1 hr0) ?_;rintro w2 ⟨hx1,hx2⟩;have hst:=hst.step hbq hx1 hx2;have hB:=hst.2.2;clear hx1 hx2
  refine rx ?_
  exact Yfy
theorem ltN_le{a b:Nat}(h:ltN a b=false):b<=a:=by
 rcases Nat.lt_or_ge a b with h1|h1
 .simp only[ltN]at h;rw[blt_yes h1]at h;cases h
 .exact h1
set_option maxHeartbeats 8000000 in
theorem typC(q:Nat)(t:Ty)(hlim:limT t=false)(w:World)(S:List Nat)(cs:List Value)(hqS:q∈S)(hFB:FB w q)(hd:RD w S (tyC t) cs):Calls prog 171 #[.pointer (some ⟨q,0,none⟩),.agg cs.toArray] w (FC q w):=by
 have h32:tyD t<=32:=ltN_le hlim
 have hd0:=hd
 obtain⟨s,rfl,hk⟩:=tyR.1 hd
 obtain⟨ao,c,rfl,_⟩:=hk.slice
 refine enter func171 rfl ntmps171 rfl ?_
 refine rx ?_
 refine s_boxN rfl rfl (fun w1 b hb hB hf1 hs1=>?_);have hqw:=hFB.lt;have hbq:b≠q:=by omega
 obtain⟨b1,b2,b3,hQ⟩:=hFB.tr0 hf1
 refine rx ?_
 refine s_cE (tyDepC 32 Yhd t h32 w1 S _ (hd0.tr0 hf1)) ?_
 rintro w2 hf2
 have hQ:=hQ.tr0 hf2
 have hB:=hB.tr0 hf2
 refine rx ?_
 ((with_reducible apply s_storeB);exact rfl;(conv=>lhs;whnf);exact rfl;exact hQ;exact rfl)
 intro w3 hQ hf3 hs3
 have hB:Blk w3 b _ 90:=hB.tr hf3 Yjx
 have hF:Fr [q] w w3:=(fr_new (hf1.trans0 hf2)).trans hf3 (fun x hx=>.inl hx)
 refine rx ?_
 refine s_cE (partC q 32 t h32 w3 S _ hqS ⟨_,_,_,hQ⟩ (hd0.old hF (one_in hqS))) ?_
 exact Ycf
set_option maxHeartbeats 8000000 in
theorem paramsC(q:Nat)(l:List Pm)(hlim:limPs l=false)(w:World)(S:List Nat)(v:Value)(hqS:q∈S)(hFB:FB w q)(hd:DR w S (.l (l.map pmC)) v):Calls prog 172 #[.pointer (some ⟨q,0,none⟩),v] w (FC q w):=by
 simp only[limPs,Bool.or_eq_false_iff,List.any_eq_false]at hlim
 obtain⟨h16,hlim⟩:=hlim
 obtain⟨ao,c,rfl,_⟩:=hd.slice
 have hbn:=hd.bound
 have hl:(l.map pmC).length=l.length:=List.length_map ..
 refine enter func172 rfl ntmps172 rfl ?_
 refine rx ?_
 refine s_cE (mostC q _ w hFB (by rw[hl];exact h16)) ?_
 rintro w1 ⟨h1,hf1⟩
 refine Yfl ?_
 rintro i g u ⟨h4,hi,hq,hf⟩
 rw[eq_upd h4]
 by_cases hlt:i<l.length
 case neg=>
  refine rx ?_
  exact end0 rfl ⟨rfl,hq,hf⟩
 obtain⟨ad,cs2,had,hr,hc⟩:=DR.at pmC_len (hd.old hf (one_in hqS)) hlt
 subst had
 obtain⟨cs3,rfl,hr0⟩:=hr.invC
 obtain⟨s2,rfl,hk2⟩:=tyR.1 hr0
 have hc:Cells u (ad.add (i*4)) [.string l[i].name,iV l[i].type.kind,.string l[i].type.name,s2]:=hc
 refine rx ?_
 refine s_cE (namedC q _ 0 _ hq) ?_
 rintro w2 ⟨hq2,hf2⟩
 have hF2:=hf.trans hf2 (fun x hx=>.inl hx)
 obtain⟨ad',cs2,had,hr2,hc2⟩:=DR.at pmC_len (hd.old hF2 (one_in hqS)) hlt
 obtain rfl:=Option.some.inj had
 obtain⟨cs3,rfl,hr20⟩:=hr2.invC
 obtain⟨s3,rfl,hk3⟩:=tyR.1 hr20
 have hc2:Cells w2 (ad.add (i*4)) [.string l[i].name,iV l[i].type.kind,.string l[i].type.name,s3]:=hc2
 refine rx ?_
 refine s_cE (typC q l[i].type (by simpa using hlim l[i] (List.getElem_mem hlt)) w2 S _ hqS hq2 hr20) ?_
 rintro w3 ⟨hq3,hf3⟩
 refine rx ?_
 exact q_roundK (i+1) Yhb ⟨rfl,by omega,hq3,hF2.trans hf3 (fun x hx=>.inl hx)⟩ Yhd
end Go.Proofs.YtggmccicdhnkgaaGreat
