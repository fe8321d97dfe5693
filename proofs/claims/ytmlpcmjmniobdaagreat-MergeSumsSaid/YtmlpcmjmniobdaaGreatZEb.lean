/-
 Steps:one operation of the run is one of the machine's. It speaks of no program.
-/
import Derived.Test.YtmlpcmjmniobdaaGreatZE9
import Derived.RangeFuncSeq
import Derived.RangeFuncLeaves
import Derived.TacticsIn
import Derived.Maps.RangeRun
set_option linter.all false
namespace Go.Ev
open Go.Rf Go.RowKit
section
variable{ys:List Value}{cl et i kt n o s t u:Nat}{k m:Operand}{x:Value}{w w':World}
theorem Rep.move'{L:Lay}{h h1 h2:H}(R:Rep L h w){x y:Nat×Nat}{so:SO}(hi:L i=some x)(hl:live h i)(hy:y.1=x.1\/w.heap.size<=y.1)(hlt:y.1<w'.heap.size)(hn1:h1.nx=h.nx)(hg1:∀j,h1.get j=if j=i then some .gone else h.get j)
 (hn2:h2.nx=h1.nx+1) (hg2:∀j,h2.get j=if j=h1.nx then some so else h1.get j) (hF:Fr [x.1] w w') (hO:RepO (updL L h.nx y) w' y so):
 Rep (updL L h.nx y) h2 w'/\Ext L h w (updL L h.nx y) h2 w':=by
 rw[hn1]at hn2 hg2;have hL:L h.nx=none:=R.no (Nat.le_refl _);have hle:=updL_le (x:=y) hL;have hin:i≠h.nx:=fun e=>by subst e;rw[hi]at hL;cases hL
 have hget:∀j,j≠h.nx->j≠i->h2.get j=h.get j:=fun j e e'=>by rw[hg2,if_neg e,hg1,if_neg e']
 have hgi:h2.get i=some .gone:=by rw[hg2,if_neg hin,hg1,if_pos rfl]
 have hlive:∀j,j≠h.nx->live h2 j->live h j/\j≠i:=fun j e hl'=>by
  by_cases e':j=i
  .subst e';exact absurd hgi hl'
  .unfold live at*;rw[hget j e e']at hl';exact⟨hl',e'⟩
 have hcl:∀j z,L j=some z->live h j->z.1=y.1->j=i:=fun j z e hlj hz=>by
  rcases hy with hy|hy
  .exact R.inj j i z x e hi hlj hl (hz.trans hy)
  .have:=(R.lt j z e).2;omega
 refine⟨⟨fun j z e=>?_,fun j z e=>?_,fun j k z z' e1 e2 l1 l2 hzz=>?_⟩,hle,by omega,fun j hj e=>⟨by rw[updL_ne L _ Yhn];exact e,hget j Yhn Yni⟩,fun b hb=>?_,FrS.of hF (fun k hk=>.inl ⟨i,x,hi,hl,(List.mem_singleton.1 hk).symm⟩)⟩
 .by_cases hj:j=h.nx
  .subst hj;rw[updL_same]at e;cases e;exact⟨so,by rw[hg2,if_pos rfl],hO⟩
  .rw [updL_ne L _ hj]at e;by_cases hji:j=i
   .subst hji;exact⟨.gone,hgi,trivial⟩
   .obtain ⟨so',h3,h4⟩:=R.o j z e;refine⟨so',by rw[hget j hj hji];exact h3,?_⟩;by_cases hz:z.1=x.1
    .have:¬live h j:=fun hlj=>hji (R.inj j i z x e hi hlj hl hz)
     exact Ymp
    .exact (h4.mono hle).tr (hF.block _ (R.lt j z e).2 (by simpa using hz))
 .have hs:=hF.size;by_cases hj:j=h.nx
  .subst hj;rw[updL_same]at e;cases e;exact⟨by omega,hlt⟩
  .rw [updL_ne L _ hj]at e;have:=R.lt j z e;exact⟨by omega,by omega⟩
 .by_cases hj:j=h.nx
  .by_cases hk:k=h.nx
   .rw [hj,hk]
   .subst hj;rw[updL_same]at e1;cases e1
    rw[updL_ne L _ hk]at e2;obtain⟨l3,l4⟩:=hlive k hk l2;exact absurd (hcl k z' e2 l3 hzz.symm) l4
  .rw [updL_ne L _ hj]at e1;obtain⟨l3,l4⟩:=hlive j hj l1;by_cases hk:k=h.nx
   .subst hk;rw[updL_same]at e2;cases e2
    exact absurd (hcl j z e1 l3 hzz) l4
   .rw [updL_ne L _ hk]at e2;exact R.inj j k z z' e1 e2 l3 (hlive k hk l2).1 hzz
 .obtain ⟨j,z,e,hlj,rfl⟩:=hb;by_cases hj:j=h.nx
  .subst hj;rw[updL_same]at e;cases e
   rcases hy with hy|hy
   .exact .inr ⟨i,x,hi,hl,hy.symm⟩
   .exact .inl hy
  .rw [updL_ne L _ hj]at e;exact .inr ⟨j,z,e,(hlive j hj hlj).1,rfl⟩
theorem Rep.new'{L:Lay}{h h':H}(R:Rep L h w){y:Nat×Nat}{so:SO}(hy:w.heap.size<=y.1)(hlt:y.1<w'.heap.size)(hn:h'.nx=h.nx+1)(hg:∀j,h'.get j=if j=h.nx then some so else h.get j)(hF:Fr [] w w')
 (hO:RepO (updL L h.nx y) w' y so):Rep (updL L h.nx y) h' w'/\Ext L h w (updL L h.nx y) h' w':=by
 have hL:L h.nx=none:=R.no (Nat.le_refl _);have hle:=updL_le (x:=y) hL;have hs:=hF.size;have hget:∀j,j≠h.nx->h'.get j=h.get j:=fun j e=>by rw[hg,if_neg e]
 have hlive:∀j,j≠h.nx->live h' j->live h j:=fun j e hl=>by unfold live at*;rw[hget j e]at hl;exact hl
 refine⟨⟨fun i x e=>?_,fun i x e=>?_,fun i j x z e1 e2 l1 l2 hxz=>?_⟩,hle,by omega,fun i hi e=>⟨by rw[updL_ne L _ Yhn];exact e,hget i Yhn⟩,fun b hb=>?_,FrS.of hF (fun k hk=>by cases hk)⟩
 .by_cases hi:i=h.nx
  .subst hi;rw[updL_same]at e;cases e;exact⟨so,by rw[hg,if_pos rfl],hO⟩
  .rw [updL_ne L _ hi]at e;exact Yml
 .by_cases hi:i=h.nx
  .subst hi;rw[updL_same]at e;cases e;exact⟨by omega,hlt⟩
  .rw [updL_ne L _ hi]at e;have:=R.lt i x e;exact⟨by omega,by omega⟩
 .by_cases hi:i=h.nx
  .by_cases hj:j=h.nx
   .rw [hi,hj]
   .subst hi;rw[updL_same]at e1;cases e1
    rw[updL_ne L _ hj]at e2;have:=(R.lt j z e2).2;omega
  .rw [updL_ne L _ hi]at e1;by_cases hj:j=h.nx
   .subst hj;rw[updL_same]at e2;cases e2
    have:=(R.lt i x e1).2;omega
   .rw [updL_ne L _ hj]at e2;exact R.inj i j x z e1 e2 (hlive i hi l1) (hlive j hj l2) hxz
 .obtain ⟨j,z,e,hl,rfl⟩:=hb;by_cases hj:j=h.nx
  .subst hj;rw[updL_same]at e;cases e;exact .inl hy
  .rw [updL_ne L _ hj]at e;exact .inr ⟨j,z,e,hlive j hj hl,rfl⟩
section
variable{P:Program}{nt:Nat}{L:Lay}{T:Tr SV}{f:Env}{h:H}{w:World}{β:Type}{r:β}
theorem write_row{x:Nat×Nat}{l vs:List SV}{k:Kd}(hO:RepO L w x (.row t s l k))(hk:k≠.ro)(hv:denL L vs=some ys)(ha:atoms vs=true)(hle:o+vs.length<=l.length):
 ∃w',(storeCells ⟨x.1,o,none⟩ ys).run P w=.ok () w'/\Fr [x.1] w w'/\RepO L w' x (.row t s (l.take o++vs++l.drop (o+vs.length)) k):=by
 have h1:=den_atoms hv ha;have hvl:=denL_len hv;cases k with
 |ro=>exact absurd rfl hk
 |full=>
  obtain⟨xs,h2,h3,h4,h5⟩:=hO;have hxl:=denL_len h2;have hr:=run_storeCells_at P x.1 o t ys 0 xs.toArray w h3 Yht h1;simp only[Nat.add_zero]at hr;refine⟨_,hr,⟨rfl,rfl,rfl,by simp,fun q _ hq=>setRow_other w x.1 q _ (by simpa using hq),Nat.le_refl _⟩,xs.take o++ys++xs.drop (o+ys.length),?_,?_,?_,h5⟩
  .rw [<-hvl];exact denL_app (denL_app (denL_take _ h2) hv) (denL_drop _ h2)
  .have:=setRow_heap w x.1 _ (xs.take o++ys++xs.drop (o+ys.length)).toArray t _ h3;simpa using this
  .simp only[List.length_append,List.length_take,List.length_drop];omega
 |more=>
  obtain⟨xs,rr,h2,h3,h4,h5⟩:=hO;have hxl:=denL_len h2;have hr:=run_storeCells_at P x.1 o t ys 0 (xs++rr).toArray w h3 Yht h1;simp only[Nat.add_zero]at hr;have e1:(xs++rr).take o=xs.take o:=List.take_append_of_le_length Yhn;have e2:(xs++rr).drop (o+ys.length)=xs.drop (o+ys.length)++rr:=List.drop_append_of_le_length Yhn;refine⟨_,hr,⟨rfl,rfl,rfl,by simp,fun q _ hq=>setRow_other w x.1 q _ (by simpa using hq),Nat.le_refl _⟩,xs.take o++ys++xs.drop (o+ys.length),rr,?_,?_,?_,h5⟩
  .rw [<-hvl];exact denL_app (denL_app (denL_take _ h2) hv) (denL_drop _ h2)
  .have:=setRow_heap w x.1 _ ((xs++rr).take o++ys++(xs++rr).drop (o+ys.length)).toArray t _ h3;simpa[e1,e2]using this
  .simp only[List.length_append,List.length_take,List.length_drop];omega
theorem putL_spec{l vs:List SV}{c:List SV->Option β}(e:putL l o vs c=some r):o+vs.length<=l.length/\c (l.take o++vs++l.drop (o+vs.length))=some r:=by
 unfold putL at e;rw[nble]at e;by_cases hb:o+vs.length<=l.length
 .rw [decide_eq_true hb,appK_eq]at e;exact⟨hb,by rw[List.append_assoc];exact e⟩
 .rw [decide_eq_false hb]at e;cases e
theorem write1_spec{vs:List SV}{c:H->Option β}{x:Nat×Nat}(R:Rep L h w)(hi:L i=some x)(hv:denL L vs=some ys)(ha:atoms vs=true)(e:write1 h i o vs c (h.get i)=some r):
 ∃h' w',c h'=some r/\(storeCells ⟨x.1,o,none⟩ ys).run P w=.ok () w'/\Rep L h' w'/\Ext L h w L h' w':=by
 cases hg:h.get i with
 |none=>rw[hg]at e;cases e
 |some so=>
  rw[hg]at e;cases so with
  |row t s l k=>
   have hO:=R.get hi hg;have hl:live h i:=by unfold live;rw[hg];simp
   have key:k≠.ro->(putL l o vs fun l=>h.put i (.row t s l k) c)=some r->∃h' w',c h'=some r/\(storeCells ⟨x.1,o,none⟩ ys).run P w=.ok () w'/\Rep L h' w'/\Ext L h w L h' w':=by
    intro hk e;obtain⟨hle,e⟩:=putL_spec e;obtain⟨h',e,hn,hget⟩:=put_spec e;obtain⟨w',h1,h2,h3⟩:=write_row (P:=P) hO hk hv ha hle;obtain⟨h4,h5⟩:=R.put hi hl hn hget h2 h3;exact⟨h',w',e,h1,h4,h5⟩
   cases k with
   |ro=>cases e
   |full=>exact key Yhs e
   |more=>exact key Yhs e
  |_=>cases e
def MO(P:Program)(L:Lay)(nt:Nat)(f:Env)(op:Op)(h:H)(w:World)(c:SV->H->Option β)(r:β):Prop:=
 ∃v h' L' w' x,c v h'=some r/\Rep L' h' w'/\Ext L h w L' h' w'/\den L' v=some x/\((∀d ty ps af gd,(execOp (ev nt f) ⟨d,op,ty,ps,af,gd⟩).run P w=.ok (.value x) w')\/(x=undef/\∀d ty ps af gd,(execOp (ev nt f) ⟨d,op,ty,ps,af,gd⟩).run P w=.ok .skip w'))
theorem den_undef(L:Lay):den L (.tup [])=some undef:=den_tup' (denL_nil L)
theorem m_store{a v:Operand}{c:SV->H->Option β}(hE:ER L T f)(R:Rep L h w)(hs:szOf P t=some s)(e:storeV s ((cO nt a).g T) ((cO nt v).g T) h c=some r):MO P L nt f (.store t a v) h w c r:=by
 obtain⟨i',hi',rfl⟩:=szOf_spec hs;unfold storeV at e
 split at e
 case h_2=>cases e
 rename_i i o ea
 split at e
 case h_2=>cases e
 rename_i u eu;rw[nbeq]at e;by_cases hb:u.cells.length=i'.size/\atoms u.cells=true
 .rw [decide_eq_true hb.1,hb.2]at e;simp only[cond_true,Bool.and_self]at e;obtain⟨x,h1,h2⟩:=den_at (cO_spec hE ea);have hu:=cO_spec hE eu;obtain⟨h',w',e,h3,h4,h5⟩:=write1_spec (P:=P) R h1 (den_cells hu) hb.2 e;refine⟨_,h',L,w',undef,e,h4,h5,den_undef L,.inr ⟨rfl,fun d ty ps af gd=>?_⟩⟩;have hsz:(ev nt f v).cells.size=i'.size:=by have:=denL_len (den_cells hu);simp at this;rw[this];exact hb.1
  simp[execOp,h2,Instr.storeAt,Instr.sureAddr,storeVar,sizeOf,typeInfo,hi',hsz,h3]
 .have:(and (decide (u.cells.length=i'.size)) (atoms u.cells))=false:=by simpa using hb
  rw[this]at e;cases e
theorem setS_spec{k v:SV}:∀{es es':List (SV×SV×Nat)},setS k v cl es=some es'->findS k es=some none/\es'=es++[(k,v,cl)]
 |[],es',e=>by cases e;exact⟨rfl,rfl⟩
 |(k',v',b)::l,es',e=>by
  unfold setS at e;unfold findS
  split at e
  .cases e
  .rename_i he
   split at e
   .rename_i q hq;cases e
    obtain⟨h1,h2⟩:=setS_spec hq;exact⟨h1,by rw[h2];rfl⟩
   .cases e
  .cases e
theorem denE_app{L:Lay}:∀{es:List (SV×SV×Nat)} {xs:List MapEntry} {k v:SV} {b:Nat} {x y:Value},denE L es=some xs->den L k=some x->den L v=some y->denE L (es++[(k,v,b)])=some (xs++[⟨x,y,b⟩])
 |[],xs,k,v,b,x,y,h,hk,hv=>by cases h;exact denE_cons.2 ⟨x,y,[],hk,hv,rfl,rfl⟩
 |(k',v',b')::l,xs,k,v,b,x,y,h,hk,hv=>by
  obtain⟨p,q,r',h1,h2,h3,rfl⟩:=denE_cons.1 h;exact denE_cons.2 ⟨p,q,_,h1,h2,denE_app h3 hk hv,rfl⟩
theorem run_upd{v:Operand}{kv vv:SV}{es:List (SV×SV×Nat)}{es':List (SV×SV×Nat)}{x:Nat×Nat}(R:Rep L h w)(hu:P.underlying t=some (.map kt et))(hm:ev nt f m=.map (some x.1))(hi:L i=some x)(hg:h.get i=some (.map es cl))(hk:plainKey P kt kv=true)(hkd:den L kv=some (ev nt f k))(hvd:den L vv=some (ev nt f v))(hs:setS kv vv cl es=some es'):
 ∃w',(Instr.mapUpdate t (ev nt f m) (ev nt f k) (ev nt f v)).run P w=.ok () w'/\Fr [x.1] w w'/\RepO L w' x (.map es' (cl+1)):=by
 obtain⟨xs,h3,h4⟩:=R.get hi hg;obtain⟨h5,rfl⟩:=setS_spec hs;obtain⟨d,hd⟩:∃d,P.underlying kt=some d:=by rcases plainKey_und hk with⟨q,hq⟩|hq<;>exact⟨_,hq⟩
 have hck:=checkKey_plain hk hkd false w;have hgo:(getObj x.1).run P w=.ok (.map xs.toArray cl) w:=by simp[getObj,Sem.run,h4]
 have hs':Instr.findNow d (ev nt f k) xs 0=some none:=findS_spec hd hk hkd 0 h3 h5;have hk':(Instr.findKey kt (ev nt f k) xs).run P w=.ok none w:=by simp[Instr.findKey,run_underlying hd,hs']
 have hlt:=(Array.getElem?_eq_some_iff.1 h4).1;refine⟨w.putObj x.1 (.map (xs.toArray.push {key:=ev nt f k,val:=ev nt f v,born:=cl}) (cl+1)),?_,⟨rfl,rfl,rfl,by simp[World.putObj],fun q _ hq=>?_,Nat.le_refl _⟩,_,denE_app h3 hkd hvd,?_⟩
 .simp [Instr.mapUpdate,run_underlying hu,hm,hgo,hck,hk',setObj,Sem.run,h4,World.putObj]
 .have:q≠x.1:=by simpa using hq
  simp[World.putObj,Array.getElem?_setIfInBounds_ne (Ne.symm this)]
 .simp [World.putObj,hlt]
theorem m_upd{op:Op}{v:Operand}{c:SV->H->Option β}(hop:op=.mapUpdate t m k v\/op=.insert t m k v)(hE:ER L T f)(R:Rep L h w)(hu:P.underlying t=some (.map kt et))(e:updV P kt ((cO nt m).g T) ((cO nt k).g T) ((cO nt v).g T) h c=some r):MO P L nt f op h w c r:=by
 unfold updV at e
 split at e
 case h_2=>cases e
 rename_i i em
 split at e
 case h_2=>cases e
 rename_i kv ek
 split at e
 case h_2=>cases e
 rename_i vv ev';obtain⟨x,h1,h2⟩:=den_map (cO_spec hE em);unfold upd1 at e
 split at e
 case h_2=>cases e
 rename_i es cl hg;cases hpk:plainKey P kt kv with
 |false=>rw[hpk]at e;cases e
 |true=>
  rw[hpk]at e;simp only[cond_true]at e
  split at e
  .rename_i es' hs;obtain⟨h',e,hn,hget⟩:=put_spec e;obtain⟨w',h3,h4,h5⟩:=run_upd R hu h2 h1 hg hpk (cO_spec hE ek) (cO_spec hE ev') hs;obtain⟨h6,h7⟩:=R.put h1 (by unfold live;rw[hg];simp) hn hget h4 h5;refine⟨_,h',L,w',undef,e,h6,h7,den_undef L,.inr ⟨rfl,fun d ty ps af gd=>?_⟩⟩;rcases hop with rfl|rfl<;>simp[execOp,h3]
  .cases e
theorem m_range{c:SV->H->Option β}(hE:ER L T f)(R:Rep L h w)(hu:P.underlying t=some (.map kt et))(e:rangeV ((cO nt m).g T) h c=some r):MO P L nt f (.range t m) h w c r:=by
 unfold rangeV at e
 split at e
 case h_2=>cases e
 rename_i i em;obtain⟨x,h1,h2⟩:=den_map (cO_spec hE em);unfold range1 at e
 split at e
 case h_2=>cases e
 rename_i k hg;obtain⟨h',e,hn,hget⟩:=new_spec e;obtain⟨xs,h3,h4⟩:=R.get h1 hg;cases h3
 have hgo:(getObj x.1).run P w=.ok (.map #[] k) w:=by simp[getObj,Sem.run,h4]
 have hL:=R.no (i:=h.nx) (Nat.le_refl _);obtain⟨h5,h6⟩:=R.new' (y:=(w.heap.size,0)) (so:=.mit i k) (w':=w.alloc (.mapIter (some x.1) k #[] k)) (Nat.le_refl _) Yhs hn hget (Fr.alloc _ _ _) ⟨x,updL_le hL _ _ h1,heap_alloc_new w _⟩;refine⟨_,h',_,_,_,e,h5,h6,den_at' (updL_same _ _ _),.inl fun d ty ps af gd=>?_⟩;have hr:(Instr.range t (.map (some x.1))).run P w=.ok (.pointer (some ⟨w.heap.size,0,none⟩)) (w.alloc (.mapIter (some x.1) k #[] k)):=by
  simp only[Instr.range,Sem.run_bind,run_underlying hu,Result.andThen_ok,hgo];rfl
 simp only[execOp,h2];rw[Sem.run_bind,hr];rfl
theorem m_next{it:Operand}{c:SV->H->Option β}(hE:ER L T f)(R:Rep L h w)(e:nextV ((cO nt it).g T) h c=some r):MO P L nt f (.next it false) h w c r:=by
 unfold nextV at e
 split at e
 case h_2=>cases e
 rename_i i em;obtain⟨x,h1,h2⟩:=den_at (cO_spec hE em);unfold next1 at e
 split at e
 case h_2=>cases e
 rename_i j k hg;unfold next2 at e
 split at e
 case h_2=>cases e
 rename_i k' hg';rw[nbeq]at e;by_cases hk:k=k'
 .subst hk;rw[decide_eq_true rfl]at e;obtain⟨m,h3,h4⟩:=R.get h1 hg;obtain⟨xs,h5,h6⟩:=R.get h3 hg';cases h5
  refine⟨_,h,L,w,_,e,R,Ext.refl _ _ _,den_tup' (denL_one (den_bool' L false)),.inl fun d ty ps af gd=>?_⟩;have hn:(Instr.next (.pointer (some ⟨x.1,0,none⟩)) false ty).run P w=.ok (.tuple #[.bool false]) w:=by
   rcases run_next_at (P:=P) w ty x.1 m.1 k k #[] _ k h4 h6 (by intro e he;simp at he) (Nat.le_refl _)with⟨_,hr⟩|⟨en,hen,_⟩
   .exact hr
   .simp [leftOf]at hen
  simp only[execOp,h2];rw[Sem.run_bind,hn];rfl
 .rw [decide_eq_false hk]at e;cases e
/-! ### append, copy -/
structure Srcs (P:Program) (w:World) (s:Nat) (x:Value) (n:Nat) (ys:List Value):Prop where
 len:ys.length=n*s
 lenOf:∀u:World,(Builtin.lenOf x).run P u=.ok n u
 cells:∀k,k<=n->∀u:World,(∀a,u.cell? a=w.cell? a)->(Builtin.firstCells s k x).run P u=.ok (ys.take (k*s)).toArray u
theorem src_spec{v:SV}{l:List SV}(R:Rep L h w)(hx:den L v=some x)(hn:lenOfS v=some n)(e:cellsOf h v=some l)(hl:l.length=n*s):∃ys,denL L l=some ys/\Srcs P w s x n ys:=by
 rcases cellsOf_spec R hx e with⟨b,rfl,rfl,rfl⟩|⟨ys,n',c,a,h1,rfl,h3,h4,h5,h6⟩
 .cases hn
  have hdl:∀(L':Lay) (q:List UInt8),denL L' (q.map fun b=>SV.int .u8 (.ofNat b.toNat))=some (q.map fun b=>Value.int .u8 (b.toNat:Int)):=by
   intro L' q
   induction q with
   |nil=>exact denL_nil L'
   |cons a q ih=>exact denL_cons.2 ⟨_,_,den_int' _ _ _,ih,rfl⟩
  refine⟨_,hdl L b,by simpa using hl,fun u=>by simp[Builtin.lenOf];rfl,fun k hk u hu=>?_⟩;have hz:(b.map fun b=>Value.int .u8 (b.toNat:Int)).take (k*s)=(b.take k).map fun b=>Value.int .u8 (b.toNat:Int):=by
   have h7:b.length=b.length*s:=by simpa using hl
   by_cases hs:s=1
   .subst hs;rw[Nat.mul_one,List.map_take]
   .have h8:b.length=0:=by
     rcases Nat.eq_zero_or_pos b.length with h|h
     .exact h
     .exfalso
      have:s=1:=by
       have h9:b.length*1=b.length*s:=by omega
       exact(Nat.eq_of_mul_eq_mul_left h h9).symm
      exact hs this
    have:b=[]:=List.eq_nil_of_length_eq_zero h8;subst this;simp
  rw[hz];have hext:((bA b).extract 0 k).data=(b.take k).toArray:=by
   have:(bA b).extract 0 k=bA (b.take k):=by rw[<-toList_inj];simp[ByteArray.toList_eq,bA]
   rw[this];rfl
  simp only[Builtin.firstCells,hext];simp
 .rw [hn]at h3;cases h3
  have hyl:=denL_len h1;refine⟨ys,h1,by rw[hyl];exact hl,fun u=>by simp[Builtin.lenOf],fun k hk u hu=>?_⟩;cases a with
  |none=>
   obtain⟨rfl,rfl⟩:=h4 rfl;simp[Builtin.firstCells]
  |some ad=>
   have hks:k*s<=n*s:=Nat.mul_le_mul_right _ hk;refine run_firstCells_some u s k ad n c _ Yht fun j y hy=>?_
   rw[List.getElem?_take]at hy
   split at hy
   .rw [hu];exact h6 ad rfl j y hy
   .cases hy
theorem atoms_take:∀(l:List SV) (q:Nat),atoms l=true->atoms (l.take q)=true
 |[],q,h=>by simp[atoms]
 |v::l,0,h=>by simp[atoms]
 |v::l,q+1,h=>by
  unfold atoms at h;cases hv:v.atom with
  |false=>rw[hv]at h;cases h
  |true=>rw[hv]at h;simp only[List.take_succ_cons,atoms,hv,cond_true];exact atoms_take l q h
theorem m_copy{e:Nat}{a b:Operand}{ats:Array TypeId}{c:SV->H->Option β}(hat:ats.toList=[t,u])(hE:ER L T f)(R:Rep L h w)(hu:P.underlying t=some (.slice e))(hs:szOf P e=some s)(eq:copyV s ((cO nt a).g T) ((cO nt b).g T) h c=some r):MO P L nt f (.call {callee:=.builtin .copy,args:=#[a,b],argTypes:=ats}) h w c r:=by
 have:=arr2 hat;subst this;obtain⟨i',hi',rfl⟩:=szOf_spec hs;unfold copyV at eq
 split at eq
 case h_2=>cases eq
 rename_i va ea
 split at eq
 case h_2=>cases eq
 rename_i vb eb
 split at eq
 case h_2=>cases eq
 rename_i m hm
 split at eq
 case h_2=>cases eq
 rename_i n hn
 split at eq
 case h_2=>cases eq
 rename_i l hl;have hx:=cO_spec hE ea;have hy:=cO_spec hE eb
 split at eq
 .rename_i i o q z;cases hm
  rw[nbeq,nbeq]at eq;by_cases hc:z=i'.size/\l.length=n*i'.size/\atoms l=true
  .obtain ⟨rfl,hll,hat⟩:=hc;rw[decide_eq_true rfl,decide_eq_true hll,hat]at eq;simp only[cond_true,Bool.and_self]at eq;obtain⟨ys,h1,h2⟩:=src_spec (P:=P) R hy hn hl hll;obtain⟨x,h3,h4,h5⟩:=den_slc hx;have hat':atoms (l.take (Nat.min n m*i'.size))=true:=atoms_take l _ hat;obtain⟨h',w',eq,h6,h7,h8⟩:=write1_spec (P:=P) R h3 (denL_take _ h1) hat' eq;refine⟨_,h',L,w',_,eq,h7,h8,den_int' _ _ _,.inl fun d ty ps af gd=>?_⟩;have hf:=h2.cells (Nat.min n m) (Nat.min_le_left _ _) w (fun _=>rfl);have hlo:=h2.lenOf w;simp only[execOp,resolve,invoke,builtin,Builtin.copy_];simp[h5,run_underlying hu,sizeOf,typeInfo,hi',hlo];simp[hf,h6,goInt]
  .have:(and (decide (z=i'.size)) (and (decide (l.length=n*i'.size)) (atoms l)))=false:=by simpa using hc
   rw[this]at eq;cases eq
 .cases hm
  have hv:ev nt f a=zS:=by unfold den at hx;simpa using hx.symm
  refine⟨_,h,L,w,_,eq,R,Ext.refl _ _ _,den_int' _ _ _,.inl fun d ty ps af gd=>?_⟩;rcases cellsOf_spec R hy hl with⟨bb,h1,_,_⟩|⟨ys,n',cc,aa,_,h2,_,h4,_,h6⟩
  .simp [execOp,resolve,invoke,builtin,Builtin.copy_,hv,run_underlying hu,sizeOf,typeInfo,hi',h1,Builtin.lenOf,Builtin.firstCells,goInt]
  .cases aa with
   |none=>simp[execOp,resolve,invoke,builtin,Builtin.copy_,hv,run_underlying hu,sizeOf,typeInfo,hi',h2,Builtin.lenOf,Builtin.firstCells,goInt]
   |some ad=>simp[execOp,resolve,invoke,builtin,Builtin.copy_,hv,run_underlying hu,sizeOf,typeInfo,hi',h2,Builtin.lenOf,Builtin.firstCells,loadCells,loadCellsFrom,goInt]
 .cases eq
theorem Srcs.gives(h:Srcs P w s x n ys)(h1:∀y∈ys,y.oneCell'=true):Gives P w s x n ys:=
 ⟨h.len,h.lenOf,fun u hu=>by have:=h.cells n (Nat.le_refl _) u hu;rw[<-h.len,List.take_length]at this;exact this,h1⟩
theorem maxLen_big(h:n<=1000000):n<=maxLen:=by unfold maxLen;omega
theorem own_row{L':Lay}{e:Nat}{v':Value}{xs:List Value}{l:List SV}(ho:Own w' e s v' n xs)(hn:0<n)(hd:denL L' l=some xs):∃y:Nat×Nat,blks v'=[y.1]/\y.1<w'.heap.size/\RepO L' w' y (.row e s l .more)/\v'=.slice (some ⟨y.1,0,none⟩) n y.2/\n<=y.2:=by
 obtain⟨h1,h2⟩:=ho;rcases h2 with⟨_,h0⟩|⟨g,cap,cur,rfl,_,hg,hnc,hcm,hcs,htk⟩
 .omega
 .refine ⟨(g,cap),rfl,(Array.getElem?_eq_some_iff.1 hg).1,⟨xs,cur.toList.drop (n*s),hd,?_,?_,hcm⟩,rfl,hnc⟩
  .rw [hg];congr 2;rw[<-htk,List.take_append_drop]
  .rw [h1,List.length_drop,Array.length_toList,hcs];have:n*s<=cap*s:=Nat.mul_le_mul_right _ hnc;simp only;omega
theorem m_app{e by_:Nat}{z:SV}{a b:Operand}{ats:Array TypeId}{c:SV->H->Option β}(hat:ats.toList=[t,u])(hE:ER L T f)(R:Rep L h w)(hd:strish (P.underlying u)=true)(hu:P.underlying t=some (.slice e))(hs:szOf P e=some s)(hby:byOf P e=some by_)(hz:zeroOf P e=some z)(hzl:z.cells.length=s)(h1s:1<=s)(hbl:by_<=100000)
 (eq:appV e s by_ ((cO nt a).g T) ((cO nt b).g T) h c=some r):MO P L nt f (.call {callee:=.builtin .append,args:=#[a,b],argTypes:=ats}) h w c r:=by
 have:=arr2 hat;subst this;obtain⟨i',zv,hi',hzv,hzd⟩:=zeroOf_spec hz;obtain⟨i1,hi1,rfl⟩:=szOf_spec hs;obtain⟨i2,hi2,rfl⟩:=byOf_spec hby
 rw[hi']at hi1 hi2;cases hi1;cases hi2
 have hzs:zv.cells.size=i'.size:=by have:=denL_len (den_cells (hzd L));simp at this;rw[this];exact hzl
 haveI RT:RowT P t e i'.size i'.bytes:=⟨hu,⟨i',zv,hi',hzv,rfl,rfl,hzs⟩,h1s⟩
 have hxt:(∃e',P.underlying u=some (.slice e'))\/P.underlying u=some .string:=by
  unfold strish at hd
  split at hd
  .exact .inl ⟨_,by assumption⟩
  .exact .inr Yhz
  .cases hd
 unfold appV at eq
 split at eq
 case h_2=>cases eq
 rename_i va ea
 split at eq
 case h_2=>cases eq
 rename_i vb eb
 split at eq
 case h_2=>cases eq
 rename_i n hn
 split at eq
 case h_2=>cases eq
 rename_i l hl;have hx:=cO_spec hE ea;have hy:=cO_spec hE eb;unfold appS at eq;rw[nbeq,nble]at eq;by_cases hc:l.length=n*i'.size/\atoms l=true/\n<=100000
 case neg=>
  have:(and (decide (l.length=n*i'.size)) (and (atoms l) (decide (n<=100000))))=false:=by simpa using hc
  rw[this]at eq;cases eq
 obtain⟨hll,hat,hn5⟩:=hc;rw[decide_eq_true hll,hat,decide_eq_true hn5]at eq;simp only[cond_true,Bool.and_self]at eq;obtain⟨ys,hdl,hsr⟩:=src_spec (P:=P) R hy hn hl hll;have hone:=den_atoms hdl hat;have hgv:=hsr.gives hone;have hrun:∀(v':Value) (w':World),(∀ty,(Builtin.append_ #[t,u] ty #[ev nt f a,ev nt f b]).run P w=.ok v' w')->∀d ty ps af gd,(execOp (ev nt f) ⟨d,.call {callee:=.builtin .append,args:=#[a,b],argTypes:=#[t,u]},ty,ps,af,gd⟩).run P w=.ok (.value v') w':=fun v' w' hr d ty ps af gd=>by
  simp only[execOp,resolve,invoke,builtin];simp[hr]
 have grow:∀(i m:Nat) (x:Nat×Nat) (xs:List Value) (xl:List SV) (k:Kd),L i=some x->h.get i=some (.row e i'.size xl k)->m<=100000->0<n->m*i'.size=xl.length->ev nt f a=.slice (some ⟨x.1,0,none⟩) m x.2->m<=x.2->(k=.full\/k=.more)->app2 e i'.size i m n xl l h c=some r->MO P L nt f (.call {callee:=.builtin .append,args:=#[a,b],argTypes:=#[t,u]}) h w c r:=by
  intro i m x xs xl k hi hg hm5 hn0 hml hv hmx hk eq;have hl':live h i:=by unfold live;rw[hg];simp
  have hown:∃zs,denL L xl=some zs/\Own w e i'.size (.slice (some ⟨x.1,0,none⟩) m x.2) m zs:=by
   have hO:=R.get hi hg;rcases hk with rfl|rfl
   .obtain ⟨zs,q1,q2,q3,q4⟩:=hO;have:=denL_len q1;refine⟨zs,q1,by omega,.inr ⟨x.1,x.2,zs.toArray,rfl,Nat.zero_le _,q2,hmx,q4,by simpa using q3,?_⟩⟩;rw[hml,<-this];simp
   .obtain ⟨zs,rr,q1,q2,q3,q4⟩:=hO;have:=denL_len q1;refine⟨zs,q1,by omega,.inr ⟨x.1,x.2,(zs++rr).toArray,rfl,Nat.zero_le _,q2,hmx,q4,by simpa using q3,?_⟩⟩;rw[hml,<-this];simp
  obtain⟨zs,q1,hown⟩:=hown;have hmb:(m+n)*i'.bytes<=140737488355328:=by
   have:(m+n)*i'.bytes<=200000*100000:=Nat.mul_le_mul Yhn hbl;omega
  have key:∀ty,∃v' w',(Builtin.append_ #[t,u] ty #[.slice (some ⟨x.1,0,none⟩) m x.2,ev nt f b]).run P w=.ok v' w'/\Own w' e i'.size v' (m+n) (zs++ys)/\Fr (blks (.slice (some ⟨x.1,0,none⟩) m x.2)) w w'/\(∀k∈blks v',k∈blks (.slice (some ⟨x.1,0,none⟩) m x.2)\/w.heap.size<=k):=fun ty=>by
   obtain⟨v',w',k1,k2,k3,k4,_⟩:=run_app (P:=P) (t:=t) (xt:=u) (ty:=ty) hxt hown hgv (maxLen_big Yhn) hmb;exact⟨v',w',k1,k2,k3,k4⟩
  obtain⟨v',w',k1,k2,k3,k4⟩:=key 0;have hty:∀ty,(Builtin.append_ #[t,u] ty #[ev nt f a,ev nt f b]).run P w=.ok v' w':=fun ty=>by rw[hv];exact k1
  unfold app2 at eq;obtain⟨h1,eq,hn1,hg1⟩:=put_spec eq;rw[appK_eq]at eq;obtain⟨h2,eq,hn2,hg2⟩:=new_spec eq;have hL:=R.no (i:=h.nx) (Nat.le_refl _);have hdd:=denL_app q1 hdl;obtain⟨y,b1,b2,b3,b4,b5⟩:=own_row (L':=L) k2 Yhn hdd;have hle:=updL_le (x:=y) hL;have hb:blks (.slice (some ⟨x.1,0,none⟩) m x.2)=[x.1]:=rfl;rw[hb]at k3 k4;have hy':y.1=x.1\/w.heap.size<=y.1:=by
   rcases k4 y.1 (by rw[b1];simp)with h|h
   .exact .inl Yil
   .exact .inr h
  obtain⟨r1,r2⟩:=R.move' hi hl' hy' b2 hn1 hg1 hn2 hg2 k3 (b3.mono hle);refine⟨_,h2,_,w',v',eq,r1,r2,?_,.inl (hrun v' w' hty)⟩;rw[hn1,b4];have:=den_slc' (L:=updL L h.nx y) (e:=0) (l:=m+n) (z:=i'.size) (updL_same L h.nx y) Yhn;simpa using this
 split at eq
 . --to the nil slice
   have hv:ev nt f a=zS:=by unfold den at hx;simpa using hx.symm
   have hmb:(0+n)*i'.bytes<=140737488355328:=by
    have:(0+n)*i'.bytes<=100000*100000:=Nat.mul_le_mul Yhn hbl;omega
   obtain⟨v',w',k1,k2,k3,k4,k5⟩:=run_app (P:=P) (t:=t) (xt:=u) (ty:=0) hxt (Own.nil w e i'.size) hgv (maxLen_big Yhn) hmb;have hty:∀ty,(Builtin.append_ #[t,u] ty #[ev nt f a,ev nt f b]).run P w=.ok v' w':=fun ty=>by rw[hv];exact k1
   have hb0:blks (zS)=[]:=rfl;rw[hb0]at k3 k4;cases n with
   |zero=>
    have hv':v'=zS:=k5.2 ⟨rfl,rfl⟩;subst hv';have hw':w'=w:=by
     have hys:ys=[]:=List.eq_nil_of_length_eq_zero (by rw[hsr.len];simp);have hlo:=hgv.lenOf w;have hcl:=hgv.cells w (fun _=>rfl);rw[hys]at hcl;have:(Builtin.append_ #[t,u] 0 #[zS,ev nt f b]).run P w=.ok (zS) w:=by
      rcases hxt with⟨e',hd⟩|hd<;>simp[Builtin.append_,run_underlying hu,run_underlying hd,sizeOf,typeInfo,hi',hlo,hcl]
     rw[this]at k1;simpa using k1.symm
    subst hw';exact⟨_,h,L,w',_,eq,R,Ext.refl _ _ _,by unfold den;rfl,.inl (hrun _ _ hty)⟩
   |succ n=>
    obtain⟨h',eq,hn',hg'⟩:=new_spec eq;have hL:=R.no (i:=h.nx) (Nat.le_refl _);obtain⟨y,b1,b2,b3,b4,b5⟩:=own_row (L':=L) k2 Yhn (by rw[List.nil_append];exact hdl);have hle:=updL_le (x:=y) hL;have hy':w.heap.size<=y.1:=by
     rcases k4 y.1 (by rw[b1];simp)with h|h
     .cases h
     .exact h
    obtain⟨r1,r2⟩:=R.new' hy' b2 hn' hg' k3 (b3.mono hle);refine⟨_,h',_,w',v',eq,r1,r2,?_,.inl (hrun v' w' hty)⟩;rw[b4];have:=den_slc' (L:=updL L h.nx y) (e:=0) (l:=0+(n+1)) (z:=i'.size) (updL_same L h.nx y) Yhn;simpa using this
 .rename_i i o m zz;rw[nbeq,nble]at eq;by_cases hc:zz=i'.size/\m<=100000
  case neg=>
   have:(and (decide (zz=i'.size)) (decide (m<=100000)))=false:=by simpa using hc
   rw[this]at eq;cases eq
  obtain⟨rfl,hm5⟩:=hc;rw[decide_eq_true rfl,decide_eq_true hm5]at eq;simp only[cond_true,Bool.and_self]at eq;obtain⟨x,hi,hmx,hv⟩:=den_slc hx;unfold app1 at eq
  split at eq
  case h_2=>cases eq
  rename_i t' s' xl k hg;rw[nbeq,nbeq]at eq;by_cases hc:t'=e/\s'=i'.size
  case neg=>
   have:(and (decide (t'=e)) (decide (s'=i'.size)))=false:=by simpa using hc
   rw[this]at eq;cases eq
  obtain⟨rfl,rfl⟩:=hc;rw[decide_eq_true rfl,decide_eq_true rfl]at eq;simp only[cond_true,Bool.and_self]at eq;have same:o=0->n=0->c (.slc i o m i'.size) h=some r->m*i'.size=xl.length->MO P L nt f (.call {callee:=.builtin .append,args:=#[a,b],argTypes:=#[t,u]}) h w c r:=by
   intro ho hn0 eq0 hml;subst hn0;have hys:ys=[]:=List.eq_nil_of_length_eq_zero (by rw[hsr.len];simp);have hlo:=hgv.lenOf w;have hcl:=hgv.cells w (fun _=>rfl);rw[hys]at hcl;have hroom:m<=x.2-o:=by omega
   refine⟨_,h,L,w,_,eq0,R,Ext.refl _ _ _,hx,.inl (hrun _ _ fun ty=>?_)⟩;rw[hv];rcases hxt with⟨e',hd⟩|hd<;>simp[Builtin.append_,run_underlying hu,run_underlying hd,sizeOf,typeInfo,hi',hlo,hcl,hroom,storeCells]
  split at eq
  . --known whole
    rw[nble]at eq;by_cases hfit:(o+m+n)*i'.size<=xl.length
    .rw [decide_eq_true hfit]at eq;simp only[cond_true]at eq;obtain⟨hle,eq⟩:=putL_spec eq;obtain⟨h',eq,hn',hget⟩:=put_spec eq;have hO:=R.get hi hg;obtain⟨w',h1,h2,h3⟩:=write_row (P:=P) hO Yhs hdl hat (by rw[hll]at hle ⊢;exact hle);obtain⟨h4,h5⟩:=R.put hi (by unfold live;rw[hg];simp) hn' hget h2 h3;have hcap:o+m+n<=x.2:=by
      obtain⟨zs,q1,q2,q3,q4⟩:=hO;have:=denL_len q1;have h6:(o+m+n)*i'.size<=x.2*i'.size:=by omega
      exact Nat.le_of_mul_le_mul_right h6 h1s
     have hroom:m+n<=x.2-o:=by omega
     have hlo:=hgv.lenOf w;have hcl:=hgv.cells w (fun _=>rfl);have hadd:(⟨x.1,o*i'.size,none⟩:Addr).add (m*i'.size)=⟨x.1,(o+m)*i'.size,none⟩:=by rw[add_lit,Nat.add_mul]
     refine⟨_,h',L,w',_,eq,h4,h5,den_slc' hi Yhn,.inl (hrun _ _ fun ty=>?_)⟩;rw[hv];rcases hxt with⟨e',hd⟩|hd<;>simp[Builtin.append_,run_underlying hu,run_underlying hd,sizeOf,typeInfo,hi',hlo,hcl,hroom,hadd,h1]
    .rw [decide_eq_false hfit]at eq;simp only[cond_false]at eq;rw[nbeq,nbeq]at eq;by_cases hc:o=0/\m*i'.size=xl.length
     .obtain ⟨rfl,hml⟩:=hc;rw[decide_eq_true rfl,decide_eq_true hml]at eq;simp only[cond_true,Bool.and_self]at eq;have hn0:0<n:=by
       rcases Nat.eq_zero_or_pos n with h0|h0
       .subst h0;exact absurd Yht hfit
       .exact h0
      exact grow i m x [] xl .full hi hg hm5 hn0 hml (by rw[hv];simp) Yhn (.inl rfl) eq
     .have:(and (decide (o=0)) (decide (m*i'.size=xl.length)))=false:=by simpa using hc
      rw[this]at eq;cases eq
  .rw [nbeq,nbeq]at eq;by_cases hc:o=0/\m*i'.size=xl.length
   .obtain ⟨rfl,hml⟩:=hc;rw[decide_eq_true rfl,decide_eq_true hml]at eq;simp only[cond_true,Bool.and_self]at eq;have e9:=eq;cases n with
    |zero=>exact same rfl rfl e9 hml
    |succ n=>exact grow i m x [] xl .more hi hg hm5 Yhn hml (by rw[hv];simp) Yhn (.inr rfl) e9
   .have:(and (decide (o=0)) (decide (m*i'.size=xl.length)))=false:=by simpa using hc
    rw[this]at eq;cases eq
  .cases eq
 .rename_i i o j zz;cases n with
  |zero=>
   rw[nbeq]at eq;by_cases hzz:zz=i'.size
   .rw [decide_eq_true hzz]at eq;simp only[cond_true]at eq;obtain⟨x,hi,hv⟩:=den_esl hx;have hys:ys=[]:=List.eq_nil_of_length_eq_zero (by rw[hsr.len];simp);have hlo:=hgv.lenOf w;have hcl:=hgv.cells w (fun _=>rfl);rw[hys]at hcl;refine⟨_,h,L,w,_,eq,R,Ext.refl _ _ _,hx,.inl (hrun _ _ fun ty=>?_)⟩;rw[hv];rcases hxt with⟨e',hd⟩|hd<;>simp[Builtin.append_,run_underlying hu,run_underlying hd,sizeOf,typeInfo,hi',hlo,hcl,storeCells]
   .rw [decide_eq_false hzz]at eq;cases eq
  |succ n=>cases eq
 .cases eq
theorem mut_spec{op:Op}{g:Tr SV->H->(SV->H->Option St)->Option St}{c:SV->H->Option St}{r:St}(hc:cOp P nt op=.mem g)(hE:ER L T f)(R:Rep L h w)(hg:g T h c=some r):MO P L nt f op h w c r:=by
 cases op with
 |store t a x=>
  simp only[cOp,kStore]at hc
  split at hc
  .rename_i hs;cases hc;exact m_store hE R hs hg
  .cases hc
 |mapUpdate t m k x=>
  simp only[cOp,kUpd]at hc
  split at hc
  .rename_i hu;cases hc;exact m_upd (.inl rfl) hE R hu hg
  .cases hc
 |insert t m k x=>
  simp only[cOp,kUpd]at hc
  split at hc
  .rename_i hu;cases hc;exact m_upd (.inr rfl) hE R hu hg
  .cases hc
 |range t x=>
  simp only[cOp,kRange]at hc
  split at hc
  .rename_i hu;cases hc;exact m_range hE R hu hg
  .cases hc
 |next it b=>
  cases b with
  |false=>cases hc;exact m_next hE R hg
  |true=>cases hc
 |call cc=>
  obtain⟨callee,args,ats⟩:=cc;simp only[cOp,kCall]at hc
  split at hc
  .cases hc
  .rename_i b
   split at hc
   .split at hc
    .simp only[kLen]at hc
     split at hc<;>cases hc
    .cases hc
   .rename_i x y t u hx ht;have:=arr2 hx;subst this
    split at hc
    .simp only[kApp]at hc
     split at hc
     case h_2=>cases hc
     rename_i e he
     split at hc
     case h_2=>cases hc
     rename_i s hs
     split at hc
     case h_2=>cases hc
     rename_i by_ hby
     split at hc
     case h_2=>cases hc
     rename_i z hz;simp only[nbeq,nble]at hc;by_cases hb:strish (P.underlying u)=true/\z.cells.length=s/\1<=s/\by_<=100000
     .obtain ⟨h1,h2,h3,h4⟩:=hb;rw[h1,decide_eq_true h2,decide_eq_true h3,decide_eq_true h4]at hc;cases hc
      exact m_app ht hE R h1 (elemOf_spec he) hs hby hz h2 h3 h4 hg
     .have:(and (strish (P.underlying u)) (and (decide (z.cells.length=s)) (and (decide (1<=s)) (decide (by_<=100000)))))=false:=by
       cases h1:strish (P.underlying u)with
       |false=>rfl
       |true=>
        have:¬(z.cells.length=s/\1<=s/\by_<=100000):=fun q=>hb ⟨h1,q⟩
        simpa using this
      rw[this]at hc;cases hc
    .simp only[kCopy]at hc
     split at hc
     case h_2=>cases hc
     rename_i e he
     split at hc
     case h_2=>cases hc
     rename_i s hs;cases hc
     exact m_copy ht hE R (elemOf_spec he) hs hg
    .cases hc
    .cases hc
    .cases hc
   .cases hc
  .cases hc
 |move x=>cases hc
 |assign x=>cases hc
 |pick c a b=>cases hc
 |nilCheck x=>cases hc
 |fieldAddr s x i=>
  simp only[cOp,kFA]at hc;repeat' split at hc
  all_goals cases hc
 |field s x i=>
  simp only[cOp,kField]at hc;repeat' split at hc
  all_goals cases hc
 |binOp op t x y t2=>cases hc
 |unOp op t x=>simp only[cOp]at hc;split at hc<;>cases hc
 |makeInterface t x=>simp only[cOp,kIfc]at hc;split at hc<;>cases hc
 |makeFunc fn a c=>cases fn<;>cases hc
 |extract x i=>cases hc
 |build t ps=>
  simp only[cOp,kBuild]at hc;repeat' split at hc
  all_goals cases hc
 |indexAddr t x i=>
  simp only[cOp,kIdxA]at hc;repeat' split at hc
  all_goals cases hc
 |index t x i=>
  simp only[cOp,kIdx]at hc;repeat' split at hc
  all_goals cases hc
 |slice t x lo hi mx=>cases mx<;>cases hc
 |typeAssert x xt t ok=>simp only[cOp,kAssert]at hc;split at hc<;>cases hc
 |load t x=>
  simp only[cOp,kLoad]at hc;repeat' split at hc
  all_goals cases hc
 |lookup t x k ok=>simp only[cOp,kLookup]at hc;split at hc<;>cases hc
 |alloc t=>simp only[cOp]at hc;split at hc<;>cases hc
 |box t x=>cases hc
 |buildSlice t n ps=>
  simp only[cOp,kRow]at hc
  repeat' split at hc
  all_goals first|(cases hc;done)|skip
  all_goals (unfold cond at hc;split at hc<;>cases hc)
 |makeSlice t n c=>
  simp only[cOp,kMake]at hc
  repeat' split at hc
  all_goals first|(cases hc;done)|skip
  all_goals (unfold cond at hc;split at hc<;>cases hc)
 |makeMap t r=>cases r<;>cases hc
 |convert s t x=>
  simp only[cOp,kConv]at hc
  repeat' split at hc
  all_goals cases hc
 |defer c=>
  simp only[cOp]at hc;repeat' split at hc
  all_goals cases hc
 |_=>cases hc
end
end
section
variable{β:Type}
inductive DR (L:Lay):List DF->List Deferred->Prop where
 |nil:DR L [] []
 |fn {f:Nat} {c:List SV} {xs:List Value} {l:List DF} {m:List Deferred} (h:denL L c=some xs) (t:DR L l m):DR L (.fn f c::l) ({target:=.fn (.func f) xs.toArray,args:=#[]}::m)
 |mark {i:Nat} {x:Nat×Nat} {l:List DF} {m:List Deferred} (h:L i=some x) (t:DR L l m):DR L (.mark i::l) ({target:=.collected x.1,args:=#[]}::m)
theorem DR.mono{L L':Lay}(hl:LE L L'){l:List DF}{m:List Deferred}(h:DR L l m):DR L' l m:=by
 induction h with
 |nil=>exact .nil
 |fn h t ih=>exact .fn (denL_mono' hl h) ih
 |mark h t ih=>exact .mark (hl _ _ h) ih
structure Sim (L:Lay) (s:St) (f:Env) (D:List Deferred) (w:World):Prop where
 e:ER L s.env f
 d:DR L s.ds D
 r:Rep L s.h w
def RoR(L:Lay):Option Nat->Option Nat->Prop
 |none,r=>r=none
 |some l,r=>∃x,L l=some x/\r=some x.1
theorem RoR.mono{L L':Lay}(hl:LE L L'){ro r:Option Nat}(h:RoR L ro r):RoR L' ro r:=by
 cases ro with
 |none=>exact h
 |some l=>obtain⟨x,h1,h2⟩:=h;exact⟨x,hl _ _ h1,h2⟩
abbrev Fc(r:Option Nat):Fence:={Fence.wide with round:=r}
def xe:X->Exit
 |.normal=>.normal
 |.exit id=>.exit id
 |.ret=>.ret
def CPost(L:Lay)(h:H)(w:World)(nt:Nat)(x:X)(s':St):Exit->Act->World->Prop:=fun e a' w'=>e=xe x/\∃L' f' D',a'= @A nt f' ⟨D'⟩/\Sim L' s' f' D' w'/\Ext L h w L' s'.h w'
structure IHok (P:Program) (ih:IH):Prop where
 c:∀fid ro nt c s x s',ih.c fid ro nt c s=some (x,s')->∀L f D w r,Sim L s f D w->RoR L ro r->c.wpIn (Fc r) 0 P (CPost L s.h w nt x s') (@A nt f ⟨D⟩) w
 f:∀f args h v h',ih.f f args h=some (v,h')->∀L w xs,Rep L h w->denL L args=some xs->FnT P f/\Calls P f xs.toArray w (fun e w'=>∃L' y,e=.returned y/\den L' v=some y/\Rep L' h' w'/\Ext L h w L' h' w')
theorem setPs_spec{r:β}{L:Lay}:∀{ps:List Nat} {vs:List SV} {T:Tr SV} {f:Env} {c:Tr SV->Option β} {xs:List Value},setPs T ps vs c=some r->ER L T f->denL L vs=some xs->∃T',c T'=some r/\ps.length=xs.length/\ER L T' ((ps.zip xs).foldl (fun g p=>upd g p.1 p.2) f)
 |[],[],T,f,c,xs,h,hE,hd=>by rw[denL_nil]at hd;cases hd;exact⟨T,h,rfl,hE⟩
 |[],_::_,_,_,_,_,h,_,_=>by cases h
 |_::_,[],_,_,_,_,h,_,_=>by cases h
 |p::ps,v::vs,T,f,c,xs,h,hE,hd=>by
  obtain⟨x,r',h1,h2,rfl⟩:=denL_cons.1 hd;obtain⟨T1,h3,h4⟩:=set_spec _ _ _ _ _ _ h;obtain⟨T2,h5,h6,h7⟩:=setPs_spec h3 (hE.upd h4 h1) h2;exact⟨T2,h5,by simp[h6],h7⟩
theorem setD_spec{r:β}{L:Lay}{T:Tr SV}{f:Env}{d:Option Nat}{v:SV}{x:Value}{c:Tr SV->Option β}(h:setD T d v c=some r)(hE:ER L T f)(hv:den L v=some x):∃T',c T'=some r/\ER L T' (updo f d x):=by
 cases d with
 |none=>exact⟨T,h,hE⟩
 |some d=>obtain⟨T1,h3,h4⟩:=set_spec _ _ _ _ _ _ h;exact⟨T1,h3,hE.upd h4 hv⟩
theorem A_foldl(n:Nat)(D:List Deferred):∀(l:List (Nat×Value)) (f:Env),l.foldl (fun t p=>t.setIfInBounds p.1 p.2) (@A n f ⟨D⟩).tmps=(@A n (l.foldl (fun g p=>upd g p.1 p.2) f) ⟨D⟩).tmps
 |[],f=>rfl
 |(p,v)::l,f=>by
  have h:=A_put (D:=⟨D⟩) n f (some p) v;simp only[Act.put,updo]at h;have h':=congrArg Act.tmps h;simp only at h';rw[List.foldl_cons,List.foldl_cons,<-A_foldl n D l];rw[<-h']
section
variable{P:Program}{ih:IH}{nt:Nat}{ro:Option Nat}{r:Option Nat}
theorem round_spec(I:IHok P ih){L:Lay}{h:H}{w:World}{l:Nat}{x:Nat×Nat}{args:List SV}{xs:List Value}{c:KM St}{s':St}(R:Rep L h w)(hl:L l=some x)(ha:denL L args=some xs)(e:round1 ih l args h c (h.get l)=some s'):
 ∃fn tmps asg body,(Instr.yield x.1 xs.toArray).run P w=.ok (.round x.1 fn tmps asg body) w/\RoundIn (Fc r) 0 P x.1 fn tmps asg body w (fun e w'=>∃L' v y h',e=.returned y/\den L' v=some y/\Rep L' h' w'/\Ext L h w L' h' w'/\c v h'=some s'):=by
 cases hg:h.get l with
 |none=>rw[hg]at e;cases e
 |some so=>
  rw[hg]at e;cases so with
  |loop st pe fid nt' env ps asg body d=>
   obtain⟨f,m,fn,h1,h2,h3⟩:=R.get hl hg;obtain⟨T',e,hlen,hE'⟩:=setPs_spec e h1 ha;refine⟨fn,_,asg,body,run_yield (P:=P) (args:=xs.toArray) h3 (by simp[hlen]),roundIn_of_wpIn trivial ?_⟩;have hz:(ps.toArray.zip xs.toArray)=(ps.zip xs).toArray:=by simp
   have ht:((ps.toArray.zip xs.toArray).foldl (fun(t:Array Value) (p:Nat×Value)=>t.setIfInBounds p.1 p.2) (@A nt' f dfs0).tmps)=(@A nt' ((ps.zip xs).foldl (fun g p=>upd g p.1 p.2) f) ⟨[]⟩).tmps:=by
    rw[hz,List.foldl_toArray];exact A_foldl nt' [] (ps.zip xs) f
   simp only at ht ⊢;rw[ht];generalize hq:ih.c fid (some l) nt' asg ⟨T',[],h⟩=q at e;cases q with
   |none=>cases e
   |some q=>
    obtain⟨xx,T1,ds1,hh1⟩:=q;cases xx with
    |exit id=>cases e
    |ret=>cases e
    |normal=>
     have hw:=I.c _ _ _ _ _ _ _ hq L _ [] w (some x.1) ⟨hE',.nil,R⟩ ⟨x,hl,rfl⟩;refine wpIn_mono hw ?_;rintro e1 a1 w1 ⟨rfl,L1,f1,D1,rfl,S1,X1⟩;have hl1:=X1.le _ _ hl;have S1r:=S1.r;simp only at S1r X1;simp only[round2]at e;cases hg1:hh1.get l with
     |none=>rw[hg1]at e;cases e
     |some so1=>
      rw[hg1]at e;cases so1 with
      |loop st1 pe1 fid1 nt1 env1 ps1 asg1 body1 d1=>
       cases st1 with
       |ready=>
        simp only[beginR]at e;obtain⟨h2',e,hn2,hget2⟩:=put_spec e;obtain⟨f2,m2,fn2,q1,q2,q3⟩:=S1r.get hl1 hg1;have hlt:=(Array.getElem?_eq_some_iff.1 q3).1;have hbr:=run_beginRound (P:=P) q3 rfl;have hF:Fr [x.1] w1 (w1.putObj x.1 (.loop {state:=.busy,pending:=pe1,fn:=fn2,tmps:=(@A nt1 f2 dfs0).tmps,params:=ps1.toArray,assign:=asg1,body:=body1,defers:=m2.1})):=⟨rfl,rfl,rfl,by simp[World.putObj],fun k _ hk=>World.putObj_heap_other Yng,Nat.le_refl _⟩;obtain⟨R2,X2⟩:=S1r.put (so:=.loop .busy pe1 fid1 nt1 env1 ps1 asg1 body1 d1) hl1 (by unfold live;rw[hg1];simp) hn2 hget2 hF ⟨f2,m2,fn2,q1,q2,World.putObj_heap_same hlt⟩;refine⟨_,hbr,?_⟩;generalize hq2:ih.c fid (some l) nt' body ⟨T1,ds1,h2'⟩=q' at e;cases q' with
        |none=>cases e
        |some q'=>
         obtain⟨xx2,T3,ds3,h3'⟩:=q';have hw2:=I.c _ _ _ _ _ _ _ hq2 L1 f1 D1 _ (some x.1) ⟨S1.e,S1.d,R2⟩ ⟨x,hl1,rfl⟩;refine wpIn_mono hw2 ?_;rintro e2 a2 w2 ⟨rfl,L3,f3,D3,rfl,S3,X3⟩;have hl3:=X3.le _ _ hl1;have S3r:=S3.r;simp only at S3r X3;have fin:∀(st':LoopS) (j:Option Code) (b:Bool),(lst st'=if j.isNone then LoopState.ready else LoopState.done)->b=j.isNone->endR l st' j h3' (fun h=>c (.bool b) h) (h3'.get l)=some s'->∃v w',(Instr.endRound x.1 j).run P w2=.ok v w'/\∃L' u y h',Ending.returned v=.returned y/\den L' u=some y/\Rep L' h' w'/\Ext L h w L' h' w'/\c u h'=some s':=by
          intro st' j b hst hb e;subst hb;cases hg3:h3'.get l with
          |none=>rw[hg3]at e;cases e
          |some so3=>
           rw[hg3]at e;cases so3 with
           |loop st4 pe4 fid4 nt4 env4 ps4 asg4 body4 d4=>
            simp only[endR]at e;obtain⟨h5,e,hn5,hget5⟩:=put_spec e;obtain⟨f5,m5,fn5,u1,u2,u3⟩:=S3r.get hl3 hg3;have hlt5:=(Array.getElem?_eq_some_iff.1 u3).1;have hrun:=run_endRound (P:=P) j u3;have hF5:∀o,Fr [x.1] w2 (w2.putObj x.1 o):=fun o=>⟨rfl,rfl,rfl,by simp[World.putObj],fun k _ hk=>World.putObj_heap_other Yng,Nat.le_refl _⟩
            obtain⟨R5,X5⟩:=S3r.put (so:=.loop st' j fid4 nt4 env4 ps4 asg4 body4 d4) hl3 (by unfold live;rw[hg3];simp) hn5 hget5 (hF5 (.loop {state:=if j.isNone then LoopState.ready else LoopState.done,pending:=j,fn:=fn5,tmps:=(@A nt4 f5 dfs0).tmps,params:=ps4.toArray,assign:=asg4,body:=body4,defers:=m5.1})) ⟨f5,m5,fn5,u1,u2,by rw[World.putObj_heap_same hlt5,hst]⟩;exact⟨_,_,hrun,L3,.bool j.isNone,_,h5,rfl,den_bool' _ _,R5,((X1.trans X2).trans X3).trans X5,e⟩
           |_=>cases e
         cases xx2 with
         |normal=>exact fin .ready none true rfl rfl e
         |ret=>exact fin .done (some .ret) false rfl rfl e
         |exit id=>exact fin .done (some (.exit id)) false rfl rfl e
       |_=>cases e
      |_=>cases e
  |_=>cases e
end
end
end Go.Ev
