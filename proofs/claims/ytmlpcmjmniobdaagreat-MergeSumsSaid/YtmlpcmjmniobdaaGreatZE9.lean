/-
 The operations that make a block. It speaks of no program.
-/
import Derived.Test.YtmlpcmjmniobdaaGreatZE6
set_option linter.all false
namespace Go.Ev
open Go.Rf Go.RowKit
section
variable{xs:List Value}{i o s t:Nat}{x:Operand}{w w':World}
def denE(L:Lay):List (SV×SV×Nat)->Option (List MapEntry)
 |[]=>some []
 |(k,v,b)::l=>match den L k with
  |some k=>match den L v with
   |some v=>match denE L l with
    |some r=>some (⟨k,v,b⟩::r)
    |none=>none
   |none=>none
  |none=>none
theorem denE_cons{L:Lay}{k v:SV}{b:Nat}{l:List (SV×SV×Nat)}{xs:List MapEntry}:denE L ((k,v,b)::l)=some xs↔∃x y r,den L k=some x/\den L v=some y/\denE L l=some r/\xs=⟨x,y,b⟩::r:=by
 have hq:denE L ((k,v,b)::l)=match den L k with
  |some k=>match den L v with
   |some v=>match denE L l with
    |some r=>some (⟨k,v,b⟩::r)
    |none=>none
   |none=>none
  |none=>none:=by rw[denE]
 rw[hq];constructor
 .intro h;cases e:den L k with
  |none=>rw[e]at h;cases h
  |some x=>cases e1:den L v with
   |none=>rw[e,e1]at h;cases h
   |some y=>cases e2:denE L l with
    |none=>rw[e,e1,e2]at h;cases h
    |some r=>rw[e,e1,e2]at h;exact⟨x,y,r,rfl,rfl,rfl,by simpa using h.symm⟩
 .rintro ⟨x,y,r,h1,h2,h3,rfl⟩;rw[h1,h2,h3]
theorem denE_mono{L L':Lay}(hl:LE L L'):∀{l:List (SV×SV×Nat)} {xs:List MapEntry},denE L l=some xs->denE L' l=some xs
 |[],xs,h=>h
 |(k,v,b)::l,xs,h=>by
  obtain⟨x,y,r,h1,h2,h3,rfl⟩:=denE_cons.1 h;exact denE_cons.2 ⟨x,y,r,den_mono hl _ _ h1,den_mono hl _ _ h2,denE_mono hl h3,rfl⟩
theorem denE_len{L:Lay}:∀{l:List (SV×SV×Nat)} {xs:List MapEntry},denE L l=some xs->xs.length=l.length
 |[],xs,h=>by cases h;rfl
 |(k,v,b)::l,xs,h=>by obtain⟨x,y,r,h1,h2,h3,rfl⟩:=denE_cons.1 h;simp[denE_len h3]
def lst:LoopS->LoopState
 |.ready=>.ready
 |.busy=>.busy
 |.done=>.done
 |.over=>.exhausted
def live(h:H)(i:Nat):Prop:=h.get i≠some .gone
def RowAt(w:World)(b:Nat)(xs:List Value):Prop:=∃ty r fz,w.heap[b]?=some (.cells (xs++r).toArray ty fz)
def RepO(L:Lay)(w:World)(x:Nat×Nat):SO->Prop
 |.row ty sz l k=>match k with
  |.full=>∃xs,denL L l=some xs/\w.heap[x.1]?=some (.cells xs.toArray ty (0,0))/\xs.length=x.2*sz/\x.2<=maxLen
  |.more=>∃xs r,denL L l=some xs/\w.heap[x.1]?=some (.cells (xs++r).toArray ty (0,0))/\xs.length+r.length=x.2*sz/\x.2<=maxLen
  |.ro=>∃xs,denL L l=some xs/\RowAt w x.1 xs
 |.map es k=>∃xs,denE L es=some xs/\w.heap[x.1]?=some (.map xs.toArray k)
 |.mit i k=>∃m,L i=some m/\w.heap[x.1]?=some (.mapIter (some m.1) k #[] k)
 |.loop st pe fid nt T ps asg body d=>∃f m fn,ER L T f/\L d=some m/\w.heap[x.1]?=some (.loop {state:=lst st,pending:=pe,fn:=fn,tmps:=(@A nt f dfs0).tmps,params:=ps.toArray,assign:=asg,body,defers:=m.1})
 |.dfr=>w.heap[x.1]?=some (.deferred (some []))
 |.gone=>True
structure Rep (L:Lay) (h:H) (w:World):Prop where
 o:∀i x,L i=some x->∃so,h.get i=some so/\RepO L w x so
 lt:∀i x,L i=some x->i<h.nx/\x.1<w.heap.size
 inj:∀i j x y,L i=some x->L j=some y->live h i->live h j->x.1=y.1->i=j
def Mine(L:Lay)(h:H)(b:Nat):Prop:=∃j y,L j=some y/\live h j/\y.1=b
structure FrS (S:Nat->Prop) (w w':World):Prop where
 os:w'.os=w.os
 tape:w'.tape=w.tape
 output:w'.output=w.output
 size:w.heap.size<=w'.heap.size
 block:∀k,k<w.heap.size->¬S k->w'.heap[k]?=w.heap[k]?
 draw:w.drawn<=w'.drawn
theorem FrS.refl(S:Nat->Prop)(w:World):FrS S w w:=⟨rfl,rfl,rfl,Nat.le_refl _,fun _ _ _=>rfl,Nat.le_refl _⟩
theorem FrS.of{S:Nat->Prop}{l:List Nat}(h:Fr l w w')(hS:∀k∈l,S k\/w.heap.size<=k):FrS S w w':=
 ⟨h.os,h.tape,h.output,h.size,fun k hk hn=>h.block k hk (fun hm=>by rcases hS k hm with h'|h';exact hn h';omega),h.draw⟩
theorem FrS.to(h:FrS (fun _=>False) w w'):Fr [] w w':=⟨h.os,h.tape,h.output,h.size,fun k hk _=>h.block k hk (fun e=>e),h.draw⟩
structure Ext (L:Lay) (h:H) (w:World) (L':Lay) (h':H) (w':World):Prop where
 le:LE L L'
 nx:h.nx<=h'.nx
 ghost:∀i,i<h.nx->L i=none->L' i=none/\h'.get i=h.get i
 own:∀b,Mine L' h' b->w.heap.size<=b\/Mine L h b
 fr:FrS (Mine L h) w w'
theorem Ext.refl(L:Lay)(h:H)(w:World):Ext L h w L h w:=⟨LE.refl L,Nat.le_refl _,fun i _ e=>⟨e,rfl⟩,fun b hb=>.inr hb,FrS.refl _ _⟩
theorem Ext.trans{L L1 L2:Lay}{h h1 h2:H}{w1 w2:World}(a:Ext L h w L1 h1 w1)(b:Ext L1 h1 w1 L2 h2 w2):Ext L h w L2 h2 w2:=
 ⟨a.le.trans b.le,Nat.le_trans a.nx b.nx,fun i hi e=>by
  obtain⟨e1,g1⟩:=a.ghost i hi e;obtain⟨e2,g2⟩:=b.ghost i (Nat.lt_of_lt_of_le hi a.nx) e1;exact⟨e2,g2.trans g1⟩,
  fun k hk=>by
   rcases b.own k hk with h'|h'
   .exact .inl (Nat.le_trans a.fr.size h')
   .exact a.own k h',
  ⟨b.fr.os.trans a.fr.os,b.fr.tape.trans a.fr.tape,b.fr.output.trans a.fr.output,Nat.le_trans a.fr.size b.fr.size,fun k hk hn=>by
   rw[<-a.fr.block k hk hn];refine b.fr.block k (Nat.lt_of_lt_of_le hk a.fr.size) fun hm=>?_
   rcases a.own k hm with h'|h'
   .omega
   .exact hn h',Nat.le_trans a.fr.draw b.fr.draw⟩⟩
theorem denL_mono'{L L':Lay}(hl:LE L L'){l:List SV}(h:denL L l=some xs):denL L' l=some xs:=denL_mono hl l xs h
theorem RepO.mono{L L':Lay}(hl:LE L L'){x:Nat×Nat}:∀{so:SO},RepO L w x so->RepO L' w x so
 |.row ty sz l k,h=>by
  cases k with
  |full=>obtain⟨xs,h1,h2⟩:=h;exact⟨xs,denL_mono' hl h1,h2⟩
  |more=>obtain⟨xs,r,h1,h2⟩:=h;exact⟨xs,r,denL_mono' hl h1,h2⟩
  |ro=>obtain⟨xs,h1,h2⟩:=h;exact⟨xs,denL_mono' hl h1,h2⟩
 |.map es k,h=>by obtain⟨xs,h1,h2⟩:=h;exact⟨xs,denE_mono hl h1,h2⟩
 |.mit i k,h=>by obtain⟨m,h1,h2⟩:=h;exact⟨m,hl _ _ h1,h2⟩
 |.loop ..,h=>by obtain⟨f,m,fn,h1,h2,h3⟩:=h;exact⟨f,m,fn,h1.mono hl,hl _ _ h2,h3⟩
 |.dfr,h=>h
 |.gone,_=>trivial
theorem RepO.tr{L:Lay}{x:Nat×Nat}(e:w'.heap[x.1]?=w.heap[x.1]?):∀{so:SO},RepO L w x so->RepO L w' x so
 |.row ty sz l k,h=>by
  cases k with
  |full=>obtain⟨xs,h1,h2⟩:=h;exact⟨xs,h1,by rw[e];exact h2⟩
  |more=>obtain⟨xs,r,h1,h2⟩:=h;exact⟨xs,r,h1,by rw[e];exact h2⟩
  |ro=>obtain⟨xs,h1,ty,r,fz,h2⟩:=h;exact⟨xs,h1,ty,r,fz,by rw[e];exact h2⟩
 |.map es k,h=>by obtain⟨xs,h1,h2⟩:=h;exact⟨xs,h1,by rw[e];exact h2⟩
 |.mit i k,h=>by obtain⟨m,h1,h2⟩:=h;exact⟨m,h1,by rw[e];exact h2⟩
 |.loop ..,h=>by obtain⟨f,m,fn,h1,h2,h3⟩:=h;exact⟨f,m,fn,h1,h2,by rw[e];exact h3⟩
 |.dfr,h=>by show w'.heap[x.1]?=_;rw[e];exact h
 |.gone,_=>trivial
def updL(L:Lay)(i:Nat)(x:Nat×Nat):Lay:=fun j=>if j=i then some x else L j
theorem updL_same(L:Lay)(i:Nat)(x:Nat×Nat):updL L i x i=some x:=by simp[updL]
theorem updL_ne(L:Lay){j:Nat}(x:Nat×Nat)(h:j≠i):updL L i x j=L j:=by simp[updL,h]
theorem updL_le{L:Lay}{x:Nat×Nat}(h:L i=none):LE L (updL L i x):=fun j y e=>by
 by_cases hj:j=i
 .subst hj;rw[h]at e;cases e
 .rw [updL_ne L x hj];exact e
theorem Rep.no{L:Lay}{h:H}(R:Rep L h w)(hi:h.nx<=i):L i=none:=by
 cases e:L i with
 |none=>rfl
 |some x=>have:=(R.lt i x e).1;omega
theorem Rep.new{L:Lay}{h h':H}(R:Rep L h w){c:Nat}{so:SO}(hn:h'.nx=h.nx+1)(hg:∀j,h'.get j=if j=h.nx then some so else h.get j)(hF:Fr [] w w')(hs:w.heap.size<w'.heap.size)
 (hO:RepO (updL L h.nx (w.heap.size,c)) w' (w.heap.size,c) so):Rep (updL L h.nx (w.heap.size,c)) h' w'/\Ext L h w (updL L h.nx (w.heap.size,c)) h' w':=by
 have hL:L h.nx=none:=R.no (Nat.le_refl _);have hle:=updL_le (x:=(w.heap.size,c)) hL;have hget:∀j,j≠h.nx->h'.get j=h.get j:=fun j e=>by rw[hg,if_neg e]
 have hlive:∀j,j≠h.nx->live h' j->live h j:=fun j e hl=>by unfold live at*;rw[hget j e]at hl;exact hl
 refine⟨⟨fun i x e=>?_,fun i x e=>?_,fun i j x y e1 e2 l1 l2 hxy=>?_⟩,hle,by omega,fun i hi e=>⟨by rw[updL_ne L _ Yhn];exact e,hget i Yhn⟩,fun b hb=>?_,FrS.of hF (fun k hk=>by cases hk)⟩
 .by_cases hi:i=h.nx
  .subst hi;rw[updL_same]at e;cases e;exact⟨so,by rw[hg,if_pos rfl],hO⟩
  .rw [updL_ne L _ hi]at e;exact Yml
 .by_cases hi:i=h.nx
  .subst hi;rw[updL_same]at e;cases e;exact⟨by omega,hs⟩
  .rw [updL_ne L _ hi]at e;have:=R.lt i x e;exact⟨by omega,by omega⟩
 .by_cases hi:i=h.nx
  .by_cases hj:j=h.nx
   .rw [hi,hj]
   .subst hi;exact Ymq
  .rw [updL_ne L _ hi]at e1;by_cases hj:j=h.nx
   .subst hj;rw[updL_same]at e2;cases e2
    have:=(R.lt i x e1).2;simp only at hxy;omega
   .rw [updL_ne L _ hj]at e2;exact R.inj i j x y e1 e2 (hlive i hi l1) (hlive j hj l2) hxy
 .obtain ⟨j,y,e,hl,rfl⟩:=hb;by_cases hj:j=h.nx
  .subst hj;rw[updL_same]at e;cases e;exact .inl (Nat.le_refl _)
  .rw [updL_ne L _ hj]at e;exact .inr ⟨j,y,e,hlive j hj hl,rfl⟩
theorem Rep.put{L:Lay}{h h':H}(R:Rep L h w){x:Nat×Nat}{so:SO}(hi:L i=some x)(hl:live h i)(hn:h'.nx=h.nx)(hg:∀j,h'.get j=if j=i then some so else h.get j)(hF:Fr [x.1] w w')(hO:RepO L w' x so):
 Rep L h' w'/\Ext L h w L h' w':=by
 have hget:∀j,j≠i->h'.get j=h.get j:=fun j e=>by rw[hg,if_neg e]
 have hlive:∀j,live h' j->live h j:=fun j hl'=>by
  by_cases e:j=i
  .subst e;exact hl
  .unfold live at*;rw[hget j e]at hl';exact hl'
 refine⟨⟨fun j y e=>?_,fun j y e=>?_,fun j k y z e1 e2 l1 l2 hyz=>R.inj j k y z e1 e2 (hlive j l1) (hlive k l2) hyz⟩,LE.refl L,by omega,fun j hj e=>⟨e,hget j Yni⟩,fun b hb=>?_,FrS.of hF (fun k hk=>.inl ⟨i,x,hi,hl,(List.mem_singleton.1 hk).symm⟩)⟩
 .by_cases hj:j=i
  .subst hj;rw[hi]at e;cases e;exact⟨so,by rw[hg,if_pos rfl],hO⟩
  .obtain ⟨so',h1,h2⟩:=R.o j y e;refine⟨so',by rw[hget j hj];exact h1,?_⟩;by_cases hy:y.1=x.1
   .have:¬live h j:=fun hlj=>hj (R.inj j i y x e hi hlj hl hy)
    have:h.get j=some .gone:=Classical.byContradiction fun q=>this q
    rw[this]at h1;cases h1;exact trivial
   .exact h2.tr (hF.block _ (R.lt j y e).2 (by simpa using hy))
 .have:=R.lt j y e;have:=hF.size;exact⟨by omega,by omega⟩
 .obtain ⟨j,y,e,hlj,rfl⟩:=hb;exact .inr ⟨j,y,e,hlive j hlj,rfl⟩
theorem Rep.move{L:Lay}{h h1 h2:H}(R:Rep L h w){x:Nat×Nat}{so:SO}(hi:L i=some x)(hl:live h i)(hn1:h1.nx=h.nx)(hg1:∀j,h1.get j=if j=i then some .gone else h.get j)
 (hn2:h2.nx=h1.nx+1) (hg2:∀j,h2.get j=if j=h1.nx then some so else h1.get j) (hF:Fr [x.1] w w') (hO:RepO (updL L h.nx x) w' x so):
 Rep (updL L h.nx x) h2 w'/\Ext L h w (updL L h.nx x) h2 w':=by
 rw[hn1]at hn2 hg2;have hL:L h.nx=none:=R.no (Nat.le_refl _);have hle:=updL_le (x:=x) hL;have hin:i≠h.nx:=fun e=>by subst e;rw[hi]at hL;cases hL
 have hget:∀j,j≠h.nx->j≠i->h2.get j=h.get j:=fun j e e'=>by rw[hg2,if_neg e,hg1,if_neg e']
 have hgi:h2.get i=some .gone:=by rw[hg2,if_neg hin,hg1,if_pos rfl]
 have hlive:∀j,j≠h.nx->live h2 j->live h j/\j≠i:=fun j e hl'=>by
  by_cases e':j=i
  .subst e';exact absurd hgi hl'
  .unfold live at*;rw[hget j e e']at hl';exact⟨hl',e'⟩
 refine⟨⟨fun j y e=>?_,fun j y e=>?_,fun j k y z e1 e2 l1 l2 hyz=>?_⟩,hle,by omega,fun j hj e=>⟨by rw[updL_ne L _ Yhn];exact e,hget j Yhn Yni⟩,fun b hb=>?_,FrS.of hF (fun k hk=>.inl ⟨i,x,hi,hl,(List.mem_singleton.1 hk).symm⟩)⟩
 .by_cases hj:j=h.nx
  .subst hj;rw[updL_same]at e;cases e;exact⟨so,by rw[hg2,if_pos rfl],hO⟩
  .rw [updL_ne L _ hj]at e;by_cases hji:j=i
   .subst hji;exact⟨.gone,hgi,trivial⟩
   .obtain ⟨so',h3,h4⟩:=R.o j y e;refine⟨so',by rw[hget j hj hji];exact h3,?_⟩;by_cases hy:y.1=x.1
    .have:¬live h j:=fun hlj=>hji (R.inj j i y x e hi hlj hl hy)
     exact Ymp
    .exact (h4.mono hle).tr (hF.block _ (R.lt j y e).2 (by simpa using hy))
 .have hs:=hF.size;by_cases hj:j=h.nx
  .subst hj;rw[updL_same]at e;cases e;have:=R.lt i x hi;exact⟨by omega,by omega⟩
  .rw [updL_ne L _ hj]at e;have:=R.lt j y e;exact⟨by omega,by omega⟩
 .by_cases hj:j=h.nx
  .by_cases hk:k=h.nx
   .rw [hj,hk]
   .subst hj;rw[updL_same]at e1;cases e1
    rw[updL_ne L _ hk]at e2;obtain⟨l3,l4⟩:=hlive k hk l2;exact absurd (R.inj k i z x e2 hi l3 hl hyz.symm) l4
  .rw [updL_ne L _ hj]at e1;obtain⟨l3,l4⟩:=hlive j hj l1;by_cases hk:k=h.nx
   .subst hk;rw[updL_same]at e2;cases e2
    exact absurd (R.inj j i y x e1 hi l3 hl hyz) l4
   .rw [updL_ne L _ hk]at e2;exact R.inj j k y z e1 e2 l3 (hlive k hk l2).1 hyz
 .obtain ⟨j,y,e,hlj,rfl⟩:=hb;by_cases hj:j=h.nx
  .subst hj;rw[updL_same]at e;cases e;exact .inr ⟨i,x,hi,hl,rfl⟩
  .rw [updL_ne L _ hj]at e;exact .inr ⟨j,y,e,(hlive j hj hlj).1,rfl⟩
/-! ### reading -/
theorem RepO.row{L:Lay}{x:Nat×Nat}{ty sz:Nat}{l:List SV}{k:Kd}(h:RepO L w x (.row ty sz l k)):∃xs,denL L l=some xs/\RowAt w x.1 xs:=by
 cases k with
 |full=>obtain⟨xs,h1,h2,_⟩:=h;exact⟨xs,h1,ty,[],(0,0),by simpa using h2⟩
 |more=>obtain⟨xs,r,h1,h2,_⟩:=h;exact⟨xs,h1,ty,r,(0,0),h2⟩
 |ro=>exact h
theorem RowAt.cell{b:Nat}{v:Value}(h:RowAt w b xs)(e:xs[o]?=some v):w.cell? ⟨b,o,none⟩=some v:=by
 obtain⟨ty,r,fz,h⟩:=h;have:(xs++r)[o]?=some v:=by rw[List.getElem?_append_left (List.getElem?_eq_some_iff.1 e).1];exact e
 simp[World.cell?,h,this]
theorem Rep.get{L:Lay}{h:H}(R:Rep L h w){x:Nat×Nat}{so:SO}(hi:L i=some x)(hg:h.get i=some so):RepO L w x so:=by
 obtain⟨so',h1,h2⟩:=R.o i x hi;rw[hg]at h1;cases h1;exact h2
section
variable{P:Program}{nt:Nat}{L:Lay}{T:Tr SV}{f:Env}{h:H}{w:World}
theorem cell1_spec{x:Nat×Nat}{v:SV}(R:Rep L h w)(hi:L i=some x)(e:cell1 o (h.get i)=some v):∃y,den L v=some y/\w.cell? ⟨x.1,o,none⟩=some y:=by
 unfold cell1 at e
 split at e
 .rename_i ty sz c k hg;obtain⟨xs,h1,h2⟩:=(R.get hi hg).row;obtain⟨y,h3,h4⟩:=denL_get o h1 e;exact⟨y,h4,h2.cell h3⟩
 .cases e
theorem cells1_spec{x:Nat×Nat}{v:SV}(R:Rep L h w)(hi:L i=some x)(e:cells1 o s (h.get i)=some v):∃ys:List Value,den L v=some (.agg ys.toArray)/\ys.length=s/\∀j u,ys[j]?=some u->w.cell? ⟨x.1,o+j,none⟩=some u:=by
 unfold cells1 at e
 split at e
 .rename_i ty sz c k hg;obtain⟨xs,h1,h2⟩:=(R.get hi hg).row;rw[nble]at e;by_cases hb:o+s<=c.length
  .rw [decide_eq_true hb]at e;cases e
   have hlen:=denL_len h1;refine⟨_,den_agg' (denL_take s (denL_drop o h1)),by simp;omega,fun j u hu=>?_⟩;refine h2.cell ?_;exact Ymi
  .rw [decide_eq_false hb]at e;cases e
 .cases e
theorem loadVar_one{a:Addr}{v:Value}{d:TypeDesc}(hd:P.underlying t=some d)(ha:aggD d=false)(hc:w.cell? a=some v):(loadVar t a).run P w=.ok v w:=by
 exact Ymn
theorem loadVar_agg{a:Addr}{d:TypeDesc}{i:TypeInfo}{ys:List Value}(hd:P.underlying t=some d)(ha:aggD d=true)(hi:P.info? t=some i)(hl:ys.length=i.size)(hc:∀j u,ys[j]?=some u->w.cell? (a.add j)=some u):(loadVar t a).run P w=.ok (.agg ys.toArray) w:=by
 have:=run_loadCells_list (P:=P) w a ys hc;simp[loadVar,run_isAgg hd,ha,sizeOf,typeInfo,hi,<-hl,this]
def RO(P:Program)(L:Lay)(nt:Nat)(f:Env)(op:Op)(w:World)(v:SV):Prop:=∃x,den L v=some x/\∀d ty ps af gd,(execOp (ev nt f) ⟨d,op,ty,ps,af,gd⟩).run P w=.ok (.value x) w
theorem o_load{d:TypeDesc}{v:SV}(hE:ER L T f)(R:Rep L h w)(hd:P.underlying t=some d)(ha:aggD d=false)(e:loadV h ((cO nt x).g T)=some v):RO P L nt f (.load t x) w v:=by
 unfold loadV at e
 split at e
 .rename_i i o ex;obtain⟨b,h1,h2⟩:=den_at (cO_spec hE ex);obtain⟨y,h3,h4⟩:=cell1_spec R h1 e;exact⟨y,h3,fun d' ty ps af gd=>by simp[execOp,h2,Instr.loadAt,Instr.sureAddr,loadVar_one hd ha h4]⟩
 .cases e
theorem o_loadA{d:TypeDesc}{v:SV}(hE:ER L T f)(R:Rep L h w)(hd:P.underlying t=some d)(ha:aggD d=true)(hs:szOf P t=some s)(e:loadA s h ((cO nt x).g T)=some v):RO P L nt f (.load t x) w v:=by
 obtain⟨i',hi',rfl⟩:=szOf_spec hs;unfold loadA at e
 split at e
 .rename_i i o ex;obtain⟨b,h1,h2⟩:=den_at (cO_spec hE ex);obtain⟨ys,h3,h4,h5⟩:=cells1_spec R h1 e;exact⟨_,h3,fun d' ty ps af gd=>by simp[execOp,h2,Instr.loadAt,Instr.sureAddr,loadVar_agg hd ha hi' h4 (fun j u hu=>by rw[add_lit];exact h5 j u hu)]⟩
 .cases e
end
end
section
variable{et kt t:Nat}{x:Value}
section
variable{P:Program}{nt:Nat}{L:Lay}{T:Tr SV}{f:Env}{h:H}{w:World}
theorem cellsOf_spec{v:SV}{l:List SV}(R:Rep L h w)(hx:den L v=some x)(e:cellsOf h v=some l):
 (∃s,x=.string (bA s)/\v=.str s/\l=s.map fun b=>.int .u8 (.ofNat b.toNat))\/
 (∃ys n c a,denL L l=some ys/\x=.slice a n c/\lenOfS v=some n/\(a=none->n=0/\ys=[])/\n<=c/\(∀ad,a=some ad->∀j u,ys[j]?=some u->w.cell? (ad.add j)=some u)):=by
 unfold cellsOf at e
 split at e
 .cases e;exact .inl ⟨_,den_str hx,rfl,rfl⟩
 .cases e
  have:x=zS:=by unfold den at hx;simpa using hx.symm
  exact .inr ⟨[],0,0,none,denL_nil L,this,rfl,fun _=>⟨rfl,rfl⟩,Nat.le_refl _,fun ad h=>Yiw⟩
 .cases e
  obtain⟨b,h1,h2⟩:=den_esl hx;exact .inr ⟨[],0,_,_,denL_nil L,h2,rfl,fun h=>Yiw,Nat.zero_le _,fun ad _ j u hu=>(by simp at hu)⟩
 .rename_i i o n z
  split at e
  .rename_i ty sz c k hg;obtain⟨b,h1,h2⟩:=den_asl hx;obtain⟨xs,h3,h4⟩:=(R.get h1 hg).row;rw[nble]at e;by_cases hb:o+n*z<=c.length
   .rw [decide_eq_true hb]at e;cases e
    refine .inr ⟨_,n,_,_,denL_take _ (denL_drop o h3),h2,rfl,fun h=>Yiw,Nat.le_refl _,fun ad had j u hu=>?_⟩;cases had
    rw[add_lit];refine h4.cell ?_;exact Ymi
   .rw [decide_eq_false hb]at e;cases e
  .cases e
 .rename_i i o n z
  split at e
  .rename_i ty sz c k hg;obtain⟨b,h1,h5,h2⟩:=den_slc hx;obtain⟨xs,h3,h4⟩:=(R.get h1 hg).row;rw[nble]at e;by_cases hb:(o+n)*z<=c.length
   .rw [decide_eq_true hb]at e;cases e
    refine .inr ⟨_,n,_,_,denL_take _ (denL_drop (o*z) h3),h2,rfl,fun h=>Yiw,by omega,fun ad had j u hu=>?_⟩;cases had
    rw[add_lit];refine h4.cell ?_;exact Ymi
   .rw [decide_eq_false hb]at e;cases e
  .cases e
 .cases e
theorem keyEq_spec{P:Program}{a b:SV}{y:Value}{r:Bool}(hk:plainKey P kt a=true)(e:keyEq a b=some r)(hx:den L a=some x)(hy:den L b=some y):∃d,P.underlying kt=some d/\Instr.sameNow d x y=some r:=by
 unfold keyEq at e
 split at e
 .rename_i k m k' n;cases hkk:kbeq k k' with
  |false=>rw[hkk]at e;cases e
  |true=>
   rw[hkk]at e;cases e
   have:=kbeq_eq hkk;subst this;have:=den_int hx;have:=den_int hy;subst x y;unfold plainKey at hk;simp only at hk
   split at hk
   .rename_i q hq;exact⟨_,hq,by simp[Instr.sameNow,ieq_eq];rfl⟩
   .cases hk
 .rename_i s t;cases e
  have:=den_str hx;have:=den_str hy;subst x y;unfold plainKey at hk;simp only at hk
  split at hk
  .rename_i hq;refine⟨_,hq,?_⟩;have e1:(bA s==bA t)=decide (s=t):=by
    show((bA s).data==(bA t).data)=_;by_cases hst:s=t
    .subst hst;simp
    .simp [bA,hst]
   simp[Instr.sameNow,beqB_eq,e1]
  .cases hk
 .cases e
theorem plainKey_und{k:SV}(hk:plainKey P kt k=true):(∃q,P.underlying kt=some (.int q))\/P.underlying kt=some .string:=by
 unfold plainKey at hk
 split at hk
 .split at hk
  .exact .inl ⟨_,by assumption⟩
  .cases hk
 .split at hk
  .exact .inr Yhz
  .cases hk
 .cases hk
theorem findS_spec{k:SV}{d:TypeDesc}(hd:P.underlying kt=some d)(hk:plainKey P kt k=true)(hx:den L k=some x):∀{es:List (SV×SV×Nat)} {xs:List MapEntry} {r:Option SV} (i:Nat),denE L es=some xs->findS k es=some r->
 (match r with
 |some v=>∃j y,Instr.findNow d x xs i=some (some (j,y))/\den L v=some y
 |none=>Instr.findNow d x xs i=some none)
 |[],xs,r,i,h,e=>by cases h;cases e;rfl
 |(k',v',b)::l,xs,r,i,h,e=>by
  obtain⟨p,q,r',h1,h2,h3,rfl⟩:=denE_cons.1 h;unfold findS at e
  split at e
  .rename_i he;cases e
   obtain⟨d',hd',hs⟩:=keyEq_spec hk he hx h1;rw[hd]at hd';cases hd'
   exact⟨i,q,by simp[Instr.findNow,hs],h2⟩
  .rename_i he;obtain⟨d',hd',hs⟩:=keyEq_spec hk he hx h1;rw[hd]at hd';cases hd'
   have:=findS_spec hd hk hx (i+1) h3 e;cases r with
   |none=>simpa[Instr.findNow,hs]using this
   |some v=>simpa[Instr.findNow,hs]using this
  .cases e
theorem checkKey_plain{k:SV}(hk:plainKey P kt k=true)(hx:den L k=some x)(b:Bool)(w:World):(Instr.checkKey b 10000 kt x).run P w=.ok () w:=by
 show(Instr.checkKey b (9999+1) kt x).run P w=_;unfold plainKey at hk
 split at hk
 .have:=den_int hx;subst x;exact Ymm
 .have:=den_str hx;subst x;exact Ymm
 .cases hk
theorem o_lookup{x k:Operand}{ok:Bool}{v:SV}(hE:ER L T f)(R:Rep L h w)(hu:P.underlying t=some (.map kt et))(e:lookupV P kt (zeroOf P et) ok ((cO nt x).g T) ((cO nt k).g T) h=some v):RO P L nt f (.lookup t x k ok) w v:=by
 unfold lookupV at e
 split at e
 case h_2=>cases e
 rename_i i ex
 split at e
 case h_2=>cases e
 rename_i kv ek;obtain⟨b,h1,h2⟩:=den_map (cO_spec hE ex);have hkd:=cO_spec hE ek;unfold mapGet at e
 split at e
 case h_2=>cases e
 rename_i es cl hg;obtain⟨xs,h3,h4⟩:=R.get h1 hg;cases hpk:plainKey P kt kv with
 |false=>rw[hpk]at e;cases e
 |true=>
  rw[hpk]at e;simp only[cond_true]at e;obtain⟨d,hd⟩:∃d,P.underlying kt=some d:=by rcases plainKey_und hpk with⟨q,hq⟩|hq<;>exact⟨_,hq⟩
  have hck:=checkKey_plain hpk hkd xs.isEmpty w;have hgo:(getObj b.1).run P w=.ok (.map xs.toArray cl) w:=by simp[getObj,Sem.run,h4]
  split at e
  .rename_i u hf;have hs:=findS_spec hd hpk hkd 0 h3 hf;obtain⟨j,y,h5,h6⟩:=hs;have hk':(Instr.findKey kt (ev nt f k) xs).run P w=.ok (some (j,y)) w:=by simp[Instr.findKey,run_underlying hd,h5]
   cases e
   cases ok with
   |true=>exact⟨_,den_tup' (denL_cons.2 ⟨_,_,h6,denL_one (den_bool' L true),rfl⟩),fun d' ty ps af gd=>by simp[execOp,Instr.lookup,run_underlying hu,h2,hgo,hck,hk']⟩
   |false=>exact⟨y,h6,fun d' ty ps af gd=>by simp[execOp,Instr.lookup,run_underlying hu,h2,hgo,hck,hk']⟩
  .rename_i hf;have hs:Instr.findNow d (ev nt f k) xs 0=some none:=findS_spec hd hpk hkd 0 h3 hf;have hk':(Instr.findKey kt (ev nt f k) xs).run P w=.ok none w:=by simp[Instr.findKey,run_underlying hd,hs]
   split at e
   .rename_i z hz;obtain⟨ii,zv,h7,h8,h9⟩:=zeroOf_spec hz;cases e
    cases ok with
    |true=>exact⟨_,den_tup' (denL_cons.2 ⟨_,_,h9 L,denL_one (den_bool' L false),rfl⟩),fun d' ty ps af gd=>by simp[execOp,Instr.lookup,run_underlying hu,h2,hgo,hck,hk',zeroValue,typeInfo,h7,h8]⟩
    |false=>exact⟨zv,h9 L,fun d' ty ps af gd=>by simp[execOp,Instr.lookup,run_underlying hu,h2,hgo,hck,hk',zeroValue,typeInfo,h7,h8]⟩
   .cases e
  .cases e
theorem o_lenM{x:Operand}{at_:Array TypeId}{v:SV}(hE:ER L T f)(R:Rep L h w)(hat:at_.toList=[t])(hu:P.underlying t=some (.map kt et))(e:lenM h ((cO nt x).g T)=some v):RO P L nt f (.call {callee:=.builtin .len,args:=#[x],argTypes:=at_}) w v:=by
 have:=arr1 hat;subst this;unfold lenM at e
 split at e
 .rename_i i ex;obtain⟨b,h1,h2⟩:=den_map (cO_spec hE ex);unfold len1 at e
  split at e
  .rename_i es cl hg;cases e
   obtain⟨xs,h3,h4⟩:=R.get h1 hg;have hgo:(getObj b.1).run P w=.ok (.map xs.toArray cl) w:=by simp[getObj,Sem.run,h4]
   exact⟨_,den_int' _ _ _,fun d ty ps af gd=>by simp[execOp,resolve,invoke,builtin,Builtin.len_,run_underlying hu,h2,hgo,goInt,denE_len h3]⟩
  .cases e
 .cases e
theorem bytesOf_spec:∀{l:List SV} {b:List UInt8} {ys:List Value},bytesOf l=some b->denL L l=some ys->∃ns:List Nat,ys=ns.map (fun(n:Nat)=>Value.int .u8 (n:Int))/\b=ns.map UInt8.ofNat
 |[],b,ys,h,hy=>by cases h;rw[denL_nil]at hy;cases hy;exact⟨[],rfl,rfl⟩
 |v::l,b,ys,h,hy=>by
  obtain⟨y,r,h1,h2,rfl⟩:=denL_cons.1 hy;unfold bytesOf at h
  split at h
  .rename_i heq;cases heq
  .rename_i n l' heq;cases heq
   split at h
   .rename_i r' hr;cases h
    obtain⟨ns,rfl,rfl⟩:=bytesOf_spec hr h2;exact⟨n::ns,by rw[den_int h1];rfl,rfl⟩
   .cases h
  .cases h
theorem o_str{t' el:Nat}{x:Operand}{v:SV}(hE:ER L T f)(R:Rep L h w)(hu:P.underlying t=some (.slice el))(he:P.underlying el=some (.int .u8))(ht:P.underlying t'=some .string)(e:strOf h ((cO nt x).g T)=some v):RO P L nt f (.convert t t' x) w v:=by
 unfold strOf at e
 split at e
 .cases e
 .rename_i u hns eu;have hx:=cO_spec hE eu
  split at e
  case h_2=>cases e
  rename_i n hn
  split at e
  case h_2=>cases e
  rename_i l hl;rw[nbeq]at e;by_cases hb:l.length=n
  .rw [decide_eq_true hb]at e;simp only[cond_true]at e
   split at e
   case h_2=>cases e
   rename_i b hbb;cases e
   rcases cellsOf_spec R hx hl with⟨s,_,rfl,_⟩|⟨ys,n',c,a,h1,h2,h3,h4,h5,h6⟩
   .exact absurd rfl (hns s)
   .rw [hn]at h3;cases h3
    obtain⟨ns,rfl,rfl⟩:=bytesOf_spec hbb h1;refine⟨_,den_str' _ _,fun d ty ps af gd=>?_⟩;simp only[execOp,h2];have hlen:=denL_len h1;cases a with
    |none=>
     obtain⟨rfl,h0⟩:=h4 rfl;have:ns=[]:=by simpa using h0
     subst this;simp[run_convert_bytes_nil w t el hu he 0 c t' ht,bA,ByteArray.empty,ByteArray.emptyWithCapacity]
     try rfl
    |some ad=>
     have h7:=run_loadCells_list (P:=P) w ad _ (h6 ad rfl);have e1:(ns.map fun(n:Nat)=>Value.int .u8 (n:Int))=(ns.map fun(n:Nat)=>(n:Int)).map (Value.int .u8):=by simp
     rw[show(ns.map fun(n:Nat)=>Value.int .u8 (n:Int)).length=n by rw[hlen,hb],e1]at h7;simp only[Sem.run_bind];rw[run_convert_bytes_string w t t' el (some ad) n c hu he ht,run_bytesToString w ad n c _ h7,foldl_push];simp[bA,ByteArray.empty,ByteArray.emptyWithCapacity,Function.comp_def]
     try rfl
  .rw [decide_eq_false hb]at e;cases e
 .cases e
theorem read_spec{op:Op}{g:Tr SV->H->Option SV}{v:SV}(hc:cOp P nt op=.read g)(hE:ER L T f)(R:Rep L h w)(hg:g T h=some v):RO P L nt f op w v:=by
 cases op with
 |convert s t x=>
  simp only[cOp,kConv]at hc
  split at hc
  .split at hc<;>cases hc
  .split at hc
   .cases hc
   .split at hc<;>cases hc
   .cases hc
  .rename_i hu
   split at hc
   .rename_i he
    split at hc
    .rename_i ht;cases hc;exact o_str hE R hu he ht hg
    .cases hc
   .cases hc
  .cases hc
 |load t x=>
  simp only[cOp,kLoad]at hc
  split at hc
  .rename_i ha
   split at hc
   .rename_i hs;cases hc
    obtain⟨d,hd,hb⟩:=aggT_spec ha;exact o_loadA hE R hd hb hs hg
   .cases hc
  .rename_i ha;cases hc
   obtain⟨d,hd,hb⟩:=aggT_spec ha;exact o_load hE R hd hb hg
  .cases hc
 |lookup t x k ok=>
  simp only[cOp,kLookup]at hc
  split at hc
  .rename_i hu;cases hc;exact o_lookup hE R hu hg
  .cases hc
 |call c=>
  obtain⟨callee,args,ats⟩:=c;simp only[cOp,kCall]at hc
  split at hc
  .cases hc
  .rename_i b
   split at hc
   .rename_i x t hx ht
    split at hc
    .simp only[kLen]at hc
     split at hc
     .rename_i hu;cases hc
      have:=arr1 hx;subst this;exact o_lenM hE R ht hu hg
     .cases hc
     .cases hc
    .cases hc
   .rename_i x y t u hx ht
    split at hc
    .simp only[kApp]at hc;exact Ymd
    .simp only[kCopy]at hc
     repeat' split at hc
     all_goals cases hc
    .cases hc
    .cases hc
    .cases hc
   .cases hc
  .cases hc
 |move x=>cases hc
 |assign x=>cases hc
 |pick c a b=>cases hc
 |nilCheck x=>cases hc
 |fieldAddr s x i=>
  simp only[cOp,kFA]at hc;repeat' split at hc
  all_goals cases hc
 |field s x i=>
  simp only[cOp,kField]at hc;repeat' split at hc
  all_goals cases hc
 |binOp op t x y t2=>cases hc
 |unOp op t x=>simp only[cOp]at hc;split at hc<;>cases hc
 |makeInterface t x=>simp only[cOp,kIfc]at hc;split at hc<;>cases hc
 |makeFunc fn a c=>cases fn<;>cases hc
 |extract x i=>cases hc
 |build t ps=>
  simp only[cOp,kBuild]at hc;repeat' split at hc
  all_goals cases hc
 |indexAddr t x i=>
  simp only[cOp,kIdxA]at hc;repeat' split at hc
  all_goals cases hc
 |index t x i=>
  simp only[cOp,kIdx]at hc;repeat' split at hc
  all_goals cases hc
 |slice t x lo hi mx=>cases mx<;>cases hc
 |typeAssert x xt t ok=>simp only[cOp,kAssert]at hc;split at hc<;>cases hc
 |alloc t=>simp only[cOp]at hc;split at hc<;>cases hc
 |box t x=>cases hc
 |buildSlice t n ps=>
  simp only[cOp,kRow]at hc
  repeat' split at hc
  all_goals first|(cases hc;done)|skip
  all_goals (unfold cond at hc;split at hc<;>cases hc)
 |makeSlice t n c=>
  simp only[cOp,kMake]at hc
  repeat' split at hc
  all_goals first|(cases hc;done)|skip
  all_goals (unfold cond at hc;split at hc<;>cases hc)
 |makeMap t r=>cases r<;>cases hc
 |store t a x=>simp only[cOp,kStore]at hc;split at hc<;>cases hc
 |mapUpdate t m k x=>simp only[cOp,kUpd]at hc;split at hc<;>cases hc
 |insert t m k x=>simp only[cOp,kUpd]at hc;split at hc<;>cases hc
 |range t x=>simp only[cOp,kRange]at hc;split at hc<;>cases hc
 |next it b=>cases b<;>cases hc
 |defer c=>
  simp only[cOp]at hc;repeat' split at hc
  all_goals cases hc
 |_=>cases hc
end
end
section
variable{t:Nat}{w:World}
section
variable{P:Program}{nt:Nat}{L:Lay}{T:Tr SV}{f:Env}
structure Fresh (P:Program) (L:Lay) (nt:Nat) (f:Env) (op:Op) (b:SO) (nm:Nm) (w:World) (w':World) (c:Nat) (x:Value):Prop where
 run:∀d ty ps af gd,(execOp (ev nt f) ⟨d,op,ty,ps,af,gd⟩).run P w=.ok (.value x) w'
 fr:Fr [] w w'
 size:w.heap.size<w'.heap.size
 ne:b≠.gone
 rep:∀L' i,LE L L'->L' i=some (w.heap.size,c)->RepO L' w' (w.heap.size,c) b/\den L' (nm.val i)=some x
theorem zerosS_spec{z:List SV}{zs:List Value}(h:denL L z=some zs):∀n,denL L (zerosS z n)=some (zeros zs n)
 |0=>denL_nil L
 |n+1=>denL_app h (zerosS_spec h n)
theorem f_row{op:Op}{v:SV}{y:Value}(hv:den L v=some y)(hr:∀d ty ps af gd,(execOp (ev nt f) ⟨d,op,ty,ps,af,gd⟩).run P w=.ok (.value (.pointer (some ⟨w.heap.size,0,none⟩))) (w.alloc (.cells y.cells t))):
 Fresh P L nt f op (.row t v.cells.length v.cells .full) .ptr w (w.alloc (.cells y.cells t)) 1 (.pointer (some ⟨w.heap.size,0,none⟩)):=by
 refine⟨hr,Fr.alloc _ _ _,by simp,by simp,fun L' i hl hi=>⟨?_,den_at' hi⟩⟩;have h1:=den_cells (den_mono hl _ _ hv);exact⟨_,h1,by simpa using heap_alloc_new w (.cells y.cells t),by simp[denL_len h1],by simp[maxLen]⟩
theorem fresh_row{e n s:Nat}{z:SV}{ps:Array (Nat×Operand)}{l:List SV}{qs:List (Nat×SV)}(hE:ER L T f)(hu:P.underlying t=some (.slice e))(hs:szOf P e=some s)(hz:zeroOf P e=some z)(hzl:z.cells.length=s)(hle:n*s<=10000)
 (hq:(cP nt ps.toList).g T=some qs) (hf:fillS (fun i=>some (i*s,s)) (zerosS z.cells n) qs=some l) (hn:n<=10000):∃w' c x,Fresh P L nt f (.buildSlice t n ps) (.row e s l .full) (.slc n s) w w' c x:=by
 obtain⟨i,zv,hi,hzv,hzd⟩:=zeroOf_spec hz;obtain⟨j,hj,rfl⟩:=szOf_spec hs;rw[hi]at hj;cases hj
 have hzc:=den_cells (hzd L);obtain⟨ys,h5,h6⟩:=fillS_spec _ _ _ _ _ _ (cP_spec hE hq) (zerosS_spec hzc n) hf;have hff:=fill_list _ _ _ _ h6;have hzs:zv.cells.toList.length=i.size:=by rw[denL_len hzc];exact hzl
 have hlen:∀(place:Nat->Option (Nat×Nat)) (ps:List (Nat×Value)) (cs l:List Value),fillL place cs ps=some l->l.length=cs.length:=by
  intro place ps
  induction ps with
  |nil=>intro cs l h;cases h;rfl
  |cons p r ih=>
   intro cs l h;obtain⟨k,v⟩:=p;unfold fillL at h
   split at h
   .cases h
   .rename_i off sz _;simp only at h;cases hb:(Nat.beq v.cells.toList.length sz&&Nat.ble (off+v.cells.toList.length) cs.length)with
    |false=>rw[hb]at h;cases h
    |true=>
     rw[hb]at h;have h2:=ih _ _ h;simp only[Bool.and_eq_true]at hb;have h3:=Nat.le_of_ble_eq_true hb.2;rw[h2];simp only[List.length_append,List.length_take,List.length_drop];omega
 have hyl:ys.length=n*i.size:=by rw[hlen _ _ _ _ h6,zeros_len,hzs]
 have hzr:(Array.range (n*i.size)).map (fun k=>(if n*i.size=0 then#[] else zv.cells)[k%(if n*i.size=0 then#[] else zv.cells).size]!)=(zeros zv.cells.toList n).toArray:=by
  by_cases hn0:n*i.size=0
  .have h7:(zeros zv.cells.toList n)=[]:=List.eq_nil_of_length_eq_zero (by rw[zeros_len,hzs];exact hn0);rw[hn0,h7];have:Array.range 0=#[]:=rfl;simp[this]
  .rw [if_neg hn0];apply Array.ext_getElem?;intro q;rw[Array.getElem?_map];have hpos:0<i.size:=Nat.pos_of_ne_zero (fun e=>by rw[e]at hn0;simp at hn0);by_cases hq':q<n*i.size
   .simp only[Array.getElem?_range,hq'];have h8:=zeros_get zv.cells.toList (by rw[hzs];exact hpos) n q (by rw[hzs];exact hq');have hzs':zv.cells.size=i.size:=by simpa using hzs
    have hm:q%i.size<zv.cells.size:=by rw[hzs'];exact Nat.mod_lt _ hpos
    rw[hzs]at h8;simp only[Array.getElem?_toList]at h8;simp[h8,hzs',hm];rw[getElem!_pos zv.cells (q%i.size) hm,getElem?_pos zv.cells (q%i.size) hm]
   .have:(zeros zv.cells.toList n).length<=q:=by rw[zeros_len,hzs];omega
    simp[hq',this]
 refine⟨w.alloc (.cells ys.toArray e),n,_,fun d ty pos af gd=>?_,Fr.alloc _ _ _,by simp,by simp,fun L' k hl hk=>⟨⟨ys,denL_mono' hl h5,heap_alloc_new w _,hyl,by unfold maxLen;omega⟩,den_slc' hk Yhs⟩⟩;have hps:ps=ps.toList.toArray:=rfl;rw[hps];have hgt:¬(16777216<n*i.size):=by omega
 simp only[execOp,Instr.buildSlice,List.map_toArray,zipP_map];simp only[Sem.run_bind,run_underlying hu,Result.andThen_ok,sizeOf,typeInfo,zeroValue];by_cases hn0:n*i.size=0
 .rw [if_pos hn0]at hzr;simp[hi,hgt,hn0,hzv];rw[hn0]at hzr;simp at hzr;rw[hzr,hff];simp[newRow]
 .rw [if_neg hn0]at hzr;simp[hi,hgt,hn0,hzv];rw[hzr,hff];simp[newRow]
theorem fresh_spec{op:Op}{g:Tr SV->Option (SO×Nm)}{b:SO}{nm:Nm}(hc:cOp P nt op=.fresh g)(hE:ER L T f)(hg:g T=some (b,nm))(w:World):∃w' c x,Fresh P L nt f op b nm w w' c x:=by
 cases op with
 |alloc t=>
  simp only[cOp]at hc
  split at hc
  .rename_i z hz;cases hc;cases hg
   obtain⟨i,zv,h1,h2,h3⟩:=zeroOf_spec hz;exact⟨_,_,_,f_row (h3 L) fun d ty ps af gd=>by simp[execOp,Instr.alloc,zeroValue,typeInfo,h1,h2,newVar,newRow]⟩
  .cases hc
 |box t x=>
  cases hc
  simp only[boxV]at hg
  split at hg
  .rename_i v ev';cases hg
   exact⟨_,_,_,f_row (cO_spec hE ev') fun d ty ps af gd=>by simp[execOp,Instr.box,newVar,newRow]⟩
  .cases hg
 |buildSlice t n ps=>
  simp only[cOp,kRow]at hc
  split at hc
  case h_2=>cases hc
  rename_i e he
  split at hc
  case h_2=>cases hc
  rename_i s hs
  split at hc
  case h_2=>cases hc
  rename_i z hz;simp only[nbeq,nble]at hc;by_cases hb:(z.cells.length=s/\n*s<=10000)/\n<=10000
  .rw [decide_eq_true hb.1.1,decide_eq_true hb.1.2,decide_eq_true hb.2]at hc;cases hc
   simp only[rowV]at hg
   split at hg
   .rename_i qs hq
    split at hg
    .rename_i l hl;cases hg
     have hn:n<=10000:=hb.2;exact fresh_row hE (elemOf_spec he) hs hz hb.1.1 hb.1.2 hq hl hn
    .cases hg
   .cases hg
  .have:(and (and (decide (z.cells.length=s)) (decide (n*s<=10000))) (decide (n<=10000)))=false:=by simpa using hb
   rw[this]at hc;cases hc
 |makeSlice t n c=>
  simp only[cOp,kMake]at hc
  split at hc
  case h_2=>cases hc
  rename_i e he
  split at hc
  case h_2=>cases hc
  rename_i s hs
  split at hc
  case h_2=>cases hc
  rename_i z hz
  split at hc
  case h_2=>cases hc
  rename_i by_ hby
  simp only[nbeq,nble]at hc;by_cases hb:z.cells.length=s/\by_<=100000
  .rw [decide_eq_true hb.1,decide_eq_true hb.2]at hc;cases hc
   simp only[mkV]at hg
   split at hg
   case h_2=>cases hg
   rename_i kn m en
   split at hg
   case h_2=>cases hg
   rename_i kc q ec;rw[nble,nble]at hg;by_cases hmq:m<=q/\q<=100000
   .rw [decide_eq_true hmq.1,decide_eq_true hmq.2]at hg;cases hg
    obtain⟨i,zv,h1,h2,h3⟩:=zeroOf_spec hz;obtain⟨j,h4,rfl⟩:=szOf_spec hs;obtain⟨j',h5,h6⟩:=byOf_spec hby
    rw[h1]at h4 h5;cases h4;cases h5
    have hx:=den_int (cO_spec hE en);have hy:=den_int (cO_spec hE ec);have hzc:=den_cells (h3 L);have hzs:zv.cells.toList.length=i.size:=by rw[denL_len hzc];exact hb.1
    have hby':(i.bytes:Int)*(q:Int)<=281474976710656:=by
     have:i.bytes*q<=100000*100000:=Nat.mul_le_mul Yhn hmq.2;have h:((i.bytes*q:Nat):Int)<=281474976710656:=by omega
     rwa [Int.natCast_mul]at h
    have hr:=run_make (P:=P) w t e i zv (elemOf_spec he) h1 h2 kn kc m q Yhn Yhn hby' Yhn;simp only[Int.toNat_natCast]at hr;refine⟨_,q,_,fun d ty ps af gd=>by simp only[execOp,hx,hy];rw[Sem.run_bind,show Sem.run P (Instr.makeSlice t (Value.int kn (Int.ofNat m)) (Value.int kc (Int.ofNat q))) w=_ from hr];rfl,Fr.alloc _ _ _,by simp,by simp,fun L' k hl hk=>⟨⟨zeros zv.cells.toList q,zerosS_spec (denL_mono' hl hzc) q,?_,by rw[zeros_len,hzs],by unfold maxLen;omega⟩,by have:=den_slc' (e:=0) (l:=m) (z:=i.size) hk Yht;show den L' (.slc k 0 m i.size)=_;simpa using this⟩⟩;have h7:=heap_alloc_new w (.cells (madeCells zv.cells (q*i.size)) e);have h8:madeCells zv.cells (q*i.size)=(zeros zv.cells.toList q).toArray:=by
     by_cases h0:i.size=0
     .have h9:zeros zv.cells.toList q=[]:=List.eq_nil_of_length_eq_zero (by rw[zeros_len,hzs,h0];simp);rw[h9,h0];have:Array.range 0=#[]:=rfl;simp[madeCells,this]
     .have:=madeCells_zeros (z:=zv.cells.toList) (by rw[hzs];omega) q;rw[hzs]at this;rw[<-this]
    exact h7.trans (by rw[h8])
   .have:(and (decide (m<=q)) (decide (q<=100000)))=false:=by simpa using hmq
    rw[this]at hg;cases hg
  .have:(and (decide (z.cells.length=s)) (decide (by_<=100000)))=false:=by simpa using hb
   rw[this]at hc;cases hc
 |makeMap t r=>
  cases r with
  |none=>
   cases hc;cases hg
   refine⟨w.alloc (.map #[] 0),0,.map (some w.heap.size),fun d ty ps af gd=>by simp only[execOp,Instr.makeMap];rfl,Fr.alloc _ _ _,by simp,by simp,fun L' k hl hk=>⟨⟨[],rfl,heap_alloc_new w _⟩,by show den L' (.map k)=_;unfold den;rw[hk]⟩⟩
  |some o=>cases hc
 |convert s t x=>
  simp only[cOp,kConv]at hc
  split at hc
  .split at hc<;>cases hc
  .rename_i hu
   split at hc
   .cases hc
   .rename_i e ht
    split at hc
    .rename_i he;cases hc
     simp only[bytV]at hg
     split at hg
     .rename_i bs eb;rw[nble]at hg;by_cases hb:bs.length<=10000
      .rw [decide_eq_true hb]at hg;cases hg
       have hx:=den_str (cO_spec hE eb);have hr:=run_bytes_of_string (P:=P) w s t e (bA bs) hu ht he;have hge:=grownCap_ge w (bA bs).size 0 e;have hsz:(bA bs).size=bs.length:=rfl;have hdl:∀(L':Lay) (q:List UInt8),denL L' (q.map fun b=>SV.int .u8 (.ofNat b.toNat))=some (q.map fun b=>Value.int .u8 (b.toNat:Int)):=by
        intro L' q
        induction q with
        |nil=>exact denL_nil L'
        |cons a q ih=>exact denL_cons.2 ⟨_,_,den_int' _ _ _,ih,rfl⟩
       refine⟨_,grownCap w (bA bs).size 0 e,_,fun d ty ps af gd=>by simp only[execOp,hx,Sem.run_bind,hr];rfl,(Fr.drew _ w).trans0 (Fr.alloc [] _ _),by simp,by simp,fun L' k hl hk=>⟨⟨_,hdl L' bs,e,?_⟩,by have:=den_slc' (e:=0) (l:=bs.length) (z:=1) hk (by rw[hsz]at hge;simp;exact hge);show den L' (.slc k 0 bs.length 1)=_;simpa[hsz]using this⟩⟩;refine⟨List.replicate (grownCap w (bA bs).size 0 e-(bA bs).size) (.int .u8 0),((bytesRow (bA bs) (grownCap w (bA bs).size 0 e)).size,(bytesRow (bA bs) (grownCap w (bA bs).size 0 e)).size+1),?_⟩;have h7:=heap_alloc_new w.drew (.cells (bytesRow (bA bs) (grownCap w (bA bs).size 0 e)) e ((bytesRow (bA bs) (grownCap w (bA bs).size 0 e)).size,(bytesRow (bA bs) (grownCap w (bA bs).size 0 e)).size+1));rw[show w.drew.heap.size=w.heap.size from rfl]at h7;rw[h7]
       congr 2
       unfold bytesRow;simp[bA]
      .rw [decide_eq_false hb]at hg;cases hg
     .cases hg
    .cases hc
   .cases hc
  .split at hc
   .split at hc<;>cases hc
   .cases hc
  .cases hc
 |move x=>cases hc
 |assign x=>cases hc
 |pick c a b=>cases hc
 |nilCheck x=>cases hc
 |fieldAddr s x i=>
  simp only[cOp,kFA]at hc;repeat' split at hc
  all_goals cases hc
 |field s x i=>
  simp only[cOp,kField]at hc;repeat' split at hc
  all_goals cases hc
 |binOp op t x y t2=>cases hc
 |unOp op t x=>simp only[cOp]at hc;split at hc<;>cases hc
 |makeInterface t x=>simp only[cOp,kIfc]at hc;split at hc<;>cases hc
 |makeFunc fn a c=>cases fn<;>cases hc
 |extract x i=>cases hc
 |build t ps=>
  simp only[cOp,kBuild]at hc;repeat' split at hc
  all_goals cases hc
 |indexAddr t x i=>
  simp only[cOp,kIdxA]at hc;repeat' split at hc
  all_goals cases hc
 |index t x i=>
  simp only[cOp,kIdx]at hc;repeat' split at hc
  all_goals cases hc
 |slice t x lo hi mx=>cases mx<;>cases hc
 |typeAssert x xt t ok=>simp only[cOp,kAssert]at hc;split at hc<;>cases hc
 |load t x=>
  simp only[cOp,kLoad]at hc;repeat' split at hc
  all_goals cases hc
 |lookup t x k ok=>simp only[cOp,kLookup]at hc;split at hc<;>cases hc
 |store t a x=>simp only[cOp,kStore]at hc;split at hc<;>cases hc
 |mapUpdate t m k x=>simp only[cOp,kUpd]at hc;split at hc<;>cases hc
 |insert t m k x=>simp only[cOp,kUpd]at hc;split at hc<;>cases hc
 |range t x=>simp only[cOp,kRange]at hc;split at hc<;>cases hc
 |next it b=>cases b<;>cases hc
 |defer c=>
  simp only[cOp]at hc;repeat' split at hc
  all_goals cases hc
 |call c=>
  obtain⟨callee,args,ats⟩:=c;simp only[cOp,kCall]at hc
  split at hc
  .cases hc
  .rename_i b
   split at hc
   .split at hc
    .simp only[kLen]at hc
     split at hc<;>cases hc
    .cases hc
   .split at hc
    .simp only[kApp]at hc;exact Ymd
    .simp only[kCopy]at hc
     repeat' split at hc
     all_goals cases hc
    .cases hc
    .cases hc
    .cases hc
   .cases hc
  .cases hc
 |_=>cases hc
end
end
end Go.Ev
