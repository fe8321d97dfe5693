/-
 Statements,calls:the run is sound. It speaks of no program.
-/
import Derived.Test.YtmlpcmjmniobdaaGreatZEh
set_option linter.all false
namespace Go.Ev
open Go.Rf Go.RowKit
section
variable{Q:Exit->Act->World->Prop}{i j n:Nat}{s':St}{w w' w0:World}
theorem Rep.ghost{L L0:Lay}{h h0 h':H}{so:SO}(R:Rep L h w)(X:Ext L0 h0 w0 L h w)(hn:h'.nx=h.nx+1)(hg:∀j,h'.get j=if j=h.nx then some so else h.get j):Rep L h' w/\Ext L0 h0 w0 L h' w:=by
 have hget:∀j,j<h.nx->h'.get j=h.get j:=fun j e=>by rw[hg,if_neg Yhn]
 have hlive:∀j x,L j=some x->live h' j->live h j:=fun j x e hl=>by unfold live at*;rw[hget j (R.lt j x e).1]at hl;exact hl
 refine⟨⟨fun i x e=>?_,fun i x e=>⟨by have:=(R.lt i x e).1;omega,(R.lt i x e).2⟩,fun i j x y e1 e2 l1 l2 hxy=>R.inj i j x y e1 e2 (hlive i x e1 l1) (hlive j y e2 l2) hxy⟩,X.le,by have:=X.nx;omega,fun i hi e=>?_,fun b hb=>?_,X.fr⟩
 .obtain ⟨so',h1,h2⟩:=R.o i x e;exact⟨so',by rw[hget i (R.lt i x e).1];exact h1,h2⟩
 .obtain ⟨q1,q2⟩:=X.ghost i hi e;exact⟨q1,by rw[hget i (Nat.lt_of_lt_of_le hi X.nx)];exact q2⟩
 .obtain ⟨j,y,e,hl,rfl⟩:=hb;exact X.own _ ⟨j,y,e,hlive j y e hl,rfl⟩
theorem Rep.real{L L0:Lay}{h h0:H}{so:SO}{c:Nat}(R:Rep L h w)(X:Ext L0 h0 w0 L h w)(hL:L n=none)(hn:h.get n=some so)(h0n:h0.nx<=n)(hlt:n<h.nx)(hF:Fr [] w w')(hs:w.heap.size<w'.heap.size)
 (hO:RepO (updL L n (w.heap.size,c)) w' (w.heap.size,c) so):Rep (updL L n (w.heap.size,c)) h w'/\Ext L0 h0 w0 (updL L n (w.heap.size,c)) h w':=by
 have hle:=updL_le (x:=(w.heap.size,c)) hL;refine⟨⟨fun i x e=>?_,fun i x e=>?_,fun i j x y e1 e2 l1 l2 hxy=>?_⟩,X.le.trans hle,X.nx,fun i hi e=>?_,fun b hb=>?_,?_⟩
 .by_cases hi:i=n
  .subst hi;rw[updL_same]at e;cases e;exact⟨so,hn,hO⟩
  .rw [updL_ne L _ hi]at e;obtain⟨so',h1,h2⟩:=R.o i x e;exact⟨so',h1,(h2.mono hle).tr (hF.block _ (R.lt i x e).2 Yhs)⟩
 .by_cases hi:i=n
  .subst hi;rw[updL_same]at e;cases e;exact⟨hlt,hs⟩
  .rw [updL_ne L _ hi]at e;have:=R.lt i x e;exact⟨this.1,by omega⟩
 .by_cases hi:i=n
  .by_cases hj:j=n
   .rw [hi,hj]
   .subst hi;exact Ymq
  .rw [updL_ne L _ hi]at e1;by_cases hj:j=n
   .subst hj;rw[updL_same]at e2;cases e2
    have:=(R.lt i x e1).2;simp only at hxy;omega
   .rw [updL_ne L _ hj]at e2;exact R.inj i j x y e1 e2 l1 l2 hxy
 .obtain ⟨q1,q2⟩:=X.ghost i hi e;exact⟨by rw[updL_ne L _ Yhn];exact q1,q2⟩
 .obtain ⟨j,y,e,hl,rfl⟩:=hb;by_cases hj:j=n
  .subst hj;rw[updL_same]at e;cases e;exact .inl X.fr.size
  .rw [updL_ne L _ hj]at e;exact X.own _ ⟨j,y,e,hl,rfl⟩
 .have hF':=X.fr;exact⟨hF.os.trans hF'.os,hF.tape.trans hF'.tape,hF.output.trans hF'.output,Nat.le_trans hF'.size hF.size,fun k hk hn'=>by
   rw[<-hF'.block k hk hn'];exact hF.block k (Nat.lt_of_lt_of_le hk hF'.size) Yhs,Nat.le_trans hF'.draw hF.draw⟩
theorem Rep.drew{L:Lay}{h:H}(R:Rep L h w)(hh:w'.heap=w.heap)(ho:w'.os=w.os)(ht:w'.tape=w.tape)(hp:w'.output=w.output)(hd:w.drawn<=w'.drawn):Rep L h w'/\Ext L h w L h w':=by
 refine⟨⟨fun i x e=>?_,fun i x e=>by rw[hh];exact R.lt i x e,R.inj⟩,LE.refl L,Nat.le_refl _,fun i hi e=>⟨e,rfl⟩,fun b hb=>.inr hb,ho,ht,hp,by rw[hh];exact Nat.le_refl _,fun k _ _=>by rw[hh],hd⟩;obtain⟨so,h1,h2⟩:=R.o i x e;exact⟨so,h1,h2.tr (by rw[hh])⟩
def Val(T:Tr SV)(o:Oper)(v:SV):Prop:=∀d,o.dst=some d->T.get d=some v
def un(R:Array Bool)(i:Nat):Prop:=R.getD i false=false
theorem un_set{R:Array Bool}(hi:i<R.size)(h:un (R.setIfInBounds i true) j):j≠i/\un R j:=by
 by_cases e:i=j
 .subst e;unfold un at h;simp[hi]at h
 .exact ⟨fun h=>e h.symm,by unfold un at*;rwa [getD_set_ne false e]at h⟩
theorem un_set'{R:Array Bool}(h:un R j)(e:j≠i):un (R.setIfInBounds i true) j:=by unfold un at*;rw[getD_set_ne false (Ne.symm e)];exact h
theorem set_true{R:Array Bool}(h:(R.setIfInBounds i true).getD j false=true):j=i\/R.getD j false=true:=by
 by_cases e:i=j
 .exact .inl e.symm
 .rw [getD_set_ne false e]at h;exact .inr h
inductive Kept (P:Program) (nt:Nat) (ops:List Oper) (L:Lay) (nx0:Nat) (W:List WE) (G:List (Nat×Nat)) (T:Tr SV) (h:H) (Ti:Tr SV) (i:Nat) (o:Oper):Prop where
 |off (hg:gdV nt ops o Ti=some false) (hv:Val T o (.tup []))
 |pure {g:Tr SV->Option SV} {v:SV} (hg:gdV nt ops o Ti=some true) (hc:cOp P nt o.op=.pure g) (hr:g Ti=some v) (hv:Val T o v)
 |read {g:Tr SV->H->Option SV} {v:SV} (hg:gdV nt ops o Ti=some true) (hc:cOp P nt o.op=.read g) (hr:g Ti h=some v) (hv:Val T o v) (hW:(⟨i,g,Ti,v⟩:WE)∈W)
 |fresh {g:Tr SV->Option (SO×Nm)} {b:SO} {nm:Nm} {n:Nat} (hg:gdV nt ops o Ti=some true) (hc:cOp P nt o.op=.fresh g) (hr:g Ti=some (b,nm)) (hv:Val T o (nm.val n)) (hn:h.get n=some b) (hL:L n=none) (h0:nx0<=n) (hlt:n<h.nx) (hG:(i,n)∈G)
def Pend(P:Program)(nt:Nat)(ops:List Oper)(L:Lay)(nx0:Nat)(W:List WE)(G:List (Nat×Nat))(T:Tr SV)(h:H)(tk:List Nat)(R:Array Bool)(V:Tr SV)(i:Nat)(o:Oper):Prop:=∃Ti,
 (∀s∈rdsOf ops o,∀k ok,waits k o.after.toList=true->ops[k]?=some ok->ok.dst=some s->Ti.get s=T.get s)/\
 (∀s∈rdsOf ops o,(∀k∈tk,un R k->waits k o.after.toList=true->∀ok,ops[k]?=some ok->ok.dst≠some s)->Ti.get s=V.get s)/\
 (∀U u,∃U',Upd o.dst u U U')/\Kept P nt ops L nx0 W G T h Ti i o
def Clo(ops:List Oper):List Nat->Prop
 |[]=>True
 |i::tk=>i∉tk/\(∀o,ops[i]?=some o->∀k,waits k o.after.toList=true->k∈tk)/\Clo ops tk
theorem Clo.dep{ops:List Oper}:∀{tk:List Nat},Clo ops tk->∀i∈tk,∀o,ops[i]?=some o->∀k,waits k o.after.toList=true->k∈tk
 |[],_,i,hi,_,_,_,_=>by cases hi
 |j::tk,h,i,hi,o,ho,k,hk=>by
  rcases List.mem_cons.1 hi with rfl|hi
  .exact List.mem_cons_of_mem _ (h.2.1 o ho k hk)
  .exact List.mem_cons_of_mem _ (h.2.2.dep i hi o ho k hk)
structure Inv (P:Program) (nt:Nat) (ops:List Oper) (L0:Lay) (h0:H) (w0:World) (tk:List Nat) (W:List WE) (G:List (Nat×Nat)) (T:Tr SV) (ds:List DF) (h:H) (R:Array Bool) (f:Env) (D:List Deferred) (w:World) (L:Lay) (V:Tr SV):Prop where
 e:ER L V f
 d:DR L ds D
 rep:Rep L h w
 ext:Ext L0 h0 w0 L h w
 rsz:R.size=ops.length
 sub:∀i,R.getD i false=true->i∈tk
 rng:∀i∈tk,i<ops.length
 clo:Clo ops tk
 slot:∀s,(∀i∈tk,un R i->∀o,ops[i]?=some o->o.dst≠some s)->V.get s=T.get s
 g1:∀p∈G,p.2<h.nx
 g2:∀p∈G,∀q∈G,p.2=q.2->p.1=q.1
 pend:∀i∈tk,un R i->∀o,ops[i]?=some o->Pend P nt ops L h0.nx W G T h tk R V i o
section
variable{P:Program}{ih:IH}{nt:Nat}{ro r:Option Nat}{ops:List Oper}{L0:Lay}{h0:H}{w0:World}
variable{tk:List Nat}{W:List WE}{G:List (Nat×Nat)}{T:Tr SV}{ds:List DF}{h:H}{R:Array Bool}{f:Env}{D:List Deferred}{w:World}{L:Lay}{V:Tr SV}
theorem Inv.put(hap:Apart ops)(I:Inv P nt ops L0 h0 w0 tk W G T ds h R f D w L V){o:Oper}(hi:i∈tk)(hu:un R i)(ho:ops[i]?=some o)(hrd:∀k,waits k o.after.toList=true->R.getD k false=true)
 {v:SV} {x:Value} {L':Lay} {w':World} {V':Tr SV} (hv:Val T o v) (hle:LE L L') (hden:den L' v=some x) (hR:Rep L' h w') (hX:Ext L0 h0 w0 L' h w') (hG:∀j n,(j,n)∈G->j≠i->L n=none->L' n=none) (hT:Upd o.dst v V V'):
 Inv P nt ops L0 h0 w0 tk W G T ds h (R.setIfInBounds i true) (updo f o.dst x) D w' L' V':=by
 have hlt:i<R.size:=by rw[I.rsz];exact I.rng i hi
 refine⟨hT.er (I.e.mono hle) hden,I.d.mono hle,hR,hX,by rw[Array.size_setIfInBounds];exact I.rsz,fun j hj=>?_,I.rng,I.clo,fun s hs=>?_,I.g1,I.g2,fun j hj huj oj hoj=>?_⟩
 .rcases set_true hj with rfl|hj
  .exact hi
  .exact I.sub j hj
 .rw [hT];by_cases hd:o.dst=some s
  .rw [if_pos hd];exact(hv s hd).symm
  .rw [if_neg hd];refine I.slot s fun k hk hku ok hok=>?_
   by_cases hki:k=i
   .subst hki;rw[ho]at hok;cases hok;exact hd
   .exact hs k hk (un_set' hku hki) ok hok
 .obtain ⟨hji,huj'⟩:=un_set hlt huj;obtain⟨Ti,hA,hB,hex,hK⟩:=I.pend j hj huj' oj hoj;refine⟨Ti,hA,fun s hs hyp=>?_,hex,?_⟩
  .rw [hT];by_cases hd:o.dst=some s
   .rw [if_pos hd,<-hv s hd];rcases(hap i o s ho hd j oj hoj).1 hs with hw|hw
    .exact hA s hs i o hw ho hd
    .have:=hrd j hw;unfold un at huj';rw[this]at huj';cases huj'
   .rw [if_neg hd];refine hB s hs fun k hk hku hw ok hok=>?_
    by_cases hki:k=i
    .subst hki;rw[ho]at hok;cases hok;exact hd
    .exact hyp k hk (un_set' hku hki) hw ok hok
  .cases hK with
   |off a b=>exact .off a b
   |pure a b c d=>exact .pure a b c d
   |read a b c d e=>exact .read a b c d e
   |fresh a b c d e hL h0 hlt hg=>exact .fresh a b c d e (hG j _ hg hji hL) h0 hlt hg
theorem Inv.adv(hap:Apart ops)(I:Inv P nt ops L0 h0 w0 tk W G T ds h R f D w L V){o:Oper}(hi:i∉tk)(ho:ops[i]?=some o)(hdep:∀k,waits k o.after.toList=true->k∈tk)
 {v:SV} {T':Tr SV} {h':H} {W':List WE} {G':List (Nat×Nat)} (hT:Upd o.dst v T T') (hex:∀U u,∃U',Upd o.dst u U U') (hR:Rep L h' w) (hX:Ext L0 h0 w0 L h' w) (hnx:h.nx<=h'.nx) (hget:∀n,n<h.nx->h'.get n=h.get n)
 (hrd:∀j g Ti v,(⟨j,g,Ti,v⟩:WE)∈W->g Ti h=some v->g Ti h'=some v) (hWW:∀e∈W,e∈W') (hGG:∀p∈G,p∈G') (hg1:∀p∈G',p.2<h'.nx) (hg2:∀p∈G',∀q∈G',p.2=q.2->p.1=q.1)
 (hK:Kept P nt ops L h0.nx W' G' T' h' T i o):Inv P nt ops L0 h0 w0 (i::tk) W' G' T' ds h' R f D w L V:=by
 have hiu:un R i:=by
  unfold un;cases hb:R.getD i false with
  |false=>rfl
  |true=>exact absurd (I.sub i hb) hi
 have hne:∀k∈tk,∀ok s,ops[k]?=some ok->ok.dst=some s->o.dst≠some s:=fun k hk ok s hok hs hd=>by
  have:=(hap k ok s hok hs i o ho).2 hd;subst this;exact hi hk
 have hval:∀k∈tk,∀ok v,ops[k]?=some ok->Val T ok v->Val T' ok v:=fun k hk ok v hok hv d hd=>by
  rw[hT,if_neg (hne k hk ok d hok hd)];exact hv d hd
 refine⟨I.e,I.d,hR,hX,I.rsz,fun j hj=>List.mem_cons_of_mem _ (I.sub j hj),fun j hj=>?_,⟨hi,?_,I.clo⟩,fun s hs=>?_,hg1,hg2,fun j hj huj oj hoj=>?_⟩
 .rcases List.mem_cons.1 hj with rfl|hj
  .exact (List.getElem?_eq_some_iff.1 ho).1
  .exact I.rng j hj
 .intro o' ho' k hk;rw[ho]at ho';cases ho'
  exact hdep k hk
 .rw [hT,if_neg (hs i (List.mem_cons_self ..) hiu o ho)];exact I.slot s fun k hk hku ok hok=>hs k (List.mem_cons_of_mem _ hk) hku ok hok
 .by_cases hji:j=i
  .subst hji;rw[ho]at hoj;cases hoj
   refine⟨T,fun s hs k ok hw hok hd=>?_,fun s hs hyp=>?_,hex,hK⟩
   .rw [hT,if_neg (hne k (hdep k hw) ok s hok hd)]
   .refine (I.slot s fun k hk hku ok hok hd=>?_).symm;rcases(hap k ok s hok hd j o ho).1 hs with hw|hw
    .exact hyp k (List.mem_cons_of_mem _ hk) hku hw ok hok hd
    .exact hi (I.clo.dep k hk ok hok j hw)
  .have hj':j∈tk:=(List.mem_cons.1 hj).resolve_left hji;obtain⟨Ti,hA,hB,hex',hK'⟩:=I.pend j hj' huj oj hoj;refine⟨Ti,fun s hs k ok hw hok hd=>?_,fun s hs hyp=>hB s hs fun k hk hku hw ok hok=>hyp k (List.mem_cons_of_mem _ hk) hku hw ok hok,hex',?_⟩
   .rw [hT,if_neg (hne k (I.clo.dep j hj' oj hoj k hw) ok s hok hd)];exact hA s hs k ok hw hok hd
   .cases hK' with
    |off a b=>exact .off a (hval j hj' oj _ hoj b)
    |pure a b c d=>exact .pure a b c (hval j hj' oj _ hoj d)
    |read a b c d e=>exact .read a b (hrd _ _ _ _ e c) (hval j hj' oj _ hoj d) (hWW _ e)
    |fresh a b c d e hL h0 hlt hg=>exact .fresh a b c (hval j hj' oj _ hoj d) (by rw[hget _ hlt];exact e) hL h0 (Nat.lt_of_lt_of_le hlt hnx) (hGG _ hg)
theorem Inv.both(hap:Apart ops)(I:Inv P nt ops L0 h0 w0 tk W G T ds h R f D w L V){o:Oper}(hi:i∉tk)(ho:ops[i]?=some o)(hrd:∀k,waits k o.after.toList=true->R.getD k false=true)
 {v:SV} {T' V':Tr SV} {ds':List DF} {h':H} {f':Env} {D':List Deferred} {w':World} {L':Lay} {W':List WE} (hT:Upd o.dst v T T') (hTr:Upd o.dst v V V') (hE:ER L' V' f') (hD:DR L' ds' D') (hR:Rep L' h' w') (hX:Ext L h w L' h' w')
 (hW:∀j g Ti v,(⟨j,g,Ti,v⟩:WE)∈W->waits j o.after.toList=false->g Ti h=some v->g Ti h'=some v/\(⟨j,g,Ti,v⟩:WE)∈W'):
 Inv P nt ops L0 h0 w0 (i::tk) W' G T' ds' h' (R.setIfInBounds i true) f' D' w' L' V':=by
 have hli:i<R.size:=by rw[I.rsz];exact(List.getElem?_eq_some_iff.1 ho).1
 have hne:∀k∈tk,∀ok s,ops[k]?=some ok->ok.dst=some s->o.dst≠some s:=fun k hk ok s hok hs hd=>by
  have:=(hap k ok s hok hs i o ho).2 hd;subst this;exact hi hk
 have hval:∀k∈tk,∀ok v,ops[k]?=some ok->Val T ok v->Val T' ok v:=fun k hk ok v hok hv d hd=>by
  rw[hT,if_neg (hne k hk ok d hok hd)];exact hv d hd
 refine⟨hE,hD,hR,I.ext.trans hX,by rw[Array.size_setIfInBounds];exact I.rsz,fun j hj=>?_,fun j hj=>?_,⟨hi,?_,I.clo⟩,fun s hs=>?_,fun p hp=>Nat.lt_of_lt_of_le (I.g1 p hp) hX.nx,I.g2,fun j hj huj oj hoj=>?_⟩
 .rcases set_true hj with rfl|hj
  .exact List.mem_cons_self ..
  .exact List.mem_cons_of_mem _ (I.sub j hj)
 .rcases List.mem_cons.1 hj with rfl|hj
  .exact (List.getElem?_eq_some_iff.1 ho).1
  .exact I.rng j hj
 .intro o' ho' k hk;rw[ho]at ho';cases ho'
  exact I.sub k (hrd k hk)
 .rw [hT,hTr];by_cases hd:o.dst=some s
  .rw [if_pos hd,if_pos hd]
  .rw [if_neg hd,if_neg hd];refine I.slot s fun k hk hku ok hok=>?_
   exact hs k (List.mem_cons_of_mem _ hk) (un_set' hku fun e=>hi (e▸hk)) ok hok
 .obtain ⟨hji,huj'⟩:=un_set hli huj;have hj':j∈tk:=(List.mem_cons.1 hj).resolve_left hji;have hnw:waits j o.after.toList=false:=by
   cases hb:waits j o.after.toList with
   |false=>rfl
   |true=>have:=hrd j hb;unfold un at huj';rw[this]at huj';cases huj'
  obtain⟨Ti,hA,hB,hex',hK'⟩:=I.pend j hj' huj' oj hoj;refine⟨Ti,fun s hs k ok hw hok hd=>?_,fun s hs hyp=>?_,hex',?_⟩
  .rw [hT,if_neg (hne k (I.clo.dep j hj' oj hoj k hw) ok s hok hd)];exact hA s hs k ok hw hok hd
  .rw [hTr];by_cases hd:o.dst=some s
   .rcases (hap i o s ho hd j oj hoj).1 hs with hw|hw
    .exact absurd (I.clo.dep j hj' oj hoj i hw) hi
    .rw [hw]at hnw;cases hnw
   .rw [if_neg hd];exact hB s hs fun k hk hku hw ok hok=>hyp k (List.mem_cons_of_mem _ hk) (un_set' hku fun e=>hi (e▸hk)) hw ok hok
  .cases hK' with
   |off a b=>exact .off a (hval j hj' oj _ hoj b)
   |pure a b c d=>exact .pure a b c (hval j hj' oj _ hoj d)
   |read a b c d e=>exact .read a b (hW _ _ _ _ e hnw c).1 (hval j hj' oj _ hoj d) (hW _ _ _ _ e hnw c).2
   |fresh a b c d e hL h0 hlt hg=>
    obtain⟨q1,q2⟩:=hX.ghost _ hlt hL;exact .fresh a b c (hval j hj' oj _ hoj d) (by rw[q2];exact e) q1 h0 (Nat.lt_of_lt_of_le hlt hX.nx) hg
theorem val_upon{o:Oper}{next:Act->World->Prop}{x:Value}(hnd:∀c,o.op≠.defer c)(hr:(execOp (ev nt f) o).run P w=.ok (.value x) w')(hk:next (@A nt (updo f o.dst x) ⟨D⟩) w'):
 Oper.uponIn (Fc r) 0 P o (@A nt f ⟨D⟩) next Q ((Oper.semAt (Fc r).round (@A nt f ⟨D⟩).eval o).run P w):=by
 obtain⟨d,op,ty,ps,af,gd⟩:=o;have hev:(@A nt f ⟨D⟩).eval=ev nt f:=A_eval (D:=⟨D⟩) nt f;rw[hev,sem_eq _ hnd,hr];show next ((@A nt f ⟨D⟩).put d x) w';rw[show(@A nt f ⟨D⟩).put d x= @A nt (updo f d x) ⟨D⟩ from A_put (D:=⟨D⟩) nt f d x];exact hk
theorem not_dfr{op:Op}{k:CK}(hc:cOp P nt op=k)(h:k.sole=false):∀c,op≠.defer c:=fun c e=>by
 rcases cOp_defer hc ⟨c,e⟩with⟨g,hg⟩|hg
 .subst hg;cases h
 .subst hg;cases h
theorem Inv.real{arr:Array Oper}(hap:Apart arr.toList)(I:Inv P nt arr.toList L0 h0 w0 tk W G T ds h R f D w L V){o:Oper}(hi:i∈tk)(hu:un R i)(ho:arr.toList[i]?=some o)(hrd:∀k,waits k o.after.toList=true->R.getD k false=true)
 {K:Act->World->Prop} {Q:Exit->Act->World->Prop} (hK:∀f' w' L' V',Inv P nt arr.toList L0 h0 w0 tk W G T ds h (R.setIfInBounds i true) f' D w' L' V'->K (@A nt f' ⟨D⟩) w'):wpOpIn (Fc r) 0 P arr Q i K (@A nt f ⟨D⟩) w:=by
 obtain⟨Ti,hA,hB,hex,hKp⟩:=I.pend i hi hu o ho;have hag:Agr Ti V (rdsOf arr.toList o):=fun s hs=>hB s hs fun k hk hku hw ok hok hd=>by
  have:=hrd k hw;unfold un at hku;rw[this]at hku;cases hku
 have ho':arr[i]?=some o:=by rwa [Array.getElem?_toList]at ho
 have hgd:=gdV_congr (nt:=nt) hag;have hop:=rds_op hag;have hcg:=cOp_congr (P:=P) (nt:=nt) hop;unfold wpOpIn;rw[ho'];simp only;have wan:∀q,gdV nt arr.toList o Ti=some q->Region.wanted o (yielded arr (@A nt f ⟨D⟩).tmps)=q:=fun q hq=>gdV_wanted I.e (by rw[<-hgd];exact hq)
 cases hKp with
 |off hg hv=>
  rw[wan _ hg];simp only[Bool.false_eq_true,if_false];refine⟨fun _ _=>trivial,?_⟩;obtain⟨V',hV⟩:=hex V (.tup []);rw[show(@A nt f ⟨D⟩).put o.dst undef= @A nt (updo f o.dst undef) ⟨D⟩ from A_put (D:=⟨D⟩) nt f o.dst undef];exact hK _ _ _ _ (I.put hap hi hu ho hrd hv (LE.refl L) (den_undef L) I.rep I.ext (fun _ _ _ _ h=>h) hV)
 |pure hg hc hr hv=>
  rename_i g v;rw[hc]at hcg;rw[wan _ hg];simp only[if_true];obtain⟨x,h1,h2⟩:=pure_spec hc I.e (show g V=some v by rw[<-show g Ti=g V from hcg];exact hr);obtain⟨V',hV⟩:=hex V v;exact⟨fun _ _=>trivial,val_upon (not_dfr hc rfl) (h2 o.dst o.type o.pos o.after o.guard w) (hK _ _ _ _ (I.put hap hi hu ho hrd hv (LE.refl L) h1 I.rep I.ext (fun _ _ _ _ h=>h) hV))⟩
 |read hg hc hr hv hW=>
  rename_i g v;rw[hc]at hcg;rw[wan _ hg];simp only[if_true];obtain⟨x,h1,h2⟩:=read_spec hc I.e I.rep (show g V h=some v by rw[<-show g Ti=g V from hcg];exact hr);obtain⟨V',hV⟩:=hex V v;exact⟨fun _ _=>trivial,val_upon (not_dfr hc rfl) (h2 o.dst o.type o.pos o.after o.guard) (hK _ _ _ _ (I.put hap hi hu ho hrd hv (LE.refl L) h1 I.rep I.ext (fun _ _ _ _ h=>h) hV))⟩
 |fresh hg hc hr hv hn hL h0' hlt hG=>
  rename_i g b nm n;rw[hc]at hcg;rw[wan _ hg];simp only[if_true];obtain⟨w',c,x,F⟩:=fresh_spec hc I.e (show g V=some (b,nm) by rw[<-show g Ti=g V from hcg];exact hr) w;obtain⟨V',hV⟩:=hex V (nm.val n);have hle:=updL_le (x:=(w.heap.size,c)) hL;obtain⟨q1,q2⟩:=F.rep (updL L n (w.heap.size,c)) n hle (updL_same _ _ _);obtain⟨R',X'⟩:=I.rep.real I.ext hL hn h0' hlt F.fr F.size q1;refine⟨fun _ _=>trivial,val_upon (not_dfr hc rfl) (F.run o.dst o.type o.pos o.after o.guard) (hK _ _ _ _ (I.put hap hi hu ho hrd hv hle q2 R' X' (fun j m hjm hji hLm=>?_) hV))⟩;rw[updL_ne L _ (fun e=>hji (I.g2 _ hjm _ hG e))];exact hLm
theorem Inv.next(hap:Apart ops)(I:Inv P nt ops L0 h0 w0 tk W G T ds h R f D w L V){o:Oper}{l:List (Nat×Oper)}(hi:i∉tk)(ho:ops[i]?=some o)(hdep:∀k,waits k o.after.toList=true->k∈tk)(hns:(cOp P nt o.op).sole=false)
 (hk:(cOpsD P ro nt ops ((i,o)::l)).r ih W ⟨T,ds,h⟩=some s'):∃W' G' T' h',Inv P nt ops L0 h0 w0 (i::tk) W' G' T' ds h' R f D w L V/\(cOpsD P ro nt ops l).r ih W' ⟨T',ds,h'⟩=some s':=by
 have val:∀{T':Tr SV} {v},Upd o.dst v T T'->Val T' o v:=fun hT d hd=>by rw[hT,if_pos hd]
 rcases cOpsD_cons hk with⟨hg,hk⟩|⟨hg,hk⟩
 .generalize hc:cOp P nt o.op=k at hk hns;cases k with
  |pure g=>
   simp only[dOne,dPure,stK]at hk;cases hv:g T with
   |none=>rw[hv]at hk;cases hk
   |some v=>
    rw[hv]at hk;simp only at hk
    split at hk
    .rename_i s1 h1;obtain⟨⟨T',e,hT⟩,hex⟩:=setD_two h1;cases e
     exact⟨W,G,T',h,I.adv hap hi ho hdep hT hex I.rep I.ext (Nat.le_refl _) (fun _ _=>rfl) (fun _ _ _ _ _ q=>q) (fun _ q=>q) (fun _ q=>q) I.g1 I.g2 (.pure hg hc hv (val hT)),hk⟩
    .cases hk
  |read g=>
   simp only[dOne,dRead]at hk;cases hv:g T h with
   |none=>rw[hv]at hk;cases hk
   |some v=>
    rw[hv]at hk;obtain⟨⟨T',e,hT⟩,hex⟩:=setD_two hk;exact⟨_,G,T',h,I.adv hap hi ho hdep hT hex I.rep I.ext (Nat.le_refl _) (fun _ _=>rfl) (fun _ _ _ _ _ q=>q) (fun _ q=>List.mem_cons_of_mem _ q) (fun _ q=>q) I.g1 I.g2 (.read hg hc hv (val hT) (List.mem_cons_self ..)),e⟩
  |fresh g=>
   simp only[dOne,dFresh,stK]at hk;cases hv:g T with
   |none=>rw[hv]at hk;cases hk
   |some p=>
    obtain⟨b,nm⟩:=p;rw[hv]at hk;simp only at hk
    split at hk
    .rename_i s1 h1;obtain⟨h',h1,hn',hg'⟩:=new_spec h1;obtain⟨⟨T',e,hT⟩,hex⟩:=setD_two h1;cases e
     simp only at hk;cases hb:stillW h' W with
     |false=>rw[hb]at hk;cases hk
     |true=>
      rw[hb]at hk;obtain⟨R',X'⟩:=I.rep.ghost I.ext hn' hg';have hLn:=I.rep.no (i:=h.nx) (Nat.le_refl _);refine⟨W,(i,h.nx)::G,T',h',I.adv hap hi ho hdep hT hex R' X' Yhn (fun n hlt=>by rw[hg',if_neg Yhn]) (fun j g Ti v hm _=>stillW_spec hb _ hm) (fun _ q=>q) (fun _ q=>List.mem_cons_of_mem _ q) (fun p hp=>?_) (fun p hp q hq hpq=>?_) (.fresh hg hc hv (val hT) (by rw[hg',if_pos rfl]) hLn I.ext.nx Yhn (List.mem_cons_self ..)),hk⟩
      .rcases List.mem_cons.1 hp with rfl|hp
       .show h.nx<h'.nx;omega
       .have:=I.g1 p hp;omega
      .rcases List.mem_cons.1 hp with rfl|hp
       .rcases List.mem_cons.1 hq with rfl|hq
        .rfl
        .have:=I.g1 q hq;simp only at hpq;omega
       .rcases List.mem_cons.1 hq with rfl|hq
        .have:=I.g1 p hp;simp only at hpq;omega
        .exact I.g2 p hp q hq hpq
    .cases hk
  |_=>cases hns
 .obtain ⟨⟨T',e,hT⟩,hex⟩:=setD_two hk;exact⟨W,G,T',h,I.adv hap hi ho hdep hT hex I.rep I.ext (Nat.le_refl _) (fun _ _=>rfl) (fun _ _ _ _ _ q=>q) (fun _ q=>q) (fun _ q=>q) I.g1 I.g2 (.off hg (val hT)),e⟩
theorem Inv.sole{arr:Array Oper}(J:IHok P ih)(hap:Apart arr.toList)(I:Inv P nt arr.toList L0 h0 w0 tk W G T ds h R f D w L V)(hro:RoR L ro r){o:Oper}{l:List (Nat×Oper)}(hi:i∉tk)(ho:arr.toList[i]?=some o)(hrd:∀k,waits k o.after.toList=true->R.getD k false=true)
 (hs:(cOp P nt o.op).sole=true) (hk:(cOpsD P ro nt arr.toList ((i,o)::l)).r ih W ⟨T,ds,h⟩=some s') {K:Act->World->Prop} {Q:Exit->Act->World->Prop}
 (hK:∀W' T' ds' h' f' D' w' L' V',Inv P nt arr.toList L0 h0 w0 (i::tk) W' G T' ds' h' (R.setIfInBounds i true) f' D' w' L' V'->(cOpsD P ro nt arr.toList l).r ih W' ⟨T',ds',h'⟩=some s'->K (@A nt f' ⟨D'⟩) w'):wpOpIn (Fc r) 0 P arr Q i K (@A nt f ⟨D⟩) w:=by
 have hag:Agr T V (rdsOf arr.toList o):=fun s hs=>(I.slot s fun k hk hku ok hok hd=>by
  rcases(hap k ok s hok hd i o ho).1 hs with hw|hw
  .have:=hrd k hw;unfold un at hku;rw[this]at hku;cases hku
  .exact hi (I.clo.dep k hk ok hok i hw)).symm
 have ho':arr[i]?=some o:=by rwa [Array.getElem?_toList]at ho
 have hgd:=gdV_congr (nt:=nt) hag;have hop:=rds_op hag;unfold wpOpIn;rw[ho'];simp only;have wan:∀q,gdV nt arr.toList o T=some q->Region.wanted o (yielded arr (@A nt f ⟨D⟩).tmps)=q:=fun q hq=>gdV_wanted I.e (by rw[<-hgd];exact hq)
 rcases cOpsD_cons hk with⟨hg,hk⟩|⟨hg,hk⟩
 .rw [wan _ hg];simp only[if_true];have hk':(dSole o.after.toList (stK ro o.dst (cOp P nt o.op)) (cOpsD P ro nt arr.toList l)).r ih W ⟨T,ds,h⟩=some s':=by
   generalize cOp P nt o.op=k at hk hs ⊢;cases k<;>first|exact hk|cases hs
  simp only[dSole]at hk'
  split at hk'
  .rename_i s1 h1;cases hb:stillW s1.h (dropW o.after.toList W)with
   |false=>rw[hb]at hk';cases hk'
   |true=>
    rw[hb]at hk';refine⟨fun _ _=>trivial,?_⟩;obtain⟨d,op,ty,ps,af,gd⟩:=o;refine op_sound2 J ⟨I.e,I.d,I.rep⟩ hop hro h1 fun L' f' D' w' V' v S' hT hV X'=>?_
    obtain⟨T1,ds1,h1'⟩:=s1;refine hK (dropW af.toList W) T1 ds1 h1' f' D' w' L' V' (I.both hap hi ho hrd hT hV S'.e S'.d S'.r X' fun j g Ti u hm hw _=>?_) hk';have hm':=mem_dropW hm hw;exact⟨stillW_spec hb _ hm',hm'⟩
  .cases hk'
 .rw [wan _ hg];simp only[Bool.false_eq_true,if_false];refine⟨fun _ _=>trivial,?_⟩;obtain⟨⟨T',e,hT⟩,hex⟩:=setD_two hk;obtain⟨V',hV⟩:=hex V (.tup []);rw[show(@A nt f ⟨D⟩).put o.dst undef= @A nt (updo f o.dst undef) ⟨D⟩ from A_put (D:=⟨D⟩) nt f o.dst undef];exact hK W T' ds h _ _ _ L V' (I.both hap hi ho hrd hT hV (hV.er I.e (den_undef L)) I.d I.rep (Ext.refl _ _ _) fun j g Ti u hm hw q=>⟨q,hm⟩) e
def left(n:Nat)(R:Array Bool):List Nat:=(List.range n).filter fun i=> !R.getD i true
theorem left_set{R:Array Bool}(hi:i<n)(hR:R.size=n)(hu:R.getD i true=false):(left n (R.setIfInBounds i true)).length<(left n R).length:=by
 have e:left n (R.setIfInBounds i true)=(left n R).filter fun j=> !(R.setIfInBounds i true).getD j true:=by
  unfold left;rw[List.filter_filter]
  congr 1
  funext j
  by_cases h:i=j
  .subst h;have:i<R.size:=by omega
   simp[this]
  .rw [getD_set_ne true h];simp
 rw[e];refine List.length_filter_lt_length_iff_exists.2 ⟨i,?_,?_⟩
 .unfold left;rw[List.mem_filter,List.mem_range,hu];exact⟨hi,rfl⟩
 .have:i<R.size:=by omega
  simp[this]
theorem getD_tf{R:Array Bool}(h:i<R.size):R.getD i true=R.getD i false:=by simp[h]
theorem Inv.all{arr:Array Oper}(I:Inv P nt arr.toList L0 h0 w0 tk W G T ds h R f D w L V)(hr:Region.ready .any arr R=[]):∀i∈tk,R.getD i false=true:=by
 have key:∀t,(∀i∈t,i∈tk)->Clo arr.toList t->∀i∈t,R.getD i false=true:=by
  intro t
  induction t with
  |nil=>intro _ _ i hi;cases hi
  |cons j t ih=>
   intro hsub hc i hi;have hrec:=ih (fun k hk=>hsub k (List.mem_cons_of_mem _ hk)) hc.2.2;rcases List.mem_cons.1 hi with rfl|hi
   .cases hb:R.getD i false with
    |true=>rfl
    |false=>
     have hlt:=I.rng i (hsub i (List.mem_cons_self ..));have hlt':i<R.size:=by rw[I.rsz];exact hlt
     obtain⟨o,ho⟩:∃o,arr.toList[i]?=some o:=⟨_,List.getElem?_eq_getElem hlt⟩;have:i∈Region.ready .any arr R:=mem_ready.2 ⟨by rw[getD_tf hlt'];exact hb,o,by rwa [Array.getElem?_toList]at ho,fun e he hbd=>by
      rw[binds_any]at hbd;exact hrec e.on (hc.2.1 o ho e.on (waits_spec.2 ⟨e,by simpa using he,hbd,rfl⟩))⟩
     rw[hr]at this;cases this
   .exact hrec i hi
 exact key tk (fun _ h=>h) I.clo
theorem any_sound{arr:Array Oper}(J:IHok P ih)(hap:Apart arr.toList)(hro:RoR L0 ro r)(hQ:∀L' f' D' w',Sim L' s' f' D' w'->Ext L0 h0 w0 L' s'.h w'->Q .normal (@A nt f' ⟨D'⟩) w'):
 ∀(fuel:Nat) {tk:List Nat} {W:List WE} {G:List (Nat×Nat)} {T:Tr SV} {ds:List DF} {h:H} {R:Array Bool} {f:Env} {D:List Deferred} {w:World} {L:Lay} {V:Tr SV} {k m:Nat} {l:List (Nat×Oper)},
  Inv P nt arr.toList L0 h0 w0 tk W G T ds h R f D w L V->(∀i,Nat.testBit m i=true↔i∈tk)->sched P nt arr.toList k m=some l->(cOpsD P ro nt arr.toList l).r ih W ⟨T,ds,h⟩=some s'->(left arr.toList.length R).length<=fuel->
  wpAnyIn (Fc r) 0 P .any arr Q fuel R (@A nt f ⟨D⟩) w:=by
 intro fuel;have done:∀{tk:List Nat} {W:List WE} {G:List (Nat×Nat)} {T:Tr SV} {ds:List DF} {h:H} {R:Array Bool} {f:Env} {D:List Deferred} {w:World} {L:Lay} {V:Tr SV} {k m:Nat} {l:List (Nat×Oper)},
  Inv P nt arr.toList L0 h0 w0 tk W G T ds h R f D w L V->(∀i,Nat.testBit m i=true↔i∈tk)->sched P nt arr.toList k m=some l->(cOpsD P ro nt arr.toList l).r ih W ⟨T,ds,h⟩=some s'->Region.ready .any arr R=[]->Q .normal (@A nt f ⟨D⟩) w:=by
  intro tk W G T ds h R f D w L V k m l I hm hs hk hr;have hall:=I.all hr;rcases sched_next hs with⟨rfl,_⟩|⟨i,o,l',k',rfl,ho,hb,hd,_,_⟩
  .cases hk
   refine hQ L f D w ⟨I.e.of fun s=>((I.slot s fun i hi hu=>?_)).symm,I.d,I.rep⟩ I.ext;have:=hall i hi;unfold un at hu;rw[this]at hu;cases hu
  .have hlt:=(List.getElem?_eq_some_iff.1 ho).1;have hlt':i<R.size:=by rw[I.rsz];exact hlt
   have hi:i∉tk:=fun h=>by rw[(hm i).2 h]at hb;cases hb
   have hu:R.getD i false=false:=by
    cases h:R.getD i false with
    |false=>rfl
    |true=>exact absurd (I.sub i h) hi
   have:i∈Region.ready .any arr R:=mem_ready.2 ⟨by rw[getD_tf hlt'];exact hu,o,by rwa [Array.getElem?_toList]at ho,fun e he hbd=>by
    rw[binds_any]at hbd;exact hall e.on ((hm _).1 (depsIn_spec.1 hd e (by simpa using he) hbd))⟩
   rw[hr]at this;cases this
 induction fuel with
 |zero=>
  intro tk W G T ds h R f D w L V k m l I hm hs hk hf;have hr:Region.ready .any arr R=[]:=by
   refine List.eq_nil_iff_forall_not_mem.2 fun i hi=>?_
   obtain⟨h1,o,h2,_⟩:=mem_ready.1 hi;have hlt:=(Array.getElem?_eq_some_iff.1 h2).1;have:i∈left arr.toList.length R:=by
    unfold left;rw[List.mem_filter,List.mem_range,h1];exact⟨by simpa using hlt,rfl⟩
   rw[List.length_eq_zero_iff.1 (Nat.le_zero.1 hf)]at this;cases this
  exact⟨hr,done I hm hs hk hr⟩
 |succ fuel ihf=>
  intro tk W G T ds h R f D w L V k m l I hm hs hk hf;refine⟨done I hm hs hk,fun i hi=>?_⟩;obtain⟨h1,o,h2,h3⟩:=mem_ready.1 hi;have ho:arr.toList[i]?=some o:=by rwa [Array.getElem?_toList]
  have hlt:=(List.getElem?_eq_some_iff.1 ho).1;have hlt':i<R.size:=by rw[I.rsz];exact hlt
  have hu:un R i:=by unfold un;rw[<-getD_tf hlt'];exact h1
  have hrd:∀k,waits k o.after.toList=true->R.getD k false=true:=fun k hk=>by
   obtain⟨e,he,hb,rfl⟩:=waits_spec.1 hk;exact h3 e (by simpa using he) (by rw[binds_any];exact hb)
  have hfl:=left_set (by simpa using hlt) I.rsz h1;have hf':(left arr.toList.length (R.setIfInBounds i true)).length<=fuel:=by omega
  clear hi h1 h2 h3
  induction l generalizing tk W G T h k m with
  |nil=>
   by_cases hit:i∈tk
   .exact I.real hap hit hu ho hrd fun f' w' L' V' I'=>ihf I' hm hs hk hf'
   .rcases sched_next hs with⟨_,hrl⟩|⟨_,_,_,_,h',_⟩
    .have:=readyL_mem (m:=m) (n:=0) ho (by rw[Nat.zero_add];cases hb:Nat.testBit m i with
      |false=>rfl
      |true=>exact absurd ((hm i).1 hb) hit) (depsIn_spec.2 fun e he hb=>(hm _).2 (I.sub _ (hrd _ (waits_spec.2 ⟨e,he,hb,rfl⟩))))
     rw[hrl]at this;cases this
    .cases h'
  |cons p l ihl=>
   by_cases hit:i∈tk
   .exact I.real hap hit hu ho hrd fun f' w' L' V' I'=>ihf I' hm hs hk hf'
   .rcases sched_next hs with⟨h',_⟩|⟨j,oj,l',k',h',hoj,hb,hd,hs',hsole⟩
    .cases h'
    .cases h'
     have hjt:j∉tk:=fun h=>by rw[(hm j).2 h]at hb;cases hb
     have hm':∀q,Nat.testBit (Nat.lor m (Nat.pow 2 j)) q=true↔q∈j::tk:=fun q=>by
      rw[lor_bit,Bool.or_eq_true,decide_eq_true_eq,List.mem_cons,hm q];exact⟨fun h=>h.elim .inr fun e=>.inl e.symm,fun h=>h.elim (fun e=>.inr e.symm) .inl⟩
     have hdep:∀k,waits k oj.after.toList=true->k∈tk:=fun k hk=>by
      obtain⟨e,he,hbd,rfl⟩:=waits_spec.1 hk;exact(hm _).1 (depsIn_spec.1 hd e he hbd)
     cases hns:(cOp P nt oj.op).sole with
     |false=>
      obtain⟨W',G',T',h',I',hk'⟩:=I.next hap hjt hoj hdep hns hk;exact ihl I' hm' hs' hk'
     |true=>
      have hrl:=hsole.resolve_left (by rw[hns];simp);have:=readyL_mem (m:=m) (n:=0) ho (by rw[Nat.zero_add];cases hb:Nat.testBit m i with
       |false=>rfl
       |true=>exact absurd ((hm i).1 hb) hit) (depsIn_spec.2 fun e he hb=>(hm _).2 (I.sub _ (hrd _ (waits_spec.2 ⟨e,he,hb,rfl⟩))))
      rw[hrl,Nat.zero_add]at this;have hij:i=j:=by cases(List.mem_singleton.1 this);rfl
      subst hij;rw[ho]at hoj;cases hoj
      exact I.sole J hap (hro.mono I.ext.le) hit ho hrd hns hk fun W' T' ds' h' f' D' w' L' V' I' hk'=>ihf I' hm' hs' hk' hf'
theorem draw_sound(hm:P.follows .mixedOrders=true)(J:IHok P ih){id:Nat}{arr:Array Oper}{l:List (Nat×Oper)}{s:St}(hap:okS arr.toList arr.toList 0=true)(S:Sim L s f D w)(hro:RoR L ro r)
 (hs:sched P nt arr.toList (arr.toList.length+1) 0=some l) (hk:(cOpsD P ro nt arr.toList l).r ih [] s=some s'):(Code.region id arr true).wpIn (Fc r) 0 P (CPost L s.h w nt .normal s') (@A nt f ⟨D⟩) w:=by
 obtain⟨T,ds,h⟩:=s;refine wpIn_region_any hm ?_;obtain⟨R1,X1⟩:=S.r.drew (w':={w with drawn:=w.drawn+1}) rfl rfl rfl rfl (Nat.le_succ _);have hz:∀i,(Array.replicate arr.size false).getD i false=false:=fun i=>by
  rw[Array.getD_eq_getD_getElem?];rw[Array.getElem?_replicate]
  split<;>rfl
 refine any_sound (L0:=L) (h0:=h) (w0:=w) J (apart_of hap) hro (fun L' f' D' w' S' X'=>⟨rfl,L',f',D',rfl,S',X'⟩) arr.size (tk:=[]) (W:=[]) (G:=[]) (T:=T) (V:=T) (k:=arr.toList.length+1) (m:=0) (l:=l)
  ⟨S.e,S.d,R1,X1,Yhs,(fun i hi=>by rw[hz]at hi;cases hi),(fun i hi=>by cases hi),trivial,(fun s _=>rfl),(fun p hp=>by cases hp),(fun p hp=>by cases hp),(fun i hi=>by cases hi)⟩ (fun i=>by simp) hs hk ?_
 unfold left;refine Nat.le_trans (List.length_filter_le _ _) ?_;simp
end
end
section
variable{n:Nat}{s':St}{w:World}
section
variable{P:Program}{ih:IH}{nt:Nat}{ro:Option Nat}{r:Option Nat}
theorem range_sound(I:IHok P ih){L:Lay}{T:Tr SV}{ds:List DF}{h:H}{f:Env}{D:List Deferred}{fid:Nat}{g:Operand}{ps:Array Nat}{asg body:Code}{x:X}(S:Sim L ⟨T,ds,h⟩ f D w)(hro:RoR L none r)
 (hk:rangeC fid none nt ps.toList asg body ih T ds h ((cO nt g).g T)=some (x,s')):(Code.rangeFunc g ps asg body).wpIn (Fc r) 0 P (CPost L h w nt x s') (@A nt f ⟨D⟩) w:=by
 have hr0:r=none:=hro;subst hr0;obtain⟨hE,hD,R⟩:=S;simp only at hE hD R;unfold rangeC at hk
 split at hk
 case h_2=>cases hk
 rename_i k a cap hg;obtain⟨h1,hk,hn1,hg1⟩:=new_spec hk;obtain⟨h2,hk,hn2,hg2⟩:=new_spec hk
 split at hk
 case h_2=>cases hk
 rename_i v h3 hf;obtain⟨xa,xc,d1,d2,d3⟩:=den_fn (cO_spec hE hg);refine wpIn_rangeFunc fun fn _=>?_
 obtain⟨w1,hw1⟩:=exq (w.alloc (.deferred (some [])));have hs1:w1.heap.size=w.heap.size+1:=by rw[hw1];simp
 obtain⟨R1,X1⟩:=R.new' (y:=(w.heap.size,0)) (so:=.dfr) (w':=w1) (Nat.le_refl _) Yhn hn1 hg1 (by rw[hw1];exact Fr.alloc _ _ _) (by rw[hw1];exact heap_alloc_new w _);obtain⟨L1,hL1⟩:=exq (updL L h.nx (w.heap.size,0));rw[<-hL1]at R1 X1;have hd1:L1 h.nx=some (w.heap.size,0):=by rw[hL1];exact updL_same _ _ _
 obtain⟨w2,hw2⟩:=exq (w1.alloc (.loop {state:=.ready,pending:=none,fn,tmps:=(@A nt f dfs0).tmps,params:=ps.toList.toArray,assign:=asg,body,defers:=w.heap.size}));have hL1n:=R1.no (i:=h1.nx) (Nat.le_refl _);obtain⟨R2,X2⟩:=R1.new' (y:=(w1.heap.size,0)) (so:=.loop .ready none fid nt T ps.toList asg body h.nx) (w':=w2) (Nat.le_refl _) (by rw[hw2];simp) hn2 hg2 (by rw[hw2];exact Fr.alloc _ _ _)
  ⟨f,(w.heap.size,0),fn,(hE.mono X1.le).mono (updL_le hL1n),updL_le hL1n _ _ hd1,by rw[hw2];exact heap_alloc_new w1 _⟩
 obtain⟨L2,hL2⟩:=exq (updL L1 h1.nx (w1.heap.size,0));rw[<-hL2]at R2 X2;have hl2:L2 h1.nx=some (w1.heap.size,0):=by rw[hL2];exact updL_same _ _ _
 have hd2:L2 h.nx=some (w.heap.size,0):=X2.le _ _ hd1;have hyl:den L2 (.yld h1.nx)=some (.func (.yield w1.heap.size) #[] #[]):=by unfold den;rw[hl2]
 have X12:=X1.trans X2;have hargs:=denL_app (denL_app (denL_mono' X12.le d1) (denL_one hyl)) (denL_mono' X12.le d2);obtain⟨⟨fn0,g1,g2,g3⟩,hC⟩:=I.f _ _ _ _ _ hf L2 w2 _ R2 hargs;have g2':¬fn0.name= "runtime.NumGoroutine":=by simpa using g2
 have g3':¬fn0.body=none:=by intro e;rw[e]at g3;cases g3
 refine⟨w1.heap.size,[{target:=.collected w.heap.size,args:=#[]}],w2,{target:=.fn (.func k) xc.toArray,args:=xa.toArray++#[Value.func (.yield w1.heap.size) #[] #[]]},w2,k,(xa++[Value.func (.yield w1.heap.size) #[] #[]]++xc).toArray,w2,?_,?_,fun _ _=>trivial,?_,fun hd=>by simp[Fence.wide]at hd,?_⟩
 .have he:=run_enterLoop_outer (P:=P) (w:=w) fn (@A nt f ⟨D⟩).tmps ps asg body;have e1:(@A nt f ⟨D⟩).tmps=(@A nt f dfs0).tmps:=rfl;have e2:ps.toList.toArray=ps:=by simp
  rw[hs1,hw2,hw1,e2,<-e1];exact he
 .simp only[resolve];have e1:(@A nt f ⟨D⟩).eval g=ev nt f g:=congrFun (A_eval (D:=⟨D⟩) nt f) g;rw[e1,d3];simp[Deferred.ofValue,Act.eval]
 .simp [invoke,callFunc,g1,g2',g3']
 .refine CallsIn.mono ((callsIn_wide (n:=0-1)).2 hC) ?_;rintro e w3 ⟨L3,y,rfl,_,R3,X3⟩;have hl3:=X3.le _ _ hl2;have hd3:=X3.le _ _ hd2;cases hg3:h3.get h1.nx with
  |none=>rw[hg3]at hk;cases hk
  |some so3=>
   rw[hg3]at hk;cases so3 with
   |loop st pend fid' nt' env ps' asg' body' d'=>
    obtain⟨f5,m5,fn5,u1,u2,u3⟩:=R3.get hl3 hg3;have hlt5:=(Array.getElem?_eq_some_iff.1 u3).1;unfold endLoop at hk;simp only at hk;have fin:st≠.busy->(h3.put h1.nx (.loop .over pend fid' nt' env ps' asg' body' d') fun h4=>match pend with
     |none=>some (X.normal,(⟨T,.mark h.nx::ds,h4⟩:St))
     |some c=>ih.c fid none nt c ⟨T,.mark h.nx::ds,h4⟩)=some (x,s')->rangePost (Fc none) 0 P w1.heap.size (CPost L h w nt x s') {@A nt f ⟨D⟩with defers:=[{target:=.collected w.heap.size,args:=#[]}]++D} (.returned y) w3:=by
     intro hst hk;obtain⟨h4,hk,hn4,hg4⟩:=put_spec hk;have hrun:=run_endLoop (P:=P) u3 (by intro e;apply hst;cases st<;>first|rfl|cases e);have hF5:∀o,Fr [w1.heap.size] w3 (w3.putObj w1.heap.size o):=fun o=>⟨rfl,rfl,rfl,by simp[World.putObj],fun k _ hk=>World.putObj_heap_other Yng,Nat.le_refl _⟩
     obtain⟨R5,X5⟩:=R3.put (so:=.loop .over pend fid' nt' env ps' asg' body' d') hl3 (by unfold live;rw[hg3];simp) hn4 hg4 (hF5 _) ⟨f5,m5,fn5,u1,u2,World.putObj_heap_same hlt5⟩;refine⟨pend,_,hrun,?_⟩;have X15:=(X12.trans X3).trans X5;have S5:Sim L3 ⟨T,.mark h.nx::ds,h4⟩ f ({target:=.collected w.heap.size,args:=#[]}::D) _:=⟨hE.mono (X12.trans X3).le,.mark hd3 (hD.mono (X12.trans X3).le),R5⟩;cases pend with
     |none=>
      simp only at hk ⊢;cases hk
      exact⟨rfl,L3,f,_,rfl,S5,X15⟩
     |some c=>
      simp only at hk ⊢;have hw:=I.c _ _ _ _ _ _ _ hk L3 f _ _ none S5 rfl;refine wpIn_mono hw ?_;rintro e1 a1 w6 ⟨rfl,L6,f6,D6,rfl,S6,X6⟩;exact⟨rfl,L6,f6,D6,rfl,S6,X15.trans X6⟩
    cases st with
    |busy=>cases hk
    |ready=>exact fin Yhs hk
    |done=>exact fin Yhs hk
    |over=>exact fin Yhs hk
   |_=>cases hk
theorem CPost.trans{L L1:Lay}{h h1:H}{w1:World}{x:X}(X1:Ext L h w L1 h1 w1){e:Exit}{a:Act}{w':World}(hp:CPost L1 h1 w1 nt x s' e a w'):CPost L h w nt x s' e a w':=by
 obtain⟨he,L',f',D',h1,h2,h3⟩:=hp;exact⟨he,L',f',D',h1,h2,X1.trans h3⟩
theorem wpIn_loopG{F:Fence}{c:Code}{Q:Exit->Act->World->Prop}{a:Act}(J:Nat->Act->World->Prop){m:Nat}(h0:J m a w)
 (hr:∀m a w,J m a w->c.wpIn F n P (Exit.then (fun a' w'=>∃m',m'<m/\J m' a' w') Q) a w):(Code.loop c).wpIn F n P Q a w:=by
 intro b k cs hro hb hroom;have key:∀m a w,J m a w->∃e a' w',Q e a' w'/\ArrivesIn (Machine.fenced P F) P (lone (b.atR a (.code c::.inLoop c::k)) cs w) b k cs e a' w':=by
  intro m
  induction m using Nat.strongRecOn with
  |_ m ih=>
   intro a w hJ;obtain⟨e,a1,w1,hq,harr⟩:=hr m a w hJ b (.inLoop c::k) cs hro hb hroom;cases e with
   |normal=>
    obtain⟨m',hlt,hJ'⟩:=hq;obtain⟨e2,a2,w2,hq2,harr2⟩:=ih m' hlt a1 w1 hJ';exact⟨e2,a2,w2,hq2,.of_steps (StepsIn.trans harr (.one (fenced_calm hb hroom rfl) stepR_inLoop)) harr2⟩
   |exit id=>exact⟨_,a1,w1,hq,.pass (x:=.inLoop c) rfl (fun _ _=>.inl Yhs) harr⟩
   |goto l=>exact⟨_,a1,w1,hq,.pass (x:=.inLoop c) rfl (fun _ _=>.inl Yhs) harr⟩
   |ret=>exact⟨_,a1,w1,hq,.pass (x:=.inLoop c) rfl (fun _ _=>.inl Yhs) harr⟩
   |panic ch=>exact⟨_,a1,w1,hq,.pass (x:=.inLoop c) rfl (fun _ _=>.inl Yhs) harr⟩
   |outgrown=>exact⟨_,a1,w1,hq,.pass (x:=.inLoop c) rfl (fun _ _=>.inl Yhs) harr⟩
 obtain⟨e,a',w',hq,harr⟩:=key m a w h0;exact⟨e,a',w',hq,.of_steps (.one (fenced_calm hb hroom rfl) stepR_loop) harr⟩
end
section
variable{P:Program}{orc:Nat->List SV->H->Option (SV×H)}
theorem code_sound(hm:P.follows .mixedOrders=true)(Hn:∀m,m<=n->IHok P (run P orc m)):∀(c:Code) (m:Nat),m<=n->∀fid ro nt s x s',(cC P fid ro nt c).r (run P orc m) s=some (x,s')->
 ∀L f D w r,Sim L s f D w->RoR L ro r->c.wpIn (Fc r) 0 P (CPost L s.h w nt x s') (@A nt f ⟨D⟩) w:=by
 intro c
 induction c with
 |skip=>
  intro m hmn fid ro nt s x s' hk L f D w r S hro;cases hk
  exact wpIn_skip ⟨rfl,L,f,D,rfl,S,Ext.refl _ _ _⟩
 |region id ops draw=>
  intro m hmn fid ro nt s x s' hk L f D w r S hro;cases draw with
  |false=>
   simp only[cC]at hk
   split at hk
   .rename_i s1 h1;cases hk
    refine wpIn_region_list (list_sound (Hn m hmn) S hro h1 fun L' f' D' w' S' X'=>⟨rfl,L',f',D',rfl,S',X'⟩)
   .cases hk
  |true=>
   simp only[cC]at hk;cases hap:okS ops.toList ops.toList 0 with
   |false=>rw[hap]at hk;cases hk
   |true=>
    rw[hap,cond_true]at hk
    split at hk
    .rename_i l hl;simp only at hk
     split at hk
     .rename_i s1 h1;cases hk
      exact draw_sound hm (Hn m hmn) hap S hro hl h1
     .cases hk
    .cases hk
 |seq a b iha ihb=>
  intro m hmn fid ro nt s x s' hk L f D w r S hro;simp only[cC]at hk
  split at hk
  .rename_i s1 h1;refine wpIn_seq (wpIn_mono (iha m hmn fid ro nt s _ s1 h1 L f D w r S hro) ?_);rintro e a1 w1 ⟨rfl,L1,f1,D1,rfl,S1,X1⟩;exact wpIn_mono (ihb m hmn fid ro nt s1 x s' hk L1 f1 D1 w1 r S1 (hro.mono X1.le)) fun e a w hp=>CPost.trans X1 hp
  .rename_i hne;refine wpIn_seq (wpIn_mono (iha m hmn fid ro nt s x s' hk L f D w r S hro) ?_);rintro e a1 w1 hp;cases x with
   |normal=>exact absurd hk (hne s')
   |exit id=>obtain⟨rfl,q⟩:=hp;exact⟨rfl,q⟩
   |ret=>obtain⟨rfl,q⟩:=hp;exact⟨rfl,q⟩
 |cond c a b iha ihb=>
  intro m hmn fid ro nt s x s' hk L f D w r S hro;simp only[cC,condV]at hk
  split at hk
  .rename_i t ht;have h1:=den_bool (cO_spec S.e ht);have h2:(@A nt f ⟨D⟩).eval c=.bool t:=(congrFun (A_eval (D:=⟨D⟩) nt f) c).trans h1;cases t with
   |true=>exact wpIn_cond_true h2 (iha m hmn fid ro nt s x s' hk L f D w r S hro)
   |false=>exact wpIn_cond_false h2 (ihb m hmn fid ro nt s x s' hk L f D w r S hro)
  .cases hk
 |block id c ih=>
  intro m hmn fid ro nt s x s' hk L f D w r S hro;simp only[cC]at hk
  split at hk
  .rename_i j s1 h1;cases hk
   refine wpIn_block (wpIn_mono (ih m hmn fid ro nt s _ _ h1 L f D w r S hro) ?_);rintro e a1 w1 ⟨rfl,q⟩;show Exit.inBlock id _ (.exit j) a1 w1;simp only[Exit.inBlock,nbeq];by_cases hj:j=id
   .rw [if_pos hj,decide_eq_true hj];exact⟨rfl,q⟩
   .rw [if_neg hj,decide_eq_false hj];exact⟨rfl,q⟩
  .rename_i hne;refine wpIn_block (wpIn_mono (ih m hmn fid ro nt s x s' hk L f D w r S hro) ?_);rintro e a1 w1 hp;cases x with
   |normal=>obtain⟨rfl,q⟩:=hp;exact⟨rfl,q⟩
   |exit id=>exact absurd hk (hne _ _)
   |ret=>obtain⟨rfl,q⟩:=hp;exact⟨rfl,q⟩
 |loop c ih=>
  intro m hmn fid ro nt s x s' hk L f D w r S hro;refine wpIn_loopG (fun k a u=>k<=n/\∃L1 f1 D1 s1,a= @A nt f1 ⟨D1⟩/\Sim L1 s1 f1 D1 u/\Ext L s.h w L1 s1.h u/\(cC P fid ro nt (.loop c)).r (run P orc k) s1=some (x,s')) (m:=m) ⟨hmn,L,f,D,s,rfl,S,Ext.refl _ _ _,hk⟩ ?_;rintro k a u ⟨hkn,L1,f1,D1,s1,rfl,S1,X1,hk1⟩;simp only[cC]at hk1
  split at hk1
  .rename_i s2 h2;refine wpIn_mono (ih k hkn fid ro nt s1 _ s2 h2 L1 f1 D1 u r S1 (hro.mono X1.le)) ?_;rintro e a2 w2 ⟨rfl,L2,f2,D2,rfl,S2,X2⟩;cases k with
   |zero=>cases hk1
   |succ k=>exact⟨k,Nat.lt_succ_self k,by omega,L2,f2,D2,s2,rfl,S2,X1.trans X2,hk1⟩
  .rename_i hne;refine wpIn_mono (ih k hkn fid ro nt s1 x s' hk1 L1 f1 D1 u r S1 (hro.mono X1.le)) ?_;rintro e a1 w1 hp;have hp':=CPost.trans X1 hp;cases x with
   |normal=>exact absurd hk1 (hne _)
   |exit id=>obtain⟨rfl,q⟩:=hp';exact⟨rfl,q⟩
   |ret=>obtain⟨rfl,q⟩:=hp';exact⟨rfl,q⟩
 |exit id=>
  intro m hmn fid ro nt s x s' hk L f D w r S hro;cases hk
  exact wpIn_exit ⟨rfl,L,f,D,rfl,S,Ext.refl _ _ _⟩
 |ret=>
  intro m hmn fid ro nt s x s' hk L f D w r S hro;cases hk
  exact wpIn_ret ⟨rfl,L,f,D,rfl,S,Ext.refl _ _ _⟩
 |rangeFunc g ps asg body ih1 ih2=>
  intro m hmn fid ro nt s x s' hk L f D w r S hro;cases ro with
  |some l=>cases hk
  |none=>
   obtain⟨T,ds,h⟩:=s;exact range_sound (Hn m hmn) S hro hk
 |_=>intro m hmn fid ro nt s x s' hk;cases hk
end
end
end Go.Ev
