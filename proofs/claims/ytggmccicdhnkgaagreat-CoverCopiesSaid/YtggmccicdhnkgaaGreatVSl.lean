/-
 The library's sort of branches and of pairs of branches at this program's numbers (laid by the kit's tool).
-/
import Derived.Test.YtggmccicdhnkgaaGreatVCj
import Derived.Test.YtggmccicdhnkgaaGreatVCq
import Derived.Shelf.SlSortCmp.NoneTotal
import Derived.Test.YtggmccicdhnkgaaGreatVWr
set_option linter.all false
set_option maxHeartbeats 64000000
namespace Go.Proofs.YtggmccicdhnkgaaGreat
open Go.Proofs.Tryz
open Go.Rf Go.RowKit
variable{S T Z:List Nat}{oB:List Value}{fk:Nat}{u w0 y:World}
attribute [local irreducible] Code.wp wpList Exit.then Exit.inBlock bodyPost A Calls execOp Addr.add
theorem _root_.Go.Rf.LO.strs{w1:World}{S':List Nat}{e:Nat}{l:List ByteArray}{v:Value}(h:LO w0 S u e 1 JV l v)(hw:w1.heap.size<=w0.heap.size):LO w1 S' u e 1 JV l v:=by
 obtain⟨⟨ys,h1,h2⟩,h3⟩:=h;exact⟨⟨ys,h1,h2.imp (fun x cs _ h=>LG h)⟩,fun b hb=>CG hw (h3 b hb)⟩
theorem Jew:∀(m:Nat) (e:Ex),jc e<=m->(oA e).length<=1000000->∀(cs:List Value) (w:World) (S:List Nat),RD w S (aU e) cs->
 Calls prog 135 #[.agg cs.toArray] w fun en w'=>∃v,en=.returned v/\LO w [] w' 9 1 JV (oA e) v/\Fr [] w w':=by
 intro m
 induction m with
 |zero=>intro e h;rw[XA]at h;omega
 |succ m ih=>
  intro e ht hz cs w S hd;obtain⟨s1,s2,s3,rfl,ee,cu,hk⟩:=fW.1 hd;obtain⟨a1,c1,rfl,_⟩:=DR.slice (rows:=_) ee;obtain⟨a2,c2,rfl,_⟩:=cu.slice;obtain⟨a3,c3,rfl,_⟩:=hk.slice;have gM:=hk.bound;have e0:=XA e;have hl:(e.kids.map aU).length=e.kids.length:=Sr ..;have sX:=Jju e;refine enter func135 rfl ntmps135 rfl ?_;refine rx ?_;refine Ju (l:=uS e (.slice a1 (e.names.map JV).length c1) (.slice a2 (e.binds.map JD).length c2) (.slice a3 (e.kids.map aU).length c3)) rfl rfl (fun w1 b nQ bJ aj bh=>?_);have bJ:aG w1 b [iV e.kind,.string e.name,iV e.n,.slice a1 (e.names.map JV).length c1,.slice a2 (e.binds.map JD).length c2,.slice a3 (e.kids.map aU).length c3,iV e.at_] 95:=bJ;have hk:=hk.tr0 aj;have hF:Fr [] w1 w1:=Fr.refl _ _;have hb:=bJ;by_cases h3:e.kind=3
  .rw [Cb h3]at sX;refine rx ?_;refine Xk (a:=e.name) (LO.nil (w0:=w1) (S:=[])) XE rfl rfl rfl (cs:=[.string e.name]) (.cons (.c rfl) .nil) rfl rfl rfl Y2 ap ab (fun v2 u2 hL fv=>?_);have hF:=fv _ hF;have hb:=bJ.tr0 hF;have hL:LO w1 [] u2 9 1 JV [e.name] v2:=hL;refine rx ?_;refine Jh 5 [3,4] (σ:=Nat×Value) (fun s g u=>g 4=iV s.1/\g 3=s.2/\s.1<=e.kids.length/\LO w1 [] u 9 1 JV ([e.name]++(e.kids.take s.1).flatMap oA) s.2/\Fr [] w1 u) (fun s=>e.kids.length-s.1) (0,_) ⟨rfl,rfl,SL _,by simpa using hL,hF⟩ ?_;clear hL hF;rintro⟨i,v⟩ g u ⟨g1,g2,hi,hL,hF⟩;simp only at g1 g2 hi hL;rw[Ja g1,Ja g2];clear g1 g2;have cI:=hF.size;have hb:=bJ.tr0 hF;by_cases aC:i<e.kids.length
   case neg=>
    refine bM ?_;rw[SQ ab,<-sX]at hL;exact⟨_,rfl,hL.strs ab,aj.Jb hF⟩
   obtain⟨ad,gU,bi,hr,hc⟩:=DR.at Jq (hk.tr0 hF) aC;subst bi;have gY:=hr;obtain⟨x1,x2,x3,rfl,eu,qO,mg⟩:=fW.1 hr;have hg:=WA aC;have hlen:=WJ e.kids oA (i+1);rw[KP aC,Sm]at hlen;have oo:=CZ List.length sX;simp only[Sm,SI,SY]at oo;have iT:([e.name]++(e.kids.take i).flatMap oA).length=([e.name]:List ByteArray).length+((e.kids.take i).flatMap oA).length:=Sm;exact Ydv
  .rw [SH h3]at sX;have hL:LO w1 [] w1 9 1 JV [] (zS):=LO.nil;refine rx ?_;refine Jh 5 [3,4] (σ:=Nat×Value) (fun s g u=>g 4=iV s.1/\g 3=s.2/\s.1<=e.kids.length/\LO w1 [] u 9 1 JV ([]++(e.kids.take s.1).flatMap oA) s.2/\Fr [] w1 u) (fun s=>e.kids.length-s.1) (0,_) ⟨rfl,rfl,SL _,by simpa using hL,hF⟩ ?_;clear hL hF;rintro⟨i,v⟩ g u ⟨g1,g2,hi,hL,hF⟩;simp only at g1 g2 hi hL;rw[Ja g1,Ja g2];clear g1 g2;have cI:=hF.size;have hb:=bJ.tr0 hF;by_cases aC:i<e.kids.length
   case neg=>
    refine bM ?_;rw[SQ ab,<-sX]at hL;exact⟨_,rfl,hL.strs ab,aj.Jb hF⟩
   obtain⟨ad,gU,bi,hr,hc⟩:=DR.at Jq (hk.tr0 hF) aC;subst bi;have gY:=hr;obtain⟨x1,x2,x3,rfl,eu,qO,mg⟩:=fW.1 hr;have hg:=WA aC;have hlen:=WJ e.kids oA (i+1);rw[KP aC,Sm]at hlen;have oo:=CZ List.length sX;simp only[Sm,SI,SY]at oo;have iT:([]++(e.kids.take i).flatMap oA).length=([]:List ByteArray).length+((e.kids.take i).flatMap oA).length:=Sm;exact Ydv
section
variable{σ:Type}
def oC(Ok:σ->Ex->Prop)(step:σ->Ex->σ):σ->List Ex->Prop
 |_,[]=>True
 |s,e::l=>Ok s e/\oC Ok step (step s e) l
theorem oC.app{Ok:σ->Ex->Prop}{step:σ->Ex->σ}:∀{a:List Ex} {s:σ} {b:List Ex},oC Ok step s (a++b)↔oC Ok step s a/\oC Ok step (a.foldl step s) b
 |[],s,b=>by simp[oC]
 |e::a,s,b=>by
  simp only[CQ,oC,Dz];rw[oC.app (a:=a)];exact and_assoc.symm
def FZ(Z:List Nat)(u y:World):Prop:=∃L,Fr L u y/\∀x∈L,x∉Z
theorem FZ.of0(h:Fr [] u y):FZ Z u y:=⟨[],h,by simp⟩
theorem FZ.trans{z:World}(h:FZ Z u y)(k:FZ Z y z):FZ Z u z:=by
 obtain⟨L,h1,h2⟩:=h;obtain⟨L',k1,k2⟩:=k;exact⟨L++L',(h1.mono (fun x hx=>.inl lA)).trans k1 (fun x hx=>.inl lA),fun x hx=>(SE.1 hx).elim (h2 x) (k2 x)⟩
theorem FZ.blk{b t:Nat}{l:List Value}(h:FZ Z u y)(hb:aG u b l t)(hZ:b∈Z):aG y b l t:=by
 obtain⟨L,h1,h2⟩:=h;exact hb.tr h1 (fun hm=>h2 _ hm hZ)
structure SeeC (fk:Nat) (oB:List Value) (Inv:List Nat->σ->World->Prop) (Ok:σ->Ex->Prop) (step:σ->Ex->σ) (T S:List Nat) (w0:World):Prop where
 sub:∀b∈T,b∈S
 lt:∀b∈T,b<w0.heap.size
 more:∀(Z Z':List Nat) (s:σ) (u u':World),Inv Z s u->Fr [] u u'->(∀x∈Z',x∈Z\/(u.heap.size<=x/\x<u'.heap.size))->Inv Z' s u'
 call:∀(Z:List Nat) (s:σ) (e:Ex) (u:World) (a:Addr) (cs:List Value),Inv Z s u->Ok s e->Fr T w0 u->RD w0 S (aU e) cs->Cells w0 a cs->a.block∉S->
  Calls prog fk ((Value.pointer (some a))::oB).toArray u fun en u'=>en=.returned (.tuple #[])/\Inv Z (step s e) u'/\FZ Z u u'/\Fr T w0 u'
 fn:FnT prog fk
theorem SeeC.JjL{Inv:List Nat->σ->World->Prop}{Ok:σ->Ex->Prop}{step:σ->Ex->σ}(H:SeeC fk oB Inv Ok step T S w0){s:σ}{u':World}(h:Inv Z s u)(hf:Fr [] u u'):Inv Z s u':=H.more Z Z s u u' h hf (fun x hx=>.inl hx)
theorem JjC{Inv:List Nat->σ->World->Prop}{Ok:σ->Ex->Prop}{step:σ->Ex->σ}(H:SeeC fk oB Inv Ok step T S w0)(bs bw tb1 tb2:Nat)(Z:List Nat)(ο:bs∈Z)(Tv:bw∈Z):
 ∀(m:Nat) (e:Ex),jc e<=m->∀(s:σ) (u:World) (a:Addr) (cs:List Value),oC Ok step s (Qo e)->Inv Z s u->Fr T w0 u->aG u bs [.func (.func fk) #[] oB.toArray] tb1->aG u bw [.func (.func 91) #[] #[.pointer (some ⟨bs,0,none⟩),.pointer (some ⟨bw,0,none⟩)]] tb2->RD w0 S (aU e) cs->Cells w0 a cs->a.block∉S->
 Calls prog 91 #[.pointer (some a),.pointer (some ⟨bs,0,none⟩),.pointer (some ⟨bw,0,none⟩)] u fun en u'=>en=.returned (.tuple #[])/\Inv Z ((Qo e).foldl step s) u'/\FZ Z u u'/\Fr T w0 u':=by
 intro m
 induction m with
 |zero=>intro e h;rw[XA]at h;omega
 |succ m ih=>
  intro e ht s u a cs aw hI eG bJ dN hd hc Y3;rw[ZP]at aw;obtain⟨eU,aw⟩:=aw;have pK:=hd;obtain⟨s1,s2,s3,rfl,ee,cu,hk⟩:=fW.1 hd;obtain⟨a1,c1,rfl,_⟩:=DR.slice (rows:=_) ee;obtain⟨a2,c2,rfl,_⟩:=cu.slice;obtain⟨a3,c3,rfl,_⟩:=hk.slice;have gM:=hk.bound;have e0:=XA e;have hl:(e.kids.map aU).length=e.kids.length:=Sr ..
  haveI:=H.fn
  have π:a.block∉T:=fun h=>Y3 (H.sub _ h)
  refine enter func91 rfl ntmps91 rfl ?_;refine rx ?_;refine ZF (first:=[]) (cap:=oB) (H.call Z s e u a _ hI eU eG pK hc Y3) rfl rfl rfl ?_;rintro _ u1 ⟨rfl,hI,hZ,ej⟩;refine⟨_,rfl,?_⟩;have bJ:=hZ.blk bJ ο;have dN:=hZ.blk dN Tv;have hc:Cells w0 a [iV e.kind,.string e.name,iV e.n,.slice a1 (e.names.map JV).length c1,.slice a2 (e.binds.map JD).length c2,.slice a3 (e.kids.map aU).length c3,iV e.at_]:=hc;have mB:=hc.tr ej π;refine rx ?_;refine Jh 3 [] (σ:=Nat) (fun i g u2=>g 12=iV (e.kids.map aU).length/\g 13=iV i/\i<=e.kids.length/\Inv Z ((Js (e.kids.take i)).foldl step (step s e)) u2/\FZ Z u1 u2/\Fr T w0 u2) (fun i=>e.kids.length-i) 0 ⟨rfl,rfl,SL _,hI,.of0 (Fr.refl _ _),ej⟩ ?_;clear hI;rintro i g u2 ⟨g2,g3,hi,hI,yc,aS⟩;rw[Ja g2,Ja g3];have bJ:=yc.blk bJ ο;have dN:=yc.blk dN Tv;have mB:=hc.tr aS π;by_cases aC:i<e.kids.length
  case neg=>
   refine rx ?_;rw[SQ ab]at hI;refine WI rfl ⟨rfl,?_,hZ.trans yc,aS⟩;rw[ZP,Dz];exact hI
  obtain⟨ad,gU,bi,hr,qp⟩:=DR.at Jq hk aC;subst bi;obtain⟨ys,xK,py,lO⟩:=hk.typed;have hyl:ys.length=e.kids.length*7:=Rws.len (fun x cs h=>by rw[RD.len h,Jq]) lO;have iz:0<ys.length:=by omega
  have bi:(ad.add (i*7)).block∉S:=by
   have h1:=py ad _ _ rfl iz
   rwa [show(ad.add (i*7)).block=ad.block from by unfold Addr.add;split<;>rfl]
  have hg:=WA aC;have yd:oC Ok step ((Js (e.kids.take i)).foldl step (step s e)) (Qo e.kids[i]):=by
   have e1:Js e.kids=Js (e.kids.take i)++(Qo e.kids[i]++Js (e.kids.drop (i+1))):=by
    conv=>lhs;rw[<-List.take_append_drop i e.kids,Xq,Dh aC,Js]
   rw[e1,oC.app,oC.app]at aw;exact aw.2.1
  refine rx ?_;refine JE (fun y=>FZ Z u2 y/\Fr T w0 y) az rfl ?_;obtain⟨u3,mg⟩:=aP u2.drew;rw[<-mg];have aF:Fr [] u2 u3:=mg▸Fr.drew _ _;have hS:FZ Z u2 u3/\Fr T w0 u3:=⟨.of0 aF,aS.Jb aF⟩;refine Kw 0 hS ?_ (aw:=by(intro u hu;exact(J7 rfl (aG.cell (FZ.blk hu.1 dN Tv) rfl))));refine JX 1 2 hS ?_;refine bH 3 hS ?_;refine Kw 4 hS ?_ (aw:=by(intro u hu;exact(J7 rfl (Cells.get (Cells.tr hc hu.2 π) rfl))));refine JX 5 6 hS ?_;refine Tu ?_;refine ZF (first:=[]) (cap:=[.pointer (some ⟨bs,0,none⟩),.pointer (some ⟨bw,0,none⟩)]) (ih e.kids[i] ab _ u3 (ad.add (i*7)) gU yd (H.JjL hI aF) hS.2 (bJ.tr0 aF) (dN.tr0 aF) hr qp bi) rfl rfl rfl ?_;rintro _ u4 ⟨rfl,hI4,hZ4,bq⟩;refine⟨_,rfl,?_⟩;have j6:FZ Z u2 u4/\Fr T w0 u4:=⟨hS.1.trans hZ4,bq⟩;refine wpList_nil (Jv j6 ?_);refine j5 ?_;refine Jc (i+1) a6 ⟨rfl,rfl,aC,?_,yc.trans j6.1,bq⟩ ab;rw[SK aC,Xq,List.foldl_append];have:Js [e.kids[i]]=Qo e.kids[i]:=by rw[Js,Js,Ce]
  rw[this];exact hI4
theorem JeZ{Inv:List Nat->σ->World->Prop}{Ok:σ->Ex->Prop}{step:σ->Ex->σ}(H:SeeC fk oB Inv Ok step T S w0)(l:List Ex)(yb:∀e∈l,jc e<=1000)(v:Value)(w:World)(eG:Fr T w0 w)(Z:List Nat)(hZw:∀x∈Z,x<w.heap.size)(s:σ)(aw:oC Ok step s (Js l))(hI:Inv Z s w)(hd:DR w0 S (.l (l.map aU)) v):
 Calls prog 43 #[v,.func (.func fk) #[] oB.toArray] w fun en w'=>en=.returned (.tuple #[])/\(∃Z':List Nat,(∀x∈Z,x∈Z')/\Inv Z' ((Js l).foldl step s) w')/\FZ Z w w'/\Fr T w0 w':=by
 have dx:=hd.bound;have hl:(l.map aU).length=l.length:=Sr ..;obtain⟨ao,c,rfl,_⟩:=hd.slice
 haveI:=H.fn
 refine enter func43 rfl ntmps43 rfl ?_;refine rx ?_;refine Ju (l:=[.func (.func fk) #[] oB.toArray]) rfl rfl (fun w1 bs sY bJ aj bh=>?_);refine rx ?_;refine Jm (l:=[.nilFunc]) rfl (fun w2 bw jd dN aq cz=>?_);refine rx ?_;refine XM (a:=[]) (b:=[.pointer (some ⟨bs,0,none⟩),.pointer (some ⟨bw,0,none⟩)]) rfl rfl ?_;refine rx ?_
 ((with_reducible apply Ji);exact rfl;(conv=>lhs;whnf);exact rfl;exact dN;exact rfl)
 intro w3 dN aF dO;replace dN:aG w3 bw [.func (.func 91) #[] #[.pointer (some ⟨bs,0,none⟩),.pointer (some ⟨bw,0,none⟩)]] _:=dN;have bJ:=(bJ.tr0 aq).tr aF aZ;have aV:Fr [] w w3:=(aj.Jb aq).trans aF (fun x hx=>.inr bt);have hI:=H.more Z (bs::bw::Z) s w w3 hI aV (fun x hx=>by
  rcases SC.1 hx with rfl|hx
  .exact .inr ⟨by omega,by omega⟩
  .rcases SC.1 hx with rfl|hx
   .exact .inr ⟨by omega,by omega⟩
   .exact .inl hx)
 obtain⟨Z',yc⟩:=aP (bs::bw::Z);rw[<-yc]at hI;have ο:bs∈Z':=by rw[yc];simp
 have Tv:bw∈Z':=by rw[yc];simp
 have hZs:∀x∈Z,x∈Z':=fun x hx=>by rw[yc];simp[hx]
 refine rx ?_;refine Jh 5 [] (σ:=Nat) (fun i g u2=>g 8=iV (l.map aU).length/\g 9=iV i/\i<=l.length/\Inv Z' ((Js (l.take i)).foldl step s) u2/\FZ Z' w3 u2/\Fr T w0 u2) (fun i=>l.length-i) 0 ⟨rfl,rfl,SL _,hI,.of0 (Fr.refl _ _),eG.Jb aV⟩ ?_;clear hI;rintro i g u2 ⟨g2,g3,hi,hI,hZ,aS⟩;rw[Ja g2,Ja g3];have bJ:=hZ.blk bJ ο;have dN:=hZ.blk dN Tv;by_cases aC:i<l.length
 case neg=>
  refine rx ?_;rw[SQ ab]at hI;refine WI rfl ⟨rfl,⟨Z',hZs,hI⟩,?_,aS⟩;obtain⟨L,h1,h2⟩:=(FZ.of0 (Z:=Z') aV).trans hZ;exact⟨L,h1,fun x hx hm=>h2 x hx (hZs x hm)⟩
 obtain⟨ad,gU,bi,hr,qp⟩:=DR.at Jq hd aC;subst bi;obtain⟨ys,xK,py,lO⟩:=hd.typed;have hyl:ys.length=l.length*7:=Rws.len (fun x cs h=>by rw[RD.len h,Jq]) lO;have iz:0<ys.length:=by omega
 have bi:(ad.add (i*7)).block∉S:=by
  have h1:=py ad _ _ rfl iz
  rwa [show(ad.add (i*7)).block=ad.block from by unfold Addr.add;split<;>rfl]
 have yd:oC Ok step ((Js (l.take i)).foldl step s) (Qo l[i]):=by
  have e1:Js l=Js (l.take i)++(Qo l[i]++Js (l.drop (i+1))):=by
   conv=>lhs;rw[<-List.take_append_drop i l,Xq,Dh aC,Js]
  rw[e1,oC.app,oC.app]at aw;exact aw.2.1
 refine rx ?_;refine JE (fun y=>FZ Z' u2 y/\Fr T w0 y) az rfl ?_;obtain⟨u3,mg⟩:=aP u2.drew;rw[<-mg];have aI:Fr [] u2 u3:=mg▸Fr.drew _ _;have hS:FZ Z' u2 u3/\Fr T w0 u3:=⟨.of0 aI,aS.Jb aI⟩;refine Kw 0 hS ?_ (aw:=by(intro u hu;exact(J7 rfl (aG.cell (FZ.blk hu.1 dN Tv) rfl))));refine JX 1 2 hS ?_;refine bH 3 hS ?_;refine zw ?_;refine ZF (first:=[]) (cap:=[.pointer (some ⟨bs,0,none⟩),.pointer (some ⟨bw,0,none⟩)]) (JjC H bs bw _ _ Z' ο Tv 1000 l[i] (yb _ (Cj aC)) _ u3 (ad.add (i*7)) gU yd (H.JjL hI aI) hS.2 (bJ.tr0 aI) (dN.tr0 aI) hr qp bi) rfl rfl rfl ?_;rintro _ u4 ⟨rfl,hI4,hZ4,bq⟩;refine⟨_,rfl,?_⟩;have j6:FZ Z' u2 u4/\Fr T w0 u4:=⟨hS.1.trans hZ4,bq⟩;refine wpList_nil (Jv j6 ?_);refine j5 ?_;refine Jc (i+1) a6 ⟨rfl,rfl,aC,?_,hZ.trans j6.1,bq⟩ ab;rw[SK aC,Xq,List.foldl_append];have:Js [l[i]]=Qo l[i]:=by rw[Js,Js,Ce]
 rw[this];exact hI4
end
end Go.Proofs.YtggmccicdhnkgaaGreat
namespace Go.Rf
open Go.RowKit
theorem mh{w:World}{a:Addr}{v:Value}(h:w.cell? a=some v):a.block<w.heap.size:=by
 rcases DF a.block w.heap.size with h1|h1
 .exact h1
 .simp [World.cell?,FW h1]at h
end Go.Rf
namespace Go.Proofs.YtggmccicdhnkgaaGreat
open Go.Proofs.Tryz
open Go.Rf Go.RowKit
variable{nm:ByteArray}
attribute [local irreducible] Code.wp wpList Exit.then Exit.inBlock bodyPost A Calls execOp Addr.add
def OfI(q tq:Nat)(w0:World)(Z:List Nat)(acc:List Br)(u:World):Prop:=∃v,aG u q [v] tq/\BO w0 50 u acc v/\(∀x∈ag v,x∉Z)/\q∉Z/\∀x∈Z,x<u.heap.size
def τ(acc:List Br)(e:Ex):Prop:=acc.length+Qx e<=1000000
theorem JkP(nm:ByteArray)(b q tq:Nat)(dc:List Value)(td:Nat)(lm:dc[1]?=some (.string nm))(S:List Nat)(w0:World)(ln:aG w0 b dc td)(ah:b≠q)(hq:q<w0.heap.size)(cX:q∈S):
 SeeC 90 [.pointer (some ⟨q,0,none⟩),.pointer (some ⟨b,0,none⟩)] (OfI q tq w0) τ (fun acc e=>acc++Xi nm e) [q] S w0 where
 sub:=fun x hx=>by rw[Sv.1 hx];exact cX
 lt:=fun x hx=>by rw[Sv.1 hx];exact hq
 more:=fun Z Z' acc u u' ⟨v,h1,h2,h3,h4,h5⟩ hf hZ=>by
  have fA:=hf.size;refine⟨v,h1.tr0 hf,h2.tr0 hf,fun x hx hm=>?_,fun hm=>?_,fun x hx=>?_⟩
  .rcases hZ x hm with h|h
   .exact h3 x hx h
   .have:=h2.1.lt x hx;omega
  .rcases hZ q hm with h|h
   .exact h4 h
   .have:=h1.lt;omega
  .rcases hZ x hx with h|h
   .have:=h5 x h;omega
   .exact h.2
 fn:=inferInstance
 call:=by
  rintro Z acc e u a cs ⟨v,gJ,hL,tX,Tw,qP⟩ eU eG hd hc Y3;have υ:a.block∉[q]:=fun h=>Y3 (by rw[Sv.1 h];exact cX)
  obtain⟨s1,s2,s3,rfl,ee,cu,hk⟩:=fW.1 hd;obtain⟨a1,c1,rfl,_⟩:=DR.slice (rows:=_) ee;have Tt:=DR.bound (rows:=_) ee;have fJ:(e.names.map JV).length=e.names.length:=Sr ..;have halt:a.block<w0.heap.size:=by
   have h1:=mh (hc.get (j:=0) rfl)
   rwa [show(a.add 0).block=a.block from by unfold Addr.add;split<;>rfl]at h1
  have hc:Cells w0 a [iV e.kind,.string e.name,iV e.n,.slice a1 (e.names.map JV).length c1,s2,s3,iV e.at_]:=hc;have mB:=hc.tr eG υ;have jX:=eG.size;unfold τ at eU;have hZ0:FZ Z u u:=.of0 (Fr.refl _ _);refine enter func90 rfl ntmps90 rfl ?_;rcases(by omega:e.kind=6\/e.kind=8\/(e.kind≠6/\e.kind≠8))with h|h|h
  .have ha:Qx e=2:=by unfold Qx;rw[Cb h]
   exact Yg
  .have ha:Qx e=e.names.length:=by unfold Qx;rw[SH ab,Cb h]
   exact Yg
  .have ha:Qx e=0:=by unfold Qx;rw[SH h.1,SH h.2]
   exact Yg
theorem Jfp:∀{l:List Ex} {acc:List Br},acc.length+(l.flatMap (Xi nm)).length<=1000000->oC τ (fun acc e=>acc++Xi nm e) acc l
 |[],_,_=>trivial
 |e::l,acc,h=>by
  rw[CP,Sm,GY]at h;refine⟨by unfold τ;omega,Jfp ?_⟩;rw[Sm,GY];omega
theorem Jb8:∀{l:List Ex} {acc:List Br},l.foldl (fun acc e=>acc++Xi nm e) acc=acc++l.flatMap (Xi nm)
 |[],acc=>by simp
 |e::l,acc=>by rw[Dz,Jb8,CP,List.append_assoc]
theorem ofC(d:De)(hp:(Jw d).length<=1000000)(hz:(mf d).length<=1000000)(yb:∀e∈Jw d,jc e<=1000)(cs:List Value)(w:World)(S:List Nat)(hS:∀b∈S,b<w.heap.size)(hd:RD w S (eR d) cs):
 Calls prog 42 #[.agg cs.toArray] w fun en w'=>∃v,en=.returned v/\BO w 50 w' (mf d) v/\Fr [] w w':=by
 have pK:=hd;obtain⟨_,rfl,r1⟩:=RD.JI (x:=iV d.kind) hd;obtain⟨_,rfl,r2⟩:=RD.JI (x:=.string d.name) r1;obtain⟨_,rfl,r3⟩:=RD.JI (x:=iV d.at_) r2;obtain⟨ct,iO,_,rfl,ni,r4⟩:=RD.lst (rows:=d.ctors.map iP) r3;obtain⟨pm,iG,_,rfl,tS,r5⟩:=RD.lst (rows:=d.params.map eK) r4;obtain⟨xN,_,rfl,nR,ee,r6⟩:=RD.ty (t:=d.type) r5;obtain⟨ty,ix,rfl,_⟩:=ee.slice;obtain⟨gV,dy,dz,gW,dA,dC,gX,dD,dE,_,rfl,qt,r7⟩:=RD.ex (e:=d.body) r6;obtain⟨_,rfl,r8⟩:=RD.JI (x:=iV d.depth) r7;obtain⟨gA,cY,cZ,gB,c8,c9,gC,da,de,_,rfl,hJ,r9⟩:=RD.gn (g:=d.gen) r8;obtain⟨dw,gv,_,rfl,uI,kx⟩:=RD.lst (rows:=d.draws.map fj) r9;obtain⟨ck,fX,_,rfl,iy,ky⟩:=RD.lst (rows:=d.checks.map dM) kx;obtain⟨cs,fR,_,rfl,fG,kz⟩:=RD.lst (rows:=d.classes.map dM) ky;obtain⟨cl,fY,_,rfl,fg,km⟩:=RD.lst (rows:=d.claims.map iw) kz;obtain⟨xO,_,rfl,lP,cu,kF⟩:=RD.ty (t:=d.state) km;obtain⟨st,ig,rfl,_⟩:=cu.slice;obtain⟨gD,df,dh,gE,dj,dl,gF,dm,dn,_,rfl,dq,kG⟩:=RD.ex (e:=d.init) kF;obtain⟨cm,fM,_,rfl,gO,kH⟩:=RD.lst (rows:=d.cmds.map gf) kG;obtain⟨op,fH,_,rfl,lh,nT⟩:=RD.lst (rows:=d.ops.map fV) kH;obtain⟨gw,cJ,cK,gx,cL,cM,gy,cO,cQ,_,rfl,nF,kI⟩:=RD.ex (e:=d.recov) (ds:=[]) xe;obtain rfl:=kI.inv0;clear r1 r2 r3 r4 r5 r6 r7 r8 r9 kx ky kz km kF kG kH nT kI ee cu;refine enter func42 rfl ntmps42 rfl ?_;refine rx ?_;refine Ju (l:=[iV d.kind,.string d.name,iV d.at_,.slice ct (d.ctors.map iP).length iO,.slice pm (d.params.map eK).length iG,iV d.type.kind,.string d.type.name,.slice ty (d.type.kids.map cg).length ix,iV d.body.kind,.string d.body.name,iV d.body.n,.slice gV dy dz,.slice gW dA dC,.slice gX dD dE,iV d.body.at_,iV d.depth,iV d.gen.kind,.string d.gen.name,.slice gA cY cZ,.slice gB c8 c9,.slice gC da de,iV d.gen.at_,.slice dw (d.draws.map fj).length gv,.slice ck (d.checks.map dM).length fX,.slice cs (d.classes.map dM).length fR,.slice cl (d.claims.map iw).length fY,iV d.state.kind,.string d.state.name,.slice st (d.state.kids.map cg).length ig,iV d.init.kind,.string d.init.name,iV d.init.n,.slice gD df dh,.slice gE dj dl,.slice gF dm dn,iV d.init.at_,.slice cm (d.cmds.map gf).length fM,.slice op (d.ops.map fV).length fH,iV d.recov.kind,.string d.recov.name,iV d.recov.n,.slice gw cJ cK,.slice gx cL cM,.slice gy cO cQ,iV d.recov.at_]) rfl rfl (fun w1 b nQ hb aj bh=>?_);refine rx ?_;refine Jm (l:=[zS]) rfl (fun w2 q nJ hq aq cz=>?_);have hb:=hb.tr0 aq;have dV:=((pK.tr0 aj).mono (KU (a:=q) ab)).tr0 aq;refine rx ?_;refine aT (JfL d hp _ w2 (q::S) dV) rfl ?_;rintro _ w3 ⟨wp,v,hfp,rfl,uT,Tx⟩;refine⟨_,rfl,?_⟩;have dO:=hfp.size;have eA:=Tx.size;have hb:=(hb.tr0 hfp).tr0 Tx;have hq:=(hq.tr0 hfp).tr0 Tx;have aV:Fr [] w w3:=((aj.Jb aq).Jb hfp).Jb Tx;have hk:=uT.dr Jq ab Tx ap (fun x hx=>by
  rcases SC.1 hx with rfl|hx
  .omega
  .have:=hS x hx;omega)
 refine rx ?_;refine XM (a:=[]) (b:=[.pointer (some ⟨q,0,none⟩),.pointer (some ⟨b,0,none⟩)]) rfl rfl ?_;refine rx ?_;have hI:OfI q _ w3 [] [] w3:=⟨_,hq,BO.nil,by simp,by simp,by simp⟩;have aw:oC τ (fun acc e=>acc++Xi d.name e) [] (Js (Jw d)):=Jfp (by rw[SY,Di];exact hz);refine Jg (JeZ (JkP d.name b q _ _ _ rfl (q::S) w3 hb ab ab (H9 ..)) (Jw d) yb v w3 (Fr.refl _ _) [] ap [] aw hI hk) ?_;rintro w4 ⟨⟨Z',_,v',gJ,hL,_⟩,_,bq⟩;refine bM ?_;rw[Jb8,CO]at hL;exact⟨v',rfl,⟨hL.1,fun x hx=>by have:=hL.2 x hx;omega⟩,aV.trans bq (fun x hx=>.inr bt)⟩
end Go.Proofs.YtggmccicdhnkgaaGreat
namespace Go.Rf
open Go.RowKit Go.Sort Go.Proofs
variable{k:Nat}{α:Type}
theorem Fr.grow{W W':World}(h:Fr [] W W'):∃q os,W'=Go.Sort.grow (W.drewN q) os:=by
 refine⟨W'.drawn-W.drawn,W'.heap.extract W.heap.size W'.heap.size,?_⟩;have hd:=h.draw;have hz:=h.size;have hh:W'.heap=W.heap++W'.heap.extract W.heap.size W'.heap.size:=by
  apply FK;intro i;by_cases hi:i<W.heap.size
  .rw [Ed hi];exact h.block i hi ap
  .rw [Ia ab,Array.getElem?_extract];by_cases h2:i<W'.heap.size
   .rw [Cb ab]
    congr 1;omega
   .rw [SH ab];exact FW ab
 obtain⟨a,b,c,d,e⟩:=W;obtain⟨a',b',c',d',e'⟩:=W';simp only[Go.Sort.grow,World.drewN,World.mk.injEq];exact⟨hh,h.tape,by simp only at hd ⊢;omega,h.os,h.output⟩
theorem pQ[Inhabited α]{enc:α->List Value}(hk:∀x,(enc x).length=k)(k0:0<k):∀{l:List α} {t:Nat},t<l.length*k->(l.flatMap enc)[t]?=some ((enc l.toArray[t/k]!)[t%k]!)
 |[],t,h=>by simp at h
 |x::l,t,h=>by
  rw[CP];by_cases ht:t<k
  .rw [Ej (by rw[hk];exact ht),Nat.div_eq_of_lt ht,Nat.mod_eq_of_lt ht];have:(x::l).toArray[0]! =x:=by simp
   rw[this,Dc (by rw[hk];exact ht),FM (enc x) t (by rw[hk];exact ht)]
  .rw [Ee (by rw[hk];omega),hk];have h2:t-k<l.length*k:=by rw[SI,Nat.add_mul,Ez]at h;omega
   rw[pQ hk k0 h2];obtain⟨q,rfl⟩:∃q,t=k+q:=⟨t-k,by omega⟩;have e1:(k+q)/k=q/k+1:=by rw[D7,Nat.add_div_right _ k0]
   have e2:(k+q)%k=q%k:=by rw[D7,Nat.add_mod_right]
   have e3:k+q-k=q:=by omega
   rw[e1,e2,e3]
   congr 3
   by_cases hq:q/k<l.length
   .rw [FM _ _ (by simpa using hq),FM _ _ (by simpa using hq)];simp
   .rw [getElem!_neg _ _ (by simpa using hq),getElem!_neg _ _ (by simpa using hq)]
theorem UA[Inhabited α]{enc:α->List Value}(hk:∀x,(enc x).length=k)(k0:0<k)(l:List α):flatK enc k l.toArray=(l.flatMap enc).toArray:=by
 have hl:(l.flatMap enc).length=l.length*k:=by
  induction l with
  |nil=>simp
  |cons x l ih=>rw[CP,Sm,hk,ih,SI,Nat.add_mul,Ez,D7]
 refine ext_get! (by simp[hl]) (fun t ht=>?_);have ht':t<l.length*k:=by simpa using ht
 rw[get_flatK _ _ _ t (by simpa using ht')];have:=pQ hk k0 ht';rw[FM _ t (by simp[hl];exact ht')];simp only[Hr];rw[Dc (by rw[hl];exact ht')]at this;exact(Dl this).symm
section
variable{α:Type}[Inhabited α]{P:Program}{ρ:Go.Shelf.Ren}
theorem Jit{lt:α->α->Bool}(T:(∀a,lt a a=false)/\(∀a b c,lt a b=true->lt b c=true->lt a c=true)/\∀a b,lt a b=true\/a=b\/lt b a=true):SWO lt where
 irrefl:=T.1
 trans:=T.2.1
 ntrans x y z h1 h2:=by
  cases h:lt x z with
  |false=>rfl
  |true=>
   rcases T.2.2 x y with e|e|e
   .rw [h1]at e;cases e
   .subst e;rw[h2]at h;cases h
   .rcases T.2.2 y z with e'|e'|e'
    .rw [h2]at e';cases e'
    .subst e';have:=T.2.1 _ _ _ h e;rw[T.1]at this;cases this
    .have:=T.2.1 _ _ _ h e';rw[h1]at this;cases this
theorem Jff(L:SlLaysF0.n6 P ρ)(k0:0<k)(aE:∀w,(isAgg (ρ.t 24)).run P w=.ok true w)(zE:∀w,(Go.sizeOf (ρ.t 24)).run P w=.ok k w){enc:α->List Value}(hk:∀x,(enc x).length=k)(h1:∀x,∀v∈enc x,v.oneCell'=true){cf:α->α->Int}
 (T:(∀a,ltOf cf a a=false)/\(∀a b c,ltOf cf a b=true->ltOf cf b c=true->ltOf cf a c=true)/\∀a b,ltOf cf a b=true\/a=b\/ltOf cf b a=true) {g:Nat} (eg:∀args w,(callFunc g args).run P w=.ok (.enter g args) w)
 (ib5:∀x y W,Calls P g #[.agg (enc x).toArray,.agg (enc y).toArray] W fun e W'=>e=.returned (iV (cf x y))/\Fr [] W W') (l:List α) (v:Value) (w:World) (e:Nat) (ho:bx w e k v l.length (l.flatMap enc)) (hl:l.length<=1000000000):
 Calls P (ρ.f 6) #[v,.func (.func g) #[] #[]] w fun en w'=>en=.returned (.tuple #[])/\bx w' e k v l.length ((l.mergeSort (fun x y=> !ltOf cf y x)).flatMap enc)/\Fr (ag v) w w':=by
 have hS:=Jit T;have hT:∀x y,ltOf cf x y=false->ltOf cf y x=false->x=y:=fun x y h h'=>by
  rcases T.2.2 x y with e|e|e
  .rw [h]at e;cases e
  .exact e
  .rw [h']at e;cases e
 have zG:=H6 l (fun x y=> !ltOf cf y x);obtain⟨l',qR⟩:=aP (l.mergeSort (fun x y=> !ltOf cf y x));rw[<-qR]at zG ⊢;have eJ:l'.length=l.length:=zG.length_eq;have j8:∀m:List α,(m.flatMap enc).length=m.length*k:=fun m=>by
  induction m with
  |nil=>simp
  |cons x l ih=>rw[CP,Sm,hk,ih,SI,Nat.add_mul,Ez,D7]
 rcases ho.2 with⟨rfl,h0⟩|⟨g0,cap,eS,rfl,hb,sa,kY,gO,fG,ht⟩
 .refine (AnyF.slices_SortFunc_none L none 0 (.func (.func g) #[] #[]) w).mono ?_;rintro _ _ ⟨rfl,rfl⟩;have:l=[]:=Dj h0;subst this;have:l'=[]:=Dj eJ;subst this;exact⟨rfl,ho,Fr.refl _ _⟩
 have hgl:g0<w.heap.size:=(DI.1 sa).1;have hH:HoldsK enc k w g0 0 l.toArray:=by
  unfold HoldsK;rw[UA hk k0];intro j hj;have t':j<l.length*k:=by simpa[j8]using hj
  refine⟨?_,?_⟩
  .simp only[World.cell?,sa,IW,SS,CW,Di,id_eq];have h2:(eS.toList.take (l.length*k))[j]?=some ((l.flatMap enc).toArray[j]!):=by
    rw[ht,FM _ j (by simpa[j8]using t'),Hr,Dc]
   rw[FD t']at h2;simpa using h2
  .simp [World.frozen?,sa]
 have fg:CmpLays P g #[] enc k cf g0 0 l.toArray.size w:=fun m os dk _ x y=>by
  refine(ib5 x y _).mono ?_;rintro en W' ⟨rfl,hf⟩;exact⟨rfl,hf.grow⟩
 have main:=AnyQ.slices_SortFunc_total L k aE zE enc hk h1 cf hS g #[] g0 0 cap l.toArray w eg fg hH hgl aZ hT;have fA:l.toArray.size=l.length:=by simp
 rw[fA]at main;refine main.mono ?_;rintro _ _ ⟨rfl,n,os,rfl⟩;rw[EL,<-qR];unfold sortWorldK putRowK;rw[UA hk k0];have Y8:(putRow id (Go.Sort.ahead w n) g0 0 (l'.flatMap enc).toArray).heap[g0]?=some (.cells (putCells id 0 (l'.flatMap enc).toArray eS) e (0,0)):=by
  simp only[putRow,mapBlock,Go.Sort.ahead,Iz,CX,sa,EO,onCells]
 have uX:(putRow id (Go.Sort.ahead w n) g0 0 (l'.flatMap enc).toArray).heap.size=w.heap.size:=by simp[putRow,mapBlock,Go.Sort.ahead]
 refine⟨rfl,⟨by rw[j8,eJ],.inr ⟨g0,cap,putCells id 0 (l'.flatMap enc).toArray eS,rfl,by simpa using hb,?_,kY,gO,by simpa[putCells]using fG,?_⟩⟩,⟨rfl,rfl,rfl,?_,fun i hi hn=>?_,?_⟩⟩
 .simp only[Go.Sort.grow];rw[Ed (by rw[uX];exact hgl)];exact Y8
 .have hcz:l.length*k<=eS.size:=by
   have:=CZ List.length ht;rw[j8,C9]at this;simp at this;omega
  apply Il;intro j;by_cases hj:j<l.length*k
  .rw [FD hj];have hjc:j<eS.size:=by omega
   have jm:j<(l'.flatMap enc).length:=by rw[j8,eJ];exact hj
   simp only[putCells,Array.getElem?_toList,Array.getElem?_mapIdx,Fh hjc,EO,SL,Di,true_and,Ea,jm,CX,EJ,id_eq];rw[FM _ j (by simpa using jm),Hr,Dc jm]
  .rw [ED (by rw[C9];omega),ED (by rw[j8,eJ];omega)]
 .simp only[Go.Sort.grow,Ik,uX];omega
 .simp only[Go.Sort.grow];rw[Ed (by rw[uX];exact hi)];have:¬g0=i:=fun e=>hn Ykj
  simp[putRow,mapBlock,Go.Sort.ahead,Iz,this]
 .show w.drawn<=w.drawn+n;omega
end
end Go.Rf
namespace Go.Proofs
open Go.Shelf
def Tryz.Jem : Go.Shelf.Ren := ⟨fun | 6 => 98 | 15 => 153 | 14 => 154 | 28 => 195 | 29 => 196 | 20 => 197 | 21 => 198 | 22 => 199 | 23 => 200 | 24 => 201 | 25 => 202 | 26 => 203 | 27 => 204 | 46 => 226 | 47 => 222 | 48 => 223 | 49 => 227 | 50 => 228 | 57 => 233 | n => n, fun | 22 => 31 | 24 => 50 | 25 => 130 | 3 => 3 | 39 => 151 | 0 => 0 | 53 => 278 | 55 => 149 | 4 => 4 | 46 => 271 | 45 => 270 | 50 => 275 | 5 => 5 | 9 => 9 | 66 => 294 | 70 => 297 | 76 => 303 | 77 => 304 | n => n, fun | n => n⟩
theorem Tryz.sortB : Go.Proofs.SlLaysF0.n6 Tryz.prog Tryz.Jem := {
 mixed := by kernel_rfl
 f6 := ⟨Tryz.f98.name, by decide, Tryz.func98.trans (CZ some (by kernel_rfl))⟩
 f14 := ⟨Tryz.f154.name, by decide, Tryz.func154.trans (CZ some (by kernel_rfl))⟩
 f15 := Tryz.func153.trans (CZ some (by kernel_rfl))
 f20 := ⟨Tryz.f197.name, by decide, Tryz.func197.trans (CZ some (by kernel_rfl))⟩
 f21 := ⟨Tryz.f198.name, by decide, Tryz.func198.trans (CZ some (by kernel_rfl))⟩
 f22 := ⟨Tryz.f199.name, by decide, Tryz.func199.trans (CZ some (by kernel_rfl))⟩
 f23 := ⟨Tryz.f200.name, by decide, Tryz.func200.trans (CZ some (by kernel_rfl))⟩
 f24 := ⟨Tryz.f201.name, by decide, Tryz.func201.trans (CZ some (by kernel_rfl))⟩
 f25 := ⟨Tryz.f202.name, by decide, Tryz.func202.trans (CZ some (by kernel_rfl))⟩
 f26 := ⟨Tryz.f203.name, by decide, Tryz.func203.trans (CZ some (by kernel_rfl))⟩
 f27 := ⟨Tryz.f204.name, by decide, Tryz.func204.trans (CZ some (by kernel_rfl))⟩
 f28 := Tryz.func195.trans (CZ some (by kernel_rfl))
 f29 := Tryz.func196.trans (CZ some (by kernel_rfl))
 f46 := ⟨Tryz.f226.name, by decide, Tryz.func226.trans (CZ some (by kernel_rfl))⟩
 f47 := Tryz.func222.trans (CZ some (by kernel_rfl))
 f48 := Tryz.func223.trans (CZ some (by kernel_rfl))
 f49 := ⟨Tryz.f227.name, by decide, Tryz.func227.trans (CZ some (by kernel_rfl))⟩
 f50 := ⟨Tryz.f228.name, by decide, Tryz.func228.trans (CZ some (by kernel_rfl))⟩
 f57 := ⟨Tryz.f233.name, by decide, Tryz.func233.trans (CZ some (by kernel_rfl))⟩
 t0 := Tryz.underlying0
 a0 := Tryz.isAgg0
 z0 := Tryz.sizeOf0
 v0 := Tryz.zeroValue0
 t3 := Tryz.underlying3
 a3 := Tryz.isAgg3
 z3 := Tryz.sizeOf3
 v3 := Tryz.zeroValue3
 t4 := Tryz.underlying4
 a4 := Tryz.isAgg4
 z4 := Tryz.sizeOf4
 v4 := Tryz.zeroValue4
 t5 := Tryz.underlying5
 a5 := Tryz.isAgg5
 z5 := Tryz.sizeOf5
 v5 := Tryz.zeroValue5
 t9 := Tryz.underlying9
 a9 := Tryz.isAgg9
 z9 := Tryz.sizeOf9
 v9 := Tryz.zeroValue9
 t22 := Tryz.underlying31
 a22 := Tryz.isAgg31
 z22 := Tryz.sizeOf31
 v22 := Tryz.zeroValue31
 t25 := Tryz.underlying130
 a25 := Tryz.isAgg130
 z25 := Tryz.sizeOf130
 v25 := Tryz.zeroValue130
 t39 := Tryz.underlying151
 a39 := Tryz.isAgg151
 z39 := Tryz.sizeOf151
 v39 := Tryz.zeroValue151
 t45 := Tryz.underlying270
 a45 := Tryz.isAgg270
 z45 := Tryz.sizeOf270
 v45 := Tryz.zeroValue270
 t46 := Tryz.underlying271
 a46 := Tryz.isAgg271
 z46 := Tryz.sizeOf271
 v46 := Tryz.zeroValue271
 t50 := Tryz.underlying275
 a50 := Tryz.isAgg275
 z50 := Tryz.sizeOf275
 v50 := Tryz.zeroValue275
 t53 := Tryz.underlying278
 a53 := Tryz.isAgg278
 z53 := Tryz.sizeOf278
 v53 := Tryz.zeroValue278
 t55 := Tryz.underlying149
 a55 := Tryz.isAgg149
 z55 := Tryz.sizeOf149
 v55 := Tryz.zeroValue149
 t66 := Tryz.underlying294
 a66 := Tryz.isAgg294
 z66 := Tryz.sizeOf294
 v66 := Tryz.zeroValue294
 t70 := Tryz.underlying297
 a70 := Tryz.isAgg297
 z70 := Tryz.sizeOf297
 v70 := Tryz.zeroValue297
 t76 := Tryz.underlying303
 a76 := Tryz.isAgg303
 z76 := Tryz.sizeOf303
 v76 := Tryz.zeroValue303
 t77 := Tryz.underlying304
 a77 := Tryz.isAgg304
 z77 := Tryz.sizeOf304
 v77 := Tryz.zeroValue304 }
def Tryz.Jel : Go.Shelf.Ren := ⟨fun | 6 => 95 | 15 => 153 | 14 => 152 | 28 => 195 | 29 => 196 | 20 => 187 | 21 => 188 | 22 => 189 | 23 => 190 | 24 => 191 | 25 => 192 | 26 => 193 | 27 => 194 | 46 => 221 | 47 => 222 | 48 => 223 | 49 => 224 | 50 => 225 | 57 => 232 | n => n, fun | 22 => 126 | 24 => 128 | 25 => 145 | 3 => 3 | 39 => 151 | 0 => 0 | 53 => 278 | 55 => 149 | 4 => 4 | 46 => 271 | 45 => 270 | 50 => 275 | 5 => 5 | 9 => 9 | 66 => 294 | 70 => 297 | 76 => 303 | 77 => 304 | n => n, fun | n => n⟩
theorem Tryz.Jh4 : Go.Proofs.SlLaysF0.n6 Tryz.prog Tryz.Jel := {
 mixed := by kernel_rfl
 f6 := ⟨Tryz.f95.name, by decide, Tryz.func95.trans (CZ some (by kernel_rfl))⟩
 f14 := ⟨Tryz.f152.name, by decide, Tryz.func152.trans (CZ some (by kernel_rfl))⟩
 f15 := Tryz.func153.trans (CZ some (by kernel_rfl))
 f20 := ⟨Tryz.f187.name, by decide, Tryz.func187.trans (CZ some (by kernel_rfl))⟩
 f21 := ⟨Tryz.f188.name, by decide, Tryz.func188.trans (CZ some (by kernel_rfl))⟩
 f22 := ⟨Tryz.f189.name, by decide, Tryz.func189.trans (CZ some (by kernel_rfl))⟩
 f23 := ⟨Tryz.f190.name, by decide, Tryz.func190.trans (CZ some (by kernel_rfl))⟩
 f24 := ⟨Tryz.f191.name, by decide, Tryz.func191.trans (CZ some (by kernel_rfl))⟩
 f25 := ⟨Tryz.f192.name, by decide, Tryz.func192.trans (CZ some (by kernel_rfl))⟩
 f26 := ⟨Tryz.f193.name, by decide, Tryz.func193.trans (CZ some (by kernel_rfl))⟩
 f27 := ⟨Tryz.f194.name, by decide, Tryz.func194.trans (CZ some (by kernel_rfl))⟩
 f28 := Tryz.func195.trans (CZ some (by kernel_rfl))
 f29 := Tryz.func196.trans (CZ some (by kernel_rfl))
 f46 := ⟨Tryz.f221.name, by decide, Tryz.func221.trans (CZ some (by kernel_rfl))⟩
 f47 := Tryz.func222.trans (CZ some (by kernel_rfl))
 f48 := Tryz.func223.trans (CZ some (by kernel_rfl))
 f49 := ⟨Tryz.f224.name, by decide, Tryz.func224.trans (CZ some (by kernel_rfl))⟩
 f50 := ⟨Tryz.f225.name, by decide, Tryz.func225.trans (CZ some (by kernel_rfl))⟩
 f57 := ⟨Tryz.f232.name, by decide, Tryz.func232.trans (CZ some (by kernel_rfl))⟩
 t0 := Tryz.underlying0
 a0 := Tryz.isAgg0
 z0 := Tryz.sizeOf0
 v0 := Tryz.zeroValue0
 t3 := Tryz.underlying3
 a3 := Tryz.isAgg3
 z3 := Tryz.sizeOf3
 v3 := Tryz.zeroValue3
 t4 := Tryz.underlying4
 a4 := Tryz.isAgg4
 z4 := Tryz.sizeOf4
 v4 := Tryz.zeroValue4
 t5 := Tryz.underlying5
 a5 := Tryz.isAgg5
 z5 := Tryz.sizeOf5
 v5 := Tryz.zeroValue5
 t9 := Tryz.underlying9
 a9 := Tryz.isAgg9
 z9 := Tryz.sizeOf9
 v9 := Tryz.zeroValue9
 t22 := Tryz.underlying126
 a22 := Tryz.isAgg126
 z22 := Tryz.sizeOf126
 v22 := Tryz.zeroValue126
 t25 := Tryz.underlying145
 a25 := Tryz.isAgg145
 z25 := Tryz.sizeOf145
 v25 := Tryz.zeroValue145
 t39 := Tryz.underlying151
 a39 := Tryz.isAgg151
 z39 := Tryz.sizeOf151
 v39 := Tryz.zeroValue151
 t45 := Tryz.underlying270
 a45 := Tryz.isAgg270
 z45 := Tryz.sizeOf270
 v45 := Tryz.zeroValue270
 t46 := Tryz.underlying271
 a46 := Tryz.isAgg271
 z46 := Tryz.sizeOf271
 v46 := Tryz.zeroValue271
 t50 := Tryz.underlying275
 a50 := Tryz.isAgg275
 z50 := Tryz.sizeOf275
 v50 := Tryz.zeroValue275
 t53 := Tryz.underlying278
 a53 := Tryz.isAgg278
 z53 := Tryz.sizeOf278
 v53 := Tryz.zeroValue278
 t55 := Tryz.underlying149
 a55 := Tryz.isAgg149
 z55 := Tryz.sizeOf149
 v55 := Tryz.zeroValue149
 t66 := Tryz.underlying294
 a66 := Tryz.isAgg294
 z66 := Tryz.sizeOf294
 v66 := Tryz.zeroValue294
 t70 := Tryz.underlying297
 a70 := Tryz.isAgg297
 z70 := Tryz.sizeOf297
 v70 := Tryz.zeroValue297
 t76 := Tryz.underlying303
 a76 := Tryz.isAgg303
 z76 := Tryz.sizeOf303
 v76 := Tryz.zeroValue303
 t77 := Tryz.underlying304
 a77 := Tryz.isAgg304
 z77 := Tryz.sizeOf304
 v77 := Tryz.zeroValue304 }
end Go.Proofs
