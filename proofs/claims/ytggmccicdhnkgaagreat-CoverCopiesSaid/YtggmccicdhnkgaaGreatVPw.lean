/-
 Plain:the declarations of generated modules are of bounded size.
-/
import Derived.Test.YtggmccicdhnkgaaGreatVJb
import Derived.Test.YtggmccicdhnkgaaGreatVCv
import Derived.Test.YtggmccicdhnkgaaGreatVSl
import Derived.Test.YtggmccicdhnkgaaGreatVPe
import Derived.Test.YtggmccicdhnkgaaGreatVCg
set_option linter.all false
set_option maxHeartbeats 64000000
namespace Go.Rf
open Go.RowKit
theorem Fr.cell0{u u':World}{a:Addr}{v:Value}(h:Fr [] u u')(hc:u.cell? a=some v):u'.cell? a=some v:=by
 have h1:Cells u a [v]:=fun j x hj=>by
  cases j with
  |zero=>simp at hj;subst hj;rw[ta];exact hc
  |succ j=>simp at hj
 have:=h1.tr0 h 0 v rfl;rw[ta]at this;exact this
def oH(p:Nat->Prop)(u u':World):Prop:=∃T,Fr T u u'/\∀x∈T,p x
theorem oH.of0{p:Nat->Prop}{u u':World}(h:Fr [] u u'):oH p u u':=⟨[],h,by simp⟩
theorem oH.refl{p:Nat->Prop}{u:World}:oH p u u:=.of0 (Fr.refl _ _)
theorem oH.trans{p:Nat->Prop}{u u' u'':World}(h:oH p u u')(k:oH p u' u''):oH p u u'':=by
 obtain⟨T,h1,h2⟩:=h;obtain⟨T',k1,k2⟩:=k;exact⟨T++T',(h1.mono (by simp+contextual)).trans k1 (fun x hx=>.inl lA),fun x hx=>(SE.1 hx).elim (h2 x) (k2 x)⟩
theorem oH.imp{p q:Nat->Prop}{u u':World}(h:oH p u u')(hi:∀x,p x->q x):oH q u u':=by
 obtain⟨T,h1,h2⟩:=h;exact⟨T,h1,fun x hx=>hi x (h2 x hx)⟩
def TD(w u:World)(l:List De)(v:Value):Prop:=∃K xs,bx u 105 45 v l.length xs/\Rws (fun d cs=>RD u K (eR d) cs) l xs/\(∀x∈ag v,x∈K)/\∀x∈K,w.heap.size<x/\x<u.heap.size
theorem TD.nil{w u:World}:TD w u [] (zS):=⟨[],[],bx.nil _ _ _,.nil,fun b hb=>by simp[ag,Value.ownBlock]at hb,by simp⟩
theorem TD.slice{w u:World}{l:List De}{v:Value}(h:TD w u l v):∃ao c,v=.slice ao l.length c:=by
 obtain⟨K,xs,h1,_⟩:=h;exact h1.slice
def Vm(ds:List De)(s:List ByteArray×List De)(c:ByteArray):List ByteArray×List De:=
 (s.1++[c],if Vu c s.1=true then s.2 else match jz ds 1 c with|some d=>s.2++[d]|none=>s.2)
structure Sim (p r:List ByteArray×List De) (i:Nat):Prop where
 seen:∀c,Vu c p.1=Vu c r.1
 q:r.2.drop i=p.2
 le:i<=r.2.length
theorem ZQ{c a:ByteArray}{l:List ByteArray}:Vu c (l++[a])=(Vu c l||decide (a=c)):=by simp[Vu]
theorem Sim.step{ds:List De}{p r:List ByteArray×List De}{i:Nat}(h:Sim p r i)(c:ByteArray):Sim (sZ ds p c) (Vm ds r c) i:=by
 unfold sZ Vm;have hc:=h.seen c;cases hm:Vu c p.1 with
 |true=>
  rw[hm]at hc;rw[Cb rfl,Cb hc.symm];refine⟨fun a=>?_,h.q,h.le⟩;rw[ZQ,<-h.seen a];by_cases e:c=a
  .subst e;simp[hm]
  .simp [e]
 |false=>
  rw[hm]at hc;rw[SH ap,SH (by rw[<-hc];simp)];refine⟨fun a=>by simp only;rw[ZQ,ZQ,h.seen a],?_,?_⟩
  .simp only;cases jz ds 1 c with
   |none=>exact h.q
   |some d=>simp only;rw[D6 h.le,h.q]
  .simp only;cases jz ds 1 c with
   |none=>exact h.le
   |some d=>have:=h.le;simp only[Sm,Dx];omega
theorem Sim.fold{ds:List De}{i:Nat}:∀{l:List ByteArray} {p r:List ByteArray×List De},Sim p r i->Sim (l.foldl (sZ ds) p) (l.foldl (Vm ds) r) i
 |[],p,r,h=>h
 |c::l,p,r,h=>Sim.fold (l:=l) (h.step c)
theorem Gh{ds:List De}:∀{l:List ByteArray} {r:List ByteArray×List De},(l.foldl (Vm ds) r).1.length=r.1.length+l.length
 |[],r=>rfl
 |c::l,r=>by
  rw[Dz,Gh (l:=l)];simp only[Vm,Sm,SI,SY];omega
theorem Jfr{ds:List De}{r:List ByteArray×List De}{c:ByteArray}(h:∀d∈r.2,d∈ds):∀d∈(Vm ds r c).2,d∈ds:=by
 unfold Vm;simp only
 split
 .exact h
 .split
  .rename_i d hd;intro x hx;rcases SE.1 hx with hx|hx
   .exact h x hx
   .rw [Sv.1 hx];exact(XT hd).1
  .exact h
theorem Jag{ds:List De}:∀{l:List ByteArray} {r:List ByteArray×List De},(∀d∈r.2,d∈ds)->∀d∈(l.foldl (Vm ds) r).2,d∈ds
 |[],r,h=>h
 |c::l,r,h=>Jag (l:=l) (Jfr h)
theorem Jaf{ds:List De}{r:List ByteArray×List De}{c:ByteArray}:(Vm ds r c).2.length<=r.2.length+1:=by
 unfold Vm;simp only
 split
 .omega
 .split
  .simp
  .omega
theorem JbZ(ds:List De):∀(l:List ByteArray) (s:List ByteArray×List De),mu ds (l.foldl (sZ ds) s)<=mu ds s
 |[],s=>SX _
 |c::l,s=>CG (JbZ ds l _) (JfZ ds s c)
theorem RD.kn{w:World}{S:List Nat}{d:De}{cs:List Value}(h:RD w S (eR d) cs):cs[0]?=some (iV d.kind)/\cs[1]?=some (.string d.name):=by
 obtain⟨_,rfl,r1⟩:=RD.JI (x:=iV d.kind) h;obtain⟨_,rfl,r2⟩:=RD.JI (x:=.string d.name) r1;exact⟨rfl,rfl⟩
def RS(w u:World)(s:List ByteArray×List De)(vs vt:Value):Prop:=
 ∃K xs,Fr [] w u/\bx u 9 1 vs s.1.length (s.1.map .string)/\bx u 105 45 vt s.2.length xs/\Rws (fun d cs=>RD u K (eR d) cs) s.2 xs/\(∀x∈ag vs,x∈K)/\(∀x∈ag vt,x∈K)/\(∀x∈K,w.heap.size<x/\x<u.heap.size)/\∀x∈ag vs,x∉ag vt
theorem RS.JkO{w u:World}{l:List De}{v:Value}(hf:Fr [] w u)(h:TD w u l v):RS w u ([],l) (zS) v:=by
 obtain⟨K,xs,h1,h2,h3,h4⟩:=h;exact⟨K,xs,hf,bx.nil _ _ _,h1,h2,by simp[ag,Value.ownBlock],h3,h4,by simp[ag,Value.ownBlock]⟩
theorem RS.fr{w u:World}{s:List ByteArray×List De}{vs vt:Value}(h:RS w u s vs vt):Fr [] w u:=by obtain⟨K,xs,h,_⟩:=h;exact h
theorem RS.tr0{w u u':World}{s:List ByteArray×List De}{vs vt:Value}(h:RS w u s vs vt)(hf:Fr [] u u'):RS w u' s vs vt:=by
 have hs:=hf.size;obtain⟨K,xs,h1,h2,h3,h4,h5,h6,h7,h8⟩:=h;exact⟨K,xs,h1.Jb hf,h2.tr0 hf,h3.tr0 hf,h4.imp (fun d cs _ hr=>hr.tr0 hf),h5,h6,fun x hx=>⟨(h7 x hx).1,by have:=(h7 x hx).2;omega⟩,h8⟩
theorem RS.lt{w u:World}{s:List ByteArray×List De}{vs vt:Value}(h:RS w u s vs vt):∀x,x∈ag vs\/x∈ag vt->w.heap.size<x/\x<u.heap.size:=by
 obtain⟨K,xs,h1,h2,h3,h4,h5,h6,h7,h8⟩:=h;rintro x (hx|hx)
 .exact h7 x (h5 x hx)
 .exact h7 x (h6 x hx)
theorem Jfb{w0 w u:World}{S:List Nat}{e:Nat}{l:List ByteArray}{v:Value}(h:LO w0 S u e 1 JV l v):bx u e 1 v l.length (l.map .string)/\∀b∈ag v,w0.heap.size<=b:=by
 obtain⟨⟨ys,h1,h2⟩,h3⟩:=h;refine⟨?_,h3⟩;have:ys=l.map .string:=by
  clear h1 h3
  induction h2 with
  |nil=>rfl
  |cons ha hb ih=>
   rw[ih];obtain⟨_,rfl,r⟩:=RD.JI (x:=.string _) ha;rw[r.inv0];rfl
 rw[<-this];exact h1
theorem Lr{c:ByteArray}{l:List ByteArray}{i:Nat}(h:i<l.length):Vu c (l.take (i+1))=(Vu c (l.take i)||decide (l[i]=c)):=by
 rw[SK h,ZQ]
theorem JaI{l:List ByteArray}{i:Nat}(h:i<l.length):(l.map Value.string)[i]?=some (.string l[i]):=by
 rw[ET,Dc h];rfl
end Go.Rf
namespace Go.Proofs.YtggmccicdhnkgaaGreat
open Go.Proofs.Tryz
open Go.Rf Go.RowKit
attribute [local irreducible] Code.wp wpList Exit.then Exit.inBlock bodyPost A Calls execOp Addr.add
theorem Jjf{w w':World}{S:List Nat}{r:Option De}{e:Ending}(h:Jkt w S r e w'):∃(cs:List Value) (b:Bool),e=.returned (.tuple #[.agg cs.toArray,.bool b])/\cs.length=45/\(∀c∈cs,c.oneCell'=true)/\Fr [] w w'/\((r=none/\b=false)\/∃d,r=some d/\b=true/\RD w' S (eR d) cs):=by
 exact Ybq
theorem Jeu(ds:List De)(nm:ByteArray)(v0:Value)(w:World)(S0:List Nat)(fA:∀d∈ds,SzD d)(hl:ds.length<=50)(hd:DR w S0 (.l (ds.map eR)) v0):
 Calls prog 89 #[.agg ([v0]:List Value).toArray,.string nm] w fun e w'=>∃v,e=.returned v/\BO w 50 w' (JM eO (KX ds nm)) v/\Fr [] w w':=by
 have dx:=hd.bound;have lq:(ds.map eR).length=ds.length:=Sr ..;obtain⟨ao,c,jL,_⟩:=hd.slice;rw[lq]at jL;refine enter func89 rfl ntmps89 rfl ?_;refine wp_seq ?_;refine KA ?_;refine rr ?_;refine Ju (l:=[v0]) rfl rfl (fun w1 bm ib7 jw aj bh=>?_);refine rr ?_;refine wpList_nil ?_;refine QG ?_;(repeat refine wp_seq ?_);refine KA ?_;refine rr ?_;refine wpList_nil ?_;refine QG ?_;(repeat refine wp_seq ?_);refine KA ?_;refine oG ?_
 (repeat refine wp_seq ?_)
 refine KZ 7 [5,6] (fun g u=>∃v,g 5=v/\TD w u (QF ds nm).toList v/\Fr [] w u/\aG u bm [v0] 25) ?_ ?_
 .refine rx ?_;refine Jh 7 [5,6] (σ:=Nat×Option (De×Value)) (fun s g u=>g 6=iV (s.1:Nat)/\s.1<=ds.length/\Fr [] w u/\aG u bm [v0] 25/\(match s.2 with|none=>g 5=zS/\QF (ds.drop s.1) nm=QF ds nm|some (d,v)=>g 5=v/\QF ds nm=some d/\TD w u [d] v)) (fun s=>ds.length-s.1) (0,none) ⟨rfl,SL _,aj,jw,rfl,rfl⟩ ?_;clear jw aj;rintro⟨i,r⟩ g u ⟨g6,hi,hF,jw,hr⟩;simp only at g6 hi hr;have cI:=hF.size;subst jL;cases r with
  |some p=>
   obtain⟨d,v⟩:=p;obtain⟨g5,iW,hT⟩:=hr;obtain⟨ao5,c5,rfl⟩:=hT.slice;rw[Dx]at g5;rw[Ja g5,Ja g6];by_cases aC:i<ds.length
   .refine rx ?_;exact Ybt
   .refine rx ?_;exact Ybt
  |none=>
  obtain⟨g5,iW⟩:=hr;rw[Ja g5,Ja g6];by_cases aC:i<ds.length
  case neg=>
   rw[Ci ab]at iW;have iW:none=QF ds nm:=iW;refine rx ?_;exact JK a6 ⟨_,rfl,by rw[<-iW];exact TD.nil,hF,jw⟩
  obtain⟨ad,cs,bi,hr,hc⟩:=DR.at KL (hd.tr0 hF) aC;subst bi;have hlen:cs.length=45:=by rw[hr.len,KL]
  obtain⟨hk,hn⟩:=hr.kn;rw[NI aC]at iW;refine Ξ ?_;refine Jm (l:=[zI,zT,zI,zS,zS,zI,zT,zS,zI,zT,zI,zS,zS,zS,zI,zI,zI,zT,zS,zS,zS,zI,zS,zS,zS,zS,zI,zT,zS,zI,zT,zI,zS,zS,zS,zI,zS,zS,zI,zT,zI,zS,zS,zS,zI]) rfl (fun u1 b nQ bJ aj bh=>?_);refine rx ?_;refine Jd (cs:=cs) rfl rfl bJ (RD.one hr) rfl hlen (fun u2 dN aq cz=>?_);have aS:Fr [] u u2:=aj.trans aq (fun x hx=>.inr bt);refine rx ?_;refine VH rfl dN hn ?_;by_cases e1:ds[i].name=nm
  case neg=>
   rw[SH (fun h=>e1 h.1)]at iW;refine rx ?_;exact Yhg
  refine rx ?_;refine VH rfl dN hk ?_;by_cases e2:ds[i].kind=0
  .rw [SH (fun h=>h.2.1 e2)]at iW;exact Ybm
  refine rx ?_;refine VH rfl dN hk ?_;by_cases e3:ds[i].kind=2
  .rw [SH (fun h=>h.2.2 e3)]at iW;exact Ybm
  rw[Cb ⟨e1,e2,e3⟩]at iW;refine rx ?_;refine KE rfl dN hlen ?_;refine rx ?_;refine JQ (c1:=cs) rfl hlen rfl (fun u3 qq gz ho aF dO=>?_);refine rx ?_;refine JC (bx.nil _ _ _) rfl ho.src rfl (by rw[hlen]) (RD.one hr) dt ab (fun v4 u4 jA aI pU _=>?_);have bq:=(aS.Jb aF).trans aI oz;have ifn:=aS.size;have tc:∀x∈ag v4,u.heap.size<=x:=fun x hx=>by
   rcases pU x hx with h|h
   .simp [ag,Value.ownBlock]at h
   .omega
  refine rx ?_;refine Jc (i+1,some (ds[i],v4)) a6 ⟨rfl,aC,hF.Jb bq,jw.tr0 bq,rfl,iW.symm,⟨ag v4,[]++cs,jA,Rws.one ((hr.mono (T:=ag v4) (fun b hb=>.inr (tc b hb))).old bq ap),fun x hx=>hx,fun x hx=>⟨by have:=tc x hx;have:=jw.lt;omega,jA.lt x hx⟩⟩⟩ eM
 clear jw aj;rintro g u ⟨v,g5,hT,hF,jw⟩;rw[Ja g5];clear g5;have zO:∀d∈(QF ds nm).toList,d∈ds:=fun d hd=>by
  unfold QF at hd;exact Ei (Option.mem_toList.1 hd)
 have sf:=JdV ds [];have iae:(QF ds nm).toList.length<=1:=by cases QF ds nm<;>simp
 have jZ:[]++KD ds (mu ds ([],(QF ds nm).toList)) ([],(QF ds nm).toList)=KX ds nm:=by
  unfold KX;cases QF ds nm with
  |none=>exact Zb _ _ _
  |some d=>exact VI ds _ _ _ (SX _) (by simp only[mu,Option.toList_some,Dx];omega)
 have TJ:mu ds ([],(QF ds nm).toList)<=ds.length+1:=by simp only[mu];omega
 obtain⟨ao5,c5,rfl⟩:=hT.slice;refine rx ?_;refine Jh 11 [5,8,9,10] (σ:=Nat×(List ByteArray×(List ByteArray×List De))×List Br×(Value×Value×Value)) (fun s g u=>g 5=s.2.2.2.1/\g 8=s.2.2.2.2.1/\g 9=s.2.2.2.2.2/\g 10=iV (s.1:Nat)/\RS w u s.2.1.2 s.2.2.2.2.2 s.2.2.2.1/\aG u bm [v0] 25/\BO w 50 u (JM eO s.2.2.1) s.2.2.2.2.1/\Sim (s.2.1.1,s.2.1.2.2.drop s.1) s.2.1.2 s.1/\(∀d∈s.2.1.2.2,d∈ds)/\s.2.2.1++KD ds (mu ds (s.2.1.1,s.2.1.2.2.drop s.1)) (s.2.1.1,s.2.1.2.2.drop s.1)=KX ds nm/\s.1+mu ds (s.2.1.1,s.2.1.2.2.drop s.1)<=ds.length+1/\s.2.2.1.length+mu ds (s.2.1.1,s.2.1.2.2.drop s.1)*11000<=(ds.length+1)*11000/\s.2.1.2.1.length+mu ds (s.2.1.1,s.2.1.2.2.drop s.1)*11000<=(ds.length+1)*11000) (fun s=>mu ds (s.2.1.1,s.2.1.2.2.drop s.1)) (0,([],([],(QF ds nm).toList)),[],(_,zS,zS)) ⟨rfl,rfl,rfl,rfl,RS.JkO hF hT,jw,BO.nil,⟨fun c=>rfl,rfl,SL _⟩,zO,jZ,by simp only[D9];omega,by simp only[D9,SY];omega,by simp only[D9,SY];omega⟩ ?_;clear hT hF jw jZ TJ iae sf zO;rintro⟨i,⟨sp,⟨seen,todo⟩⟩,acc,⟨vt,vo,vs⟩⟩ g u0 ⟨g5,g8,g9,g10,hR,jw,hB,TS,mC,jZ,hmi,qS,Aa⟩;simp only at g5 g8 g9 g10 hR hB TS mC jZ hmi qS Aa;rw[Ja g5,Ja g8,Ja g9,Ja g10];have vh:=hR.lt;have hR0:=hR;obtain⟨K,xs,lD,how,hot,lO,hKs,hKt,hK,TT⟩:=hR0;simp only at how hot lO;obtain⟨aot,ct,rfl⟩:=hot.slice;have mF:=lD.size;by_cases aC:i<todo.length
 case neg=>
  have h0:todo.drop i=[]:=Ci ab;rw[h0,Zb,Ce]at jZ;refine bM ?_;rw[jZ]at hB;exact⟨vo,rfl,hB,lD⟩
 have zP:todo.drop i=todo[i]::todo.drop (i+1):=Dh aC;obtain⟨d,lQ⟩:=aP (todo[i]);have j0:=fA d (lQ▸mC _ (Cj aC));have jB:=j0.parts;have hz2:=j0.brs;have hz3:=j0.calls;rw[zP,<-lQ]at jZ hmi qS Aa TS;have qT:mu ds (sp,d::todo.drop (i+1))=mu ds (sp,todo.drop (i+1))+1:=by simp only[mu,SI];omega
 have TU:(todo.drop (i+1)).length<=mu ds (sp,todo.drop (i+1)):=by simp only[mu];omega
 have htl:todo.length<=52:=by rw[Dn]at TU;omega
 have iaf:Sim (sp,todo.drop (i+1)) (seen,todo) (i+1):=⟨TS.seen,rfl,aC⟩;obtain⟨s',se⟩:=aP ((KY (Js (Jw d))).foldl (sZ ds) (sp,todo.drop (i+1)));have TP:mu ds s'<=mu ds (sp,todo.drop (i+1)):=se▸JbZ ds _ _;have bZ:KD ds (mu ds (sp,d::todo.drop (i+1))) (sp,d::todo.drop (i+1))=mf d++KD ds (mu ds s') s':=by
  rw[qT,KD,JbJ,<-se,VI ds _ (mu ds s') s' TP (SX _)]
 obtain⟨ad,cs,bi,hr,hc⟩:=Sl.at (w:=u0) (S:=[]) (R:=fun d cs=>RD u0 K (eR d) cs) ⟨xs,hot.src,fun ad n c e _ hm=>by simp at hm,lO⟩ (fun x cs h=>by rw[RD.len h,KL]) aC;subst bi;rw[<-lQ]at hr;have hlen:cs.length=45:=by rw[hr.len,KL]
 refine Ξ ?_;refine Jl (JiK d ab ab j0.dep cs u0 K (fun b hb=>(hK b hb).2) hr) ?_;rintro vf u1 ⟨hBf,aj⟩;refine rx ?_;have xm:=KQ (lt:=eO) (l:=acc);refine Jl (Jet (JM eO acc) (mf d) vo vf u1 ((hB.tr0 aj).dr ab) (hBf.dr ab) ab) ?_;rintro vo2 u2 ⟨nL,aq⟩;have aS:=aj.Jb aq;have bh:=aj.size;have cz:=aq.size;rw[V6 Qu (m:=acc++mf d) (fun y=>by rw[SE,KF Qu,SE])]at nL;refine rx ?_;refine Vz rfl (hc.tr0 aS) hlen ?_;refine rx ?_;refine aT (Jaj d ab cs u2 K (hr.tr0 aS)) rfl ?_;rintro _ u3 ⟨w3,vp,iS,rfl,uT,jb⟩;refine⟨_,rfl,?_⟩;have ibY:=iS.size;have aF:=iS.Jb jb;have dO:=aF.size;have yb:=uT.dr Jq ab jb ap (fun x hx=>by have:=(hK x hx).2;omega);have aV:=aS.Jb aF;have yo:=hR.tr0 aV;have mI:BO w 50 u3 (JM eO (acc++mf d)) vo2:=⟨nL.1.tr0 aF,fun x hx=>by have:=nL.2 x hx;omega⟩;have hvo:∀x∈ag vo2,u1.heap.size<=x/\x<u2.heap.size:=fun x hx=>⟨nL.2 x hx,nL.1.lt x hx⟩
 obtain⟨Ab,cp,rfl⟩:=uT.slice;obtain⟨pp,qu⟩:∃p:Nat->Prop,p=fun x=>x∈K\/u3.heap.size<=x:=⟨_,rfl⟩
 have icp:=(jw.tr0 aV).lt;have vi:∀x,pp x->w.heap.size<x/\(x<u0.heap.size\/u3.heap.size<=x):=fun x hx=>by rw[qu]at hx;exact hx.elim (fun h=>⟨(hK x h).1,.inl (hK x h).2⟩) (fun h=>⟨by omega,.inr h⟩)
 have hp0:∀x,x∈ag vs\/x∈ag (Value.slice (some ad) todo.length ct)->pp x:=fun x hx=>by rw[qu];exact .inl (hx.elim (hKs x) (hKt x))
 have lR:∀k,((Jw d).take k).flatMap oA=KY (Js ((Jw d).take k)):=fun k=>by
  rw[Xf,MJ]
 have vj:∀k,(KY (Js ((Jw d).take k))).length<=11000:=fun k=>by
  rw[<-lR];have h1:=WJ (Jw d) oA k;have h2:=lR (Jw d).length;rw[Dk]at h2;rw[h2]at h1;omega
 have iag:=jw.tr0 aV;clear hr hc;refine oG ?_
 (repeat refine wp_seq ?_)
 refine KA ?_;refine oG ?_
 (repeat refine wp_seq ?_)
 refine rx ?_;refine Jh 13 [5,9,12] (σ:=Nat×Value×Value) (fun s g u=>g 5=s.2.1/\g 9=s.2.2/\g 12=iV (s.1:Nat)/\s.1<=(Jw d).length/\RS w u ((KY (Js ((Jw d).take s.1))).foldl (Vm ds) (seen,todo)) s.2.2 s.2.1/\oH pp u3 u/\∀x,x∈ag s.2.2\/x∈ag s.2.1->pp x) (fun s=>(Jw d).length-s.1) (0,_,_) ⟨rfl,rfl,rfl,SL _,yo,.refl,hp0⟩ ?_;rintro⟨k,vt,vs⟩ g u ⟨g5,g9,g12,hk,hR,hP,hpv⟩;simp only at g5 g9 g12 hk hR hpv;rw[Ja g5,Ja g9,Ja g12];by_cases jO:k<(Jw d).length
 case neg=>
  rw[SQ ab]at hR;obtain⟨T4,hT4,iah⟩:=hP;have ub:=hR;have pV:=Sim.fold (ds:=ds) (l:=KY (Js (Jw d))) iaf;rw[<-se]at pV;obtain⟨r',hr'⟩:=aP ((KY (Js (Jw d))).foldl (Vm ds) (seen,todo));rw[<-hr']at ub pV;have hB4:BO w 50 u (JM eO (acc++mf d)) vo2:=⟨mI.1.tr hT4 (fun x hx hm=>by have h1:=hvo x hx;have h2:=vi x (iah x hm);omega),mI.2⟩;have TV:aG u bm [v0] 25:=iag.tr hT4 (fun hm=>by have:=vi bm (iah bm hm);omega);have icq:r'.1.length=seen.length+(KY (Js (Jw d))).length:=by rw[hr',Gh]
  have TW:(s'.1,r'.2.drop (i+1))=s':=by rw[pV.q]
  refine rx ?_;refine Jc (i+1,(s'.1,r'),acc++mf d,(vt,vo2,vs)) a6 ?_ ?_
  .refine ⟨rfl,rfl,rfl,rfl,ub,TV,hB4,?_,?_,?_,?_,?_,?_⟩
   .exact ⟨pV.seen,rfl,pV.le⟩
   .rw [hr'];exact Jag mC
   .simp only[TW];rw[List.append_assoc,<-bZ];exact jZ
   .simp only[TW];omega
   .simp only[TW];rw[Sm];omega
   .simp only[TW];rw[icq];omega
  .simp only[TW];rw[zP,<-lQ];omega
 obtain⟨sk,vn⟩:=aP ((KY (Js ((Jw d).take k))).foldl (Vm ds) (seen,todo));rw[<-vn]at hR;have pT:(KY (Js ((Jw d).take (k+1)))).foldl (Vm ds) (seen,todo)=(oA (Jw d)[k]).foldl (Vm ds) sk:=by
  rw[vn,<-List.foldl_append,<-lR,<-lR,KP jO]
 have hcn:(oA (Jw d)[k]).length<=11000:=by
  have h1:=vj (k+1);rw[<-lR,KP jO,Sm]at h1;omega
 have ifo:sk.1.length<=600000:=by rw[vn,Gh];have:=vj k;simp only;omega
 have ifp:sk.2.length<=52+(KY (Js ((Jw d).take k))).length:=by
  have h1:∀(l:List ByteArray) (r:List ByteArray×List De),(l.foldl (Vm ds) r).2.length<=r.2.length+l.length:=by
   intro l
   induction l with
   |nil=>intro r;simp
   |cons a l ih=>intro r;rw[Dz];have:=ih (Vm ds r a);have:=Jaf (ds:=ds) (r:=r) (c:=a);simp only[SI];omega
  have:=h1 (KY (Js ((Jw d).take k))) (seen,todo);rw[vn];simp only at this;omega
 have iy:=vj k;have cI:=hR.fr.size;obtain⟨Tp,hTp,TX⟩:=hP;have hP:oH pp u3 u:=⟨Tp,hTp,TX⟩;have ifq:=hTp.size;have icr:DR u K (.l ((Jw d).map aU)) _:=yb.old hTp (fun b hb=>by
  have:=TX b hb;rw[qu]at this;exact this)
 obtain⟨ade,ce,oI,pA,hce⟩:=DR.at Jq icr jO;subst oI;have iai:ce.length=7:=by rw[pA.len,Jq]
 refine rx ?_;refine Vz rfl hce iai ?_;refine rx ?_;refine Jl (Jew 1000 (Jw d)[k] (j0.dep _ (Cj jO)) ab ce u K pA) ?_;rintro vc u4 ⟨hLc,aI⟩;have eA:=aI.size;obtain⟨hoc,iaj⟩:=Jfb (w:=w) hLc;have iak:=hoc.lt;obtain⟨iZ,cc,rfl⟩:=hoc.slice;have ub:=hR.tr0 aI;obtain⟨p2,vu⟩:∃p:Nat->Prop,p=fun x=>pp x/\(x<u.heap.size\/u4.heap.size<=x):=⟨_,rfl⟩
 have ics:∀x,x∈ag vs\/x∈ag vt->p2 x:=fun x hx=>by rw[vu];exact⟨hpv x hx,.inl (hR.lt x hx).2⟩
 obtain⟨l,hle⟩:=aP (oA (Jw d)[k]);rw[<-hle]at hoc hcn pT iaj iak ⊢;have ial:∀x,p2 x->w.heap.size<x:=fun x hx=>by rw[vu]at hx;exact(vi x hx.1).1
 have iam:∀x,u4.heap.size<=x->p2 x:=fun x hx=>by rw[vu,qu];exact⟨.inr ab,.inr hx⟩
 have hpc:∀x,p2 x->x∉ag (Value.slice iZ l.length cc):=fun x hx hm=>by
  have h1:=iaj x hm;have h2:=iak x hm;rw[vu]at hx;have:=hx.2;omega
 have TV:∀{u':World},oH p2 u4 u'->aG u' bm [v0] 25:=fun{u'} h=>by
  obtain⟨T,h1,h2⟩:=(oH.of0 (p:=pp) aI).trans (h.imp (fun x hx=>by rw[vu]at hx;exact hx.1));have iB:aG u bm [v0] 25:=iag.tr hTp (fun hm=>by have:=vi bm (TX bm hm);omega);exact iB.tr h1 (fun hm=>by have:=vi bm (h2 bm hm);omega)
 refine rx ?_;refine Jh 15 [5,9,14] (σ:=Nat×Value×Value) (fun s g u'=>g 5=s.2.1/\g 9=s.2.2/\g 14=iV (s.1:Nat)/\s.1<=l.length/\RS w u' ((l.take s.1).foldl (Vm ds) sk) s.2.2 s.2.1/\oH p2 u4 u'/\∀x,x∈ag s.2.2\/x∈ag s.2.1->p2 x) (fun s=>l.length-s.1) (0,_,_) ⟨rfl,rfl,rfl,SL _,ub,.refl,ics⟩ ?_;rintro⟨j,vt,vs⟩ g u5 ⟨g5,g9,g14,hj,qy,du,qY⟩;simp only at g5 g9 g14 hj qy qY;rw[Ja g5,Ja g9,Ja g14];by_cases jm:j<l.length
 case neg=>
  rw[SQ ab,<-pT]at qy;refine rx ?_;exact Jc (k+1,vt,vs) a6 ⟨rfl,rfl,rfl,jO,qy,(hP.trans (.of0 aI)).trans (du.imp (fun x hx=>by rw[vu]at hx;exact hx.1)),fun x hx=>by have:=qY x hx;rw[vu]at this;exact this.1⟩ eM
 obtain⟨s5,eV⟩:=aP ((l.take j).foldl (Vm ds) sk);rw[<-eV]at qy;have ict:(l.take (j+1)).foldl (Vm ds) sk=Vm ds s5 l[j]:=by rw[SK jm,List.foldl_append,<-eV];rfl
 have ifr:s5.1.length<=700000:=by rw[eV,Gh,C9];omega
 have ift:s5.2.length<=30000:=by
  have h1:∀(l:List ByteArray) (r:List ByteArray×List De),(l.foldl (Vm ds) r).2.length<=r.2.length+l.length:=by
   intro l
   induction l with
   |nil=>intro r;simp
   |cons a l ih=>intro r;rw[Dz];have:=ih (Vm ds r a);have:=Jaf (ds:=ds) (r:=r) (c:=a);simp only[SI];omega
  have:=h1 (l.take j) sk;rw[C9,<-eV]at this;omega
 obtain⟨T5,hT5,ian⟩:=du;have du:oH p2 u4 u5:=⟨T5,hT5,ian⟩;have ifu:=hT5.size;have icu:=hoc.tr hT5 (fun x hx hm=>hpc x (ian x hm) hx);have icv:=qy;obtain⟨K5,xs5,te,hos,icw,TM,iao,icx,hK5,zQ⟩:=icv;obtain⟨lE,s4,Ad⟩:=hos.slice;have pH:=JaI jm;obtain⟨adc,oJ,bV⟩:=KO icu.src pH;subst oJ;have uZ:=TV du;subst Ad;refine rx ?_;refine Jh 17 [15,16] (σ:=Nat) (fun n g u'=>g 15=.bool (Vu l[j] (s5.1.take n))/\g 16=iV (n:Nat)/\n<=s5.1.length/\Fr [] u5 u') (fun n=>s5.1.length-n) 0 ⟨rfl,rfl,SL _,Fr.refl _ _⟩ ?_;rintro n g u6 ⟨g15,g16,hn,bR⟩;rw[Ja g15,Ja g16];by_cases TY:n<s5.1.length
 case neg=>
  rw[SQ ab];have qz:=qy.tr0 bR;have oK:u6.cell? (adc.add (j*1))=some (.string l[j]):=by rw[Dq];exact Fr.cell0 bR bV
  have ifv:=uZ.tr0 bR;have ifw:=bR.size;have icy:DR u6 K5 (.l (ds.map eR)) v0:=(hd.mono (T:=K5) (fun b hb=>.inr (Iq (hK5 b hb).1))).tr0 qz.fr;refine rx ?_;refine KZ 15 [15,17,18] (fun g u'=>∃q cs b,g 15=.bool (Vu l[j] s5.1)/\g 17=.pointer (some ⟨q,0,none⟩)/\g 18=.bool b/\aG u' q cs 105/\cs.length=45/\(∀c∈cs,c.oneCell'=true)/\Fr [] u6 u'/\((jz ds 1 l[j]=none/\b=false)\/∃d,jz ds 1 l[j]=some d/\b=true/\RD u' K5 (eR d) cs)) ?_ ?_
  . (refine JE (fun z=>Fr [] u6 z) az rfl ?_)
    obtain⟨u7,hu7⟩:=aP u6.drew;rw[<-hu7];have pf:Fr [] u6 u7:=hu7▸Fr.drew _ _;have icz:=pf.size;have iap:=icy.tr0 pf;refine Jj 0 1 2 3 pf ?_;refine Kw 4 pf ?_ (aw:=by(intro u hu;exact(J7 rfl (Fr.cell0 hu oK))));refine Xt (i:=5) (j:=9) rfl rfl az ?_ ?_
    .refine aT (NJ ds 1 l[j] v0 u7 K5 iap) rfl ?_;rintro en u8 jM;obtain⟨zR,b8,rfl,xq,TZ,aM,fS⟩:=Jjf jM;refine⟨_,rfl,?_⟩;have T2:=pf.Jb aM;have fL:=aM.size;refine wpList_nil (Jv T2 ?_);refine JX 6 7 T2 ?_;refine bH 8 T2 ?_;refine TC ?_;refine Jm (l:=[zI,zT,zI,zS,zS,zI,zT,zS,zI,zT,zI,zS,zS,zS,zI,zI,zI,zT,zS,zS,zS,zI,zS,zS,zS,zS,zI,zT,zS,zI,zT,zI,zS,zS,zS,zI,zS,zS,zI,zT,zI,zS,zS,zS,zI]) rfl (fun u9 q nJ zU aW ju=>?_);have mJ:=T2.Jb aW;refine wpList_nil (Jv mJ ?_);refine uW ?_;refine Jd (cs:=zR) rfl rfl zU TZ rfl xq (fun lF qZ aD eF=>?_);have je:Fr [] u6 lF:=mJ.trans aD (fun x hx=>.inr bt);refine wpList_nil (Jv je ?_);refine JJ (i:=11) rfl az ?_;refine rx ?_;refine Jv je ?_;refine gK ?_;refine JK a6 ⟨q,zR,b8,rfl,rfl,rfl,qZ,xq,TZ,je,fS.imp id (fun⟨d,h1,h2,h3⟩=>⟨d,h1,h2,?_⟩)⟩;exact(((h3.mono (T:=q::K5) (fun b hb=>(SC.1 hb).elim (fun h=>.inr ab) .inl)).tr0 aW).old aD (fun b hb=>.inl ω)).mono (fun b hb=>.inl (CY _ hb))
    .refine Jm (l:=[zI,zT,zI,zS,zS,zI,zT,zS,zI,zT,zI,zS,zS,zS,zI,zI,zI,zT,zS,zS,zS,zI,zS,zS,zS,zS,zI,zT,zS,zI,zT,zI,zS,zS,zS,zI,zS,zS,zI,zT,zI,zS,zS,zS,zI]) rfl (fun u8 q nJ hq8 aM fL=>?_);have T2:=pf.Jb aM;refine wpList_nil (Jv T2 ?_);refine zD ?_;refine aT (NJ ds 1 l[j] v0 u8 (q::K5) ((iap.mono (T:=q::K5) (fun b hb=>(SC.1 hb).elim (fun h=>.inr ab) .inl)).tr0 aM)) rfl ?_;rintro en u9 jM;obtain⟨zR,b8,rfl,xq,TZ,aW,fS⟩:=Jjf jM;refine⟨_,rfl,?_⟩;have mJ:=T2.Jb aW;have ju:=aW.size;have zU:=hq8.tr0 aW;refine wpList_nil (Jv mJ ?_);refine JX 6 7 mJ ?_;refine bH 8 mJ ?_;refine uW ?_;refine Jd (cs:=zR) rfl rfl zU TZ rfl xq (fun lF qZ aD eF=>?_);have je:Fr [] u6 lF:=mJ.trans aD (fun x hx=>.inr bt);refine wpList_nil (Jv je ?_);refine JJ (i:=11) rfl az ?_;refine rx ?_;refine Jv je ?_;refine gK ?_;refine JK a6 ⟨q,zR,b8,rfl,rfl,rfl,qZ,xq,TZ,je,fS.imp id (fun⟨d,h1,h2,h3⟩=>⟨d,h1,h2,?_⟩)⟩;exact(h3.old aD (fun b hb=>.inl ω)).mono (fun b hb=>.inl (CY _ hb))
  rintro g3 lF ⟨q,zR,b8,g15,g17,g18,qZ,xq,TZ,bk,fS⟩;rw[Ja g15,Ja g17,Ja g18];clear g15 g17 g18;have icA:=qz.tr0 bk;have ieI:=bk.size;have ou:=bR.Jb bk;have ibP:=Fr.cell0 bk oK;have bI:oH p2 u4 lF:=du.trans (.of0 ou);have zV:=te.Jb ou;have hos:=hos.tr0 ou;have iaq:=icw.tr0 ou;have iar:=TM.imp (fun d cs _ hr=>hr.tr0 ou);have hsF:=zV.size;have ieJ:=ou.size;refine wp_seq ?_;refine KZ 15 [5] (fun g qA=>∃vt',g 5=vt'/\RS w qA (s5.1,(Vm ds s5 l[j]).2) (Value.slice lE s5.1.length s4) vt'/\oH p2 lF qA/\(∀x∈ag vt',p2 x)/\lF.heap.size<=qA.heap.size) ?_ ?_
  .have ias:(Vm ds s5 l[j]).2=s5.2->Fr [] lF lF->RS w lF (s5.1,(Vm ds s5 l[j]).2) (Value.slice lE s5.1.length s4) vt:=fun h _=>by rw[h];exact icA
   rcases fS with⟨hn,rfl⟩|⟨dd,tQ,rfl,sg⟩
   .have he:(Vm ds s5 l[j]).2=s5.2:=by unfold Vm;simp only[hn];split<;>rfl
    refine rx ?_;exact Yhh
   cases hb:Vu l[j] s5.1 with
   |true=>
    have he:(Vm ds s5 l[j]).2=s5.2:=by unfold Vm;simp only[hb,CX]
    refine rx ?_;exact Yhh
   |false=>
    have he:(Vm ds s5 l[j]).2=s5.2++[dd]:=by unfold Vm;simp only[hb,SS,CW,tQ]
    refine rx ?_;refine KE rfl qZ xq ?_;refine rx ?_;refine JQ (c1:=zR) rfl xq rfl (fun qA qq gz icB aB eQ=>?_);refine rx ?_;refine JC (iaq.tr0 aB) rfl icB.src rfl (by rw[xq]) TZ dt ab (fun v' zW yp aK T3 _=>?_);have fN:=aK.size;have cj:Fr (ag vt) lF zW:=(aB.mono ap).trans aK (fun x hx=>.inl hx);have j1:∀x∈ag v',x∈ag vt\/lF.heap.size<=x:=fun x hx=>(T3 x hx).imp id kX
    have uc:∀x∈ag v',p2 x:=fun x hx=>(j1 x hx).elim (fun h=>qY x (.inr h)) (fun h=>iam x (by have:=hT5.size;omega))
    refine rx ?_;refine JK a6 ⟨v',rfl,?_,⟨_,cj,fun x hx=>qY x (.inr hx)⟩,uc,by omega⟩;rw[he];have T7:∀x∈ag vt,x∈K5:=icx;have icC:∀x∈K5++ag v',x∈K5\/lF.heap.size<=x:=fun x hx=>(SE.1 hx).elim .inl (fun h=>(j1 x h).imp (T7 x) id)
    have kQ:∀{d:De} {cs:List Value},RD lF K5 (eR d) cs->RD zW (K5++ag v') (eR d) cs:=fun h=>(h.mono icC).old cj (fun b hb=>.inl (SA _ (T7 b hb)))
    refine⟨K5++ag v',xs5++zR,zV.trans cj (fun x hx=>.inr (Iq (hK5 x (T7 x hx)).1)),hos.tr cj (fun x hx=>zQ x hx),by rw[Sm,Dx];exact yp,(iar.imp (fun d cs _ hr=>kQ hr)).app (Rws.one (kQ sg)),fun x hx=>SA _ (iao x hx),fun x hx=>CJ _ hx,fun x hx=>?_,fun x hx hm=>?_⟩
    .rcases SE.1 hx with h|h
     .have:=hK5 x h;exact⟨this.1,by omega⟩
     .exact ⟨ial x (uc x h),yp.lt x h⟩
    .rcases j1 x hm with h|h
     .exact zQ x hx h
     .have:=(hK5 x (iao x hx)).2;omega
  rintro g4 qA ⟨vt',g5,icD,bL,hpt,eQ⟩;rw[Ja g5];clear g5;have yq:qA.cell? (adc.add j)=some (.string l[j]):=by
   obtain⟨T,h1,h2⟩:=bI.trans bL;exact(Vs ((hoc.tr h1 (fun x hx hm=>hpc x (h2 x hm) hx)).src) pH)
  obtain⟨K11,icE,iat,zX,zY,zZ,vw,Pa,T8,vz⟩:=icD;simp only at zX zY zZ;refine rx ?_;refine KW rfl (by rw[Dq];exact yq) ?_;refine rx ?_;refine QO (v:=.string l[j]) rfl rfl (fun zW yp aK fN=>?_);refine rx ?_;refine JC (zX.tr0 aK) rfl yp.src rfl rfl dQ dt ab (fun v' u13 iau aL yr _=>?_);have cn:Fr (ag (Value.slice lE s5.1.length s4)) qA u13:=(aK.mono ap).trans aL (fun x hx=>.inl hx);have j1:∀x∈ag v',x∈ag (Value.slice lE s5.1.length s4)\/qA.heap.size<=x:=fun x hx=>(yr x hx).imp id kX
  have uc:∀x∈ag v',p2 x:=fun x hx=>(j1 x hx).elim (fun h=>qY x (.inl h)) (fun h=>iam x (by have:=hT5.size;omega))
  refine rx ?_;refine Jc (j+1,vt',v') a6 ⟨rfl,rfl,rfl,jm,?_,(bI.trans bL).trans ⟨_,cn,fun x hx=>qY x (.inl hx)⟩,fun x hx=>hx.elim (uc x) (hpt x)⟩ eM;rw[ict];have ia:=cn.size;have icF:∀x∈K11++ag v',x∈K11\/qA.heap.size<=x:=fun x hx=>(SE.1 hx).elim .inl (fun h=>(j1 x h).imp (vw x) id)
  refine⟨K11++ag v',icE,iat.trans cn (fun x hx=>.inr (Iq (T8 x (vw x hx)).1)),?_,zY.tr cn (fun x hx hm=>vz x hm hx),zZ.imp (fun d cs _ h=>(h.mono icF).old cn (fun b hb=>.inl (SA _ (vw b hb)))),fun x hx=>CJ _ hx,fun x hx=>SA _ (Pa x hx),fun x hx=>?_,fun x hx hm=>?_⟩
  .have:(Vm ds s5 l[j]).1=s5.1++[l[j]]:=rfl;rw[this,Sm,Dp];exact iau
  .rcases SE.1 hx with h|h
   .have:=T8 x h;exact⟨this.1,by omega⟩
   .exact ⟨ial x (uc x h),iau.lt x h⟩
  .rcases j1 x hx with h|h
   .exact vz x h hm
   .have:=(T8 x (Pa x hm)).2;omega
 obtain⟨adn,icG,q9⟩:=KO (hos.tr0 bR).src (JaI TY);subst icG;have q9:u6.cell? (adn.add (n*1))=some (.string s5.1[n]):=by rw[Dq];exact q9
 have oK:u6.cell? (adc.add (j*1))=some (.string l[j]):=by rw[Dq];exact Fr.cell0 bR bV
 refine rx ?_;refine JE (fun z=>Fr [] u6 z) az rfl ?_;obtain⟨u7,hu7⟩:=aP u6.drew;rw[<-hu7];have hS:Fr [] u6 u7:=hu7▸Fr.drew _ _;cases hb:Vu l[j] (s5.1.take n)with
 |true=>
  refine Jj 0 1 2 3 hS ?_;refine Jj 4 5 6 7 hS ?_;refine Jj 8 9 10 11 hS ?_;refine JJ (i:=12) rfl az ?_;refine rx ?_;refine Jv hS ?_;refine j5 ?_;exact Jc (n+1) a6 ⟨by rw[Lr TY,hb];rfl,rfl,TY,bR.Jb hS⟩ ab
 |false=>
  refine Ae ?_;refine Kz 5 hS ?_ (aw:=by(intro u hu;exact(J7 rfl (Fr.cell0 hu q9))));refine JX 6 7 hS ?_;refine bH 8 hS ?_;refine Kz 9 hS ?_ (aw:=by(intro u hu;exact(J7 rfl (Fr.cell0 hu oK))));by_cases he:s5.1[n]=l[j]
  . (apply V4 (i:=10);exact rfl;exact rfl;kernel_rfl;kernel_rfl;kernel_rfl;(intro u hu;exact(NQ (p:=true) rfl rfl (SN he)));exact hS)
    refine bH 11 hS ?_;refine JJ (i:=12) rfl az ?_;refine rx ?_;refine Jv hS ?_;refine j5 ?_;exact Jc (n+1) a6 ⟨by rw[Lr TY,hb,SN he];rfl,rfl,TY,bR.Jb hS⟩ ab
  . (apply V4 (i:=10);exact rfl;exact rfl;kernel_rfl;kernel_rfl;kernel_rfl;(intro u hu;exact(NQ (p:=false) rfl rfl (SG he)));exact hS)
    refine bH 11 hS ?_;refine JJ (i:=12) rfl az ?_;refine rx ?_;refine Jv hS ?_;refine j5 ?_;exact Jc (n+1) a6 ⟨by rw[Lr TY,hb,SG he];rfl,rfl,TY,bR.Jb hS⟩ ab
end Go.Proofs.YtggmccicdhnkgaaGreat
namespace Go.Rf
open Go.RowKit
section
variable{cmd:Bool}{d:De}{n:Int}{r':List Tk}{f m:Nat}
mutual
def wE:Ex->Nat
 |⟨_,_,_,ns,_,ks,_⟩=>1+ns.length+fF ks
def fF:List Ex->Nat
 |[]=>0
 |e::l=>wE e+fF l
end
mutual
def mZ(A:Int->Prop):Ex->Prop
 |⟨_,_,_,_,_,ks,a⟩=>A a/\Qn A ks
def Qn(A:Int->Prop):List Ex->Prop
 |[]=>True
 |e::l=>mZ A e/\Qn A l
end
theorem JaF(a b:List Ex):fF (a++b)=fF a+fF b:=by
 induction a with
 |nil=>simp[fF]
 |cons x a ih=>simp only[CQ,fF,ih];omega
theorem Zo{A:Int->Prop}(a b:List Ex):Qn A (a++b)↔Qn A a/\Qn A b:=by
 induction a with
 |nil=>simp[Qn]
 |cons x a ih=>simp only[CQ,Qn,ih,and_assoc]
def TA(A:Int->Prop)(r:List Tk):Prop:=∀t∈r,A t.at_/\t.text.length<=100000
section
variable{A:Int->Prop}{n:Int}{r r1:List Tk}{t:Bs}{k:Nat}
theorem JU(h:bg t r=true)(ha:TA A r):TA A r.tail/\r.tail.length+1<=r.length:=by
 cases r with
 |nil=>cases h
 |cons x r=>exact⟨fun y hy=>ha y (by simp at hy ⊢;exact .inr hy),by simp⟩
theorem Jr(h:JB t r=some r1)(ha:TA A r):TA A r1/\r1.length+1<=r.length:=by
 unfold JB at h
 split at h
 .rename_i h1;cases h;exact JU h1 ha
 .cases h
theorem Qg{x:Tk}(h:Vr k r=some (x,r1))(ha:TA A r):(A x.at_/\x.text.length<=100000)/\TA A r1/\r1.length+1<=r.length:=by
 cases r with
 |nil=>cases h
 |cons y r=>
  simp only[Vr]at h
  split at h
  .simp only[Sj,Sz]at h;obtain⟨rfl,rfl⟩:=h;exact⟨ha _ ap,fun z hz=>ha z (by simp[hz]),by simp⟩
  .cases h
theorem BM{x:Bs}(h:JW k r=some x)(ha:TA A r):TA A r.tail/\r.tail.length+1<=r.length:=JU (t:=x) (Hq (p:=fun o=>bg o r) h) ha
theorem LU(hn:A n)(ha:TA A r):A (bj n r):=by
 cases r with
 |nil=>exact hn
 |cons x r=>exact(ha x ap).1
end
def GE(A:Int->Prop)(r:List Tk)(e:Ex)(r':List Tk):Prop:=mZ A e/\TA A r'/\wE e+r'.length<=r.length
def GEs(A:Int->Prop)(r:List Tk)(l:List Ex)(r':List Tk):Prop:=Qn A l/\TA A r'/\fF l+r'.length<=r.length
def GM(A:Int->Prop)(r r':List Tk):Prop:=TA A r'/\r'.length<=r.length
theorem Bq{A:Int->Prop}:∀(f:Nat) {r:List Tk} {x:Ty} {r':List Tk},Lh f r=some (x,r')->TA A r->GM A r r'
 |0,r,x,r',h,_=>by simp[Lh]at h
 |f+1,r,x,r',h,ha=>by
  rw[Lh]at h
  split at h
  .rename_i h1;have g:=JU h1 ha;simp only[Sj,Sz]at h;obtain⟨rfl,rfl⟩:=h;exact⟨g.1,by omega⟩
  split at h
  .rename_i h1;have g:=JU h1 ha;simp only[Sj,Sz]at h;obtain⟨rfl,rfl⟩:=h;exact⟨g.1,by omega⟩
  split at h
  .rename_i h1;have g:=JU h1 ha;obtain⟨⟨x1,r1⟩,h1,h⟩:=Si.1 h
   try simp only at h
   have g1:=Bq f h1 g.1;exact Ycc
  .obtain ⟨⟨x1,r1⟩,h1,h⟩:=Si.1 h
   try simp only at h
   have g1:=Qg h1 ha;exact Ydd
theorem JdK{A:Int->Prop}:∀(f:Nat) {r:List Tk} {x:List Bs} {r':List Tk},Gs f r=some (x,r')->TA A r->GM A r r'
 |0,r,x,r',h,_=>by simp[Gs]at h
 |f+1,r,x,r',h,ha=>by
  rw[Gs]at h;obtain⟨⟨x1,r1⟩,h1,h⟩:=Si.1 h
  try simp only at h
  have g1:=Qg h1 ha
  try simp only at h
  split at h
  .rename_i h2;have g:=JU h2 g1.2.1;obtain⟨⟨x3,r3⟩,h3,h⟩:=Si.1 h
   try simp only at h
   have g3:=JdK f h3 g.1;simp only[Sj,Sz]at h;obtain⟨rfl,rfl⟩:=h;exact⟨g3.1,by have:=g3.2;omega⟩
  .simp only[Sj,Sz]at h;obtain⟨rfl,rfl⟩:=h;exact⟨g1.2.1,by omega⟩
theorem JfO{A:Int->Prop}{r:List Tk}{x:List Bs}(h:N7 f r=some (x,r'))(ha:TA A r):GM A r r':=by
 unfold N7 at h
 split at h
 .rename_i h1;have g:=JU h1 ha;obtain⟨⟨x1,r1⟩,h1,h⟩:=Si.1 h
  try simp only at h
  have g1:=JdK f h1 g.1;exact Ycc
 .simp only[Sj,Sz]at h;obtain⟨rfl,rfl⟩:=h;exact⟨ha,by omega⟩
structure PG (A:Int->Prop) (n:Int) (f:Nat):Prop where
 ex:∀{r e r'},J5 n f r=some (e,r')->TA A r->GE A r e r'
 arms:∀{r} {x:List (Bs×List Bs×Ex)} {r'},Ba n f r=some (x,r')->TA A r->Qn A (x.map fun y=>y.2.2)/\TA A r'/\x.length+fF (x.map fun y=>y.2.2)+r'.length<=r.length
 go:∀{r e r'},Zm n f r=some (e,r')->TA A r->GEs A r e r'
 v1:∀{r e r'},Xp n f r=some (e,r')->TA A r->GE A r e r'
 o1:∀{a e0 r e r'},Zk n f a e0 r=some (e,r')->TA A r->A a->mZ A e0->mZ A e/\TA A r'/\wE e+r'.length<=wE e0+r.length
 v2:∀{r e r'},VZ n f r=some (e,r')->TA A r->GE A r e r'
 o2:∀{a e0 r e r'},Zj n f a e0 r=some (e,r')->TA A r->A a->mZ A e0->mZ A e/\TA A r'/\wE e+r'.length<=wE e0+r.length
 v3:∀{r e r'},Q7 n f r=some (e,r')->TA A r->GE A r e r'
 v4:∀{r e r'},Xo n f r=some (e,r')->TA A r->GE A r e r'
 v5:∀{r e r'},VL n f r=some (e,r')->TA A r->GE A r e r'
 o5:∀{a e0 r e r'},Zi n f a e0 r=some (e,r')->TA A r->A a->mZ A e0->mZ A e/\TA A r'/\wE e+r'.length<=wE e0+r.length
 v6:∀{r e r'},VD n f r=some (e,r')->TA A r->GE A r e r'
 o6:∀{a e0 r e r'},X0 n f a e0 r=some (e,r')->TA A r->A a->mZ A e0->mZ A e/\TA A r'/\wE e+r'.length<=wE e0+r.length
 op:∀{r e r'},Vj n f r=some (e,r')->TA A r->GE A r e r'
 exs:∀{t r e r'},Q8 n f t r=some (e,r')->TA A r->GEs A r e r'
theorem PG.zero(A:Int->Prop)(n:Int):PG A n 0 where
 ex:=fun h=>by simp[J5]at h
 arms:=fun h=>by simp[Ba]at h
 go:=fun h=>by simp[Zm]at h
 v1:=fun h=>by simp[Xp]at h
 o1:=fun h=>by simp[Zk]at h
 v2:=fun h=>by simp[VZ]at h
 o2:=fun h=>by simp[Zj]at h
 v3:=fun h=>by simp[Q7]at h
 v4:=fun h=>by simp[Xo]at h
 v5:=fun h=>by simp[VL]at h
 o5:=fun h=>by simp[Zi]at h
 v6:=fun h=>by simp[VD]at h
 o6:=fun h=>by simp[X0]at h
 op:=fun h=>by simp[Vj]at h
 exs:=fun h=>by simp[Q8]at h
theorem PG.succ{A:Int->Prop}(hn:A n)(ih:PG A n f):PG A n (f+1) where
 ex:=fun h ha=>by
  rw[J5]at h;have ga:=LU hn ha
  split at h
  .rename_i hc;have gc:=JU hc ha;obtain⟨⟨x1,r1⟩,h1,h⟩:=Si.1 h
   try simp only at h
   have g1:=ih.ex h1 gc.1;have l1:=g1.2.2;obtain⟨r2,h2,h⟩:=Si.1 h;have g2:=Jr h2 g1.2.1;obtain⟨⟨x3,r3⟩,h3,h⟩:=Si.1 h
   try simp only at h
   have g3:=ih.ex h3 g2.1;have l3:=g3.2.2;obtain⟨r4,h4,h⟩:=Si.1 h;have g4:=Jr h4 g3.2.1;obtain⟨⟨x5,r5⟩,h5,h⟩:=Si.1 h
   try simp only at h
   have g5:=ih.ex h5 g4.1;have l5:=g5.2.2;simp only[Sj,Sz]at h;obtain⟨rfl,rfl⟩:=h;exact⟨by simp only[mZ,Qn,Eh];exact⟨ga,g1.1,g3.1,g5.1⟩,g5.2.1,by simp only[wE,fF,SY,Sr,Ec];omega⟩
  split at h
  .rename_i hc;have gc:=JU hc ha;obtain⟨⟨x1,r1⟩,h1,h⟩:=Si.1 h
   try simp only at h
   have g1:=Qg h1 gc.1;obtain⟨r2,h2,h⟩:=Si.1 h;have g2:=Jr h2 g1.2.1;obtain⟨⟨x3,r3⟩,h3,h⟩:=Si.1 h
   try simp only at h
   have g3:=ih.ex h3 g2.1;have l3:=g3.2.2;obtain⟨r4,h4,h⟩:=Si.1 h;have g4:=Jr h4 g3.2.1;obtain⟨⟨x5,r5⟩,h5,h⟩:=Si.1 h
   try simp only at h
   have g5:=ih.ex h5 g4.1;have l5:=g5.2.2;simp only[Sj,Sz]at h;obtain⟨rfl,rfl⟩:=h;exact⟨by simp only[mZ,Qn,Eh];exact⟨ga,g3.1,g5.1⟩,g5.2.1,by simp only[wE,fF,SY,Sr,Ec];omega⟩
  split at h
  .rename_i hc;have gc:=JU hc ha;obtain⟨⟨x1,r1⟩,h1,h⟩:=Si.1 h
   try simp only at h
   have g1:=ih.ex h1 gc.1;have l1:=g1.2.2;obtain⟨r2,h2,h⟩:=Si.1 h;have g2:=Jr h2 g1.2.1;obtain⟨⟨x3,r3⟩,h3,h⟩:=Si.1 h
   try simp only at h
   have g3:=ih.arms h3 g2.1;have l3:=g3.2.2;obtain⟨r4,h4,h⟩:=Si.1 h;have g4:=Jr h4 g3.2.1;simp only[Sj,Sz]at h;obtain⟨rfl,rfl⟩:=h;exact⟨by simp only[mZ,Qn];exact⟨ga,g1.1,g3.1⟩,g4.1,by simp only[wE,fF,SY,Sr,Ec];omega⟩
  .exact ih.v1 h ha
 arms:=fun h ha=>by
  rw[Ba]at h;obtain⟨⟨x1,r1⟩,h1,h⟩:=Si.1 h
  try simp only at h
  have g1:=Qg h1 ha;obtain⟨⟨x2,r2⟩,h2,h⟩:=Si.1 h
  try simp only at h
  have g2:=JfO h2 g1.2.1;have l2:=g2.2;obtain⟨r3,h3,h⟩:=Si.1 h;have g3:=Jr h3 g2.1;obtain⟨⟨x4,r4⟩,h4,h⟩:=Si.1 h
  try simp only at h
  have g4:=ih.ex h4 g3.1;have l4:=g4.2.2
  try simp only at h
  split at h
  .rename_i hc;have gc:=JU hc g4.2.1;obtain⟨⟨x5,r5⟩,h5,h⟩:=Si.1 h
   try simp only at h
   have g5:=ih.arms h5 gc.1;simp only[Sj,Sz]at h;obtain⟨rfl,rfl⟩:=h;exact⟨by simp only[DL,Qn];exact⟨g4.1,g5.1⟩,g5.2.1,by simp only[DL,fF,SI];have:=g5.2.2;omega⟩
  .simp only[Sj,Sz]at h;obtain⟨rfl,rfl⟩:=h;exact⟨by simp only[DL,Ec,Qn,Eh];exact g4.1,g4.2.1,by simp only[DL,Ec,fF,SI,SY];omega⟩
 go:=fun h ha=>by
  rw[Zm]at h;obtain⟨⟨x1,r1⟩,h1,h⟩:=Si.1 h
  try simp only at h
  have g1:=ih.ex h1 ha;have l1:=g1.2.2
  try simp only at h
  split at h
  .rename_i hc;have gc:=JU hc g1.2.1;obtain⟨⟨x5,r5⟩,h5,h⟩:=Si.1 h
   try simp only at h
   have g5:=ih.go h5 gc.1;simp only[Sj,Sz]at h;obtain⟨rfl,rfl⟩:=h;exact⟨by simp only[Qn];exact⟨g1.1,g5.1⟩,g5.2.1,by simp only[fF];have:=g5.2.2;omega⟩
  .simp only[Sj,Sz]at h;obtain⟨rfl,rfl⟩:=h;exact⟨by simp only[Qn,Eh];exact g1.1,g1.2.1,by simp only[fF];omega⟩
 v1:=fun h ha=>by
  rw[Xp]at h;have ga:=LU hn ha;obtain⟨⟨x1,r1⟩,h1,h⟩:=Si.1 h
  try simp only at h
  have g1:=ih.v2 h1 ha;have l1:=g1.2.2;have g2:=ih.o1 h g1.2.1 ga g1.1;exact⟨g2.1,g2.2.1,by have:=g2.2.2;omega⟩
 o1:=fun h ha hA h0=>by
  rw[Zk]at h
  split at h
  .simp only[Sj,Sz]at h;obtain⟨rfl,rfl⟩:=h;exact⟨h0,ha,by omega⟩
  .rename_i b hc;have gc:=BM hc ha;obtain⟨⟨x1,r1⟩,h1,h⟩:=Si.1 h
   try simp only at h
   have g1:=ih.v2 h1 gc.1;have l1:=g1.2.2;have g2:=ih.o1 h g1.2.1 hA Yje;exact Ybs
 v2:=fun h ha=>by
  rw[VZ]at h;have ga:=LU hn ha;obtain⟨⟨x1,r1⟩,h1,h⟩:=Si.1 h
  try simp only at h
  have g1:=ih.v3 h1 ha;have l1:=g1.2.2;have g2:=ih.o2 h g1.2.1 ga g1.1;exact⟨g2.1,g2.2.1,by have:=g2.2.2;omega⟩
 o2:=fun h ha hA h0=>by
  rw[Zj]at h
  split at h
  .simp only[Sj,Sz]at h;obtain⟨rfl,rfl⟩:=h;exact⟨h0,ha,by omega⟩
  .rename_i b hc;have gc:=BM hc ha;obtain⟨⟨x1,r1⟩,h1,h⟩:=Si.1 h
   try simp only at h
   have g1:=ih.v3 h1 gc.1;have l1:=g1.2.2;have g2:=ih.o2 h g1.2.1 hA Yje;exact Ybs
 v3:=fun h ha=>by
  rw[Q7]at h;have ga:=LU hn ha
  split at h
  .rename_i hc;have gc:=JU hc ha;obtain⟨⟨x1,r1⟩,h1,h⟩:=Si.1 h
   try simp only at h
   have g1:=ih.v3 h1 gc.1;have l1:=g1.2.2;simp only[Sj,Sz]at h;obtain⟨rfl,rfl⟩:=h;exact⟨by simp only[mZ,Qn,Eh];exact⟨ga,g1.1⟩,g1.2.1,by simp only[wE,fF,SY,Sr,Ec];omega⟩
  .exact ih.v4 h ha
 v4:=fun h ha=>by
  rw[Xo]at h;have ga:=LU hn ha;obtain⟨⟨x1,r1⟩,h1,h⟩:=Si.1 h
  try simp only at h
  have g1:=ih.v5 h1 ha;have l1:=g1.2.2
  try simp only at h
  split at h
  .simp only[Sj,Sz]at h;obtain⟨rfl,rfl⟩:=h;exact g1
  .rename_i b hc;have gc:=BM hc g1.2.1;obtain⟨⟨x2,r2⟩,h2,h⟩:=Si.1 h
   try simp only at h
   have g2:=ih.v5 h2 gc.1;have l2:=g2.2.2;simp only[Sj,Sz]at h;obtain⟨rfl,rfl⟩:=h;exact⟨by simp only[mZ,Qn,Eh];exact⟨ga,g1.1,g2.1⟩,g2.2.1,by simp only[wE,fF,SY];omega⟩
 v5:=fun h ha=>by
  rw[VL]at h;have ga:=LU hn ha;obtain⟨⟨x1,r1⟩,h1,h⟩:=Si.1 h
  try simp only at h
  have g1:=ih.v6 h1 ha;have l1:=g1.2.2;have g2:=ih.o5 h g1.2.1 ga g1.1;exact⟨g2.1,g2.2.1,by have:=g2.2.2;omega⟩
 o5:=fun h ha hA h0=>by
  rw[Zi]at h
  split at h
  .simp only[Sj,Sz]at h;obtain⟨rfl,rfl⟩:=h;exact⟨h0,ha,by omega⟩
  .rename_i b hc;have gc:=BM hc ha;obtain⟨⟨x1,r1⟩,h1,h⟩:=Si.1 h
   try simp only at h
   have g1:=ih.v6 h1 gc.1;have l1:=g1.2.2;have g2:=ih.o5 h g1.2.1 hA Yje;exact Ybs
 v6:=fun h ha=>by
  rw[VD]at h;have ga:=LU hn ha;obtain⟨⟨x1,r1⟩,h1,h⟩:=Si.1 h
  try simp only at h
  have g1:=ih.op h1 ha;have l1:=g1.2.2;have g2:=ih.o6 h g1.2.1 ga g1.1;exact⟨g2.1,g2.2.1,by have:=g2.2.2;omega⟩
 o6:=fun h ha hA h0=>by
  rw[X0]at h
  split at h
  .simp only[Sj,Sz]at h;obtain⟨rfl,rfl⟩:=h;exact⟨h0,ha,by omega⟩
  .rename_i b hc;have gc:=BM hc ha;obtain⟨⟨x1,r1⟩,h1,h⟩:=Si.1 h
   try simp only at h
   have g1:=ih.op h1 gc.1;have l1:=g1.2.2;have g2:=ih.o6 h g1.2.1 hA Yje;exact Ybs
 op:=fun h ha=>by
  rw[Vj]at h;have ga:=LU hn ha
  split at h
  .rename_i hc;have gc:=JU hc ha;obtain⟨⟨x1,r1⟩,h1,h⟩:=Si.1 h
   try simp only at h
   have g1:=Qg h1 gc.1;exact Ybz
  split at h
  .rename_i hc;have gc:=JU hc ha;exact Ycb
  split at h
  .rename_i hc;have gc:=JU hc ha;exact Ycb
  split at h
  .rename_i hc;have gc:=JU hc ha;obtain⟨⟨x1,r1⟩,h1,h⟩:=Si.1 h
   try simp only at h
   have g1:=ih.ex h1 gc.1;exact Yca
  split at h
  .rename_i hc;have gc:=JU hc ha;obtain⟨⟨x1,r1⟩,h1,h⟩:=Si.1 h
   try simp only at h
   have g1:=ih.exs h1 gc.1;have l1:=g1.2.2;simp only[Sj,Sz]at h;obtain⟨rfl,rfl⟩:=h;exact⟨by simp only[mZ];exact⟨ga,g1.1⟩,g1.2.1,by simp only[wE,fF,SY,Sr,Ec];omega⟩
  split at h
  .obtain ⟨⟨x1,r1⟩,h1,h⟩:=Si.1 h
   try simp only at h
   have g1:=Qg h1 ha;exact Ybz
  split at h
  .obtain ⟨⟨x1,r1⟩,h1,h⟩:=Si.1 h;exact Yy
  .obtain ⟨⟨x1,r1⟩,h1,h⟩:=Si.1 h;exact Yy
 exs:=fun h ha=>by
  rw[Q8]at h
  split at h
  .rename_i hc;have gc:=JU hc ha;simp only[Sj,Sz]at h;obtain⟨rfl,rfl⟩:=h;exact⟨trivial,gc.1,by simp only[fF];omega⟩
  .obtain ⟨⟨x1,r1⟩,h1,h⟩:=Si.1 h
   try simp only at h
   have g1:=ih.go h1 ha;exact Yca
theorem pg{A:Int->Prop}(hn:A n):∀f,PG A n f
 |0=>PG.zero A n
 |f+1=>PG.succ hn (pg hn f)
theorem Jaq{A:Int->Prop}(hn:A n){r:List Tk}{x:List Ex}(h:ZN n f r=some (x,r'))(ha:TA A r):GM A r r':=by
 unfold ZN at h;obtain⟨⟨x1,r1⟩,h1,h⟩:=Si.1 h
 try simp only at h
 have g1:=(pg hn f).ex h1 ha;have l1:=g1.2.2;obtain⟨r2,h2,h⟩:=Si.1 h;have g2:=Jr h2 g1.2.1;obtain⟨⟨x3,r3⟩,h3,h⟩:=Si.1 h
 try simp only at h
 have g3:=(pg hn f).ex h3 g2.1;exact Ycx
structure PGn (A:Int->Prop) (n:Int) (f:Nat):Prop where
 gen:∀{r e r'},ZY n f r=some (e,r')->TA A r->GM A r r'
 wh:∀{a g r e r'},Zg n f a g r=some (e,r')->TA A r->GM A r r'
 part:∀{r e r'},Zh n f r=some (e,r')->TA A r->GM A r r'
 one:∀{r} {e:List (Int×Gn)} {r'},y9 n f r=some (e,r')->TA A r->GM A r r'
 mke:∀{r} {e:List Gn} {r'},Zl n f r=some (e,r')->TA A r->GM A r r'
theorem PGn.zero(A:Int->Prop)(n:Int):PGn A n 0 where
 gen:=fun h=>by simp[ZY]at h
 wh:=fun h=>by simp[Zg]at h
 part:=fun h=>by simp[Zh]at h
 one:=fun h=>by simp[y9]at h
 mke:=fun h=>by simp[Zl]at h
theorem PGn.succ{A:Int->Prop}(hn:A n)(ih:PGn A n f):PGn A n (f+1) where
 gen:=fun h ha=>by
  rw[ZY]at h
  split at h
  .rename_i hc;have gc:=JU hc ha;obtain⟨⟨x1,r1⟩,h1,h⟩:=Si.1 h
   try simp only at h
   have g1:=Qg h1 gc.1;obtain⟨r2,h2,h⟩:=Si.1 h;have g2:=Jr h2 g1.2.1;obtain⟨⟨x3,r3⟩,h3,h⟩:=Si.1 h
   try simp only at h
   have g3:=ih.gen h3 g2.1;have l3:=g3.2;obtain⟨r4,h4,h⟩:=Si.1 h;have g4:=Jr h4 g3.1;obtain⟨⟨x5,r5⟩,h5,h⟩:=Si.1 h
   try simp only at h
   have g5:=ih.gen h5 g4.1;have l5:=g5.2;simp only[Sj,Sz]at h;obtain⟨rfl,rfl⟩:=h;exact⟨g5.1,by omega⟩
  .obtain ⟨⟨x1,r1⟩,h1,h⟩:=Si.1 h
   try simp only at h
   have g1:=ih.part h1 ha;have l1:=g1.2;have g2:=ih.wh h g1.1;exact⟨g2.1,by have:=g2.2;omega⟩
 wh:=fun h ha=>by
  rw[Zg]at h
  split at h
  .rename_i hc;have gc:=JU hc ha;obtain⟨⟨x1,r1⟩,h1,h⟩:=Si.1 h
   try simp only at h
   have g1:=Qg h1 gc.1;obtain⟨r2,h2,h⟩:=Si.1 h;have g2:=Jr h2 g1.2.1;obtain⟨⟨x3,r3⟩,h3,h⟩:=Si.1 h
   try simp only at h
   have g3:=(pg hn f).ex h3 g2.1;have l3:=g3.2.2;have g4:=ih.wh h g3.2.1;exact⟨g4.1,by have:=g4.2;omega⟩
  .simp only[Sj,Sz]at h;obtain⟨rfl,rfl⟩:=h;exact⟨ha,by omega⟩
 part:=fun h ha=>by
  rw[Zh]at h
  split at h
  .rename_i hc;have gc:=JU hc ha;obtain⟨⟨x1,r1⟩,h1,h⟩:=Si.1 h
   try simp only at h
   have g1:=(pg hn f).ex h1 gc.1;have l1:=g1.2.2;exact Ydd
  split at h
  .rename_i hc;have gc:=JU hc ha;obtain⟨⟨x1,r1⟩,h1,h⟩:=Si.1 h
   try simp only at h
   have g1:=Jaq hn h1 gc.1;have l1:=g1.2;simp only[Sj,Sz]at h;obtain⟨rfl,rfl⟩:=h;exact⟨g1.1,by omega⟩
  split at h
  .rename_i hc;have gc:=JU hc ha;obtain⟨⟨x1,r1⟩,h1,h⟩:=Si.1 h
   try simp only at h
   have g1:=Jaq hn h1 gc.1;have l1:=g1.2;obtain⟨r2,h2,h⟩:=Si.1 h;have g2:=Jr h2 g1.1;obtain⟨⟨x3,r3⟩,h3,h⟩:=Si.1 h
   try simp only at h
   have g3:=ih.part h3 g2.1;have l3:=g3.2;exact Ybj
  split at h
  .rename_i hc;have gc:=JU hc ha;obtain⟨⟨x1,r1⟩,h1,h⟩:=Si.1 h
   try simp only at h
   have g1:=ih.gen h1 gc.1;have l1:=g1.2;obtain⟨r2,h2,h⟩:=Si.1 h;have g2:=Jr h2 g1.1;simp only[Sj,Sz]at h;obtain⟨rfl,rfl⟩:=h;exact⟨g2.1,by omega⟩
  split at h
  .rename_i hc;have gc:=JU hc ha;obtain⟨r1,h1,h⟩:=Si.1 h;have g1:=Jr h1 gc.1;obtain⟨⟨x2,r2⟩,h2,h⟩:=Si.1 h
   try simp only at h
   have g2:=ih.one h2 g1.1;exact Ybi
  split at h
  .rename_i hc;have gc:=JU hc ha;obtain⟨⟨x1,r1⟩,h1,h⟩:=Si.1 h
   try simp only at h
   have g1:=Qg h1 gc.1;obtain⟨r2,h2,h⟩:=Si.1 h;have g2:=Jr h2 g1.2.1
   try simp only at h
   split at h
   .rename_i fO;have jT:=JU fO g2.1;exact Ycf
   .obtain ⟨⟨x3,r3⟩,h3,h⟩:=Si.1 h
    try simp only at h
    have g3:=ih.mke h3 g2.1;have l3:=g3.2;exact Ybj
  .obtain ⟨⟨x1,r1⟩,h1,h⟩:=Si.1 h
   try simp only at h
   have g1:=Qg h1 ha;obtain⟨r2,h2,h⟩:=Si.1 h;have g2:=Jr h2 g1.2.1;obtain⟨⟨x3,r3⟩,h3,h⟩:=Si.1 h
   try simp only at h
   have g3:=(pg hn f).exs h3 g2.1;exact Ycx
 one:=fun h ha=>by
  rw[y9]at h;obtain⟨⟨x1,r1⟩,h1,h⟩:=Si.1 h
  try simp only at h
  have g1:=Qg h1 ha;obtain⟨r2,h2,h⟩:=Si.1 h;have g2:=Jr h2 g1.2.1;obtain⟨⟨x3,r3⟩,h3,h⟩:=Si.1 h
  try simp only at h
  have g3:=ih.gen h3 g2.1;have l3:=g3.2
  try simp only at h
  split at h
  .rename_i fO;have jT:=JU fO g3.1;obtain⟨⟨x4,r4⟩,h4,h⟩:=Si.1 h
   try simp only at h
   have g4:=ih.one h4 jT.1;have l4:=g4.2;exact Ycg
  .simp only[Sj,Sz]at h;obtain⟨rfl,rfl⟩:=h;exact⟨g3.1,by omega⟩
 mke:=fun h ha=>by
  rw[Zl]at h;obtain⟨⟨x1,r1⟩,h1,h⟩:=Si.1 h
  try simp only at h
  have g1:=ih.gen h1 ha;have l1:=g1.2
  try simp only at h
  split at h
  .rename_i fO;have jT:=JU fO g1.1;obtain⟨⟨x4,r4⟩,h4,h⟩:=Si.1 h
   try simp only at h
   have g4:=ih.mke h4 jT.1;have l4:=g4.2;exact Ycg
  .obtain ⟨r4,h4,h⟩:=Si.1 h;have g4:=Jr h4 g1.1;exact Ycg
theorem pgn{A:Int->Prop}(hn:A n):∀f,PGn A n f
 |0=>PGn.zero A n
 |f+1=>PGn.succ hn (pgn hn f)
theorem JdI{A:Int->Prop}:∀(f:Nat) {r:List Tk} {x:List Pm} {r':List Tk},Gq f r=some (x,r')->TA A r->GM A r r'
 |0,r,x,r',h,_=>by simp[Gq]at h
 |f+1,r,x,r',h,ha=>by
  rw[Gq]at h;obtain⟨⟨x1,r1⟩,h1,h⟩:=Si.1 h
  try simp only at h
  have g1:=Qg h1 ha;obtain⟨r2,h2,h⟩:=Si.1 h;have g2:=Jr h2 g1.2.1;obtain⟨⟨x3,r3⟩,h3,h⟩:=Si.1 h
  try simp only at h
  have g3:=Bq f h3 g2.1;have l3:=g3.2
  try simp only at h
  split at h
  .rename_i fO;have jT:=JU fO g3.1;obtain⟨⟨x9,r9⟩,h9,h⟩:=Si.1 h
   try simp only at h
   have g9:=JdI f h9 jT.1;exact Ybl
  .simp only[Sj,Sz]at h;obtain⟨rfl,rfl⟩:=h;exact⟨g3.1,by omega⟩
theorem Ll{A:Int->Prop}{r:List Tk}{x:List Pm}(h:WR f r=some (x,r'))(ha:TA A r):GM A r r':=by
 unfold WR at h;obtain⟨r1,h1,h⟩:=Si.1 h;have g1:=Jr h1 ha
 split at h
 .rename_i fO;have jT:=JU fO g1.1;exact Ycf
 .obtain ⟨⟨x2,r2⟩,h2,h⟩:=Si.1 h
  try simp only at h
  have g2:=JdI f h2 g1.1;exact Ybi
theorem JdM{A:Int->Prop}(hn:A n):∀(f:Nat) {r:List Tk} {x:List Dw} {r':List Tk},Zn n cmd f r=some (x,r')->TA A r->GM A r r'
 |0,r,x,r',h,_=>by simp[Zn]at h
 |f+1,r,x,r',h,ha=>by
  rw[Zn]at h;obtain⟨⟨x1,r1⟩,h1,h⟩:=Si.1 h
  try simp only at h
  have g1:=Qg h1 ha;obtain⟨r2,h2,h⟩:=Si.1 h;have g2:=Jr h2 g1.2.1;obtain⟨⟨x3,r3⟩,h3,h⟩:=Si.1 h
  try simp only at h
  have g3:=Bq f h3 g2.1;have l3:=g3.2;obtain⟨r4,h4,h⟩:=Si.1 h;have g4:=Jr h4 g3.1;obtain⟨⟨x5,r5⟩,h5,h⟩:=Si.1 h
  try simp only at h
  have g5:GM A r4 r5:=by
   split at h5
   .rename_i hc;rw[CV]at hc;have gc:=JU hc.2 g4.1;simp only[Sj,Sz]at h5;obtain⟨rfl,rfl⟩:=h5;exact⟨gc.1,by omega⟩
   .obtain ⟨⟨x6,r6⟩,h6,h5⟩:=Si.1 h5
    try simp only at h5
    have g6:=(pgn hn f).gen h6 g4.1;simp only[Sj,Sz]at h5;obtain⟨rfl,rfl⟩:=h5;exact g6
  have l5:=g5.2
  try simp only at h
  split at h
  .rename_i fO;have jT:=JU fO g5.1;obtain⟨⟨x9,r9⟩,h9,h⟩:=Si.1 h
   try simp only at h
   have g9:=JdM hn f h9 jT.1;exact Ybl
  .simp only[Sj,Sz]at h;obtain⟨rfl,rfl⟩:=h;exact⟨g5.1,by omega⟩
theorem JbT{A:Int->Prop}(hn:A n){r:List Tk}{x:List Dw}(h:Bz n cmd f r=some (x,r'))(ha:TA A r):GM A r r':=by
 unfold Bz at h;obtain⟨r1,h1,h⟩:=Si.1 h;have g1:=Jr h1 ha
 split at h
 .rename_i fO;have jT:=JU fO g1.1;exact Ycf
 .obtain ⟨⟨x2,r2⟩,h2,h⟩:=Si.1 h
  try simp only at h
  have g2:=JdM hn f h2 g1.1;exact Ybi
theorem JdG{A:Int->Prop}:∀(f:Nat) {r:List Tk} {x:List Ty} {r':List Tk},Gp f r=some (x,r')->TA A r->GM A r r'
 |0,r,x,r',h,_=>by simp[Gp]at h
 |f+1,r,x,r',h,ha=>by
  rw[Gp]at h;obtain⟨⟨x1,r1⟩,h1,h⟩:=Si.1 h
  try simp only at h
  have g1:=Bq f h1 ha;have l1:=g1.2
  try simp only at h
  split at h
  .rename_i fO;have jT:=JU fO g1.1;obtain⟨⟨x9,r9⟩,h9,h⟩:=Si.1 h
   try simp only at h
   have g9:=JdG f h9 jT.1;exact Ybl
  .simp only[Sj,Sz]at h;obtain⟨rfl,rfl⟩:=h;exact⟨g1.1,by omega⟩
theorem JbU{A:Int->Prop}:∀(f:Nat) {r:List Tk} {x:List Ct} {r':List Tk},Xd f r=some (x,r')->TA A r->GM A r r'
 |0,r,x,r',h,_=>by simp[Xd]at h
 |f+1,r,x,r',h,ha=>by
  rw[Xd]at h;obtain⟨⟨x1,r1⟩,h1,h⟩:=Si.1 h
  try simp only at h
  have g1:=Qg h1 ha;obtain⟨⟨x5,r5⟩,h5,h⟩:=Si.1 h
  try simp only at h
  have g5:GM A r1 r5:=by
   try simp only at h5
   split at h5
   .rename_i hc;have gc:=JU hc g1.2.1;obtain⟨⟨x6,r6⟩,h6,h5⟩:=Si.1 h5
    try simp only at h5
    have g6:=JdG f h6 gc.1;have l6:=g6.2;obtain⟨r7,h7,h5⟩:=Si.1 h5;have g7:=Jr h7 g6.1;simp only[Sj,Sz]at h5;obtain⟨rfl,rfl⟩:=h5;exact⟨g7.1,by omega⟩
   .simp only[Sj,Sz]at h5;obtain⟨rfl,rfl⟩:=h5;exact⟨g1.2.1,by omega⟩
  have l5:=g5.2
  try simp only at h
  split at h
  .rename_i fO;have jT:=JU fO g5.1;obtain⟨⟨x9,r9⟩,h9,h⟩:=Si.1 h
   try simp only at h
   have g9:=JbU f h9 jT.1;exact Ybl
  .simp only[Sj,Sz]at h;obtain⟨rfl,rfl⟩:=h;exact⟨g5.1,by omega⟩
def qK(a b:List Ck):List Ex:=a.map Ck.expr++b.map Ck.expr
theorem wck{a b:List Ck}{t:ByteArray}{e:Ex}:fF (qK (a++[⟨t,e⟩]) b)=fF (qK a b)+wE e/\fF (qK a (b++[⟨t,e⟩]))=fF (qK a b)+wE e:=by
 unfold qK;simp only[Dp,DL,Ec,JaF,fF];omega
theorem MW{A:Int->Prop}(hn:A n):∀(f:Nat) {a b:List Ck} {c:List Cl} {r:List Tk} {x:List Ck×List Ck×List Cl} {r':List Tk},XH n f a b c r=some (x,r')->TA A r->Qn A (qK a b)->Qn A (qK x.1 x.2.1)/\TA A r'/\fF (qK x.1 x.2.1)+r'.length<=fF (qK a b)+r.length
 |0,a,b,c,r,x,r',h,_,_=>by simp[XH]at h
 |f+1,a,b,c,r,x,r',h,ha,h0=>by
  rw[XH]at h
  split at h
  .rename_i hc;have gc:=JU hc ha;obtain⟨⟨x1,r1⟩,h1,h⟩:=Si.1 h
   try simp only at h
   have g1:=Qg h1 gc.1;obtain⟨⟨x2,r2⟩,h2,h⟩:=Si.1 h
   try simp only at h
   have g2:=Qg h2 g1.2.1;obtain⟨r3,h3,h⟩:=Si.1 h;have g3:=Jr h3 g2.2.1;obtain⟨⟨x4,r4⟩,h4,h⟩:=Si.1 h
   try simp only at h
   have g4:=Qg h4 g3.1;obtain⟨r5,h5,h⟩:=Si.1 h;have g5:=Jr h5 g4.2.1;have g6:=MW hn f h g5.1 h0;exact⟨g6.1,g6.2.1,by have:=g6.2.2;omega⟩
  split at h
  .rename_i hc;have gc:=JU hc ha;obtain⟨⟨x1,r1⟩,h1,h⟩:=Si.1 h
   try simp only at h
   have g1:=Qg h1 gc.1;obtain⟨r2,h2,h⟩:=Si.1 h;have g2:=Jr h2 g1.2.1;obtain⟨⟨x3,r3⟩,h3,h⟩:=Si.1 h
   try simp only at h
   have g3:=(pg hn f).ex h3 g2.1;have l3:=g3.2.2;obtain⟨r4,h4,h⟩:=Si.1 h;have g4:=Jr h4 g3.2.1;have g6:=MW hn f h g4.1 (by unfold qK at h0 ⊢;simp only[Dp,DL,Ec,Zo,Qn,Eh]at h0 ⊢;exact⟨⟨h0.1,g3.1⟩,h0.2⟩);exact⟨g6.1,g6.2.1,by have:=g6.2.2;rw[wck.1]at this;omega⟩
  split at h
  .rename_i hc;have gc:=JU hc ha;obtain⟨⟨x1,r1⟩,h1,h⟩:=Si.1 h
   try simp only at h
   have g1:=Qg h1 gc.1;obtain⟨r2,h2,h⟩:=Si.1 h;have g2:=Jr h2 g1.2.1;obtain⟨⟨x3,r3⟩,h3,h⟩:=Si.1 h
   try simp only at h
   have g3:=(pg hn f).ex h3 g2.1;have l3:=g3.2.2;obtain⟨r4,h4,h⟩:=Si.1 h;have g4:=Jr h4 g3.2.1;have g6:=MW hn f h g4.1 (by unfold qK at h0 ⊢;simp only[Dp,DL,Ec,Zo,Qn,Eh]at h0 ⊢;exact⟨h0.1,h0.2,g3.1⟩);exact⟨g6.1,g6.2.1,by have:=g6.2.2;rw[wck.2]at this;omega⟩
  .simp only[Sj,Sz]at h;obtain⟨rfl,rfl⟩:=h;exact⟨h0,ha,SX _⟩
theorem JfR{A:Int->Prop}(hn:A n){r:List Tk}{x:List Ck×List Ck×List Cl}(h:Bv n f r=some (x,r'))(ha:TA A r):Qn A (qK x.1 x.2.1)/\TA A r'/\fF (qK x.1 x.2.1)+r'.length<=r.length:=by
 unfold Bv at h;obtain⟨r1,h1,h⟩:=Si.1 h;have g1:=Jr h1 ha;obtain⟨⟨x2,r2⟩,h2,h⟩:=Si.1 h
 try simp only at h
 have g2:=MW hn f h2 g1.1 (by simp[qK,Qn]);have l2:=g2.2.2;obtain⟨r3,h3,h⟩:=Si.1 h;have g3:=Jr h3 g2.2.1;simp only[Sj,Sz]at h;obtain⟨rfl,rfl⟩:=h;refine⟨g2.1,g3.1,?_⟩;have:fF (qK [] [])=0:=rfl;omega
theorem JbS{A:Int->Prop}(hn:A n){r:List Tk}{x:Ty×Ex}(h:Lj n f r=some (x,r'))(ha:TA A r):GE A r x.2 r':=by
 unfold Lj at h;obtain⟨r1,h1,h⟩:=Si.1 h;have g1:=Jr h1 ha;obtain⟨r2,h2,h⟩:=Si.1 h;have g2:=Jr h2 g1.1;obtain⟨r3,h3,h⟩:=Si.1 h;have g3:=Jr h3 g2.1;obtain⟨⟨x4,r4⟩,h4,h⟩:=Si.1 h
 try simp only at h
 have g4:=Bq f h4 g3.1;have l4:=g4.2;obtain⟨r5,h5,h⟩:=Si.1 h;have g5:=Jr h5 g4.1;obtain⟨⟨x6,r6⟩,h6,h⟩:=Si.1 h
 try simp only at h
 have g6:=(pg hn f).ex h6 g5.1;have l6:=g6.2.2;obtain⟨r7,h7,h⟩:=Si.1 h;have g7:=Jr h7 g6.2.1;simp only[Sj,Sz]at h;obtain⟨rfl,rfl⟩:=h;exact⟨g6.1,g7.1,by simp only;omega⟩
def wN(a:List Cm):List Ex:=a.flatMap (fun c=>[c.pre,c.next,c.post])
theorem JdO{A:Int->Prop}(hn:A n):∀(f:Nat) {a:List Cm} {r:List Tk} {x:List Cm} {r':List Tk},MB n f a r=some (x,r')->TA A r->Qn A (wN a)->Qn A (wN x)/\TA A r'/\x.length+fF (wN x)+r'.length<=a.length+fF (wN a)+r.length
 |0,a,r,x,r',h,_,_=>by simp[MB]at h
 |f+1,a,r,x,r',h,ha,h0=>by
  rw[MB]at h
  split at h
  .rename_i hc;have gc:=JU hc ha;obtain⟨⟨x1,r1⟩,h1,h⟩:=Si.1 h
   try simp only at h
   have g1:=Qg h1 gc.1;obtain⟨⟨x2,r2⟩,h2,h⟩:=Si.1 h
   try simp only at h
   have g2:=JbT hn h2 g1.2.1;have l2:=g2.2;obtain⟨r3,h3,h⟩:=Si.1 h;have g3:=Jr h3 g2.1;obtain⟨⟨x4,r4⟩,h4,h⟩:=Si.1 h
   try simp only at h
   have g4:=(pg hn f).ex h4 g3.1;have l4:=g4.2.2;obtain⟨r5,h5,h⟩:=Si.1 h;have g5:=Jr h5 g4.2.1;obtain⟨⟨x6,r6⟩,h6,h⟩:=Si.1 h
   try simp only at h
   have g6:=(pg hn f).ex h6 g5.1;have l6:=g6.2.2;obtain⟨r7,h7,h⟩:=Si.1 h;have g7:=Jr h7 g6.2.1;obtain⟨⟨x8,r8⟩,h8,h⟩:=Si.1 h
   try simp only at h
   have g8:=(pg hn f).ex h8 g7.1;have l8:=g8.2.2;obtain⟨r9,h9,h⟩:=Si.1 h;have g9:=Jr h9 g8.2.1;have g10:=JdO hn f h g9.1 (by unfold wN at h0 ⊢;simp only[List.flatMap_append,CP,Ey,Ce,Zo,Qn,Eh]at h0 ⊢;exact⟨h0,g4.1,g6.1,g8.1⟩);refine⟨g10.1,g10.2.1,?_⟩;have YI:=g10.2.2;unfold wN at YI ⊢;exact Ycl
  .simp only[Sj,Sz]at h;obtain⟨rfl,rfl⟩:=h;exact⟨h0,ha,SX _⟩
theorem Jhj{A:Int->Prop}(hn:A n){r:List Tk}{x:List Cm}(h:JbV n f r=some (x,r'))(ha:TA A r):Qn A (wN x)/\TA A r'/\x.length+fF (wN x)+r'.length<=r.length:=by
 unfold JbV at h;obtain⟨r1,h1,h⟩:=Si.1 h;have g1:=Jr h1 ha;obtain⟨⟨x2,r2⟩,h2,h⟩:=Si.1 h
 try simp only at h
 have g2:=JdO hn f h2 g1.1 (by simp[wN,Qn]);have l2:=g2.2.2;obtain⟨r3,h3,h⟩:=Si.1 h;have g3:=Jr h3 g2.2.1;simp only[Sj,Sz]at h;obtain⟨rfl,rfl⟩:=h;refine⟨g2.1,g3.1,?_⟩;have:fF (wN [])=0:=rfl;simp only[SY]at l2;omega
def zb(a:List Ac):List Ex:=a.flatMap (fun c=>[c.shared,c.loc])
theorem JdP{A:Int->Prop}(hn:A n):∀(f:Nat) {a:List Ac} {r:List Tk} {x:List Ac} {r':List Tk},MC n f a r=some (x,r')->TA A r->Qn A (zb a)->Qn A (zb x)/\TA A r'/\x.length+fF (zb x)+r'.length<=a.length+fF (zb a)+r.length
 |0,a,r,x,r',h,_,_=>by simp[MC]at h
 |f+1,a,r,x,r',h,ha,h0=>by
  rw[MC]at h
  split at h
  .rename_i hc;have gc:=JU hc ha;obtain⟨⟨x1,r1⟩,h1,h⟩:=Si.1 h
   try simp only at h
   have g1:=(pg hn f).ex h1 gc.1;have l1:=g1.2.2;obtain⟨r2,h2,h⟩:=Si.1 h;have g2:=Jr h2 g1.2.1;obtain⟨⟨x3,r3⟩,h3,h⟩:=Si.1 h
   try simp only at h
   have g3:=(pg hn f).ex h3 g2.1;have l3:=g3.2.2;obtain⟨r4,h4,h⟩:=Si.1 h;have g4:=Jr h4 g3.2.1;have g10:=JdP hn f h g4.1 (by unfold zb at h0 ⊢;simp only[List.flatMap_append,CP,Ey,Ce,Zo,Qn,Eh]at h0 ⊢;exact⟨h0,g1.1,g3.1⟩);refine⟨g10.1,g10.2.1,?_⟩;have YI:=g10.2.2;unfold zb at YI ⊢;exact Ycl
  .simp only[Sj,Sz]at h;obtain⟨rfl,rfl⟩:=h;exact⟨h0,ha,SX _⟩
def wO(a:List Op):List Ex:=a.flatMap (fun o=>zb o.acts)
theorem JdJ{A:Int->Prop}(hn:A n):∀(f:Nat) {a:List Op} {r:List Tk} {x:List Op} {r':List Tk},Me n f a r=some (x,r')->TA A r->Qn A (wO a)->Qn A (wO x)/\TA A r'/\x.length+fF (wO x)+r'.length<=a.length+fF (wO a)+r.length
 |0,a,r,x,r',h,_,_=>by simp[Me]at h
 |f+1,a,r,x,r',h,ha,h0=>by
  rw[Me]at h
  split at h
  .rename_i hc;have gc:=JU hc ha;obtain⟨⟨x1,r1⟩,h1,h⟩:=Si.1 h
   try simp only at h
   have g1:=Qg h1 gc.1;obtain⟨⟨x2,r2⟩,h2,h⟩:=Si.1 h
   try simp only at h
   have g2:=Ll h2 g1.2.1;have l2:=g2.2;obtain⟨r3,h3,h⟩:=Si.1 h;have g3:=Jr h3 g2.1;obtain⟨⟨x4,r4⟩,h4,h⟩:=Si.1 h
   try simp only at h
   have g4:=JdP hn f h4 g3.1 (by simp[zb,Qn]);have l4:=g4.2.2;obtain⟨r5,h5,h⟩:=Si.1 h;have g5:=Jr h5 g4.2.1;have g10:=JdJ hn f h g5.1 (by unfold wO at h0 ⊢;simp only[List.flatMap_append,CP,Ey,Ce,Zo,Qn,Eh]at h0 ⊢;exact⟨h0,g4.1⟩);refine⟨g10.1,g10.2.1,?_⟩;have YI:=g10.2.2;have l40:fF (zb [])=0:=rfl;unfold wO at YI ⊢;simp only[List.flatMap_append,CP,Ey,Ce,JaF,fF,Sm,SI,SY]at YI l4;omega
  .simp only[Sj,Sz]at h;obtain⟨rfl,rfl⟩:=h;exact⟨h0,ha,SX _⟩
theorem JiX{A:Int->Prop}(hn:A n){r:List Tk}{x:List Op}(h:JfM n f r=some (x,r'))(ha:TA A r):Qn A (wO x)/\TA A r'/\x.length+fF (wO x)+r'.length<=r.length:=by
 unfold JfM at h;obtain⟨r1,h1,h⟩:=Si.1 h;have g1:=Jr h1 ha;obtain⟨⟨x2,r2⟩,h2,h⟩:=Si.1 h
 try simp only at h
 have g2:=JdJ hn f h2 g1.1 (by simp[wO,Qn]);have l2:=g2.2.2;obtain⟨r3,h3,h⟩:=Si.1 h;have g3:=Jr h3 g2.2.1;simp only[Sj,Sz]at h;obtain⟨rfl,rfl⟩:=h;refine⟨g2.1,g3.1,?_⟩;have:fF (wO [])=0:=rfl;simp only[SY]at l2;omega
structure GD (A:Int->Prop) (m:Nat) (d:De):Prop where
 ok:Qn A (Jw d)
 w:fF (Jw d)<=m
 cmds:d.cmds.length<=m
 name:d.name.size<=100000
theorem GD.mono{A:Int->Prop}{m':Nat}(h:GD A m d)(hm:m<=m'):GD A m' d:=⟨h.ok,CG h.w hm,CG h.cmds hm,h.name⟩
theorem Jhh{A:Int->Prop}(hn:A n){r:List Tk}(h:XI n f r=some (d,r'))(ha:TA A r):GD A r.length d/\TA A r'/\r'.length<=r.length:=by
 unfold XI at h;obtain⟨k,hk,h⟩:=Si.1 h;have PA:k<6:=(FX.1 hk).1;have RR:TA A r.tail/\r.tail.length<=r.length:=⟨fun t ht=>ha t (List.mem_of_mem_tail ht),by simp⟩;obtain⟨⟨t,r1⟩,h1,h⟩:=Si.1 h
 try simp only at h
 have g1:=Qg h1 RR.1;have eN:r1.length<=r.length:=by omega
 have lm:(aA t.text).size<=100000:=by rw[VX];exact g1.1.2
 try simp only at h
 split at h
 .rename_i j7;subst j7;obtain⟨r2,h2,h⟩:=Si.1 h;have g2:=Jr h2 g1.2.1;obtain⟨⟨x3,r3⟩,h3,h⟩:=Si.1 h
  try simp only at h
  have g3:=JbU f h3 g2.1;have l3:=g3.2;obtain⟨r4,h4,h⟩:=Si.1 h;have g4:=Jr h4 g3.1;simp only[Sj,Sz]at h;obtain⟨rfl,rfl⟩:=h;exact⟨⟨trivial,SL _,SL _,lm⟩,g4.1,by omega⟩
 split at h
 .rename_i j7;subst j7;obtain⟨⟨x2,r2⟩,h2,h⟩:=Si.1 h
  try simp only at h
  have g2:=Ll h2 g1.2.1;have l2:=g2.2;obtain⟨r3,h3,h⟩:=Si.1 h;have g3:=Jr h3 g2.1;obtain⟨⟨x4,r4⟩,h4,h⟩:=Si.1 h
  try simp only at h
  have g4:=Bq f h4 g3.1;have l4:=g4.2;obtain⟨r5,h5,h⟩:=Si.1 h;have g5:=Jr h5 g4.1;obtain⟨⟨x6,r6⟩,h6,h⟩:=Si.1 h
  try simp only at h
  have g6:=(pg hn f).ex h6 g5.1;have l6:=g6.2.2;obtain⟨r7,h7,h⟩:=Si.1 h;have g7:=Jr h7 g6.2.1;simp only[Sj,Sz]at h;obtain⟨rfl,rfl⟩:=h;refine⟨⟨?_,?_,SL _,lm⟩,g7.1,by omega⟩
  .exact ⟨g6.1,trivial⟩
  .show fF [x6]<=_;simp only[fF];omega
 split at h
 .rename_i j7;subst j7;obtain⟨⟨x2,r2⟩,h2,h⟩:=Si.1 h
  try simp only at h
  have g2:=Ll h2 g1.2.1;have l2:=g2.2;obtain⟨r3,h3,h⟩:=Si.1 h;have g3:=Jr h3 g2.1;obtain⟨⟨x4,r4⟩,h4,h⟩:=Si.1 h
  try simp only at h
  have g4:=Bq f h4 g3.1;have l4:=g4.2;obtain⟨⟨x5,r5⟩,h5,h⟩:=Si.1 h
  try simp only at h
  have g5:GM A r4 r5:=by
   try simp only at h5
   split at h5
   .rename_i hc;have gc:=JU hc g4.1;obtain⟨⟨x6,r6⟩,h6,h5⟩:=Si.1 h5
    try simp only at h5
    have g6:=Qg h6 gc.1;simp only[Sj,Sz]at h5;obtain⟨rfl,rfl⟩:=h5;exact⟨g6.2.1,by omega⟩
   .simp only[Sj,Sz]at h5;obtain⟨rfl,rfl⟩:=h5;exact⟨g4.1,by omega⟩
  have l5:=g5.2;obtain⟨r6,h6,h⟩:=Si.1 h;have g6:=Jr h6 g5.1;obtain⟨⟨x7,r7⟩,h7,h⟩:=Si.1 h
  try simp only at h
  have g7:=(pgn hn f).gen h7 g6.1;have l7:=g7.2;obtain⟨r8,h8,h⟩:=Si.1 h;have g8:=Jr h8 g7.1;simp only[Sj,Sz]at h;obtain⟨rfl,rfl⟩:=h;exact⟨⟨trivial,SL _,SL _,lm⟩,g8.1,by omega⟩
 split at h
 .rename_i j7;subst j7;obtain⟨⟨x2,r2⟩,h2,h⟩:=Si.1 h
  try simp only at h
  have g2:=JbT hn h2 g1.2.1;have l2:=g2.2;obtain⟨⟨x3,r3⟩,h3,h⟩:=Si.1 h
  try simp only at h
  have g3:=JfR hn h3 g2.1;have l3:=g3.2.2;simp only[Sj,Sz]at h;obtain⟨rfl,rfl⟩:=h;refine⟨⟨g3.1,?_,SL _,lm⟩,g3.2.1,by omega⟩;show fF (qK x3.1 x3.2.1)<=_;omega
 split at h
 .rename_i j7;subst j7;obtain⟨⟨x2,r2⟩,h2,h⟩:=Si.1 h
  try simp only at h
  have g2:=JbS hn h2 g1.2.1;have l2:=g2.2.2;obtain⟨⟨x3,r3⟩,h3,h⟩:=Si.1 h
  try simp only at h
  have g3:=Jhj hn h3 g2.2.1;have l3:=g3.2.2;simp only[Sj,Sz]at h;obtain⟨rfl,rfl⟩:=h;refine⟨⟨⟨g2.1,g3.1⟩,?_,by simp only;omega,lm⟩,g3.2.1,by omega⟩;show fF (x2.2::wN x3)<=_;simp only[fF]at l2 ⊢;omega
 .rename_i k0 k1 k2 k3 k4;have ml:k=5:=by omega
  subst ml;obtain⟨⟨x2,r2⟩,h2,h⟩:=Si.1 h
  try simp only at h
  have g2:=JbS hn h2 g1.2.1;have l2:=g2.2.2;obtain⟨r3,h3,h⟩:=Si.1 h;have g3:=Jr h3 g2.2.1;obtain⟨⟨x4,r4⟩,h4,h⟩:=Si.1 h
  try simp only at h
  have g4:=(pg hn f).ex h4 g3.1;have l4:=g4.2.2;obtain⟨⟨x5,r5⟩,h5,h⟩:=Si.1 h
  try simp only at h
  have g5:=JiX hn h5 g4.2.1;have l5:=g5.2.2;simp only[Sj,Sz]at h;obtain⟨rfl,rfl⟩:=h;refine⟨⟨⟨g2.1,g4.1,g5.1⟩,?_,SL _,lm⟩,g5.2.1,by omega⟩;show fF (x2.2::x4::wO x5)<=_;simp only[fF];omega
theorem JfP{A:Int->Prop}{F:Nat}(hn:A n):∀(f:Nat) {r:List Tk} {ds:List De},Xc n F f r=some ds->TA A r->∀d∈ds,GD A r.length d
 |0,r,ds,h,_=>by simp[Xc]at h
 |f+1,[],ds,h,_=>by
  simp only[Xc,Sj]at h;subst h;simp
 |f+1,t::r,ds,h,ha=>by
  rw[Xc]at h;obtain⟨⟨d,r1⟩,h1,h⟩:=Si.1 h
  try simp only at h
  have g1:=Jhh hn h1 ha;obtain⟨ra,h2,h⟩:=Si.1 h;have g2:=JfP hn f h2 g1.2.1;simp only[Sj]at h;subst h;intro x hx;rcases SC.1 hx with rfl|hx
  .exact g1.1
  .exact (g2 x hx).mono g1.2.2
/-! ### idT it ie1 for pP and calls -/
mutual
theorem Jho:∀e:Ex,(Qo e).length<=wE e
 |⟨k,nm,n,ns,bs,ks,a⟩=>by
  have:=Un ks;simp only[Qo,wE,SI];omega
theorem Un:∀l:List Ex,(Js l).length<=fF l
 |[]=>SX _
 |e::l=>by
  have h1:=Jho e;have h2:=Un l;simp only[Js,fF,Sm];omega
end
mutual
theorem Jjy(nm:ByteArray):∀e:Ex,((Qo e).flatMap (Xi nm)).length<=2*wE e
 |⟨k,m,n,ns,bs,ks,a⟩=>by
  have h1:=Nj nm ks;simp only[Qo,wE,CP,Sm,Xi,Sr,FV];have h2:Qx ⟨k,m,n,ns,bs,ks,a⟩<=2+ns.length:=by unfold Qx;simp only;split<;>(try split)<;>omega
  have h3:((Js ks).flatMap fun e=>(List.range (Qx e)).map fun(i:Nat)=>(⟨nm,e.at_,(i:Int)⟩:Br)).length<=2*fF ks:=h1;omega
theorem Nj(nm:ByteArray):∀l:List Ex,((Js l).flatMap (Xi nm)).length<=2*fF l
 |[]=>SX _
 |e::l=>by
  have h1:=Jjy nm e;have h2:=Nj nm l;simp only[Js,fF,List.flatMap_append,Sm];omega
end
mutual
theorem JfY{A:Int->Prop}:∀e:Ex,mZ A e->∀x∈Qo e,A x.at_
 |⟨k,nm,n,ns,bs,ks,a⟩,h=>by
  simp only[mZ]at h;intro x hx;simp only[Qo,SC]at hx;rcases hx with rfl|hx
  .exact h.1
  .exact Lm ks h.2 x hx
theorem Lm{A:Int->Prop}:∀l:List Ex,Qn A l->∀x∈Js l,A x.at_
 |[],_=>by simp[Js]
 |e::l,h=>by
  simp only[Qn]at h;intro x hx;simp only[Js,SE]at hx;rcases hx with hx|hx
  .exact JfY e h.1 x hx
  .exact Lm l h.2 x hx
end
theorem Jdm:∀l:List Ex,l.length<=fF l
 |[]=>SX _
 |e::l=>by
  have h1:=Jdm l;have h2:1<=wE e:=by cases e;simp only[wE];omega
  simp only[SI,fF];omega
def si(b:Br):Prop:=b.decl.size<=100000/\(0<=b.at_/\b.at_<=1000000)/\0<=b.arm/\b.arm<=1000000
theorem GD.br(h:GD (fun a=>0<=a/\a<=1000000) m d)(hm:m<=10000):∀b∈mf d,si b:=by
 intro b hb;unfold mf at hb;obtain⟨e,he,hb⟩:=DY.1 hb;unfold Xi at hb;obtain⟨i,hi,rfl⟩:=Du.1 hb;have h1:=Lm _ h.ok e he;have h2:(Xi d.name e).length<=((Js (Jw d)).flatMap (Xi d.name)).length:=by
  obtain⟨a,b,kZ⟩:=List.append_of_mem he;rw[kZ];simp only[List.flatMap_append,CP,Sm];omega
 have h3:=Nj d.name (Jw d);have h4:=h.w;simp only[Xi,Sr,FV]at h2;have h5:=FT.1 hi;exact⟨h.name,h1,by simp only;omega,by simp only;omega⟩
end
def AP(a:Int):Prop:=0<=a/\a<=1000000
theorem Jja{n m:Nat}(h:j9 n m=false):m<=n:=by
 unfold j9 at h;exact Iu (fun aC=>by
  have h2:Nat.blt n m=true:=by rw[Nat.blt_eq];exact aC
  rw[h]at h2;cases h2)
theorem QC{e:Ex}(h:Qi e=false):jc e<=32:=by
 unfold Qi at h;rw[Cc]at h;exact Jja h.1
theorem G5{α:Type}{p:α->Bool}{l:List α}(h:l.any p=false){x:α}(hx:x∈l):p x=false:=by
 have:=DC.1 h x hx;simpa using this
theorem Jhm{d:De}(h:UZ d=false):∀e∈Jw d,jc e<=32:=by
 intro e he;unfold Jw at he;unfold UZ at h
 split at he
 .rename_i hk;rw[SH ab,Cb hk]at h;simp only[Cc]at h;rw[Sv.1 he];exact QC h.2.2
 split at he
 .rename_i hk;rw[SH ab,SH ab,SH ab,Cb hk]at h;simp only[Cc,GH]at h;rcases SE.1 he with he|he
  .obtain ⟨c,hc,rfl⟩:=Du.1 he;exact QC (G5 h.2.1.2 hc)
  .obtain ⟨c,hc,rfl⟩:=Du.1 he;exact QC (G5 h.2.2.1.2 hc)
 split at he
 .rename_i hk;rw[SH ab,SH ab,SH ab,SH ab,Cb hk]at h;simp only[Cc]at h;rcases SC.1 he with rfl|he
  .exact QC h.2.1
  .obtain ⟨c,hc,he⟩:=DY.1 he;have gO:=G5 h.2.2.2 hc;simp only[Jf8,Cc]at gO;simp only[SC,S9,CU]at he;rcases he with rfl|rfl|rfl
   .exact QC gO.2.1
   .exact QC gO.2.2.1
   .exact QC gO.2.2.2
 split at he
 .rename_i hk;rw[SH ab,SH ab,SH ab,SH ab,SH ab,Cb hk]at h;simp only[Cc]at h;rcases SC.1 he with rfl|he
  .exact QC h.2.1
  rcases SC.1 he with rfl|he
  .exact QC h.2.2.1
  .obtain ⟨c,hc,he⟩:=DY.1 he;obtain⟨a,ha,he⟩:=DY.1 he;have gO:=G5 h.2.2.2.2 hc;simp only[Jf5,Cc]at gO;have hac:=G5 gO.2.2 ha;rw[Cc]at hac;simp only[SC,S9,CU]at he;rcases he with rfl|rfl
   .exact QC hac.1
   .exact QC hac.2
 .simp at he
end Go.Rf
namespace Go.Proofs.YtggmccicdhnkgaaGreat
open Go.Rf Go.RowKit
theorem MD.gd{ds:List De}(h:MD ds):∀d∈ds,GD AP 5500 d:=by
 obtain⟨_,_,n,f,t,hn,ht,hp⟩:=h;have hA:TA AP t:=fun x hx=>⟨⟨(ht.2 x hx).1.1,by have:=(ht.2 x hx).1.2;omega⟩,by have:=(ht.2 x hx).2;omega⟩
 exact fun d hd=>(JfP (A:=AP) ⟨hn.1,by omega⟩ f hp hA d hd).mono ht.1
theorem MD.sz{ds:List De}(h:MD ds):∀d∈ds,SzD d:=fun d hd=>by
 have hg:=h.gd d hd;have h1:=Nj d.name (Jw d);have h2:=Un (Jw d);have h3:=hg.w;have h4:=Jdm (Jw d);have h5:=hg.cmds;refine⟨by omega,?_,fun e he=>by have:=Jhm (h.2.1 d hd).1 e he;omega,by omega,?_⟩
 .show ((Js (Jw d)).flatMap (Xi d.name)).length<=11000;omega
 .unfold KY;rw[Sr];have:=D5 (fun e=>decide (e.kind=3)) (Js (Jw d));omega
theorem MD.len{ds:List De}(h:MD ds):ds.length=21:=by
 have:=CZ List.length h.1;simpa[kinds]using this
theorem MD.br{ds:List De}(h:MD ds):∀d∈ds,∀b∈mf d,si b:=fun d hd=>(h.gd d hd).br ab
end Go.Proofs.YtggmccicdhnkgaaGreat
