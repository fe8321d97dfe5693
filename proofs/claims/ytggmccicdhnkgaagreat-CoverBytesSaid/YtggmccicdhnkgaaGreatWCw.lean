/-
 The reference's Reach.
-/
import Derived.Test.YtggmccicdhnkgaaGreatWMs
import Derived.Test.YtggmccicdhnkgaaGreatWJc
import Derived.Test.YtggmccicdhnkgaaGreatWSl
set_option linter.all false
set_option maxHeartbeats 64000000
namespace Go.Rf
open Go.RowKit
theorem Fr.cell0{u u':World}{a:Addr}{v:Value}(h:Fr [] u u')(hc:u.cell? a=some v):u'.cell? a=some v:=by
 have h1:Cells u a [v]:=fun j x hj=>by
  cases j with
  |zero=>simp at hj;subst hj;rw[add0];exact hc
  |succ j=>simp at hj
 have:=h1.tr0 h 0 v rfl;rw[add0]at this;exact this
def FrP(p:Nat->Prop)(u u':World):Prop:=∃T,Fr T u u'/\∀x∈T,p x
theorem FrP.of0{p:Nat->Prop}{u u':World}(h:Fr [] u u'):FrP p u u':=⟨[],h,by simp⟩
theorem FrP.refl{p:Nat->Prop}{u:World}:FrP p u u:=.of0 (Fr.refl _ _)
theorem FrP.trans{p:Nat->Prop}{u u' u'':World}(h:FrP p u u')(k:FrP p u' u''):FrP p u u'':=by
 obtain⟨T,h1,h2⟩:=h;obtain⟨T',k1,k2⟩:=k;exact⟨T++T',(h1.mono (by simp+contextual)).trans k1 (fun x hx=>.inl Yix),fun x hx=>(SE.1 hx).elim (h2 x) (k2 x)⟩
theorem FrP.imp{p q:Nat->Prop}{u u':World}(h:FrP p u u')(hi:∀x,p x->q x):FrP q u u':=by
 obtain⟨T,h1,h2⟩:=h;exact⟨T,h1,fun x hx=>hi x (h2 x hx)⟩
def TD(w u:World)(l:List De)(v:Value):Prop:=∃K xs,Own u 105 45 v l.length xs/\Rws (fun d cs=>RD u K (deC d) cs) l xs/\(∀x∈blks v,x∈K)/\∀x∈K,w.heap.size<x/\x<u.heap.size
theorem TD.nil{w u:World}:TD w u [] (zS):=⟨[],[],Own.nil _ _ _,.nil,fun b hb=>by simp[blks,Value.ownBlock]at hb,by simp⟩
theorem TD.slice{w u:World}{l:List De}{v:Value}(h:TD w u l v):∃ao c,v=.slice ao l.length c:=by
 obtain⟨K,xs,h1,_⟩:=h;exact h1.slice
def Vm(ds:List De)(s:List ByteArray×List De)(c:ByteArray):List ByteArray×List De:=
 (s.1++[c],if Vu c s.1=true then s.2 else match fdD ds 1 c with|some d=>s.2++[d]|none=>s.2)
structure Sim (p r:List ByteArray×List De) (i:Nat):Prop where
 seen:∀c,Vu c p.1=Vu c r.1
 q:r.2.drop i=p.2
 le:i<=r.2.length
theorem ZQ{c a:ByteArray}{l:List ByteArray}:Vu c (l++[a])=(Vu c l||decide (a=c)):=by simp[Vu]
theorem Sim.step{ds:List De}{p r:List ByteArray×List De}{i:Nat}(h:Sim p r i)(c:ByteArray):Sim (rst ds p c) (Vm ds r c) i:=by
 unfold rst Vm;have hc:=h.seen c;cases hm:Vu c p.1 with
 |true=>
  rw[hm]at hc;rw[Cb rfl,Cb hc.symm];refine⟨fun a=>?_,h.q,h.le⟩;rw[ZQ,<-h.seen a];by_cases e:c=a
  .subst e;simp[hm]
  .simp [e]
 |false=>
  rw[hm]at hc;rw[SH Yhs,SH (by rw[<-hc];simp)];refine⟨fun a=>by simp only;rw[ZQ,ZQ,h.seen a],?_,?_⟩
  .simp only;cases fdD ds 1 c with
   |none=>exact h.q
   |some d=>simp only;rw[D6 h.le,h.q]
  .simp only;cases fdD ds 1 c with
   |none=>exact h.le
   |some d=>have:=h.le;simp only[Sm,Dx];omega
theorem Sim.fold{ds:List De}{i:Nat}:∀{l:List ByteArray} {p r:List ByteArray×List De},Sim p r i->Sim (l.foldl (rst ds) p) (l.foldl (Vm ds) r) i
 |[],p,r,h=>h
 |c::l,p,r,h=>Sim.fold (l:=l) (h.step c)
theorem Gh{ds:List De}:∀{l:List ByteArray} {r:List ByteArray×List De},(l.foldl (Vm ds) r).1.length=r.1.length+l.length
 |[],r=>rfl
 |c::l,r=>by
  rw[Dz,Gh (l:=l)];simp only[Vm,Sm,SI,SY];omega
theorem Jfr{ds:List De}{r:List ByteArray×List De}{c:ByteArray}(h:∀d∈r.2,d∈ds):∀d∈(Vm ds r c).2,d∈ds:=by
 unfold Vm;simp only
 split
 .exact h
 .split
  .rename_i d hd;intro x hx;rcases SE.1 hx with hx|hx
   .exact h x hx
   .rw [Sv.1 hx];exact(XT hd).1
  .exact h
theorem Jag{ds:List De}:∀{l:List ByteArray} {r:List ByteArray×List De},(∀d∈r.2,d∈ds)->∀d∈(l.foldl (Vm ds) r).2,d∈ds
 |[],r,h=>h
 |c::l,r,h=>Jag (l:=l) (Jfr h)
theorem Jaf{ds:List De}{r:List ByteArray×List De}{c:ByteArray}:(Vm ds r c).2.length<=r.2.length+1:=by
 unfold Vm;simp only
 split
 .omega
 .split
  .simp
  .omega
theorem JbZ(ds:List De):∀(l:List ByteArray) (s:List ByteArray×List De),mu ds (l.foldl (rst ds) s)<=mu ds s
 |[],s=>SX _
 |c::l,s=>CG (JbZ ds l _) (JfZ ds s c)
theorem RD.kn{w:World}{S:List Nat}{d:De}{cs:List Value}(h:RD w S (deC d) cs):cs[0]?=some (iV d.kind)/\cs[1]?=some (.string d.name):=by
 obtain⟨_,rfl,r1⟩:=RD.JI (x:=iV d.kind) h;obtain⟨_,rfl,r2⟩:=RD.JI (x:=.string d.name) r1;exact⟨rfl,rfl⟩
def RS(w u:World)(s:List ByteArray×List De)(vs vt:Value):Prop:=
 ∃K xs,Fr [] w u/\Own u 9 1 vs s.1.length (s.1.map .string)/\Own u 105 45 vt s.2.length xs/\Rws (fun d cs=>RD u K (deC d) cs) s.2 xs/\(∀x∈blks vs,x∈K)/\(∀x∈blks vt,x∈K)/\(∀x∈K,w.heap.size<x/\x<u.heap.size)/\∀x∈blks vs,x∉blks vt
theorem RS.JkO{w u:World}{l:List De}{v:Value}(hf:Fr [] w u)(h:TD w u l v):RS w u ([],l) (zS) v:=by
 obtain⟨K,xs,h1,h2,h3,h4⟩:=h;exact⟨K,xs,hf,Own.nil _ _ _,h1,h2,by simp[blks,Value.ownBlock],h3,h4,by simp[blks,Value.ownBlock]⟩
theorem RS.fr{w u:World}{s:List ByteArray×List De}{vs vt:Value}(h:RS w u s vs vt):Fr [] w u:=by obtain⟨K,xs,h,_⟩:=h;exact h
theorem RS.tr0{w u u':World}{s:List ByteArray×List De}{vs vt:Value}(h:RS w u s vs vt)(hf:Fr [] u u'):RS w u' s vs vt:=by
 have hs:=hf.size;obtain⟨K,xs,h1,h2,h3,h4,h5,h6,h7,h8⟩:=h;exact⟨K,xs,h1.Jb hf,h2.tr0 hf,h3.tr0 hf,h4.imp (fun d cs _ hr=>hr.tr0 hf),h5,h6,fun x hx=>⟨(h7 x hx).1,by have:=(h7 x hx).2;omega⟩,h8⟩
theorem RS.lt{w u:World}{s:List ByteArray×List De}{vs vt:Value}(h:RS w u s vs vt):∀x,x∈blks vs\/x∈blks vt->w.heap.size<x/\x<u.heap.size:=by
 obtain⟨K,xs,h1,h2,h3,h4,h5,h6,h7,h8⟩:=h;rintro x (hx|hx)
 .exact h7 x (h5 x hx)
 .exact h7 x (h6 x hx)
theorem Jfb{w0 w u:World}{S:List Nat}{e:Nat}{l:List ByteArray}{v:Value}(h:LO w0 S u e 1 JV l v):Own u e 1 v l.length (l.map .string)/\∀b∈blks v,w0.heap.size<=b:=by
 obtain⟨⟨ys,h1,h2⟩,h3⟩:=h;refine⟨?_,h3⟩;have:ys=l.map .string:=by
  clear h1 h3
  induction h2 with
  |nil=>rfl
  |cons ha hb ih=>
   rw[ih];obtain⟨_,rfl,r⟩:=RD.JI (x:=.string _) ha;rw[r.inv0];rfl
 rw[<-this];exact h1
theorem Lr{c:ByteArray}{l:List ByteArray}{i:Nat}(h:i<l.length):Vu c (l.take (i+1))=(Vu c (l.take i)||decide (l[i]=c)):=by
 rw[SK h,ZQ]
theorem JaI{l:List ByteArray}{i:Nat}(h:i<l.length):(l.map Value.string)[i]?=some (.string l[i]):=by
 rw[ET,Dc h];rfl
end Go.Rf
namespace Go.Proofs.YtggmccicdhnkgaaGreat
open Go.Proofs.Tryz
open Go.Rf Go.RowKit
attribute [local irreducible] Code.wp wpList Exit.then Exit.inBlock bodyPost A Calls execOp Addr.add
theorem Jjf{w w':World}{S:List Nat}{r:Option De}{e:Ending}(h:Jkt w S r e w'):∃(cs:List Value) (b:Bool),e=.returned (.tuple #[.agg cs.toArray,.bool b])/\cs.length=45/\(∀c∈cs,c.oneCell'=true)/\Fr [] w w'/\((r=none/\b=false)\/∃d,r=some d/\b=true/\RD w' S (deC d) cs):=by
 exact Ybq
theorem Jeu(ds:List De)(nm:ByteArray)(v0:Value)(w:World)(S0:List Nat)(hsz:∀d∈ds,SzD d)(hl:ds.length<=50)(hd:DR w S0 (.l (ds.map deC)) v0):
 Calls prog 89 #[.agg ([v0]:List Value).toArray,.string nm] w fun e w'=>∃v,e=.returned v/\BO w 50 w' (JM ltB (KX ds nm)) v/\Fr [] w w':=by
 have hbd:=hd.bound;have hll:(ds.map deC).length=ds.length:=Sr ..;obtain⟨ao,c,hv0,_⟩:=hd.slice;rw[hll]at hv0;refine enter func89 rfl ntmps89 rfl ?_;refine wp_seq ?_;refine KA ?_;refine rr ?_;refine Ju (l:=[v0]) rfl rfl (fun w1 bm hbme hbm hf1 hs1=>?_);refine rr ?_;refine wpList_nil ?_;refine QG ?_;(repeat refine wp_seq ?_);refine KA ?_;refine rr ?_;refine wpList_nil ?_;refine QG ?_;(repeat refine wp_seq ?_);refine KA ?_;refine Yfa ?_
 (repeat refine wp_seq ?_)
 refine KZ 7 [5,6] (fun g u=>∃v,g 5=v/\TD w u (QF ds nm).toList v/\Fr [] w u/\Blk u bm [v0] 25) ?_ ?_
 .refine rx ?_;refine Jh 7 [5,6] (σ:=Nat×Option (De×Value)) (fun s g u=>g 6=iV (s.1:Nat)/\s.1<=ds.length/\Fr [] w u/\Blk u bm [v0] 25/\(match s.2 with|none=>g 5=zS/\QF (ds.drop s.1) nm=QF ds nm|some (d,v)=>g 5=v/\QF ds nm=some d/\TD w u [d] v)) (fun s=>ds.length-s.1) (0,none) ⟨rfl,SL _,hf1,hbm,rfl,rfl⟩ ?_;clear hbm hf1;rintro⟨i,r⟩ g u ⟨g6,hi,hF,hbm,hr⟩;simp only at g6 hi hr;have hsu:=hF.size;subst hv0;cases r with
  |some p=>
   obtain⟨d,v⟩:=p;obtain⟨g5,hroot,hT⟩:=hr;obtain⟨ao5,c5,rfl⟩:=hT.slice;rw[Dx]at g5;rw[Ja g5,Ja g6];by_cases hlt:i<ds.length
   .refine rx ?_;exact Ybt
   .refine rx ?_;exact Ybt
  |none=>
  obtain⟨g5,hroot⟩:=hr;rw[Ja g5,Ja g6];by_cases hlt:i<ds.length
  case neg=>
   rw[Ci Yhn]at hroot;have hroot:none=QF ds nm:=hroot;refine rx ?_;exact JK Yhl ⟨_,rfl,by rw[<-hroot];exact TD.nil,hF,hbm⟩
  obtain⟨ad,cs,had,hr,hc⟩:=DR.at KL (hd.tr0 hF) hlt;subst had;have hlen:cs.length=45:=by rw[hr.len,KL]
  obtain⟨hk,hn⟩:=hr.kn;rw[NI hlt]at hroot;refine Yfr ?_;refine Jm (l:=[zI,zT,zI,zS,zS,zI,zT,zS,zI,zT,zI,zS,zS,zS,zI,zI,zI,zT,zS,zS,zS,zI,zS,zS,zS,zS,zI,zT,zS,zI,zT,zI,zS,zS,zS,zI,zS,zS,zI,zT,zI,zS,zS,zS,zI]) rfl (fun u1 b hbe hb1 hf1 hs1=>?_);refine rx ?_;refine Jd (cs:=cs) rfl rfl hb1 (RD.one hr) rfl hlen (fun u2 hb2 hf2 hs2=>?_);have hF2:Fr [] u u2:=hf1.trans hf2 (fun x hx=>.inr Yhq);refine rx ?_;refine VH rfl hb2 hn ?_;by_cases e1:ds[i].name=nm
  case neg=>
   rw[SH (fun h=>e1 h.1)]at hroot;refine rx ?_;exact Yhg
  refine rx ?_;refine VH rfl hb2 hk ?_;by_cases e2:ds[i].kind=0
  .rw [SH (fun h=>h.2.1 e2)]at hroot;exact Ybm
  refine rx ?_;refine VH rfl hb2 hk ?_;by_cases e3:ds[i].kind=2
  .rw [SH (fun h=>h.2.2 e3)]at hroot;exact Ybm
  rw[Cb ⟨e1,e2,e3⟩]at hroot;refine rx ?_;refine KE rfl hb2 hlen ?_;refine rx ?_;refine JQ (c1:=cs) rfl hlen rfl (fun u3 qq hqq ho hf3 hs3=>?_);refine rx ?_;refine JC (Own.nil _ _ _) rfl ho.src rfl (by rw[hlen]) (RD.one hr) Yhv Yhn (fun v4 u4 ho4 hf4 hk4 _=>?_);have hF4:=(hF2.Jb hf3).trans hf4 Yic;have hs2':=hF2.size;have hk4':∀x∈blks v4,u.heap.size<=x:=fun x hx=>by
   rcases hk4 x hx with h|h
   .simp [blks,Value.ownBlock]at h
   .omega
  refine rx ?_;refine Jc (i+1,some (ds[i],v4)) Yhl ⟨rfl,hlt,hF.Jb hF4,hbm.tr0 hF4,rfl,hroot.symm,⟨blks v4,[]++cs,ho4,Rws.one ((hr.mono (T:=blks v4) (fun b hb=>.inr (hk4' b hb))).old hF4 Yhs),fun x hx=>hx,fun x hx=>⟨by have:=hk4' x hx;have:=hbm.lt;omega,ho4.lt x hx⟩⟩⟩ Yhw
 clear hbm hf1;rintro g u ⟨v,g5,hT,hF,hbm⟩;rw[Ja g5];clear g5;have hsub0:∀d∈(QF ds nm).toList,d∈ds:=fun d hd=>by
  unfold QF at hd;exact Ei (Option.mem_toList.1 hd)
 have hfree:=JdV ds [];have hlen0:(QF ds nm).toList.length<=1:=by cases QF ds nm<;>simp
 have htot:[]++KD ds (mu ds ([],(QF ds nm).toList)) ([],(QF ds nm).toList)=KX ds nm:=by
  unfold KX;cases QF ds nm with
  |none=>exact Zb _ _ _
  |some d=>exact VI ds _ _ _ (SX _) (by simp only[mu,Option.toList_some,Dx];omega)
 have hmu0:mu ds ([],(QF ds nm).toList)<=ds.length+1:=by simp only[mu];omega
 obtain⟨ao5,c5,rfl⟩:=hT.slice;refine rx ?_;refine Jh 11 [5,8,9,10] (σ:=Nat×(List ByteArray×(List ByteArray×List De))×List Br×(Value×Value×Value)) (fun s g u=>g 5=s.2.2.2.1/\g 8=s.2.2.2.2.1/\g 9=s.2.2.2.2.2/\g 10=iV (s.1:Nat)/\RS w u s.2.1.2 s.2.2.2.2.2 s.2.2.2.1/\Blk u bm [v0] 25/\BO w 50 u (JM ltB s.2.2.1) s.2.2.2.2.1/\Sim (s.2.1.1,s.2.1.2.2.drop s.1) s.2.1.2 s.1/\(∀d∈s.2.1.2.2,d∈ds)/\s.2.2.1++KD ds (mu ds (s.2.1.1,s.2.1.2.2.drop s.1)) (s.2.1.1,s.2.1.2.2.drop s.1)=KX ds nm/\s.1+mu ds (s.2.1.1,s.2.1.2.2.drop s.1)<=ds.length+1/\s.2.2.1.length+mu ds (s.2.1.1,s.2.1.2.2.drop s.1)*11000<=(ds.length+1)*11000/\s.2.1.2.1.length+mu ds (s.2.1.1,s.2.1.2.2.drop s.1)*11000<=(ds.length+1)*11000) (fun s=>mu ds (s.2.1.1,s.2.1.2.2.drop s.1)) (0,([],([],(QF ds nm).toList)),[],(_,zS,zS)) ⟨rfl,rfl,rfl,rfl,RS.JkO hF hT,hbm,BO.nil,⟨fun c=>rfl,rfl,SL _⟩,hsub0,htot,by simp only[D9];omega,by simp only[D9,SY];omega,by simp only[D9,SY];omega⟩ ?_;clear hT hF hbm htot hmu0 hlen0 hfree hsub0;rintro⟨i,⟨sp,⟨seen,todo⟩⟩,acc,⟨vt,vo,vs⟩⟩ g u0 ⟨g5,g8,g9,g10,hR,hbm,hB,hSim,hsub,htot,hmi,hal,hsl⟩;simp only at g5 g8 g9 g10 hR hB hSim hsub htot hmi hal hsl;rw[Ja g5,Ja g8,Ja g9,Ja g10];have hRlt:=hR.lt;have hR0:=hR;obtain⟨K,xs,hFw,how,hot,hrw,hKs,hKt,hK,hdis⟩:=hR0;simp only at how hot hrw;obtain⟨aot,ct,rfl⟩:=hot.slice;have hs0:=hFw.size;by_cases hlt:i<todo.length
 case neg=>
  have h0:todo.drop i=[]:=Ci Yhn;rw[h0,Zb,Ce]at htot;refine Yeo ?_;rw[htot]at hB;exact⟨vo,rfl,hB,hFw⟩
 have hdrop:todo.drop i=todo[i]::todo.drop (i+1):=Dh hlt;obtain⟨d,hde⟩:=exq (todo[i]);have hsz1:=hsz d (hde▸hsub _ (Cj hlt));have hz1:=hsz1.parts;have hz2:=hsz1.brs;have hz3:=hsz1.calls;rw[hdrop,<-hde]at htot hmi hal hsl hSim;have hmp1:mu ds (sp,d::todo.drop (i+1))=mu ds (sp,todo.drop (i+1))+1:=by simp only[mu,SI];omega
 have hmp2:(todo.drop (i+1)).length<=mu ds (sp,todo.drop (i+1)):=by simp only[mu];omega
 have htl:todo.length<=52:=by rw[Dn]at hmp2;omega
 have hSim1:Sim (sp,todo.drop (i+1)) (seen,todo) (i+1):=⟨hSim.seen,rfl,hlt⟩;obtain⟨s',hs'⟩:=exq ((KY (Js (Jw d))).foldl (rst ds) (sp,todo.drop (i+1)));have hmu':mu ds s'<=mu ds (sp,todo.drop (i+1)):=hs'▸JbZ ds _ _;have hgo:KD ds (mu ds (sp,d::todo.drop (i+1))) (sp,d::todo.drop (i+1))=ofD d++KD ds (mu ds s') s':=by
  rw[hmp1,KD,JbJ,<-hs',VI ds _ (mu ds s') s' hmu' (SX _)]
 obtain⟨ad,cs,had,hr,hc⟩:=Sl.at (w:=u0) (S:=[]) (R:=fun d cs=>RD u0 K (deC d) cs) ⟨xs,hot.src,fun ad n c e _ hm=>by simp at hm,hrw⟩ (fun x cs h=>by rw[RD.len h,KL]) hlt;subst had;rw[<-hde]at hr;have hlen:cs.length=45:=by rw[hr.len,KL]
 refine Yfr ?_;refine Jl (JiK d Yhn Yhn hsz1.dep cs u0 K (fun b hb=>(hK b hb).2) hr) ?_;rintro vf u1 ⟨hBf,hf1⟩;refine rx ?_;have hml:=KQ (lt:=ltB) (l:=acc);refine Jl (Jet (JM ltB acc) (ofD d) vo vf u1 ((hB.tr0 hf1).dr Yhn) (hBf.dr Yhn) Yhn) ?_;rintro vo2 u2 ⟨hB2,hf2⟩;have hF2:=hf1.Jb hf2;have hs1:=hf1.size;have hs2:=hf2.size;rw[V6 Qu (m:=acc++ofD d) (fun y=>by rw[SE,KF Qu,SE])]at hB2;refine rx ?_;refine Vz rfl (hc.tr0 hF2) hlen ?_;refine rx ?_;refine s_call (Jaj d Yhn cs u2 K (hr.tr0 hF2)) rfl ?_;rintro _ u3 ⟨w3,vp,hf31,rfl,hLO,hf32⟩;refine⟨_,rfl,?_⟩;have hs31:=hf31.size;have hf3:=hf31.Jb hf32;have hs3:=hf3.size;have hdp:=hLO.dr Jq Yhn hf32 Yhs (fun x hx=>by have:=(hK x hx).2;omega);have hF3:=hF2.Jb hf3;have hR3:=hR.tr0 hF3;have hB3:BO w 50 u3 (JM ltB (acc++ofD d)) vo2:=⟨hB2.1.tr0 hf3,fun x hx=>by have:=hB2.2 x hx;omega⟩;have hvo:∀x∈blks vo2,u1.heap.size<=x/\x<u2.heap.size:=fun x hx=>⟨hB2.2 x hx,hB2.1.lt x hx⟩
 obtain⟨aop,cp,rfl⟩:=hLO.slice;obtain⟨pp,hpp⟩:∃p:Nat->Prop,p=fun x=>x∈K\/u3.heap.size<=x:=⟨_,rfl⟩
 have hbm3lt:=(hbm.tr0 hF3).lt;have hppw:∀x,pp x->w.heap.size<x/\(x<u0.heap.size\/u3.heap.size<=x):=fun x hx=>by rw[hpp]at hx;exact hx.elim (fun h=>⟨(hK x h).1,.inl (hK x h).2⟩) (fun h=>⟨by omega,.inr h⟩)
 have hp0:∀x,x∈blks vs\/x∈blks (Value.slice (some ad) todo.length ct)->pp x:=fun x hx=>by rw[hpp];exact .inl (hx.elim (hKs x) (hKt x))
 have hcl0:∀k,((Jw d).take k).flatMap caN=KY (Js ((Jw d).take k)):=fun k=>by
  rw[Xf,MJ]
 have hcall:∀k,(KY (Js ((Jw d).take k))).length<=11000:=fun k=>by
  rw[<-hcl0];have h1:=WJ (Jw d) caN k;have h2:=hcl0 (Jw d).length;rw[Dk]at h2;rw[h2]at h1;omega
 have hbm3:=hbm.tr0 hF3;clear hr hc;refine Yfa ?_
 (repeat refine wp_seq ?_)
 refine KA ?_;refine Yfa ?_
 (repeat refine wp_seq ?_)
 refine rx ?_;refine Jh 13 [5,9,12] (σ:=Nat×Value×Value) (fun s g u=>g 5=s.2.1/\g 9=s.2.2/\g 12=iV (s.1:Nat)/\s.1<=(Jw d).length/\RS w u ((KY (Js ((Jw d).take s.1))).foldl (Vm ds) (seen,todo)) s.2.2 s.2.1/\FrP pp u3 u/\∀x,x∈blks s.2.2\/x∈blks s.2.1->pp x) (fun s=>(Jw d).length-s.1) (0,_,_) ⟨rfl,rfl,rfl,SL _,hR3,.refl,hp0⟩ ?_;rintro⟨k,vt,vs⟩ g u ⟨g5,g9,g12,hk,hR,hP,hpv⟩;simp only at g5 g9 g12 hk hR hpv;rw[Ja g5,Ja g9,Ja g12];by_cases hkl:k<(Jw d).length
 case neg=>
  rw[SQ Yhn]at hR;obtain⟨T4,hT4,hT4p⟩:=hP;have hR4:=hR;have hSim2:=Sim.fold (ds:=ds) (l:=KY (Js (Jw d))) hSim1;rw[<-hs']at hSim2;obtain⟨r',hr'⟩:=exq ((KY (Js (Jw d))).foldl (Vm ds) (seen,todo));rw[<-hr']at hR4 hSim2;have hB4:BO w 50 u (JM ltB (acc++ofD d)) vo2:=⟨hB3.1.tr hT4 (fun x hx hm=>by have h1:=hvo x hx;have h2:=hppw x (hT4p x hm);omega),hB3.2⟩;have hbm4:Blk u bm [v0] 25:=hbm3.tr hT4 (fun hm=>by have:=hppw bm (hT4p bm hm);omega);have hsl':r'.1.length=seen.length+(KY (Js (Jw d))).length:=by rw[hr',Gh]
  have hq':(s'.1,r'.2.drop (i+1))=s':=by rw[hSim2.q]
  refine rx ?_;refine Jc (i+1,(s'.1,r'),acc++ofD d,(vt,vo2,vs)) Yhl ?_ ?_
  .refine ⟨rfl,rfl,rfl,rfl,hR4,hbm4,hB4,?_,?_,?_,?_,?_,?_⟩
   .exact ⟨hSim2.seen,rfl,hSim2.le⟩
   .rw [hr'];exact Jag hsub
   .simp only[hq'];rw[List.append_assoc,<-hgo];exact htot
   .simp only[hq'];omega
   .simp only[hq'];rw[Sm];omega
   .simp only[hq'];rw[hsl'];omega
  .simp only[hq'];rw[hdrop,<-hde];omega
 obtain⟨sk,hsk⟩:=exq ((KY (Js ((Jw d).take k))).foldl (Vm ds) (seen,todo));rw[<-hsk]at hR;have hnext:(KY (Js ((Jw d).take (k+1)))).foldl (Vm ds) (seen,todo)=(caN (Jw d)[k]).foldl (Vm ds) sk:=by
  rw[hsk,<-List.foldl_append,<-hcl0,<-hcl0,KP hkl]
 have hcn:(caN (Jw d)[k]).length<=11000:=by
  have h1:=hcall (k+1);rw[<-hcl0,KP hkl,Sm]at h1;omega
 have hskl:sk.1.length<=600000:=by rw[hsk,Gh];have:=hcall k;simp only;omega
 have hskt:sk.2.length<=52+(KY (Js ((Jw d).take k))).length:=by
  have h1:∀(l:List ByteArray) (r:List ByteArray×List De),(l.foldl (Vm ds) r).2.length<=r.2.length+l.length:=by
   intro l
   induction l with
   |nil=>intro r;simp
   |cons a l ih=>intro r;rw[Dz];have:=ih (Vm ds r a);have:=Jaf (ds:=ds) (r:=r) (c:=a);simp only[SI];omega
  have:=h1 (KY (Js ((Jw d).take k))) (seen,todo);rw[hsk];simp only at this;omega
 have hck:=hcall k;have hsu:=hR.fr.size;obtain⟨Tp,hTp,hTpp⟩:=hP;have hP:FrP pp u3 u:=⟨Tp,hTp,hTpp⟩;have hs3u:=hTp.size;have hdpu:DR u K (.l ((Jw d).map exC)) _:=hdp.old hTp (fun b hb=>by
  have:=hTpp b hb;rw[hpp]at this;exact this)
 obtain⟨ade,ce,hade,hre,hce⟩:=DR.at Jq hdpu hkl;subst hade;have hlene:ce.length=7:=by rw[hre.len,Jq]
 refine rx ?_;refine Vz rfl hce hlene ?_;refine rx ?_;refine Jl (Jew 1000 (Jw d)[k] (hsz1.dep _ (Cj hkl)) Yhn ce u K hre) ?_;rintro vc u4 ⟨hLc,hf4⟩;have hs4:=hf4.size;obtain⟨hoc,hoc0⟩:=Jfb (w:=w) hLc;have hoc1:=hoc.lt;obtain⟨aoc,cc,rfl⟩:=hoc.slice;have hR4:=hR.tr0 hf4;obtain⟨p2,hp2⟩:∃p:Nat->Prop,p=fun x=>pp x/\(x<u.heap.size\/u4.heap.size<=x):=⟨_,rfl⟩
 have hpv2:∀x,x∈blks vs\/x∈blks vt->p2 x:=fun x hx=>by rw[hp2];exact⟨hpv x hx,.inl (hR.lt x hx).2⟩
 obtain⟨l,hle⟩:=exq (caN (Jw d)[k]);rw[<-hle]at hoc hcn hnext hoc0 hoc1 ⊢;have hp2w:∀x,p2 x->w.heap.size<x:=fun x hx=>by rw[hp2]at hx;exact(hppw x hx.1).1
 have hp2n:∀x,u4.heap.size<=x->p2 x:=fun x hx=>by rw[hp2,hpp];exact⟨.inr Yhn,.inr hx⟩
 have hpc:∀x,p2 x->x∉blks (Value.slice aoc l.length cc):=fun x hx hm=>by
  have h1:=hoc0 x hm;have h2:=hoc1 x hm;rw[hp2]at hx;have:=hx.2;omega
 have hbm4:∀{u':World},FrP p2 u4 u'->Blk u' bm [v0] 25:=fun{u'} h=>by
  obtain⟨T,h1,h2⟩:=(FrP.of0 (p:=pp) hf4).trans (h.imp (fun x hx=>by rw[hp2]at hx;exact hx.1));have hb3:Blk u bm [v0] 25:=hbm3.tr hTp (fun hm=>by have:=hppw bm (hTpp bm hm);omega);exact hb3.tr h1 (fun hm=>by have:=hppw bm (h2 bm hm);omega)
 refine rx ?_;refine Jh 15 [5,9,14] (σ:=Nat×Value×Value) (fun s g u'=>g 5=s.2.1/\g 9=s.2.2/\g 14=iV (s.1:Nat)/\s.1<=l.length/\RS w u' ((l.take s.1).foldl (Vm ds) sk) s.2.2 s.2.1/\FrP p2 u4 u'/\∀x,x∈blks s.2.2\/x∈blks s.2.1->p2 x) (fun s=>l.length-s.1) (0,_,_) ⟨rfl,rfl,rfl,SL _,hR4,.refl,hpv2⟩ ?_;rintro⟨j,vt,vs⟩ g u5 ⟨g5,g9,g14,hj,hR5,hP5,hpv5⟩;simp only at g5 g9 g14 hj hR5 hpv5;rw[Ja g5,Ja g9,Ja g14];by_cases hjl:j<l.length
 case neg=>
  rw[SQ Yhn,<-hnext]at hR5;refine rx ?_;exact Jc (k+1,vt,vs) Yhl ⟨rfl,rfl,rfl,hkl,hR5,(hP.trans (.of0 hf4)).trans (hP5.imp (fun x hx=>by rw[hp2]at hx;exact hx.1)),fun x hx=>by have:=hpv5 x hx;rw[hp2]at this;exact this.1⟩ Yhw
 obtain⟨s5,hs5⟩:=exq ((l.take j).foldl (Vm ds) sk);rw[<-hs5]at hR5;have hs5n:(l.take (j+1)).foldl (Vm ds) sk=Vm ds s5 l[j]:=by rw[SK hjl,List.foldl_append,<-hs5];rfl
 have hs5l:s5.1.length<=700000:=by rw[hs5,Gh,C9];omega
 have hs5t:s5.2.length<=30000:=by
  have h1:∀(l:List ByteArray) (r:List ByteArray×List De),(l.foldl (Vm ds) r).2.length<=r.2.length+l.length:=by
   intro l
   induction l with
   |nil=>intro r;simp
   |cons a l ih=>intro r;rw[Dz];have:=ih (Vm ds r a);have:=Jaf (ds:=ds) (r:=r) (c:=a);simp only[SI];omega
  have:=h1 (l.take j) sk;rw[C9,<-hs5]at this;omega
 obtain⟨T5,hT5,hT5p⟩:=hP5;have hP5:FrP p2 u4 u5:=⟨T5,hT5,hT5p⟩;have hs45:=hT5.size;have hoc5:=hoc.tr hT5 (fun x hx hm=>hpc x (hT5p x hm) hx);have hR5':=hR5;obtain⟨K5,xs5,hFw5,hos,how5,hrw5,hKs5,hKt5,hK5,hdis5⟩:=hR5';obtain⟨aos,cs5,hvs⟩:=hos.slice;have hsv:=JaI hjl;obtain⟨adc,hadc,hcell⟩:=KO hoc5.src hsv;subst hadc;have hbm5:=hbm4 hP5;subst hvs;refine rx ?_;refine Jh 17 [15,16] (σ:=Nat) (fun n g u'=>g 15=.bool (Vu l[j] (s5.1.take n))/\g 16=iV (n:Nat)/\n<=s5.1.length/\Fr [] u5 u') (fun n=>s5.1.length-n) 0 ⟨rfl,rfl,SL _,Fr.refl _ _⟩ ?_;rintro n g u6 ⟨g15,g16,hn,hF6⟩;rw[Ja g15,Ja g16];by_cases hnl:n<s5.1.length
 case neg=>
  rw[SQ Yhn];have hR6:=hR5.tr0 hF6;have hcell6:u6.cell? (adc.add (j*1))=some (.string l[j]):=by rw[Dq];exact Fr.cell0 hF6 hcell
  have hbm6:=hbm5.tr0 hF6;have hs56:=hF6.size;have hdM6:DR u6 K5 (.l (ds.map deC)) v0:=(hd.mono (T:=K5) (fun b hb=>.inr (Iq (hK5 b hb).1))).tr0 hR6.fr;refine rx ?_;refine KZ 15 [15,17,18] (fun g u'=>∃q cs b,g 15=.bool (Vu l[j] s5.1)/\g 17=.pointer (some ⟨q,0,none⟩)/\g 18=.bool b/\Blk u' q cs 105/\cs.length=45/\(∀c∈cs,c.oneCell'=true)/\Fr [] u6 u'/\((fdD ds 1 l[j]=none/\b=false)\/∃d,fdD ds 1 l[j]=some d/\b=true/\RD u' K5 (deC d) cs)) ?_ ?_
  . (refine JE (fun z=>Fr [] u6 z) Yhp rfl ?_)
    obtain⟨u7,hu7⟩:=exq u6.drew;rw[<-hu7];have hS7:Fr [] u6 u7:=hu7▸Fr.drew _ _;have hs67:=hS7.size;have hdM7:=hdM6.tr0 hS7;refine Jj 0 1 2 3 hS7 ?_;refine Kw 4 hS7 ?_ (hrun:=by(intro u hu;exact(J7 rfl (Fr.cell0 hu hcell6))));refine Xt (i:=5) (j:=9) rfl rfl Yhp ?_ ?_
    .refine s_call (NJ ds 1 l[j] v0 u7 K5 hdM7) rfl ?_;rintro en u8 hfd;obtain⟨cs8,b8,rfl,hl8,h18,hf8,hcase⟩:=Jjf hfd;refine⟨_,rfl,?_⟩;have hS8:=hS7.Jb hf8;have hs8:=hf8.size;refine wpList_nil (Jv hS8 ?_);refine JX 6 7 hS8 ?_;refine d_z 8 hS8 ?_;refine Ygx ?_;refine Jm (l:=[zI,zT,zI,zS,zS,zI,zT,zS,zI,zT,zI,zS,zS,zS,zI,zI,zI,zT,zS,zS,zS,zI,zS,zS,zS,zS,zI,zT,zS,zI,zT,zI,zS,zS,zS,zI,zS,zS,zI,zT,zI,zS,zS,zS,zI]) rfl (fun u9 q hqe hq9 hf9 hs9=>?_);have hS9:=hS8.Jb hf9;refine wpList_nil (Jv hS9 ?_);refine Ylq ?_;refine Jd (cs:=cs8) rfl rfl hq9 h18 rfl hl8 (fun u10 hq10 hf10 hs10=>?_);have hS10:Fr [] u6 u10:=hS9.trans hf10 (fun x hx=>.inr Yhq);refine wpList_nil (Jv hS10 ?_);refine JJ (i:=11) rfl Yhp ?_;refine rx ?_;refine Jv hS10 ?_;refine Yfx ?_;refine JK Yhl ⟨q,cs8,b8,rfl,rfl,rfl,hq10,hl8,h18,hS10,hcase.imp id (fun⟨d,h1,h2,h3⟩=>⟨d,h1,h2,?_⟩)⟩;exact(((h3.mono (T:=q::K5) (fun b hb=>(SC.1 hb).elim (fun h=>.inr Yhn) .inl)).tr0 hf9).old hf10 (fun b hb=>.inl Yjq)).mono (fun b hb=>.inl (CY _ hb))
    .refine Jm (l:=[zI,zT,zI,zS,zS,zI,zT,zS,zI,zT,zI,zS,zS,zS,zI,zI,zI,zT,zS,zS,zS,zI,zS,zS,zS,zS,zI,zT,zS,zI,zT,zI,zS,zS,zS,zI,zS,zS,zI,zT,zI,zS,zS,zS,zI]) rfl (fun u8 q hqe hq8 hf8 hs8=>?_);have hS8:=hS7.Jb hf8;refine wpList_nil (Jv hS8 ?_);refine Ync ?_;refine s_call (NJ ds 1 l[j] v0 u8 (q::K5) ((hdM7.mono (T:=q::K5) (fun b hb=>(SC.1 hb).elim (fun h=>.inr Yhn) .inl)).tr0 hf8)) rfl ?_;rintro en u9 hfd;obtain⟨cs8,b8,rfl,hl8,h18,hf9,hcase⟩:=Jjf hfd;refine⟨_,rfl,?_⟩;have hS9:=hS8.Jb hf9;have hs9:=hf9.size;have hq9:=hq8.tr0 hf9;refine wpList_nil (Jv hS9 ?_);refine JX 6 7 hS9 ?_;refine d_z 8 hS9 ?_;refine Ylq ?_;refine Jd (cs:=cs8) rfl rfl hq9 h18 rfl hl8 (fun u10 hq10 hf10 hs10=>?_);have hS10:Fr [] u6 u10:=hS9.trans hf10 (fun x hx=>.inr Yhq);refine wpList_nil (Jv hS10 ?_);refine JJ (i:=11) rfl Yhp ?_;refine rx ?_;refine Jv hS10 ?_;refine Yfx ?_;refine JK Yhl ⟨q,cs8,b8,rfl,rfl,rfl,hq10,hl8,h18,hS10,hcase.imp id (fun⟨d,h1,h2,h3⟩=>⟨d,h1,h2,?_⟩)⟩;exact(h3.old hf10 (fun b hb=>.inl Yjq)).mono (fun b hb=>.inl (CY _ hb))
  rintro g3 u10 ⟨q,cs8,b8,g15,g17,g18,hq10,hl8,h18,hF10,hcase⟩;rw[Ja g15,Ja g17,Ja g18];clear g15 g17 g18;have hR10:=hR6.tr0 hF10;have hs610:=hF10.size;have hF510:=hF6.Jb hF10;have hcell10:=Fr.cell0 hF10 hcell6;have hP10:FrP p2 u4 u10:=hP5.trans (.of0 hF510);have hFw10:=hFw5.Jb hF510;have hos:=hos.tr0 hF510;have how10:=how5.tr0 hF510;have hrw10:=hrw5.imp (fun d cs _ hr=>hr.tr0 hF510);have hsF:=hFw10.size;have hs510:=hF510.size;refine wp_seq ?_;refine KZ 15 [5] (fun g u11=>∃vt',g 5=vt'/\RS w u11 (s5.1,(Vm ds s5 l[j]).2) (Value.slice aos s5.1.length cs5) vt'/\FrP p2 u10 u11/\(∀x∈blks vt',p2 x)/\u10.heap.size<=u11.heap.size) ?_ ?_
  .have hsame:(Vm ds s5 l[j]).2=s5.2->Fr [] u10 u10->RS w u10 (s5.1,(Vm ds s5 l[j]).2) (Value.slice aos s5.1.length cs5) vt:=fun h _=>by rw[h];exact hR10
   rcases hcase with⟨hn,rfl⟩|⟨dd,hdd,rfl,hrd⟩
   .have he:(Vm ds s5 l[j]).2=s5.2:=by unfold Vm;simp only[hn];split<;>rfl
    refine rx ?_;exact Yhh
   cases hb:Vu l[j] s5.1 with
   |true=>
    have he:(Vm ds s5 l[j]).2=s5.2:=by unfold Vm;simp only[hb,CX]
    refine rx ?_;exact Yhh
   |false=>
    have he:(Vm ds s5 l[j]).2=s5.2++[dd]:=by unfold Vm;simp only[hb,SS,CW,hdd]
    refine rx ?_;refine KE rfl hq10 hl8 ?_;refine rx ?_;refine JQ (c1:=cs8) rfl hl8 rfl (fun u11 qq hqq ho11 hf11 hs11=>?_);refine rx ?_;refine JC (how10.tr0 hf11) rfl ho11.src rfl (by rw[hl8]) h18 Yhv Yhn (fun v' u12 ho12 hf12 hk12 _=>?_);have hs12:=hf12.size;have hF12:Fr (blks vt) u10 u12:=(hf11.mono Yhs).trans hf12 (fun x hx=>.inl hx);have hnew:∀x∈blks v',x∈blks vt\/u10.heap.size<=x:=fun x hx=>(hk12 x hx).imp id Yid
    have hpn:∀x∈blks v',p2 x:=fun x hx=>(hnew x hx).elim (fun h=>hpv5 x (.inr h)) (fun h=>hp2n x (by have:=hT5.size;omega))
    refine rx ?_;refine JK Yhl ⟨v',rfl,?_,⟨_,hF12,fun x hx=>hpv5 x (.inr hx)⟩,hpn,by omega⟩;rw[he];have hvtK:∀x∈blks vt,x∈K5:=hKt5;have hK12:∀x∈K5++blks v',x∈K5\/u10.heap.size<=x:=fun x hx=>(SE.1 hx).elim .inl (fun h=>(hnew x h).imp (hvtK x) id)
    have hstep:∀{d:De} {cs:List Value},RD u10 K5 (deC d) cs->RD u12 (K5++blks v') (deC d) cs:=fun h=>(h.mono hK12).old hF12 (fun b hb=>.inl (SA _ (hvtK b hb)))
    refine⟨K5++blks v',xs5++cs8,hFw10.trans hF12 (fun x hx=>.inr (Iq (hK5 x (hvtK x hx)).1)),hos.tr hF12 (fun x hx=>hdis5 x hx),by rw[Sm,Dx];exact ho12,(hrw10.imp (fun d cs _ hr=>hstep hr)).app (Rws.one (hstep hrd)),fun x hx=>SA _ (hKs5 x hx),fun x hx=>CJ _ hx,fun x hx=>?_,fun x hx hm=>?_⟩
    .rcases SE.1 hx with h|h
     .have:=hK5 x h;exact⟨this.1,by omega⟩
     .exact ⟨hp2w x (hpn x h),ho12.lt x h⟩
    .rcases hnew x hm with h|h
     .exact hdis5 x hx h
     .have:=(hK5 x (hKs5 x hx)).2;omega
  rintro g4 u11 ⟨vt',g5,hR11,hP11,hpt,hs11⟩;rw[Ja g5];clear g5;have hcell11:u11.cell? (adc.add j)=some (.string l[j]):=by
   obtain⟨T,h1,h2⟩:=hP10.trans hP11;exact(Vs ((hoc.tr h1 (fun x hx hm=>hpc x (h2 x hm) hx)).src) hsv)
  obtain⟨K11,xs11,hFw11,hos11,how11,hrw11,hKs11,hKt11,hK11,hdis11⟩:=hR11;simp only at hos11 how11 hrw11;refine rx ?_;refine KW rfl (by rw[Dq];exact hcell11) ?_;refine rx ?_;refine QO (v:=.string l[j]) rfl rfl (fun u12 ho12 hf12 hs12=>?_);refine rx ?_;refine JC (hos11.tr0 hf12) rfl ho12.src rfl rfl Yhu Yhv Yhn (fun v' u13 ho13 hf13 hk13 _=>?_);have hF13:Fr (blks (Value.slice aos s5.1.length cs5)) u11 u13:=(hf12.mono Yhs).trans hf13 (fun x hx=>.inl hx);have hnew:∀x∈blks v',x∈blks (Value.slice aos s5.1.length cs5)\/u11.heap.size<=x:=fun x hx=>(hk13 x hx).imp id Yid
  have hpn:∀x∈blks v',p2 x:=fun x hx=>(hnew x hx).elim (fun h=>hpv5 x (.inl h)) (fun h=>hp2n x (by have:=hT5.size;omega))
  refine rx ?_;refine Jc (j+1,vt',v') Yhl ⟨rfl,rfl,rfl,hjl,?_,(hP10.trans hP11).trans ⟨_,hF13,fun x hx=>hpv5 x (.inl hx)⟩,fun x hx=>hx.elim (hpn x) (hpt x)⟩ Yhw;rw[hs5n];have hs13:=hF13.size;have hK13:∀x∈K11++blks v',x∈K11\/u11.heap.size<=x:=fun x hx=>(SE.1 hx).elim .inl (fun h=>(hnew x h).imp (hKs11 x) id)
  refine⟨K11++blks v',xs11,hFw11.trans hF13 (fun x hx=>.inr (Iq (hK11 x (hKs11 x hx)).1)),?_,how11.tr hF13 (fun x hx hm=>hdis11 x hm hx),hrw11.imp (fun d cs _ h=>(h.mono hK13).old hF13 (fun b hb=>.inl (SA _ (hKs11 b hb)))),fun x hx=>CJ _ hx,fun x hx=>SA _ (hKt11 x hx),fun x hx=>?_,fun x hx hm=>?_⟩
  .have:(Vm ds s5 l[j]).1=s5.1++[l[j]]:=rfl;rw[this,Sm,Dp];exact ho13
  .rcases SE.1 hx with h|h
   .have:=hK11 x h;exact⟨this.1,by omega⟩
   .exact ⟨hp2w x (hpn x h),ho13.lt x h⟩
  .rcases hnew x hx with h|h
   .exact hdis11 x h hm
   .have:=(hK11 x (hKt11 x hm)).2;omega
 obtain⟨adn,hadn,hcelln⟩:=KO (hos.tr0 hF6).src (JaI hnl);subst hadn;have hcelln:u6.cell? (adn.add (n*1))=some (.string s5.1[n]):=by rw[Dq];exact hcelln
 have hcell6:u6.cell? (adc.add (j*1))=some (.string l[j]):=by rw[Dq];exact Fr.cell0 hF6 hcell
 refine rx ?_;refine JE (fun z=>Fr [] u6 z) Yhp rfl ?_;obtain⟨u7,hu7⟩:=exq u6.drew;rw[<-hu7];have hS:Fr [] u6 u7:=hu7▸Fr.drew _ _;cases hb:Vu l[j] (s5.1.take n)with
 |true=>
  refine Jj 0 1 2 3 hS ?_;refine Jj 4 5 6 7 hS ?_;refine Jj 8 9 10 11 hS ?_;refine Yne ?_;refine Yev ?_;exact Jc (n+1) Yhl ⟨by rw[Lr hnl,hb];rfl,rfl,hnl,hF6.Jb hS⟩ Yhn
 |false=>
  refine Jj 0 1 2 3 hS ?_;refine d_z 4 hS ?_;refine Kz 5 hS ?_ (hrun:=by(intro u hu;exact(J7 rfl (Fr.cell0 hu hcelln))));refine JX 6 7 hS ?_;refine d_z 8 hS ?_;refine Kz 9 hS ?_ (hrun:=by(intro u hu;exact(J7 rfl (Fr.cell0 hu hcell6))));by_cases he:s5.1[n]=l[j]
  . (apply V4 (i:=10);exact rfl;exact rfl;kernel_rfl;kernel_rfl;kernel_rfl;(intro u hu;exact(NQ (p:=true) rfl rfl (SN he)));exact hS)
    refine d_z 11 hS ?_;refine Yne ?_;refine Yev ?_;exact Jc (n+1) Yhl ⟨by rw[Lr hnl,hb,SN he];rfl,rfl,hnl,hF6.Jb hS⟩ Yhn
  . (apply V4 (i:=10);exact rfl;exact rfl;kernel_rfl;kernel_rfl;kernel_rfl;(intro u hu;exact(NQ (p:=false) rfl rfl (SG he)));exact hS)
    refine d_z 11 hS ?_;refine Yne ?_;refine Yev ?_;exact Jc (n+1) Yhl ⟨by rw[Lr hnl,hb,SG he];rfl,rfl,hnl,hF6.Jb hS⟩ Yhn
end Go.Proofs.YtggmccicdhnkgaaGreat
