/-
 fits and Add of package cover.
-/
import Derived.Test.YtggmccicdhnkgaaGreatVCq
import Derived.Test.YtggmccicdhnkgaaGreatVJb
import Derived.Test.YtggmccicdhnkgaaGreatVCv
set_option linter.all false
set_option maxHeartbeats 64000000
namespace Go.Rf
open Go.RowKit
section
variable{st:Nat}
section
variable{α β:Type}
theorem Jcj(key:α->Value)(val:β->Value)(a:α)(v:β):∀{m:List (α×β)} {ns:List Nat} {i:Nat},ns.length=m.length->m[i]?=some (a,v)->(dG key val m ns).modify i (fun e=>{e with key:=key a})=dG key val m ns
 |[],ns,i,_,h=>by simp at h
 |q::m,[],i,h,_=>by simp at h
 |q::m,k::ns,0,h,h1=>by
  simp only[Ep,Sj]at h1;subst h1;simp[dG]
 |q::m,k::ns,i+1,h,h1=>by
  simp only[DX]at h1;simp only[dG,Hl];rw[Jcj key val a v mE h1]
theorem Jcg(key:α->Value)(val:β->Value)(a:α)(v v':β):∀{m:List (α×β)} {ns:List Nat} {i:Nat},ns.length=m.length->m[i]?=some (a,v)->(dG key val m ns).modify i (fun e=>{e with val:=val v'})=dG key val (m.set i (a,v')) ns
 |[],ns,i,_,h=>by simp at h
 |q::m,[],i,h,_=>by simp at h
 |q::m,k::ns,0,h,h1=>by
  simp only[Ep,Sj]at h1;subst h1;simp[dG]
 |q::m,k::ns,i+1,h,h1=>by
  simp only[DX]at h1;simp only[dG,Hl,Ie];rw[Jcg key val a v v' mE h1]
theorem JaA(key:α->Value)(val:β->Value)(st:Nat):∀{m:List (α×β)} {ns:List Nat} {i:Nat},ns.length=m.length->ns.Nodup->ns[i]?=some st->(dG key val m ns).findIdx? (fun e=>(e.born:Int)==(st:Int))=some i
 |[],[],i,_,_,h=>by simp at h
 |[],k::ns,i,h,_,_=>by simp at h
 |q::m,[],i,h,_,_=>by simp at h
 |q::m,k::ns,0,h,_,h1=>by
  simp only[Ep,Sj]at h1;subst h1;simp[dG,I4]
 |q::m,k::ns,i+1,h,hn,h1=>by
  simp only[DX]at h1;have iz:¬(k:Int)=(st:Int):=fun e=>by
   have:k=st:=by omega
   subst this;exact(EF.1 hn).1 (Hz h1)
  simp only[dG,I4];rw[JaA key val st mE (EF.1 hn).2 h1];simp[iz]
variable[DecidableEq α]
theorem JbQ{a:α}{v v':β}:∀{m:List (α×β)} {i:Nat},(m.map Prod.fst).Nodup->m[i]?=some (a,v)->VJ m a v'=m.set i (a,v')
 |[],i,_,h=>by simp at h
 |q::m,0,_,h=>by
  simp only[Ep,Sj]at h;subst h;simp[VJ]
 |q::m,i+1,hn,h=>by
  simp only[DX]at h;simp only[DL,EF]at hn;have iz:¬a=q.1:=fun e=>hn.1 (by rw[<-e];exact Du.2 ⟨(a,v),Hz h,rfl⟩)
  simp only[VJ,SH iz,Ie];rw[JbQ hn.2 h]
end
section
variable{α β:Type}[DecidableEq α]{key:α->Value}{val:β->Value}{w w':World}{b:Nat}{m:List (α×β)}
def xz(key:α->Value)(val:β->Value)(w:World)(b:Nat)(m:List (α×β))(a:α)(st:Nat):Prop:=
 ∃ns clock,ns.length=m.length/\w.heap[b]?=some (.map (dG key val m ns).toArray clock)/\(m.map Prod.fst).Nodup/\ns.Nodup/\(∀n∈ns,n<clock)/\∃(i:Nat) (v:β),m[i]?=some (a,v)/\ns[i]?=some st
theorem xz.mp{a:α}(h:xz key val w b m a st):Mp key val w b m:=by
 obtain⟨ns,c,h1,h2,h3,h4,h5,_⟩:=h;exact⟨ns,c,h1,h2,h3,h4,h5⟩
theorem xz.tr{S:List Nat}{a:α}(h:xz key val w b m a st)(hf:Fr S w w')(hS:b∉S):xz key val w' b m a st:=by
 have hl:=h.mp.lt;exact Ydi
variable{P:Program}{ops:Array Oper}{Q:Exit->Act->World->Prop}{rest:List Oper}{n:Nat}{f:Env}{D:Dfs}
variable{d:Nat}{d':Option Nat}{ty:TypeId}{ps:String}{af:Array Edge}{x y z:Operand}{t k e:Nat}
def Pt(m:List (α×β))(a:α)(z:β):List (α×β):=match getM m a with|some _=>m|none=>m++[(a,z)]
theorem JaM{a:α}{z0:β}[T:MapT P t k e][K:KeyT P k key][Z:ZeroT P e (val z0)](hm:Mp key val w b m):
 ∃w' st,(Instr.mapEntry t (.map (some b)) (key a)).run P w=.ok (.tuple #[val ((getM m a).getD z0),iV (st:Nat)]) w'/\xz key val w' b (Pt m a z0) a st/\Fr [b] w w'/\w'.heap.size=w.heap.size:=by
 obtain⟨ns,c,h1,h2,h3,h4,h5⟩:=hm;obtain⟨i,hi,hz⟩:=Z.z;have hf:=UC (P:=P) (k:=k) (w:=w) (key:=key) (val:=val) a h1;have hg:=Lu m a 0;cases hl:Wv m a 0 with
 |none=>
  rw[hl]at hf hg;have hg:getM m a=none:=hg.symm;have lm:=BD.1 hl;have hs:=Uo (o:=.map (dG key val (m++[(a,z0)]) (ns++[c])).toArray (c+1)) h2;refine⟨_,c,?_,?_,hs.1,by simp[ChangeMaps.setBlock]⟩
  .simp only[Instr.mapEntry,Sem.run_bind,run_underlying T.u,Result.andThen_ok,MapKept.run_getObj_map h2,K.chk];rw[hf];simp only[Iw,Result.andThen_ok,zeroValue,typeInfo,Sem.run_bind];rw[LK key val h1,hg];simp[hi,hz,MapKept.run_setObj_map _ h2,ChangeMaps.setBlock,goInt]
  .unfold Pt;rw[hg];refine⟨ns++[c],c+1,by simp[h1],hs.2,?_,?_,?_,m.length,z0,by simp,by rw[<-h1];simp⟩
   .rw [Dp,DW];exact⟨h3,by simp,fun x hx y hy=>by simp at hy;subst hy;exact fun e=>lm (e▸hx)⟩
   .rw [DW];exact Ycw
   .intro q hq;exact Ydf
 |some p=>
  obtain⟨j,v0⟩:=p;rw[hl]at hf hg;have hg:getM m a=some v0:=hg.symm;obtain⟨_,g1,g2⟩:=BA hl;rw[EJ]at g1 g2;have jm:j<m.length:=(Df.1 g1).1;have hs:=Uo (o:=.map (dG key val m ns).toArray c) h2;have hJ:=UG key val (i:=j) g1 (Dc (show j<ns.length by omega));refine⟨_,ns[j]'ab,?_,?_,hs.1,by simp[ChangeMaps.setBlock]⟩
  .simp only[Instr.mapEntry,Sem.run_bind,run_underlying T.u,Result.andThen_ok,MapKept.run_getObj_map h2,K.chk];rw[hf];simp only[EO,Result.andThen_ok,Sem.run_bind,EX,hJ,E8,Instr.keyThatStays,K.same,CX,Sem.run_pure,MapKept.run_setObj_map _ h2,IU];rw[Jcj key val a v0 h1 g1,hg];simp[ChangeMaps.setBlock,goInt]
  .unfold Pt;rw[hg];exact⟨ns,c,h1,hs.2,h3,h4,h5,j,v0,g1,Dc ab⟩
theorem NH{a:α}{v:β}(hm:xz key val w b m a st):
 ∃w',(Instr.entryStore t (.map (some b)) (iV (st:Nat)) (val v)).run P w=.ok () w'/\Mp key val w' b (VJ m a v)/\Fr [b] w w'/\w'.heap.size=w.heap.size:=by
 obtain⟨ns,c,h1,h2,h3,h4,h5,i,v0,hi,hs⟩:=hm;have hp:=JbQ (v':=v) h3 hi;have ai:=Uo (o:=.map (dG key val (m.set i (a,v)) ns).toArray c) h2;refine⟨_,?_,⟨ns,c,by rw[hp];simp[h1],?_,JaS h3,h4,h5⟩,ai.1,by simp[ChangeMaps.setBlock]⟩
 .simp only[Instr.entryStore,Sem.run_bind,MapKept.run_getObj_map h2,Result.andThen_ok,asInt,Sem.run_pure,asIntOf];rw[show(dG key val m ns).toArray.findIdx? (fun e=>(e.born:Int)==(st:Int))=some i by rw[List.findIdx?_toArray];exact JaA key val st h1 h4 hs];simp only[MapKept.run_setObj_map _ h2,IU];rw[Jcg key val a v0 v h1 hi];simp[ChangeMaps.setBlock]
 .rw [hp];exact ai.2
theorem JcX{a:α}{z0:β}[T:MapT P t k e][K:KeyT P k key][Z:ZeroT P e (val z0)](hm:Mp key val w b m)(hx:ev n f x=.map (some b))(hy:ev n f y=key a)
 (h:∀w' st,xz key val w' b (Pt m a z0) a st->Fr [b] w w'->w'.heap.size=w.heap.size->wpList P ops Q rest (A n (bz f d (.tuple #[val ((getM m a).getD z0),iV (st:Nat)]))) w'):
 wpList P ops Q (⟨some d,.mapEntry t x y,ty,ps,af,none⟩::rest) (A n f) w:=by
 obtain⟨w',st,hr,h1,h2,h3⟩:=JaM (P:=P) (t:=t) (a:=a) (z0:=z0) hm;refine JR (w':=w') ?_ (h w' st h1 h2 h3);simp[execOp,hx,hy,hr,Result.andThen]
theorem JaL{a:α}{v:β}(hm:xz key val w b m a st)(hx:ev n f x=.map (some b))(hy:ev n f y=iV (st:Nat))(hz:ev n f z=val v)
 (h:∀w',Mp key val w' b (VJ m a v)->Fr [b] w w'->w'.heap.size=w.heap.size->wpList P ops Q rest (A n (AJ f d' undef)) w'):
 wpList P ops Q (⟨d',.entryStore t x y z,ty,ps,af,none⟩::rest) (A n f) w:=by
 obtain⟨w',hr,h1,h2,h3⟩:=NH (P:=P) (t:=t) (v:=v) hm;refine X8 (w':=w') ?_ (h w' h1 h2 h3);simp[execOp,hx,hy,hz,hr,Result.andThen]
end
end
section
variable{af:Array Edge}{a:Br}{f:Env}{l:List Int}{S:List Nat}{bb d e i j k n p t:Nat}{x y:Operand}{P:Program}{s:St}{ps:String}{u w:World}
theorem XP{ty:TypeId}{gd:Option (Nat×Bool)}{t2:Nat}{a b p:Bool}(hu:P.underlying t=some .bool)(hx:ev n f x=.bool a)(hy:ev n f y=.bool b)(hp:(!(a==b))=p):
 (execOp (ev n f) ⟨some d,.binOp .neq t x y t2,ty,ps,af,gd⟩).run P w=.ok (.value (.bool p)) w:=by
 subst hp;have:(Op.equal t (.bool a) (.bool b)).run P w=.ok (a==b) w:=by
  have:∀dd,(Op.equalIn (dd+1) t (.bool a) (.bool b)).run P w=.ok (a==b) w:=fun dd=>by simp[Op.equalIn,run_underlying hu]
  exact this 9999
 simp[execOp,eqGuard,binOp,hx,hy,this]
theorem VP{v:Value}(h:DR w S (.l (l.map KI)) v):Src w v l.length (l.map (.int .i64)):=by
 obtain⟨ys,h1,h2,h3⟩:=h.typed;have:ys=l.map (.int .i64):=by
  clear h1 h2 h
  induction h3 with
  |nil=>rfl
  |cons ha hb ih=>
   rw[ih];obtain⟨_,rfl,r⟩:=RD.JI (x:=iV _) ha;rw[r.inv0];rfl
 rw[<-this];exact h1
theorem DR.brs{l:List Br}{v:Value}(h:DR w S (.l (l.map jl)) v):Src w v l.length (l.flatMap dH):=by
 obtain⟨ys,h1,h2,h3⟩:=h.typed;have:ys=l.flatMap dH:=by
  clear h1 h2 h
  induction h3 with
  |nil=>rfl
  |cons ha hb ih=>rw[ih,brR.1 ha];rfl
 rw[<-this];exact h1
theorem WS(h:i<l.length):(l.map (Value.int .i64))[i]?=some (iV l[i]):=by
 rw[ET,Dc h];rfl
theorem Ji7{pb:Nat}{a b:List Nat}(h:(([p,bb,pb]++a)++b).Nodup):p≠bb/\p≠pb/\bb≠pb/\p∉a/\bb∉a/\pb∉a/\p∉b/\bb∉b/\pb∉b/\∀x∈a,x∉b:=by
 simp only[DW,EF,SC,SE,S9,CU,IC]at h;obtain⟨⟨⟨⟨h1,h2⟩,h3,_⟩,_,h4⟩,_,h5⟩:=h;exact⟨h1,h2,h3,fun hm=>h4 p (.inl rfl) p hm rfl,fun hm=>h4 bb (.inr (.inl rfl)) bb hm rfl,fun hm=>h4 pb (.inr (.inr rfl)) pb hm rfl,fun hm=>h5 p (.inl (.inl rfl)) p hm rfl,fun hm=>h5 bb (.inl (.inr (.inl rfl))) bb hm rfl,fun hm=>h5 pb (.inl (.inr (.inr rfl))) pb hm rfl,fun x hx hm=>h5 x (.inr hx) x hm rfl⟩
theorem Jay{α β:Type}[DecidableEq α]{m:List (α×β)}{a x:α}{v:β}(h:getM m a=none):getM (m++[(a,v)]) x=if x=a then some v else getM m x:=by
 rw[<-Gm (getM_none.1 h),GK]
theorem fE.entry{m:List (Br×Int)}{cnt:Br->Nat}(h:fE m cnt)(hn:n≠0):fE (VJ (Pt m a (0:Int)) a (n:Int)) (fun x=>if x=a then n else cnt x):=fun x=>by
 rw[GK];by_cases e:x=a
 .simp [e,hn]
 .simp only[SH e];unfold Pt;cases hg:getM m a with
  |some v=>exact h x
  |none=>simp only;rw[Jay hg,SH e];exact h x
theorem JfH{ty:TypeId}{gd:Option (Nat×Bool)}{b c:Nat}{m:List (Br×Int)}[T:MapT P t k e][K:KeyT P k gg][Z:ZeroT P e (zI)](hx:ev n f x=.map (some b))(hy:ev n f y=.agg (dH a).toArray)(hm:Mp gg (Value.int .i64) w b m)(hr:(getM m a).getD 0=(c:Int)):
 (execOp (ev n f) ⟨some d,.lookup t x y false,ty,ps,af,gd⟩).run P w=.ok (.value (iV (c:Nat))) w:=by
 rw[Jc3 hx (show _=gg a from hy) hm,<-hr];cases getM m a<;>rfl
theorem Ax{ty:TypeId}{gd:Option (Nat×Bool)}{b:Nat}{m:List (Br×Int)}{cnt:Br->Nat}[T:MapT P t k e][K:KeyT P k gg][Z:ZeroT P e (zI)](hx:ev n f x=.map (some b))(hy:ev n f y=.agg (dH a).toArray)(hm:Mp gg (Value.int .i64) w b m)(hr:fE m cnt):
 (execOp (ev n f) ⟨some d,.lookup t x y false,ty,ps,af,gd⟩).run P w=.ok (.value (iV (cnt a:Nat))) w:=JfH hx hy hm (hr.look a)
theorem JjY{ty:TypeId}{gd:Option (Nat×Bool)}{b:Nat}{m:List (Pr×Bool)}{q:Pr->Prop}[DecidablePred q]{a:Pr}[T:MapT P t k e][K:KeyT P k iC][Z:ZeroT P e (.bool false)](hx:ev n f x=.map (some b))(hy:ev n f y=.agg (fK a).toArray)(hm:Mp iC Value.bool w b m)(hr:BJ m q):
 (execOp (ev n f) ⟨some d,.lookup t x y false,ty,ps,af,gd⟩).run P w=.ok (.value (.bool (decide (q a)))) w:=by
 rw[Jc3 hx (show _=iC a from hy) hm];by_cases h0:q a
 .rw [(hr a).1 h0,SN h0];rfl
 .rw [(hr a).2 h0,SG h0];rfl
def SB(u:World)(bb:Nat)(cnt:Br->Nat)(z:World):Prop:=Fr [bb] u z/\∃m,Mp gg (Value.int .i64) z bb m/\∀b,(getM m b).getD 0=(cnt b:Int)
theorem JiO{ty:TypeId}{gd:Option (Nat×Bool)}{b:Nat}{cnt:Br->Nat}[T:MapT P t k e][K:KeyT P k gg][Z:ZeroT P e (zI)](hx:ev n f x=.map (some b))(hy:ev n f y=.agg (dH a).toArray)(hm:SB u b cnt w):
 (execOp (ev n f) ⟨some d,.lookup t x y false,ty,ps,af,gd⟩).run P w=.ok (.value (iV (cnt a:Nat))) w:=by
 obtain⟨_,m,h1,h2⟩:=hm;exact JfH hx hy h1 (h2 a)
theorem SB.entry{z z':World}{cnt:Br->Nat}{m:List (Br×Int)}{st:Nat}(hz:Fr [bb] u z)(hr:fE m cnt)(hf:Fr [bb] z z')(h:xz gg (Value.int .i64) z' bb (Pt m a (0:Int)) a st):SB u bb cnt z':=by
 refine⟨hz.trans hf (fun x hx=>.inl hx),_,h.mp,fun b=>?_⟩;have h1:=hr.look b;unfold Pt;cases hg:getM m a with
 |some v=>exact h1
 |none=>
  simp only;rw[Jay hg];by_cases e:b=a
  .subst e;rw[hg]at h1;rw[Cb rfl];exact h1
  .rw [SH e];exact h1
def GV(s:St)(r:Rn)(i:Nat):List Nat:=s.cls.mapIdx (fun(j:Nat) n=>n+k8 (decide ((j:Int)∈r.cl.take i)))
theorem Jcq{r:Rn}:(GV s r i).length=s.cls.length:=by simp[GV]
theorem JeR{r:Rn}:GV s r 0=s.cls:=by
 unfold GV;apply Ew
 .simp
 .intro i h1 h2;simp[k8]
theorem Jgx{r:Rn}:GV s r r.cl.length=(Qb s r).cls:=by
 unfold GV Qb;rw[Dk]
theorem JhS{r:Rn}(eU:WB n r.cl=true)(hi:i<r.cl.length)(hj:(j:Int)=r.cl[i])(hl:j<s.cls.length):(GV s r i)[j]'(by rw[Jcq];exact hl)=s.cls[j]:=by
 simp only[GV,Fe];rw[SG (by rw[hj];exact Jjm eU hi)];rfl
theorem JeS{r:Rn}(eU:WB n r.cl=true)(hi:i<r.cl.length)(hj:(j:Int)=r.cl[i])(hl:j<s.cls.length):(GV s r i).set j (s.cls[j]+1)=GV s r (i+1):=by
 apply Ew
 .simp [GV]
 .intro k h1 h2;rw[List.getElem_set];simp only[GV,Fe,SK hi,SE,Sv,<-hj];by_cases e:j=k
  .subst e;simp[k8]
  .have:¬(k:Int)=(j:Int):=by omega
   simp[e,this]
theorem JdW{P:Pp}{r:Rn}(h:Gt P.checks r=false):Qd P r=false:=by unfold Qd;rw[h];rfl
theorem JdX{P:Pp}{r:Rn}(h:WB P.ncls r.cl=false):Qd P r=false:=by unfold Qd;rw[h];simp
theorem Jgi{P:Pp}{r:Rn}(h:Gt P.checks r=true)(k:WB P.ncls r.cl=true):Qd P r=true:=by unfold Qd;rw[h,k];rfl
theorem Jbb(hi:i<l.length)(h:¬(0<=l[i]/\l[i]<n/\∀h:0<i,l[i-1]<l[i])):WB n l=false:=by
 refine Jcp hi ?_;unfold Bf;refine SG (fun h1=>h ?_);rw[ff hi]at h1;refine⟨h1.1,h1.2.1,fun h0=>?_⟩;have:=h1.2.2 h0;rw[ff ab]at this;exact this
theorem JhP(hi:i<l.length)(h:0<=l[i]/\l[i]<n/\∀h:0<i,l[i-1]<l[i]):Bf n l i=true:=by
 unfold Bf;rw[ff hi];refine SN ⟨h.1,h.2.1,fun h0=>?_⟩;rw[ff ab];exact h.2.2 h0
end
end Go.Rf
namespace Go.Proofs.YtggmccicdhnkgaaGreat
open Go.Proofs.Tryz
open Go.Rf Go.RowKit
variable{M R S:List Nat}{p:Nat}{s:St}
attribute [local irreducible] Code.wp wpList Exit.then Exit.inBlock bodyPost A Calls execOp Addr.add
theorem Jij{P:Pp}(r:Rn)(vb vl:Value)(w:World)(hC:Wj w p M R P s)(hl:DR w S (.l (r.cl.map KI)) vl)(xA:vb.oneCell'=true):
 Calls prog 50 #[.pointer (some ⟨p,0,none⟩),.agg ([iV r.kind,iV r.at_,iV r.code,vb,vl,zI]:List Value).toArray] w fun e w'=>e=.returned (.bool (Qd P r))/\Fr [] w w':=by
 obtain⟨bb,pb,vr,vc,mb,mp,rfl,rfl,iJ,hb,hr,hc,jN,lS,iU,rm,eU⟩:=hC;have Pu:=eU.ncls;obtain⟨iZ,cc,rfl⟩:=hc.slice;have yC:=hl.one;have vV:=hl.bound;obtain⟨jG,cl,rfl,_⟩:=hl.slice;rw[Sr]at hl yC vV ⊢;refine enter func50 rfl ntmps50 rfl ?_;refine rx ?_;refine Ju (l:=[iV r.kind,iV r.at_,iV r.code,vb,(.slice jG r.cl.length cl),zI]) rfl rfl (fun w1 b3 iB h3 aj bh=>?_);refine rx ?_;refine Jm (l:=[zI,zI,zI]) rfl (fun w2 b5 Ru h5 aq cz=>?_);have h3:=h3.tr0 aq;refine rx ?_;refine Jd (cs:=[iV r.kind,iV r.at_,iV r.code]) rfl rfl h5 dQ rfl rfl (fun w3 h5 aF dO=>?_);have h3:=h3.tr aF aZ;have aV:Fr [] w w3:=(aj.Jb aq).trans aF (fun x hx=>.inr bt);have hb:=hb.tr0 aV;refine wpList_nil ?_;refine QG ?_
 (repeat refine wp_seq ?_)
 refine KA ?_;refine oG ?_
 (repeat refine wp_seq ?_)
 refine KZ 12 [] (fun g u=>Fr [] w3 u/\Gt P.checks r=true) ?_ ?_
 .by_cases k0:r.kind=0
  .by_cases a0:r.at_=0
   .by_cases c0:r.code=0
    .refine rx ?_;exact JK a6 ⟨Fr.refl _ _,SN ab⟩
    .refine rx ?_;exact Yce
   .refine rx ?_;exact Yce
  by_cases k1:r.kind=1
  .refine rx ?_;refine JE (fun z=>Fr [] w3 z) az rfl ?_;obtain⟨u1,eu⟩:=aP w3.drew;rw[<-eu];have hS:Fr [] w3 u1:=eu▸Fr.drew _ _;by_cases a0:r.at_<0
   . (refine Jj 0 1 2 3 hS ?_;refine Jj 4 5 6 7 hS ?_;refine Jj 8 9 10 11 hS ?_;refine Jj 12 13 14 15 hS ?_;refine Jj 16 17 18 19 hS ?_;refine bH 20 hS ?_)
     exact Yu
   by_cases a1:(P.checks:Int)<=r.at_
   . (refine Jj 0 1 2 3 hS ?_;refine Jj 4 5 6 7 hS ?_;refine Jj 8 9 10 11 hS ?_;refine Jj 12 13 14 15 hS ?_;refine Jj 16 17 18 19 hS ?_;refine bH 20 hS ?_)
     exact Yu
   by_cases c0:r.code=0
   . (refine Jj 0 1 2 3 hS ?_;refine Jj 4 5 6 7 hS ?_;refine Jj 8 9 10 11 hS ?_;refine Jj 12 13 14 15 hS ?_;refine JX 16 17 hS ?_;refine bH 18 hS ?_)
     exact Ybf
   . (refine Jj 0 1 2 3 hS ?_;refine Jj 4 5 6 7 hS ?_;refine Jj 8 9 10 11 hS ?_;refine Jj 12 13 14 15 hS ?_;refine JX 16 17 hS ?_;refine bH 18 hS ?_)
     exact Yea
  by_cases k2:r.kind=2
  .refine rx ?_;refine JE (fun z=>Fr [] w3 z) az rfl ?_;obtain⟨u1,eu⟩:=aP w3.drew;rw[<-eu];have hS:Fr [] w3 u1:=eu▸Fr.drew _ _;by_cases a0:r.at_<0
   . (refine Jj 0 1 2 3 hS ?_;refine Jj 4 5 6 7 hS ?_;refine Jj 8 9 10 11 hS ?_;refine Jj 12 13 14 15 hS ?_;refine Jj 16 17 18 19 hS ?_;refine bH 20 hS ?_)
     exact Yu
   by_cases a1:(P.checks:Int)<=r.at_
   . (refine Jj 0 1 2 3 hS ?_;refine Jj 4 5 6 7 hS ?_;refine Jj 8 9 10 11 hS ?_;refine Jj 12 13 14 15 hS ?_;refine Jj 16 17 18 19 hS ?_;refine bH 20 hS ?_)
     exact Yu
   by_cases c0:r.code=0
   . (refine Jj 0 1 2 3 hS ?_;refine Jj 4 5 6 7 hS ?_;refine Jj 8 9 10 11 hS ?_;refine Jj 12 13 14 15 hS ?_;refine JX 16 17 hS ?_;refine bH 18 hS ?_)
     exact Yea
   . (refine Jj 0 1 2 3 hS ?_;refine Jj 4 5 6 7 hS ?_;refine Jj 8 9 10 11 hS ?_;refine Jj 12 13 14 15 hS ?_;refine JX 16 17 hS ?_;refine bH 18 hS ?_)
     exact Ybf
  .refine rx ?_;exact Yce
 rintro g w4 ⟨aI,rq⟩;have bq:=aV.Jb aI;have h3:=h3.tr0 aI;clear h5 hb;have hb:aG w4 p _ _:= ‹aG w p _ _›.tr0 bq;refine rx ?_;refine Jh 49 [6,7] (σ:=Nat) (fun i g u=>g 49=iV (i:Nat)/\i<=r.cl.length/\(∀j,j<i->Bf P.ncls r.cl j=true)/\Fr [] w4 u) (fun i=>r.cl.length-i) 0 ⟨rfl,SL _,fun j h=>by omega,Fr.refl _ _⟩ ?_;rintro i g u ⟨g49,hi,iL,hF⟩;rw[Ja g49];have eD:=bq.Jb hF;have h3:=h3.tr0 hF;have hb:=hb.tr0 hF;by_cases aC:i<r.cl.length
 case neg=>
  refine bM ?_;exact⟨by rw[Jgi rq (UK (fun j hj=>iL j ab))],eD⟩
 obtain⟨adl,ru,bV⟩:=KO (VP (hl.tr0 eD)) (WS aC);subst ru;refine Yfm ?_;by_cases c1:r.cl[i]<0
 .refine rx ?_;exact Ydh
 by_cases c2:s.cls.length<=r.cl[i]
 .refine rx ?_;exact Ydh
 by_cases c3:i=0
 .refine rx ?_;exact Ybh
 have ry:=Vs (VP (hl.tr0 eD)) (WS (show i-1<r.cl.length by omega));refine rx ?_;rw[show((i:Int)-1)=((i-1:Nat):Int) by omega];refine rx ?_;refine KW rfl (by rw[Dq];exact ry) ?_;by_cases c4:r.cl[i]<=r.cl[i-1]
 .refine rx ?_;refine gZ ?_;exact⟨by rw[JdX (Jbb aC (fun h=>by have:=h.2.2 ab;omega))],eD⟩
 .refine rx ?_;exact Ybh
theorem Jkr{P:Pp}(r:Rn)(vb vl:Value)(w:World)(hC:Wj w p M R P s)(pX:∀x∈M,x∈S)(eW:DR w S (.l (r.bs.map jl)) vb)(hl:DR w S (.l (r.cl.map KI)) vl)(hrn:s.runs<=1000000)(oD:r.bs.length<=1000000):
 Calls prog 15 #[.pointer (some ⟨p,0,none⟩),.agg ([iV r.kind,iV r.at_,iV r.code,vb,vl,zI]:List Value).toArray] w fun e w'=>if Qd P r=true then e=.returned (zI)/\Wj w' p M R P (Qb s r)/\Fr M w w' else e=.returned (iV 1)/\Fr [] w w':=by
 have hC0:=hC;have xA:=eW.one;have hl0:=hl;have yC:=hl.one;obtain⟨bb,pb,vr,vc,mb,mp,rfl,rfl,iJ,hb,hr,hc,jN,lS,iU,rm,eU⟩:=hC;obtain⟨n1,n2,n3,n4,n5,n6,n7,n8,n9,n10⟩:=Ji7 iJ;have Pu:=eU.ncls;obtain⟨iZ,cc,rfl⟩:=hc.slice;have vV:=hl.bound;obtain⟨jG,cl,rfl,_⟩:=hl.slice;obtain⟨iK,cb,rfl,_⟩:=eW.slice;simp only[Sr]at hl eW xA yC hl0 vV ⊢;refine enter func15 rfl ntmps15 rfl ?_;refine rx ?_;refine Ju (l:=[iV r.kind,iV r.at_,iV r.code,(.slice iK r.bs.length cb),(.slice jG r.cl.length cl),zI]) rfl rfl (fun w1 b3 iB h3 aj bh=>?_);refine rx ?_;refine Jg (Jij r (.slice iK r.bs.length cb) (.slice jG r.cl.length cl) w1 (hC0.tr0 aj) (hl.tr0 aj) xA) ?_;rintro w2 aq;have aS:=aj.Jb aq;cases kN:Qd P r with
 |false=>
  refine bM ?_;rw[SH ap];exact⟨rfl,aS⟩
 |true=>
 have lI:=kN;unfold Qd at lI;rw[CV]at lI;have rq:=DJ lI.1;have mY:=lI.2;have h3:=h3.tr0 aq;have dN:=hb.tr0 aS;have ifH:=hC0.lt;have pt:=eU.o;have Rv:p<w.heap.size:=hb.lt;have vW:bb<w.heap.size:=jN.lt;have vZ:pb<w.heap.size:=iU.lt;have iaI:=hc.lt;refine rx ?_
 ((with_reducible apply Ji);exact rfl;(conv=>lhs;whnf);exact rfl;exact dN;exact rfl)
 intro w3 wa aF dO;replace wa:aG w3 p [.string P.prop,iV (P.checks:Nat),vr,iV ((s.runs+1):Nat),iV (s.o 0:Nat),iV (s.o 1:Nat),iV (s.o 2:Nat),(.slice iZ s.cls.length cc),.map (some bb),.map (some pb)] _:=wa;have h3:=h3.tr aF aZ;have aV:Fr [p] w w3:=(aS.mono ap).trans aF (fun x hx=>.inl hx);refine wpList_nil ?_;refine QG ?_
 (repeat refine wp_seq ?_)
 refine KZ 11 [] (fun g u=>Fr [p] w3 u/\aG u p [.string P.prop,iV (P.checks:Nat),vr,iV ((Qb s r).runs:Nat),iV ((Qb s r).o 0:Nat),iV ((Qb s r).o 1:Nat),iV ((Qb s r).o 2:Nat),(.slice iZ s.cls.length cc),.map (some bb),.map (some pb)] 125) ?_ ?_
 .rcases (show r.kind=0\/r.kind=1\/r.kind=2 by omega)with hk|hk|hk
  .rw [hk]at h3;have e0:(Qb s r).o 0=s.o 0+1:=by show s.o 0+k8 (decide (r.kind=((0:Nat):Int)))=_;rw[hk];rfl
   have e1:(Qb s r).o 1=s.o 1:=by show s.o 1+k8 (decide (r.kind=((1:Nat):Int)))=_;rw[hk];rfl
   have e2:(Qb s r).o 2=s.o 2:=by show s.o 2+k8 (decide (r.kind=((2:Nat):Int)))=_;rw[hk];rfl
   rw[e0,e1,e2];refine Kr 12 (fun z=>Fr [] w3 z) az rfl ?_;obtain⟨u1,eu⟩:=aP w3.drew;rw[<-eu];have hS:Fr [] w3 u1:=eu▸Fr.drew _ _
   ((refine Jp 0 hS ?_);(refine Jp 1 hS ?_);(refine Jp 2 hS ?_);(refine Jp 3 hS ?_);(refine Jp 4 hS ?_);(refine Jp 5 hS ?_))
   refine Jp 6 hS ?_ (aw:=(by intro u hu;exact(QV (j:=0) rfl rfl bU)));refine Jp 7 hS ?_ (aw:=Yjr)
   ((refine Jp 8 hS ?_))
   refine Yfd ?_;rw[add_lit];refine yD ?_;refine Jp 11 hS ?_ (aw:=(by intro u hu;exact(QV (j:=0) rfl rfl bU)));exact Ys
  .rw [hk]at h3;have e0:(Qb s r).o 0=s.o 0:=by show s.o 0+k8 (decide (r.kind=((0:Nat):Int)))=_;rw[hk];rfl
   have e1:(Qb s r).o 1=s.o 1+1:=by show s.o 1+k8 (decide (r.kind=((1:Nat):Int)))=_;rw[hk];rfl
   have e2:(Qb s r).o 2=s.o 2:=by show s.o 2+k8 (decide (r.kind=((2:Nat):Int)))=_;rw[hk];rfl
   rw[e0,e1,e2];refine Kr 12 (fun z=>Fr [] w3 z) az rfl ?_;obtain⟨u1,eu⟩:=aP w3.drew;rw[<-eu];have hS:Fr [] w3 u1:=eu▸Fr.drew _ _
   ((refine Jp 0 hS ?_);(refine Jp 1 hS ?_);(refine Jp 2 hS ?_);(refine Jp 3 hS ?_);(refine Jp 4 hS ?_);(refine Jp 5 hS ?_))
   refine Jp 6 hS ?_ (aw:=(by intro u hu;exact(QV (j:=1) rfl rfl bU)));refine Jp 7 hS ?_ (aw:=Yjr)
   ((refine Jp 8 hS ?_))
   refine Yfd ?_;rw[add_lit];refine yD ?_;refine Jp 11 hS ?_ (aw:=(by intro u hu;exact(QV (j:=1) rfl rfl bU)));exact Ys
  .rw [hk]at h3;have e0:(Qb s r).o 0=s.o 0:=by show s.o 0+k8 (decide (r.kind=((0:Nat):Int)))=_;rw[hk];rfl
   have e1:(Qb s r).o 1=s.o 1:=by show s.o 1+k8 (decide (r.kind=((1:Nat):Int)))=_;rw[hk];rfl
   have e2:(Qb s r).o 2=s.o 2+1:=by show s.o 2+k8 (decide (r.kind=((2:Nat):Int)))=_;rw[hk];rfl
   rw[e0,e1,e2];refine Kr 12 (fun z=>Fr [] w3 z) az rfl ?_;obtain⟨u1,eu⟩:=aP w3.drew;rw[<-eu];have hS:Fr [] w3 u1:=eu▸Fr.drew _ _
   ((refine Jp 0 hS ?_);(refine Jp 1 hS ?_);(refine Jp 2 hS ?_);(refine Jp 3 hS ?_);(refine Jp 4 hS ?_);(refine Jp 5 hS ?_))
   refine Jp 6 hS ?_ (aw:=(by intro u hu;exact(QV (j:=2) rfl rfl bU)));refine Jp 7 hS ?_ (aw:=Yjr)
   ((refine Jp 8 hS ?_))
   refine Yfd ?_;rw[add_lit];refine yD ?_;refine Jp 11 hS ?_ (aw:=(by intro u hu;exact(QV (j:=2) rfl rfl bU)));exact Ys
 clear wa;rintro g w4 ⟨aI,rc⟩;have h3:=h3.tr aI aZ;have bq:Fr [p] w w4:=aV.trans aI (fun x hx=>.inl hx);have eA:=bq.size;have nn:=hr.tr bq (fun x hx hm=>n7 qw);have nI:=hc.tr bq (fun x hx hm=>n4 qw);have iaJ:=jN.tr bq (by simpa using fun h=>n1 h.symm);have iaK:=iU.tr bq (by simpa using fun h=>n2 h.symm);clear hb dN aj aq aF bh;obtain⟨K,hK⟩:=aP ([p,bb,pb]++ag (Value.slice iZ s.cls.length cc));have hKm:∀{x:Nat},x∈K↔x=p\/x=bb\/x=pb\/x∈ag (Value.slice iZ s.cls.length cc):=fun{x}=>by rw[hK];simp[or_assoc]
 rw[<-hK]at pX ⊢;have icW:Fr K w w4:=bq.mono (fun x hx=>.inl (by rw[Sv.1 hx];exact hKm.2 (.inl rfl)));have icX:∀x∈ag (Value.slice iZ s.cls.length cc),x∈K:=fun x hx=>hKm.2 (.inr (.inr (.inr hx)))
 refine rx ?_;refine Jh 42 [6] (σ:=Nat) (fun i g u=>g 42=iV (i:Nat)/\i<=r.cl.length/\bx u 3 1 (Value.slice iZ s.cls.length cc) s.cls.length (Vk (GV s r i))/\Fr (ag (Value.slice iZ s.cls.length cc)) w4 u) (fun i=>r.cl.length-i) 0 ⟨rfl,SL _,by rw[JeR];exact nI,Fr.refl _ _⟩ ?_;clear nI;rintro i g u ⟨g42,hi,mB,hF⟩;rw[Ja g42];have lD:Fr K w u:=icW.trans hF (fun x hx=>.inl (icX x hx));have tn:=h3.tr hF (fun hm=>by have:=iaI b3 hm;omega);have gh:=rc.tr hF n4;by_cases aC:i<r.cl.length
 .obtain ⟨adl,ru,bV⟩:=KO (VP (hl.tr (lD.mono (fun x hx=>.inl (pX x hx))))) (WS aC);subst ru;have ox:=Jdh mY (Cj aC);obtain⟨j,hj⟩:∃j:Nat,(j:Int)=r.cl[i]:=⟨r.cl[i].toNat,Et ox.1⟩;have jm:j<s.cls.length:=by omega
  obtain⟨adc,oJ,qB⟩:=KO mB.src (V9 (l:=GV s r i) (i:=j) (by rw[Jcq];exact jm));rw[JhS mY aC hj jm]at qB;have Rw:=eU.ocls _ (Cj jm);refine Yfm ?_;refine rx ?_;refine BZ rfl rfl hj.symm jm oJ ?_;refine KW rfl qB ?_;refine rx ?_;refine BZ rfl rfl hj.symm jm oJ ?_;refine JcW mB oJ jm rfl rfl rfl (fun u1 icY aO eV=>?_);refine rx ?_;refine Jc (i+1) a6 ⟨rfl,aC,?_,hF.trans aO (fun x hx=>.inl hx)⟩ ab;rw[<-JeS mY aC hj jm,<-JeD];exact icY
 have TQ:i=r.cl.length:=by omega
 subst TQ;rw[Jgx]at mB;have nt:=nn.tr hF (fun x hx hm=>n10 x hm hx);have tp:=iaJ.tr hF n5;have s7:=iaK.tr hF n6;clear rc h3 nn iaJ iaK aC;have Rx:=eW.tr (lD.mono (fun x hx=>.inl (pX x hx)));refine rx ?_;refine Jl (JjN r.bs _ u Rx oD) ?_;rintro vq u5 ⟨nN,aO⟩;obtain⟨l1,fJ⟩:=aP (JM eO r.bs);rw[<-fJ]at nN;obtain⟨aoq,cq,rfl⟩:=nN.1.slice;have ifI:l1.length<=1000000:=by rw[fJ];exact CG KQ oD
 have icZ:l1.Nodup:=fJ▸gR.nd Qu (QA Qu _);have wb:=nN.2;have te:=lD.Jb aO;have tn:=tn.tr0 aO;have gh:=gh.tr0 aO;have nt:=nt.tr0 aO;have tp:=tp.tr0 aO;have s7:=s7.tr0 aO;have mB:=mB.tr0 aO;have hsw:=lD.size;have eV:=aO.size;obtain⟨yE,sj⟩:∃c:Nat->Br->Nat,c=fun i b=>s.cnt b+k8 (decide (b∈l1.take i)):=⟨_,rfl⟩
 refine rx ?_;refine Jh 60 [8] (σ:=Nat×List (Br×Int)) (fun q g u=>g 60=iV (q.1:Nat)/\q.1<=l1.length/\Mp gg (Value.int .i64) u bb q.2/\fE q.2 (yE q.1)/\Fr [bb] u5 u) (fun q=>l1.length-q.1) (0,mb) ⟨rfl,SL _,tp,lS.congr (fun b=>by rw[sj];simp[k8]),Fr.refl _ _⟩ ?_;clear tp;rintro⟨i,m⟩ g u6 ⟨g60,hi,kA,fU,bR⟩;simp only at g60 hi kA fU;rw[Ja g60];have fm:=bR.size;have Ry:Fr K w u6:=te.trans bR (fun x hx=>.inl (by rw[Sv.1 hx];exact hKm.2 (.inr (.inl rfl))));have tn:=tn.tr bR aZ;have gh:=gh.tr bR (by simpa using n1);by_cases aC:i<l1.length
 .obtain ⟨yF,lT,ow⟩:=JZ QN ((nN.1.src).tr bR (fun ad n c e _ hm=>by
   cases e
   have:=wb ad.block oz;rw[Sv.1 hm]at this;omega)) aC bU
  subst lT;have ow:Cells u6 (yF.add (i*3)) [.string l1[i].decl,iV l1[i].at_,iV l1[i].arm]:=ow;have Rw:yE i l1[i]=s.cnt l1[i]:=by
   rw[sj];simp only;rw[SG (fun hm=>by
    obtain⟨k,hk,e⟩:=Eu hm;rw[C9]at hk;rw[FU]at e;exact Fj.1 icZ k i ab aC ab e)]
   rfl
  have hcn:=eU.ocnt l1[i];refine rx ?_;refine Jm (l:=[zT,zI,zI]) rfl (fun u7 b8 ic0 kb aQ iF=>?_);refine rx ?_;refine Jd (cs:=dH l1[i]) rfl rfl kb (QD _) rfl rfl (fun u8 kb aM fL=>?_);replace kb:aG u8 b8 [.string l1[i].decl,iV l1[i].at_,iV l1[i].arm] _:=kb;have dS:Fr [] u6 u8:=aQ.trans aM (fun x hx=>.inr bt);have tn:=tn.tr0 dS;have gh:=gh.tr0 dS;have iaL:=kA.tr0 dS;have ifJ:=dS.size;refine rx ?_;have uc:p∉[bb]:=by simpa using n1
  have ic1:b8∉[bb]:=by simp;omega
  refine Kr 9 (SB u8 bb (yE i)) az rfl ?_;obtain⟨u9,hu9⟩:=aP u8.drew;rw[<-hu9];have sn:Fr [] u8 u9:=hu9▸Fr.drew _ _;have hS:SB u8 bb (yE i) u9:=⟨sn.mono ap,m,iaL.tr0 sn,fun b=>fU.look b⟩
  ((refine Jp 0 hS ?_);(refine Jp 1 hS ?_);(refine Jp 2 hS ?_))
  refine Jp 3 hS ?_ (aw:=(by intro u hu;exact(J7 rfl (aG.cell (gh.tr hu.1 uc) rfl))));refine Jp 4 hS ?_ (aw:=(by intro u hu;exact(Kv rfl (Cells.VO (kb.tr hu.1 ic1)) fD)));refine Jp 5 hS ?_ (aw:=(by intro u hu;refine(JiO (P:=prog) (t:=122) (a:=l1[i]) ?_ ?_ hu);exact rfl;exact rfl));rw[Rw]
  ((refine Jp 6 hS ?_))
  refine xd ?_;refine JcX (key:=gg) (val:=Value.int .i64) (a:=l1[i]) (z0:=0) (iaL.tr0 sn) rfl rfl (fun lF st yG aD eF=>?_);have je:=SB.entry (a:=l1[i]) (st:=st) hS.1 fU aD yG;refine wpList_nil (Xz je ?_)
  ((refine Jp 8 je ?_))
  refine KH (i:=9) rfl az ?_;refine JaL (v:=(s.cnt l1[i]:Int)+1) yG rfl rfl rfl (fun qA ic2 aB eQ=>?_);refine kE ?_;refine rx ?_;have bK:Fr [bb] u5 qA:=((bR.Jb dS).Jb sn).trans (aD.trans aB (fun x hx=>.inl hx)) (fun x hx=>.inl hx);refine Jc (i+1,_) a6 ⟨rfl,aC,ic2,?_,bK⟩ eM;refine(fU.entry (a:=l1[i]) (n:=s.cnt l1[i]+1) ab).congr (fun b=>?_);rw[sj];simp only[SK aC,SE,Sv];by_cases e:b=l1[i]
  .rw [Cb e,e];simp[k8]
  .simp [e]
 have TQ:i=l1.length:=by omega
 subst TQ;have ic3:fE m (Qb s r).cnt:=fU.congr (fun b=>by
  rw[sj];show s.cnt b+k8 (decide (b∈l1.take l1.length))=s.cnt b+k8 (decide (b∈r.bs));rw[Dk,fJ];simp only[KF Qu])
 have hr6:=nt.tr bR (fun x hx hm=>n8 qw);have ic4:=s7.tr bR (by simpa using fun h=>n3 h.symm);have mB:=mB.tr bR (fun x hx hm=>n5 qw);clear fU nt s7 aC nN;have Rx:=eW.tr (Ry.mono (fun x hx=>.inl (pX x hx)));refine rx ?_;refine Jl (JiU r.bs _ u6 Rx oD) ?_;rintro vq u7 ⟨nN,aQ⟩;obtain⟨l2,gH⟩:=aP (JM eC (Jy r.bs));rw[<-gH]at nN;obtain⟨Ab,cp,rfl⟩:=nN.1.slice;have ifK:l2.length<=1000000:=by
  have h1:=KQ (lt:=eC) (l:=Jy r.bs);have h2:=QI (l:=r.bs);rw[gH];omega
 have wb:=nN.2;have icz:=aQ.size;have gh:=gh.tr0 aQ;have hr7:=hr6.tr0 aQ;have vd:=ic4.tr0 aQ;have mB:=mB.tr0 aQ;have Rz:=kA.tr0 aQ;have ic5:=Ry.Jb aQ;have ifL:=Ry.size;refine rx ?_;refine Jh 78 [10] (σ:=Nat×List (Pr×Bool)) (fun q g u=>g 78=iV (q.1:Nat)/\q.1<=l2.length/\Mp iC Value.bool u pb q.2/\BJ q.2 (fun a=>a∈s.ps\/a∈l2.take q.1)/\Fr [pb] u7 u) (fun q=>l2.length-q.1) (0,mp) ⟨rfl,SL _,vd,rm.congr (fun b=>by simp),Fr.refl _ _⟩ ?_;clear vd;rintro⟨i,m2⟩ g u8 ⟨g78,hi,pN,fU,dS⟩;simp only at g78 hi pN fU;rw[Ja g78];have fL:=dS.size;have ic6:Fr K w u8:=ic5.trans dS (fun x hx=>.inl (by rw[Sv.1 hx];exact hKm.2 (.inr (.inr (.inl rfl)))));have gh:=gh.tr dS (by simpa using n2);by_cases aC:i<l2.length
 .obtain ⟨yF,lT,ow⟩:=JZ VK ((nN.1.src).tr dS (fun ad n c e _ hm=>by
   cases e
   have:=wb ad.block oz;rw[Sv.1 hm]at this;omega)) aC bU
  subst lT;have ow:Cells u8 (yF.add (i*6)) (fK l2[i]):=ow;refine rx ?_;refine Jm (l:=[zT,zI,zI,zT,zI,zI]) rfl (fun u9 b8 ic0 kb aW ju=>?_);refine rx ?_;refine Jd (cs:=fK l2[i]) rfl rfl kb (Wu _) rfl rfl (fun lF kb aD eF=>?_);replace kb:aG lF b8 (fK l2[i]) _:=kb;have bk:Fr [] u8 lF:=aW.trans aD (fun x hx=>.inr bt);have gh:=gh.tr0 bk;have iaM:=pN.tr0 bk;refine rx ?_;refine Kr 5 (fun z=>Fr [] lF z) az rfl ?_;obtain⟨qA,iaN⟩:=aP lF.drew;rw[<-iaN];have hS:Fr [] lF qA:=iaN▸Fr.drew _ _
  ((refine Jp 0 hS ?_);(refine Jp 1 hS ?_);(refine Jp 2 hS ?_);(refine Jp 3 hS ?_);(refine Jp 4 hS ?_))
  refine zn ?_;refine BX (key:=iC) (val:=Value.bool) (a:=l2[i]) (v:=true) (iaM.tr0 hS) rfl rfl rfl (fun zW ic7 aK fN=>?_);refine kE ?_;refine rx ?_;have cj:Fr [pb] u7 zW:=((dS.Jb bk).Jb hS).trans aK (fun x hx=>.inl hx);refine Jc (i+1,_) a6 ⟨rfl,aC,ic7,fU.put.congr (fun b=>?_),cj⟩ eM;simp only[SK aC,SE,Sv];constructor
  .rintro (h|h|h)
   .exact .inr (.inr h)
   .exact .inl h
   .exact .inr (.inl h)
  .rintro (h|h|h)
   .exact .inr (.inl h)
   .exact .inr (.inr h)
   .exact .inl h
 have TQ:i=l2.length:=by omega
 subst TQ;have ic8:BJ m2 (· ∈(Qb s r).ps):=fU.congr (fun b=>by
  show b∈s.ps\/b∈l2.take l2.length↔b∈JM eC (s.ps++Jy r.bs);rw[Dk,gH,KF Qy,KF Qy,SE])
 refine bM ?_;rw[Cb rfl];refine⟨rfl,?_,ic6⟩;rw[hK];exact⟨bb,pb,vr,_,m,m2,rfl,rfl,iJ,gh,hr7.tr dS (fun x hx hm=>n9 qw),by rw[show(Qb s r).cls.length=s.cls.length by simp[Qb]];exact mB.tr dS (fun x hx hm=>n6 qw),Rz.tr dS (by simpa using n3),ic3,pN,ic8,eU.mono r kN⟩
end Go.Proofs.YtggmccicdhnkgaaGreat
