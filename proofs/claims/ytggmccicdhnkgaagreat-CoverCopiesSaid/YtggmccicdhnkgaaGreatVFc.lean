/-
  The reference's Faults: small tests, types.
-/
import Derived.Test.YtggmccicdhnkgaaGreatVQk
import Derived.Test.YtggmccicdhnkgaaGreatVPe
import Derived.Test.YtggmccicdhnkgaaGreatVQe
set_option linter.all false
set_option maxHeartbeats 64000000
namespace Go.Proofs.YtggmccicdhnkgaaGreat
open Go.Proofs.Tryz
open Go.Rf Go.RowKit
attribute [local irreducible] Code.wp wpList Exit.then Exit.inBlock bodyPost A Calls execOp Addr.add
theorem Jhg(f:Nat)(hf:f+1<=1000000)(ih:∀f'<f,PC 125 [] (fun n=>J5 n f') aU)(e:Bs):PL 208 [.string (aA e)] (fun n=>Q8 n (f+1) e) (fun l=>l.map aU):=by
 intro bd p n r w x r' eH hg;have dx:bd<=w.heap.size:=eH.le;have lV:p<w.heap.size:=SV eH.lt dx;have eG:Fr [p] w w:=Fr.refl _ _;refine enter func208 rfl ntmps208 rfl ?_;refine rx ?_;simp only[Q8]at hg;refine Jg (J8 e p n _ _ eH) ?_;rintro w1 ⟨gj,aj⟩;have ej:=eG.trans aj aX;have bh:=aj.size;cases h1:bg e r with
 |true=>
  simp only[h1,Jz,CX,Sj,Sz]at hg gj;obtain⟨rfl,rfl⟩:=hg;refine bM ?_;exact⟨_,rfl,.nil,gj,ej⟩
 |false=>
 simp only[h1,Jz,SS,CW]at hg gj;obtain⟨⟨l,r1⟩,h2,hg⟩:=bind_some hg;obtain⟨r2,h3,hg⟩:=bind_some hg;simp only[Sj,Sz]at hg;obtain⟨rfl,rfl⟩:=hg;refine rx ?_;refine Jh 7 [5,6] (σ:=Nat×List Ex×List Tk×Bool) (fun s g u=>∃v,g 5=v/\g 6=.bool s.2.2.2/\s.1<=f/\LI bd p n w (rg w) 95 7 aU (Zm n) l r1 s.1 s.2.1 s.2.2.1 s.2.2.2 u v) (fun s=>2*s.1+s.2.2.2.toNat) (f,[],r,true) ⟨_,rfl,rfl,SX _,gj,ej,.nil,by simp only[SY];omega,fun _=>⟨l,h2,rfl⟩,fun h=>by cases h⟩ ?_;rintro⟨f',acc,r,b⟩ g u ⟨v,h4,h5,kP,dZ,aS,hL,hlen,ht,j8⟩;simp only at kP dZ aS hL hlen ht j8;rw[Ja h4,Ja h5];have cz:=aS.size;obtain⟨S0,T0,xp,c0,i0,ln,_⟩:=id dZ;cases b with
 |false=>
  obtain⟨rfl,rfl⟩:=j8 rfl;refine rx ?_;refine Jg (JL dZ h3) ?_;rintro w3 ⟨dK,aF⟩;have aV:=aS.trans aF aX;have dO:=aF.size;have hL:=LS.keep hL aF sD;refine bM ?_;have hd:=LS.dr hL (k:=7) Jq ab;exact⟨_,rfl,hd,dK,aV⟩
 |true=>
 obtain⟨l',bZ,fw⟩:=ht rfl;cases f' with
 |zero=>simp[Zm]at bZ
 |succ f'=>
 simp only[Zm]at bZ;obtain⟨⟨t,r3⟩,h6,bZ⟩:=bind_some bZ;have aC:=hL.lt;refine rx ?_;refine Jl ((ih f' ab) bd p n _ _ _ _ dZ h6) ?_;rintro cs w3 ⟨hd,dK,aF⟩;have aV:=aS.trans aF aX;have dO:=aF.size;have hL:=LS.keep hL aF sD;refine WL hL Jq rfl rfl rfl hd (fun b hb=>.inl (Jk.2 (hb.elim (fun h=>aC b h) (fun h=>by have:=Jk.1 h;omega)))) rfl rfl rfl dt ab Yjy (fun v' w4 eP aI pU=>?_);have wR:=LS.ge hL (w0:=w) y8;have dY:=dK.tr aI (fun k hk=>CG dx (wR k hk));have bq:=aV.trans aI (fun k hk=>.inr (wR k hk));have eA:=aI.size;refine rx ?_;refine Jg (J8 [44] p n _ _ dY) ?_;rintro w5 ⟨du,aO⟩;have bX:=bq.trans aO aX;have eV:=aO.size;have eP:=LS.keep eP aO sD;refine rx ?_;obtain⟨e1,e2⟩:=Xg (go:=Zm n) bZ fw;exact Jc (f',acc++[t],Jz (bg [44] r3) r3,bg [44] r3) la ⟨_,rfl,rfl,by simp only;omega,du,bX,eP,by simp only[Sm,SI,SY];omega,e1,e2⟩ (by cases bg [44] r3<;>simp<;>omega)
theorem JbW(f:Nat)(ih:PC 125 [] (fun n=>J5 n f) aU):PL 207 [] (fun n=>ZN n f) (fun l=>l.map aU):=by
 intro bd p n r w x r' eH hg;have dx:bd<=w.heap.size:=eH.le;have lV:p<w.heap.size:=SV eH.lt dx;have eG:Fr [p] w w:=Fr.refl _ _;refine enter func207 rfl ntmps207 rfl ?_;refine rx ?_;simp only[ZN]at hg;obtain⟨⟨t1,r1⟩,h1,hg⟩:=bind_some hg;obtain⟨r2,h2,hg⟩:=bind_some hg;obtain⟨⟨t2,r3⟩,h3,hg⟩:=bind_some hg;simp only[Sj,Sz]at hg;obtain⟨rfl,rfl⟩:=hg;refine Jl (ih bd p n _ _ _ _ eH h1) ?_;rintro cs w1 ⟨hd,gj,aj⟩;have ej:=eG.trans aj aX;have bh:=aj.size;have hl:cs.length=7:=by rw[hd.len,Jq]
 refine KR (l:=[zI,zT,zI,zS,zS,zS,zI]) (cs:=cs) rfl rfl hl hd.one rfl (fun v=>rfl) (fun w2 a oq aH aq cz=>?_);have dZ:=gj.tr0 aq;have aS:=ej.Jb aq;have hd:=RD.keep hd aq ak;refine rx ?_;refine Jg (JL dZ h2) ?_;rintro w3 ⟨dK,aF⟩;have aV:=aS.trans aF aX;have dO:=aF.size;have aH:=aH.tr aF ak;have hd:=RD.keep hd aF ak;refine rx ?_
 ((refine JE (fun z=>Fr [p] w3 z) az rfl ?_);obtain⟨w4,hw4⟩:=aP w3.drew;rw[<-hw4];have aI:Fr [] w3 w4:=hw4▸Fr.drew _ _;have j6:Fr [p] w3 w4:=aI.mono ap;have dY:=dK.tr0 aI;have bq:=aV.Jb aI;have eA:=aI.size)
 refine Kw 0 j6 ?_ (aw:=by(intro u hu;exact(Kv rfl (Cells.VO (aH.tr hu ak)) hl)));refine bH 1 j6 ?_;have hd:=RD.keep hd aI ak;refine JJ (i:=2) rfl az ?_;refine Jl (ih bd p n _ _ _ _ dY h3) ?_;rintro gU w5 ⟨dV,du,aO⟩;have bX:=bq.trans aO aX;have eV:=aO.size;have gH:gU.length=7:=by rw[dV.len,Jq]
 have hd:=RD.keep hd aO ak;have fP:=j6.trans aO ap;refine wpList_nil (Jv fP ?_);refine JJ (i:=3) rfl az ?_;refine Xj rfl rfl hl gH rfl (fun w6 k hk ho aJ fm=>?_);have eE:=du.tr0 aJ;have bR:=bX.Jb aJ;have hd:=RD.keep hd aJ ak;have dV:=RD.keep dV aJ ak;have ot:=fP.trans aJ ap;refine wpList_nil (Jv ot ?_);refine JJ (i:=4) rfl az ?_;refine rx ?_;refine Jv ot ?_;refine gK ?_;refine bM ?_;exact⟨_,rfl,GR (rows:=[aU t1,aU t2]) ho (.cons (hd.down ab) (.one (dV.down ab))) (by simp[Jq]) ap y5,eE,bR⟩
theorem N9(k:Nat)(h1:1<=k)(h6:k<=6)(w:World):Calls prog 229 #[iV k] w fun e w'=>∃v,e=.returned v/\bx w' 9 1 v (VN k).length ((VN k).map fun t=>.string (aA t))/\Fr [] w w':=by
 have hk:k=1\/k=2\/k=3\/k=4\/k=5\/k=6:=by omega
 rcases hk with rfl|rfl|rfl|rfl|rfl|rfl<;>refine enter func229 rfl ntmps229 rfl ?_<;>refine rx ?_
 .refine J3 ((VN 1).map fun t=>.string (aA t)) rfl rfl rfl rfl (fun u ho hf hs=>?_);exact YH
 .refine J3 ((VN 2).map fun t=>.string (aA t)) rfl rfl rfl rfl (fun u ho hf hs=>?_);exact YH
 . (apply TF;exact rfl;(conv=>lhs;whnf))
   exact⟨_,rfl,bx.nil _ _ _,Fr.refl _ _⟩
 .refine J3 ((VN 4).map fun t=>.string (aA t)) rfl rfl rfl rfl (fun u ho hf hs=>?_);exact YH
 .refine J3 ((VN 5).map fun t=>.string (aA t)) rfl rfl rfl rfl (fun u ho hf hs=>?_);exact YH
 .refine J3 ((VN 6).map fun t=>.string (aA t)) rfl rfl rfl rfl (fun u ho hf hs=>?_);exact YH
theorem JfN(k:Nat)(h1:1<=k)(h6:k<=6)(bd p:Nat)(n:Int)(r:List Tk)(w:World)(hP:PS bd w p n r):
 Calls prog 211 #[.pointer (some ⟨p,0,none⟩),iV k] w fun e w'=>e=.returned (.string (aA ((JW k r).getD [])))/\Fr [] w w':=by
 refine enter func211 rfl ntmps211 rfl ?_;refine rx ?_;refine Jl (N9 k h1 h6 w) ?_;rintro v w1 ⟨ho,aj⟩;obtain⟨ao,c,rfl⟩:=ho.slice;have hlen:(VN k).length<=4:=by
  have hk:k=1\/k=2\/k=3\/k=4\/k=5\/k=6:=by omega
  rcases hk with rfl|rfl|rfl|rfl|rfl|rfl<;>decide
 refine rx ?_;refine Jh 7 [6] (σ:=Nat) (fun i g u=>g 6=iV i/\i<=(VN k).length/\((VN k).drop i).find? (fun o=>bg o r)=JW k r/\Fr [] w1 u) (fun i=>(VN k).length-i) 0 ⟨rfl,by omega,by simp[JW],Fr.refl _ _⟩ ?_;rintro i g u ⟨h5,hi,he,aY⟩;rw[Ja h5];by_cases aC:i<(VN k).length
 case neg=>
  refine bM ?_;rw[<-he,Ci ab];exact⟨rfl,aj.Jb aY⟩
 obtain⟨ad,bi,bV⟩:=KO (j:=i) (u:=.string (aA (VN k)[i])) (ho.src.tr0 aY) (by simp[aC]);subst bi;rw[Dh aC,Ho]at he;refine rx ?_;rw[Dq];refine KW rfl bV ?_;refine Jg (sF (VN k)[i] p n r u ((hP.tr0 aj).tr0 aY)) ?_;rintro u2 aq;have rR:=(KO (j:=i) (u:=.string (aA (VN k)[i])) ((ho.src.tr0 aY).tr0 aq) (by simp[aC]));obtain⟨tW,ibC,rR⟩:=rR;simp only[Sj]at ibC;subst ibC;cases hq:bg (VN k)[i] r with
 |true=>
  rw[hq]at he;refine rx ?_;rw[Dq];refine KW rfl rR ?_;refine bM ?_;rw[<-he];exact⟨rfl,aj.Jb (aY.Jb aq)⟩
 |false=>
  rw[hq]at he;refine rx ?_;exact Jc (i+1) la ⟨rfl,by omega,he,aY.Jb aq⟩ ab
end Go.Proofs.YtggmccicdhnkgaaGreat
namespace Go.Rf
open Go.RowKit
variable{l:List Ex}{i q:Nat}
theorem JaG(t:Ty):yu t=ZX t.kids+1:=by cases t;rfl
theorem XA(t:Ex):jc t=WH t.kids+1:=by cases t;rfl
theorem Ja7(t:Gn):yv t=max (X6 t.kids) (WH t.args)+1:=by cases t;rfl
theorem Ns(a b:List Ty):ZX (a++b)=max (ZX a) (ZX b):=by
 induction a with
 |nil=>simp[ZX]
 |cons x a ih=>simp only[CQ,ZX,ih];omega
theorem UD(a b:List Ex):WH (a++b)=max (WH a) (WH b):=by
 induction a with
 |nil=>simp[WH]
 |cons x a ih=>simp only[CQ,WH,ih];omega
theorem Uy(a b:List Gn):X6 (a++b)=max (X6 a) (X6 b):=by
 induction a with
 |nil=>simp[X6]
 |cons x a ih=>simp only[CQ,X6,ih];omega
theorem U7{l:List Ty}(h:i<l.length):ZX (l.take (i+1))=max (ZX (l.take i)) (yu l[i]):=by
 rw[SK h,Ns];simp[ZX]
theorem LJ(h:i<l.length):WH (l.take (i+1))=max (WH (l.take i)) (jc l[i]):=by
 rw[SK h,UD];simp[WH]
theorem Jax{l:List Gn}(h:i<l.length):X6 (l.take (i+1))=max (X6 (l.take i)) (yv l[i]):=by
 rw[SK h,Uy];simp[X6]
theorem Jbw{l:List Ty}(h:i<l.length):yu l[i]<=ZX l:=by
 have h1:=U7 h;have h2:=Ns (l.take (i+1)) (l.drop (i+1));rw[List.take_append_drop]at h2;omega
theorem WA(h:i<l.length):jc l[i]<=WH l:=by
 have h1:=LJ h;have h2:=UD (l.take (i+1)) (l.drop (i+1));rw[List.take_append_drop]at h2;omega
theorem Jb6{l:List Gn}(h:i<l.length):yv l[i]<=X6 l:=by
 have h1:=Jax h;have h2:=Uy (l.take (i+1)) (l.drop (i+1));rw[List.take_append_drop]at h2;omega
theorem Jbv(l:List Ty)(i:Nat):ZX (l.take i)<=ZX l:=by
 have h2:=Ns (l.take i) (l.drop i);rw[List.take_append_drop]at h2;omega
theorem MI(l:List Ex)(i:Nat):WH (l.take i)<=WH l:=by
 have h2:=UD (l.take i) (l.drop i);rw[List.take_append_drop]at h2;omega
theorem Jb5(l:List Gn)(i:Nat):X6 (l.take i)<=X6 l:=by
 have h2:=Uy (l.take i) (l.drop i);rw[List.take_append_drop]at h2;omega
theorem QL{a b:World}(h:Fr [] a b):Fr [q] a b:=h.mono ap
end Go.Rf
namespace Go.Proofs.YtggmccicdhnkgaaGreat
open Go.Proofs.Tryz
open Go.Rf Go.RowKit
variable{q:Nat}{w w':World}
attribute [local irreducible] Code.wp wpList Exit.then Exit.inBlock bodyPost A Calls execOp Addr.add
def FB(w:World)(q:Nat):Prop:=∃b1 b2 b3:Bool,aG w q [.bool false,.bool b1,.bool b2,.bool b3] 164
theorem FB.tr{T:List Nat}(h:FB w q)(hf:Fr T w w')(hq:q∉T):FB w' q:=by
 obtain⟨b1,b2,b3,h⟩:=h;exact⟨b1,b2,b3,h.tr hf hq⟩
theorem FB.tr0(h:FB w q)(hf:Fr [] w w'):FB w' q:=h.tr hf ap
theorem FB.lt(h:FB w q):q<w.heap.size:=by
 obtain⟨b1,b2,b3,h⟩:=h;exact h.lt
def FC(q:Nat)(w:World)(e:Ending)(w':World):Prop:=e=.returned (.tuple #[])/\FB w' q/\Fr [q] w w'
theorem U1(q:Nat)(b:Bool)(w:World)(h:FB w q):Calls prog 169 #[.pointer (some ⟨q,0,none⟩),.bool b] w (FC q w):=by
 obtain⟨b1,b2,b3,hB⟩:=h;refine enter func169 rfl ntmps169 rfl ?_;refine rx ?_;cases b1<;>refine rx ?_
 all_goals
  ((with_reducible apply Ji);exact rfl;(conv=>lhs;whnf);exact rfl;exact hB;exact rfl)
  intro w1 h1 aj bh;refine rx ?_;exact WI rfl ⟨rfl,⟨_,_,_,h1⟩,aj⟩
theorem Jf0(q:Nat)(n:Nat)(w:World)(h:FB w q)(hn:j9 16 n=false):Calls prog 170 #[.pointer (some ⟨q,0,none⟩),iV n] w (FC q w):=by
 obtain⟨b1,b2,b3,hB⟩:=h;have hn:n<=16:=by
  rcases DF 16 n with h|h
  .simp only[j9]at hn;rw[ZV h]at hn;cases hn
  .exact h
 exact Ybx
theorem Gw(q:Nat)(n m:Int)(w:World)(h:FB w q):Calls prog 174 #[.pointer (some ⟨q,0,none⟩),iV n,iV m] w (FC q w):=by
 obtain⟨b1,b2,b3,hB⟩:=h;refine enter func174 rfl ntmps174 rfl ?_;refine rx ?_;cases b3<;>(refine rx ?_;repeat' ((first|refine Vg rfl rfl (fun h=>?_) (fun h=>?_)|refine Vd rfl rfl (fun h=>?_) (fun h=>?_)|refine QZ rfl rfl (fun h=>?_) (fun h=>?_)|refine Vt rfl rfl (fun h=>?_) (fun h=>?_)|refine Ve rfl rfl (fun h=>?_) (fun h=>?_)|refine Vf rfl rfl (fun h=>?_) (fun h=>?_)|refine QB rfl rfl (fun h=>?_) (fun h=>?_)|refine Qv rfl rfl (fun h=>?_) (fun h=>?_)|refine WG rfl rfl (fun h=>?_) (fun h=>?_)|refine WY rfl rfl (fun h=>?_) (fun h=>?_))<;>refine rx ?_))
 all_goals
  ((with_reducible apply Ji);exact rfl;(conv=>lhs;whnf);exact rfl;exact hB;exact rfl)
  intro w1 h1 aj bh;refine rx ?_;exact WI rfl ⟨rfl,⟨_,_,_,h1⟩,aj⟩
theorem Jej(s:ByteArray)(w:World):Calls prog 77 #[.string s] w fun e w'=>∃v a er,e=.returned (.tuple #[v,iV a,iV er])/\Jks w w' (BG s.data.toList) v a er:=by
 rw[<-Zx s];by_cases hl:s.data.toList.length<=1000000000000
 .have:=Jdq s.data.toList w hl
  rwa [Zx]at this ⊢
 have fA:=VX s.data.toList;refine enter func77 rfl ntmps77 rfl ?_;rw[Zx];unfold BG;have h8:8192<s.data.toList.length:=by omega
 rw[Cb h8];rw[Zx]at fA;exact Ycp
theorem Vo(q:Nat)(s:ByteArray)(k:Nat)(w:World)(h:FB w q):Calls prog 168 #[.pointer (some ⟨q,0,none⟩),.string s,iV k] w (FC q w):=by
 have hq:=h.lt;refine enter func168 rfl ntmps168 rfl ?_;refine rx ?_;refine aT (Jej s w) rfl ?_;rintro _ w1 ⟨v,a,er,rfl,aj,hr⟩;refine⟨_,rfl,?_⟩;have h:=h.tr0 aj;obtain⟨b1,b2,b3,hB⟩:=h;cases hl:BG s.data.toList with
 |error x=>
  rw[hl]at hr;obtain⟨rfl,rfl⟩:=hr;cases b2
  all_goals
   refine rx ?_;repeat' ((first|refine Vg rfl rfl (fun h=>?_) (fun h=>?_)|refine Vd rfl rfl (fun h=>?_) (fun h=>?_)|refine QZ rfl rfl (fun h=>?_) (fun h=>?_)|refine Vt rfl rfl (fun h=>?_) (fun h=>?_)|refine Ve rfl rfl (fun h=>?_) (fun h=>?_)|refine Vf rfl rfl (fun h=>?_) (fun h=>?_)|refine QB rfl rfl (fun h=>?_) (fun h=>?_)|refine Qv rfl rfl (fun h=>?_) (fun h=>?_)|refine WG rfl rfl (fun h=>?_) (fun h=>?_)|refine WY rfl rfl (fun h=>?_) (fun h=>?_))<;>refine rx ?_)
   all_goals
    ((with_reducible apply Ji);exact rfl;(conv=>lhs;whnf);exact rfl;exact hB;exact rfl)
    intro w2 h2 aq cz;refine rx ?_;exact Ygc
 |ok l=>
  rw[hl]at hr;obtain⟨ho,hb,rfl,rfl⟩:=hr;obtain⟨ao,c,rfl⟩:=ho.slice;cases b2 with
  |true=>
   refine rx ?_
   ((with_reducible apply Ji);exact rfl;(conv=>lhs;whnf);exact rfl;exact hB;exact rfl)
   intro w2 h2 aq cz;refine rx ?_;exact Ygc
  |false=>
  by_cases h1:l.length=1
  case neg=>
   refine rx ?_
   ((with_reducible apply Ji);exact rfl;(conv=>lhs;whnf);exact rfl;exact hB;exact rfl)
   intro w2 h2 aq cz;refine rx ?_;exact Ygc
  obtain⟨t,rfl⟩:=List.length_eq_one_iff.1 h1;obtain⟨ad,bi,po⟩:=KO (j:=0) (u:=iV t.kind) ho.src rfl;subst bi;have hC:Cells w1 (ad.add (0*4)) [iV t.kind,iV t.at_,iV t.n,.string (aA t.text)]:=(Cells.Jid ho.src).sub 0 4;refine rx ?_;refine Wq (j:=0) rfl rfl rfl ap rfl ?_;by_cases hk:(t.kind:Int)=k
  case neg=>
   refine rx ?_
   ((with_reducible apply Ji);exact rfl;(conv=>lhs;whnf);exact rfl;exact hB;exact rfl)
   intro w2 h2 aq cz;refine rx ?_;exact Ygc
  refine rx ?_;refine Wq (j:=0) rfl rfl rfl ap rfl ?_;by_cases hs:aA t.text=s
  case neg=>
   refine rx ?_
   ((with_reducible apply Ji);exact rfl;(conv=>lhs;whnf);exact rfl;exact hB;exact rfl)
   intro w2 h2 aq cz;refine rx ?_;exact Ygc
  refine rx ?_;refine Jl (Jah w1) ?_;rintro v w2 ⟨gu,aq⟩;have hB:=hB.tr0 aq;refine rx ?_;subst hs;refine Jg (inC v tf t.text w2 gu.src bU) ?_;rintro w3 rfl;refine rx ?_
  ((with_reducible apply Ji);exact rfl;(conv=>lhs;whnf);exact rfl;exact hB;exact rfl)
  intro w3 h3 aF dO;refine rx ?_;exact WI rfl ⟨rfl,⟨_,_,_,h3⟩,(QL (aj.Jb aq)).trans aF (fun x hx=>.inl hx)⟩
end Go.Proofs.YtggmccicdhnkgaaGreat
namespace Go.Rf
open Go.RowKit
variable{d n:Nat}{w:World}
theorem Af{D:Dfs}{P:Program}{ops:Array Oper}{Q:Exit->Act->World->Prop}{rest:List Oper}{f:Env}{ty:TypeId}{ps:String}{af:Array Edge}{x y:Operand}
 {k:IntKind} {a b r:Int} {at_:Array TypeId} (hx:ev n f x=.int k a) (hy:ev n f y=.int k b) (hr:(if a<b then b else a)=r) (h:wpList P ops Q rest (A n (bz f d (.int k r))) w):
 wpList P ops Q (⟨some d,.call {callee:=.builtin .max,args:=#[x,y],argTypes:=at_},ty,ps,af,none⟩::rest) (A n f) w:=by
 refine JR (v:=.int k r) (w':=w) ?_ h;subst hr;by_cases aC:a<b<;>simp[execOp,resolve,invoke,builtin,Builtin.max_,Builtin.max2,hx,hy,aC]
end Go.Rf
namespace Go.Proofs.YtggmccicdhnkgaaGreat
open Go.Proofs.Tryz
open Go.Rf Go.RowKit
section
variable{a:List It}{d n p:Nat}{x:Value}{w w':World}
attribute [local irreducible] Code.wp wpList Exit.then Exit.inBlock bodyPost A Calls execOp Addr.add
theorem Va(p:Nat)(m:Int)(w:World)(h:GW w p)(hm:0<=m)(hm9:m<=9):
 Calls prog 82 #[.pointer (some ⟨p,0,none⟩),iV m] w fun e w'=>∃k:Nat,e=.returned (.string (aA (dg k)))/\(k:Int)<=m/\GW w' p/\Fr [p] w w':=by
 refine enter func82 rfl ntmps82 rfl ?_;refine rx ?_;refine Jl (Uz p _ w h ab) ?_;rintro k w1 ⟨j7,hk,hg,hf⟩;obtain⟨j,rfl⟩:∃j:Nat,k=(j:Int):=⟨k.toNat,by omega⟩;refine rx ?_;refine Jg (Jcm j w1 ab) ?_;rintro _ rfl;refine bM ?_;exact⟨j,rfl,by omega,hg,hf⟩
def U2(w:World)(x:Value)(p:Nat)(V:List (List It)):Prop:=Src w x V.length (V.map fun v=>.string (aA (bN v)))/\mn x (V.map fun v=>Value.string (aA (bN v))) [p]
theorem U2.tr{V:List (List It)}(h:U2 w x p V)(hf:Fr [p] w w'):U2 w' x p V:=⟨h.1.tr hf h.2,h.2⟩
theorem U2.tr0{V:List (List It)}(h:U2 w x p V)(hf:Fr [] w w'):U2 w' x p V:=⟨h.1.tr0 hf,h.2⟩
theorem GW.tr0(h:GW w p)(hf:Fr [] w w'):GW w' p:=by
 obtain⟨x,l,i,hb,hs,ho,hl⟩:=h;exact⟨x,l,i,hb.tr0 hf,hs.tr0 hf,ho,hl⟩
theorem GW.off{e k c:Nat}{ys:List Value}(h:GW w p)(ho:bx w' e 1 (.slice (some ⟨w.heap.size,0,none⟩) k c) n ys)(hn:n=n):mn (.slice (some ⟨w.heap.size,0,none⟩) k c) ys [p]:=by
 obtain⟨x,l,i,hb,hs,_,hl⟩:=h;intro ad n c e _ hm;simp only[Value.slice.injEq,Sj]at e;obtain⟨rfl,_⟩:=e;have:=hb.lt;simp only[Sv]at hm;omega
def P3(tF:Nat)(b:Bool)(V:List (List It))(d:Nat):Prop:=∀(p:Nat) (x:Value) (w:World),GW w p->U2 w x p V->
 Calls prog tF #[.pointer (some ⟨p,0,none⟩),x,iV d] w fun e w'=>∃a,e=.returned (.string (aA (bN a)))/\EI V b d a/\(bN a).length<=100000/\GW w' p/\U2 w' x p V/\Fr [p] w w'
theorem Jji{V:List (List It)}(hV:∀v∈V,(bN v).length<=16){b:Bool}(hd:d<=4)(h:EI V b d a):(bN a).length<=100000:=by
 refine CG (h.len hV) ?_;have:d=0\/d=1\/d=2\/d=3\/d=4:=by omega
 rcases this with rfl|rfl|rfl|rfl|rfl<;>cases b<;>decide
theorem EI.ups{V:List (List It)}{b:Bool}:∀{d:Nat} (k:Nat),EI V b d a->EI V b (d+k) a
 |d,0,h=>h
 |d,k+1,h=>(EI.ups k h).up
theorem QY{V:List (List It)}(hV:∀v∈V,(bN v).length<=16){b:Bool}(hd:d<=4){t:Bs}(ht:t=bN a)(h:EI V b d a)(hG:GW w' p)(wM:U2 w' x p V)(hf:Fr [p] w w'):
 ∃a,Ending.returned (.string (aA t))=.returned (.string (aA (bN a)))/\EI V b d a/\(bN a).length<=100000/\GW w' p/\U2 w' x p V/\Fr [p] w w':=⟨a,by rw[ht],h,Jji hV hd h,hG,wM,hf⟩
theorem lb{a b c:World}(h:Fr [p] a b)(k:Fr [p] b c):Fr [p] a c:=h.trans k (fun x hx=>.inl hx)
set_option maxRecDepth 4000 in
theorem Jkf{V:List (List It)}(hV:∀v∈V,(bN v).length<=16)(h0:0<V.length)(hV9:V.length<=1000)(d:Nat)(hd:d<=4)
 (hI:0<d->P3 83 false V (d-1)) (hB:0<d->P3 84 true V (d-1)):P3 83 false V d:=by
 intro p x w hG hx;obtain⟨ao,c,rfl,hc,_⟩:=id hx.1;generalize wP:Value.slice ao V.length c=x at hx ⊢;refine enter func83 rfl ntmps83 rfl ?_;refine rx ?_;refine Jl (Uz p 9 w hG ab) ?_;rintro k w0 ⟨j7,hk,rO,gL⟩;have oR:=hx.tr gL;rw[<-wP]at oR;subst wP;by_cases pK:d=0
 .subst pK;have h3:k%3=0\/k%3=1\/k%3=2:=by omega
  rcases h3 with h3|h3|h3
  .refine rx ?_;exact Ybn
  all_goals
   refine rx ?_;refine Ygd ?_;rintro _ w1 ⟨t,ht,rfl,fC,aj⟩;refine⟨_,rfl,?_⟩;obtain⟨v,hv,rfl⟩:=Du.1 ht;refine bM ?_;exact QY hV hd rfl (.var hv) fC (oR.tr aj) (lb gL aj)
 obtain⟨e,rfl⟩:∃e,d=e+1:=⟨d-1,by omega⟩;have hI:=hI ab;have hB:=hB ab;rw[FH]at hI hB;have lQ:((e+1:Nat):Int)-1=(e:Int):=by omega
 have AM:k=0\/k=1\/k=2\/k=3\/k=4\/k=5\/k=6\/k=7\/k=8:=by omega
 rcases AM with rfl|rfl|rfl|rfl|rfl|rfl|rfl|rfl|rfl
 .refine rx ?_;exact Ybn
 iterate 2
  .refine rx ?_;refine Ygd ?_;rintro _ w1 ⟨t,ht,rfl,fC,aj⟩;refine⟨_,rfl,?_⟩;obtain⟨v,hv,rfl⟩:=Du.1 ht;refine bM ?_;exact QY hV hd rfl (.var hv) fC (oR.tr aj) (lb gL aj)
 .refine rx ?_;rw[lQ];refine Jl (hI p _ _ rO oR) ?_;rintro a1 w1 ⟨jS,fJ,fC,mw,aj⟩;refine rx ?_;refine jg ?_;rw[lQ];refine Jl (hI p _ _ fC mw) ?_;rintro a2 w2 ⟨nB,gH,jn,qf,aq⟩;refine rx ?_;refine jg ?_;refine gZ ?_;exact QY hV hd wK (.add (.inl rfl) jS nB) jn qf (lb gL (lb aj aq))
 .refine rx ?_;rw[lQ];refine Jl (hI p _ _ rO oR) ?_;rintro a1 w1 ⟨jS,fJ,fC,mw,aj⟩;refine rx ?_;refine jg ?_;rw[lQ];refine Jl (hI p _ _ fC mw) ?_;rintro a2 w2 ⟨nB,gH,jn,qf,aq⟩;refine rx ?_;refine jg ?_;refine gZ ?_;exact QY hV hd wK (.add (.inr rfl) jS nB) jn qf (lb gL (lb aj aq))
 .refine rx ?_;rw[lQ];refine Jl (hI p _ _ rO oR) ?_;rintro a1 w1 ⟨jS,fJ,fC,mw,aj⟩;refine rx ?_;refine oS ?_;refine Jl (Va p 3 _ fC ab ab) ?_;rintro k2 w2 ⟨cu,jn,aq⟩;have dV:dg k2∈rP:=Wi ab;have gH:(dg k2).length=1:=rfl;refine rx ?_;refine Yes ?_;exact QY hV hd wK (.mul dV jS) jn (mw.tr aq) (lb gL (lb aj aq))
 .refine rx ?_;refine J3 [.string (aA [109,97,120]),.string (aA [109,105,110])] rfl rfl rfl rfl (fun u ho aY cI=>?_);have iec:Fr [p] w u:=gL.Jb aY;have hGu:=rO.tr0 aY;refine rx ?_;refine aT (XQ p _ [[109,97,120],[109,105,110]] u hGu ho.src (rO.off ho rfl) ap ap) rfl ?_;rintro _ w3 ⟨t,ht,rfl,zd,aF⟩;refine⟨_,rfl,?_⟩;have aC:t.length=3:=by
   simp only[SC,S9,CU]at ht;rcases ht with rfl|rfl<;>rfl
  refine AO ?_;rw[lQ];refine Jl (hI p _ _ zd ((oR.tr0 aY).tr aF)) ?_;rintro a1 w1 ⟨jS,fJ,fC,mw,aj⟩;refine rx ?_;refine jg ?_;rw[lQ];refine Jl (hI p _ _ fC mw) ?_;rintro a2 w2 ⟨nB,gH,jn,qf,aq⟩;refine rx ?_;refine jg ?_;refine gZ ?_;exact QY hV hd wK (.mm (m:=t) (by simpa using ht) jS nB) jn qf (lb iec (lb aF (lb aj aq)))
 .refine rx ?_;rw[lQ];refine Jl (hB p _ _ rO oR) ?_;rintro a1 w1 ⟨jS,fJ,fC,mw,aj⟩;refine rx ?_;refine jg ?_;rw[lQ];refine Jl (hI p _ _ fC mw) ?_;rintro a2 w2 ⟨nB,gH,jn,qf,aq⟩;refine rx ?_;refine jg ?_;rw[lQ];refine Jl (hI p _ _ jn qf) ?_;rintro a3 w3 ⟨ha3,Az,zd,hV3,aF⟩;refine rx ?_;refine jg ?_;refine gZ ?_;exact QY hV hd wK (.ite jS nB ha3) zd hV3 (lb gL (lb aj (lb aq aF)))
 .refine rx ?_;rw[lQ];refine Jl (hI p _ _ rO oR) ?_;rintro a1 w1 ⟨jS,fJ,fC,mw,aj⟩;refine rx ?_;refine jg ?_;rw[lQ];refine Jl (hI p _ _ fC mw) ?_;rintro a2 w2 ⟨nB,gH,jn,qf,aq⟩;refine rx ?_;refine jg ?_;refine gZ ?_;exact QY hV hd wK (.lt jS nB) jn qf (lb gL (lb aj aq))
set_option maxRecDepth 4000 in
theorem Jih{V:List (List It)}(hV:∀v∈V,(bN v).length<=16)(d:Nat)(hd:d<=4)
 (hI:P3 83 false V (d-1)) (hB:0<d->P3 84 true V (d-1)):P3 84 true V d:=by
 intro p x w hG hx;obtain⟨ao,c,rfl,hc,_⟩:=id hx.1;generalize wP:Value.slice ao V.length c=x at hx ⊢;refine enter func84 rfl ntmps84 rfl ?_;refine rx ?_;refine Jl (Uz p 6 w hG ab) ?_;rintro k w0 ⟨j7,hk,rO,gL⟩;have oR:=hx.tr gL;rw[<-wP]at oR;subst wP;by_cases pK:d=0
 .have h3:k%3=0\/k%3=1\/k%3=2:=by omega
  rcases h3 with h3|h3|h3
  all_goals
   refine rx ?_;refine Af rfl rfl (r:=((d-1:Nat):Int)) T9 ?_;refine rx ?_;refine Jl (hI p _ _ rO oR) ?_;rintro a1 w1 ⟨jS,fJ,fC,mw,aj⟩;refine rx ?_;refine oS ?_;refine J3 [.string (aA [32,60,32]),.string (aA [32,60,61,32]),.string (aA [32,61,61,32]),.string (aA [32,33,61,32])] rfl rfl rfl rfl (fun u ho aY cI=>?_);refine rx ?_;refine Ygf ?_;rintro _ w3 ⟨t,ht,rfl,zd,aF⟩;refine⟨_,rfl,?_⟩;obtain⟨o,rfl,pt,hol⟩:∃o:Bs,t=32::(o++[32])/\(o=[60]\/o=[60,61]\/o=[61,61]\/o=[33,61])/\o.length<=2:=by
    simp only[SC,S9,CU]at ht;rcases ht with rfl|rfl|rfl|rfl
    .exact ⟨[60],rfl,.inl rfl,by decide⟩
    .exact ⟨[60,61],rfl,.inr (.inl rfl),by decide⟩
    .exact ⟨[61,61],rfl,.inr (.inr (.inl rfl)),by decide⟩
    .exact ⟨[33,61],rfl,.inr (.inr (.inr rfl)),by decide⟩
   refine AO ?_;refine Jl (hI p _ _ zd ((mw.tr0 aY).tr aF)) ?_;rintro a2 w2 ⟨nB,gH,jn,qf,aq⟩;refine rx ?_;refine jg ?_;refine gZ ?_;have hei:EI V true (d-1+(d-(d-1))) _:=EI.ups (d-(d-1)) (.cmp pt jS nB);rw[show d-1+(d-(d-1))=d by omega]at hei;exact QY hV hd wK hei jn qf (lb (lb gL (aj.Jb aY)) (lb aF aq))
 have PA:k=0\/k=1\/k=2\/k=3\/k=4\/k=5:=by omega
 have lQ:(d:Int)-1=((d-1:Nat):Int):=by omega
 have hB:=hB ab;rcases PA with rfl|rfl|rfl|rfl|rfl|rfl
 iterate 3
  .refine rx ?_;refine Af rfl rfl (r:=((d-1:Nat):Int)) T9 ?_;refine rx ?_;refine Jl (hI p _ _ rO oR) ?_;rintro a1 w1 ⟨jS,fJ,fC,mw,aj⟩;refine rx ?_;refine oS ?_;refine J3 [.string (aA [32,60,32]),.string (aA [32,60,61,32]),.string (aA [32,61,61,32]),.string (aA [32,33,61,32])] rfl rfl rfl rfl (fun u ho aY cI=>?_);refine rx ?_;refine Ygf ?_;rintro _ w3 ⟨t,ht,rfl,zd,aF⟩;refine⟨_,rfl,?_⟩;obtain⟨o,rfl,pt,hol⟩:∃o:Bs,t=32::(o++[32])/\(o=[60]\/o=[60,61]\/o=[61,61]\/o=[33,61])/\o.length<=2:=by
    simp only[SC,S9,CU]at ht;rcases ht with rfl|rfl|rfl|rfl
    .exact ⟨[60],rfl,.inl rfl,by decide⟩
    .exact ⟨[60,61],rfl,.inr (.inl rfl),by decide⟩
    .exact ⟨[61,61],rfl,.inr (.inr (.inl rfl)),by decide⟩
    .exact ⟨[33,61],rfl,.inr (.inr (.inr rfl)),by decide⟩
   refine AO ?_;refine Jl (hI p _ _ zd ((mw.tr0 aY).tr aF)) ?_;rintro a2 w2 ⟨nB,gH,jn,qf,aq⟩;refine rx ?_;refine jg ?_;refine gZ ?_;have hei:EI V true (d-1+(d-(d-1))) _:=EI.ups (d-(d-1)) (.cmp pt jS nB);rw[show d-1+(d-(d-1))=d by omega]at hei;exact QY hV hd wK hei jn qf (lb (lb gL (aj.Jb aY)) (lb aF aq))
 all_goals obtain⟨e,rfl⟩:∃e,d=e+1:=⟨d-1,by omega⟩
 all_goals rw[FH]at hI hB lQ
 .refine rx ?_;rw[lQ];refine Jl (hB p _ _ rO oR) ?_;rintro a1 w1 ⟨jS,fJ,fC,mw,aj⟩;refine rx ?_;refine jg ?_;rw[lQ];refine Jl (hB p _ _ fC mw) ?_;rintro a2 w2 ⟨nB,gH,jn,qf,aq⟩;refine rx ?_;refine jg ?_;refine gZ ?_;exact QY hV hd wK (.log (.inl rfl) jS nB) jn qf (lb gL (lb aj aq))
 .refine rx ?_;rw[lQ];refine Jl (hB p _ _ rO oR) ?_;rintro a1 w1 ⟨jS,fJ,fC,mw,aj⟩;refine rx ?_;refine jg ?_;rw[lQ];refine Jl (hB p _ _ fC mw) ?_;rintro a2 w2 ⟨nB,gH,jn,qf,aq⟩;refine rx ?_;refine jg ?_;refine gZ ?_;exact QY hV hd wK (.log (.inr rfl) jS nB) jn qf (lb gL (lb aj aq))
 .refine rx ?_;rw[lQ];refine Jl (hB p _ _ rO oR) ?_;rintro a1 w1 ⟨jS,fJ,fC,mw,aj⟩;refine rx ?_;refine Yes ?_;exact QY hV hd wK (.neg jS) fC mw (lb gL aj)
theorem Jht{V:List (List It)}(hV:∀v∈V,(bN v).length<=16)(h0:0<V.length)(hV9:V.length<=1000):∀d:Nat,d<=4->P3 83 false V d/\P3 84 true V d
 |0,h=>by
  have hI:=Jkf hV h0 hV9 0 h ab ab;exact⟨hI,Jih hV 0 h hI ab⟩
 |d+1,h=>by
  obtain⟨hI,hB⟩:=Jht hV h0 hV9 d ab;exact⟨Jkf hV h0 hV9 (d+1) h (fun _=>hI) (fun _=>hB),Jih hV (d+1) h hI (fun _=>hB)⟩
end
section
attribute [local irreducible] Code.wp wpList Exit.then Exit.inBlock bodyPost A Calls execOp Addr.add
theorem Jis:∀(m:Nat),m<=1000->∀(t:Ty),yu t<=m->∀(w:World) (S:List Nat) (cs:List Value),RD w S (cg t) cs->Calls prog 215 #[.agg cs.toArray] w fun e w'=>e=.returned (iV (yu t))/\Fr [] w w':=by
 intro m
 induction m with
 |zero=>intro _ t h;rw[JaG]at h;omega
 |succ m ih=>
  intro hm t ht w S cs hd;obtain⟨s,rfl,hk⟩:=mc.1 hd;obtain⟨ao,c,rfl,_⟩:=hk.slice;have gM:=hk.bound;have e:=JaG t;have hl:(t.kids.map cg).length=t.kids.length:=Sr ..;refine enter func215 rfl ntmps215 rfl ?_;refine rx ?_;refine Gg rfl rfl (fun w1 bJ aj bh=>?_);refine rx ?_;refine Jh 5 [3,4] (σ:=Nat) (fun i g u=>g 3=iV (ZX (t.kids.take i))/\g 4=iV i/\i<=t.kids.length/\Fr [] w1 u) (fun i=>t.kids.length-i) 0 ⟨rfl,rfl,SL _,Fr.refl _ _⟩ ?_;rintro i g u ⟨h3,h4,hi,aY⟩;rw[Ja h3,Ja h4];have bJ:=bJ.tr0 aY;have hle:=Jbv t.kids i;by_cases aC:i<t.kids.length
  case neg=>
   refine bM ?_;rw[SQ ab,e];exact⟨rfl,aj.Jb aY⟩
  obtain⟨ad,gU,bi,hr,hc⟩:=DR.at QT ((hk.tr0 aj).tr0 aY) aC;subst bi;have gY:=hr;obtain⟨s2,rfl,cu⟩:=mc.1 hr;have hg:=Jbw aC;have mo:=U7 aC;refine rx ?_;refine Jg (ih ab t.kids[i] ab u S _ gY) ?_;rintro w2 aq;refine rx ?_;refine Af rfl rfl (r:=((ZX (t.kids.take (i+1)):Nat):Int)) T9 ?_;refine rx ?_;exact Ygg
theorem Jgl:∀(m:Nat),m<=1000->∀(t:Ex),jc t<=m->∀(w:World) (S:List Nat) (cs:List Value),RD w S (aU t) cs->Calls prog 217 #[.agg cs.toArray] w fun e w'=>e=.returned (iV (jc t))/\Fr [] w w':=by
 intro m
 induction m with
 |zero=>intro _ t h;rw[XA]at h;omega
 |succ m ih=>
  intro hm t ht w S cs hd;obtain⟨s1,s2,s3,rfl,ee,cu,hk⟩:=fW.1 hd;obtain⟨ek,c1,rfl,_⟩:=DR.slice (rows:=_) ee;obtain⟨gS,c2,rfl,_⟩:=cu.slice;obtain⟨ao,c,rfl,_⟩:=hk.slice;have gM:=hk.bound;have e:=XA t;have hl:(t.kids.map aU).length=t.kids.length:=Sr ..;refine enter func217 rfl ntmps217 rfl ?_;refine rx ?_;refine Gg rfl rfl (fun w1 bJ aj bh=>?_);refine rx ?_;refine Jh 5 [3,4] (σ:=Nat) (fun i g u=>g 3=iV (WH (t.kids.take i))/\g 4=iV i/\i<=t.kids.length/\Fr [] w1 u) (fun i=>t.kids.length-i) 0 ⟨rfl,rfl,SL _,Fr.refl _ _⟩ ?_;rintro i g u ⟨h3,h4,hi,aY⟩;rw[Ja h3,Ja h4];have bJ:=bJ.tr0 aY;have hle:=MI t.kids i;by_cases aC:i<t.kids.length
  case neg=>
   refine bM ?_;rw[SQ ab,e];exact⟨rfl,aj.Jb aY⟩
  obtain⟨ad,gU,bi,hr,hc⟩:=DR.at Jq ((hk.tr0 aj).tr0 aY) aC;subst bi;have gY:=hr;obtain⟨x1,x2,x3,rfl,eu,qO,mg⟩:=fW.1 hr;have hg:=WA aC;have mo:=LJ aC;refine rx ?_;refine Jg (ih ab t.kids[i] ab u S _ gY) ?_;rintro w2 aq;refine rx ?_;refine Af rfl rfl (r:=((WH (t.kids.take (i+1)):Nat):Int)) T9 ?_;refine rx ?_;exact Ygg
theorem Jje:∀(m:Nat),m<=1000->∀(t:Gn),yv t<=m->∀(w:World) (S:List Nat) (cs:List Value),RD w S (eX t) cs->Calls prog 219 #[.agg cs.toArray] w fun e w'=>e=.returned (iV (yv t))/\Fr [] w w':=by
 intro m
 induction m with
 |zero=>intro _ t h;rw[Ja7]at h;omega
 |succ m ih=>
  intro hm t ht w S cs hd;obtain⟨s1,s2,s3,rfl,ee,cu,hk⟩:=me.1 hd;obtain⟨ek,c1,rfl,_⟩:=ee.slice;obtain⟨gS,c2,rfl,_⟩:=cu.slice;obtain⟨ao,c,rfl,_⟩:=hk.slice;have gM:=hk.bound;have ya:=cu.bound;have e:=Ja7 t;have hl:(t.kids.map eX).length=t.kids.length:=Sr ..;have gH:(t.args.map aU).length=t.args.length:=Sr ..;refine enter func219 rfl ntmps219 rfl ?_;refine rx ?_;refine Gg rfl rfl (fun w1 bJ aj bh=>?_);refine rx ?_;refine Jh 5 [3,4] (σ:=Nat) (fun i g u=>g 3=iV (X6 (t.kids.take i))/\g 4=iV i/\i<=t.kids.length/\Fr [] w1 u) (fun i=>t.kids.length-i) 0 ⟨rfl,rfl,SL _,Fr.refl _ _⟩ ?_;rintro i g u ⟨h3,h4,hi,aY⟩;rw[Ja h3,Ja h4];have bJ:=bJ.tr0 aY;have hle:=Jb5 t.kids i;by_cases aC:i<t.kids.length
  case neg=>
   refine rx ?_;rw[SQ ab];refine Jh 6 [3,5] (σ:=Nat) (fun i g u2=>g 3=iV (max (X6 t.kids) (WH (t.args.take i)):Nat)/\g 5=iV i/\i<=t.args.length/\Fr [] u u2) (fun i=>t.args.length-i) 0 ⟨by simp[WH];rfl,rfl,SL _,Fr.refl _ _⟩ ?_;rintro j g2 u2 ⟨h3',h5,hj,oL⟩;rw[Ja h3',Ja h5];have bJ:=bJ.tr0 oL;have ify:=MI t.args j;by_cases nM:j<t.args.length
   case neg=>
    refine bM ?_;rw[SQ ab,e];exact⟨rfl,(aj.Jb aY).Jb oL⟩
   obtain⟨ad,gU,bi,hr,hc⟩:=DR.at Jq (((cu.tr0 aj).tr0 aY).tr0 oL) nM;subst bi;have gY:=hr;obtain⟨x1,x2,x3,rfl,eu,qO,mg⟩:=fW.1 hr;have hg:=WA nM;have mo:=LJ nM;refine rx ?_;refine Jg (Jgl m ab t.args[j] ab u2 S _ gY) ?_;rintro w2 aq;refine rx ?_;refine Af rfl rfl (r:=((max (X6 t.kids) (WH (t.args.take (j+1))):Nat):Int)) T9 ?_;refine rx ?_;exact Jc (j+1) a6 ⟨rfl,rfl,by omega,oL.Jb aq⟩ ab
  obtain⟨ad,gU,bi,hr,hc⟩:=DR.at KG ((hk.tr0 aj).tr0 aY) aC;subst bi;have gY:=hr;obtain⟨x1,x2,x3,rfl,eu,qO,mg⟩:=me.1 hr;have hg:=Jb6 aC;have mo:=Jax aC;refine rx ?_;refine Jg (ih ab t.kids[i] ab u S _ gY) ?_;rintro w2 aq;refine rx ?_;refine Af rfl rfl (r:=((X6 (t.kids.take (i+1)):Nat):Int)) T9 ?_;refine rx ?_;exact Ygg
end
section
variable {T q : Nat} {u u' w0 : World}
attribute [local irreducible] Code.wp wpList Exit.then Exit.inBlock bodyPost A Calls execOp Addr.add
def ST (q b : Nat) (cells : List Value) (T : Nat) (w0 u : World) : Prop := FB u q /\ Fr [q] w0 u /\ aG u b cells T
theorem ST.step {b : Nat} {cells : List Value} (h : ST q b cells T w0 u) (hb : b ≠ q) (h1 : FB u' q) (h2 : Fr [q] u u') : ST q b cells T w0 u' :=
  ⟨h1, h.2.1.trans h2 (fun x hx => .inl hx), h.2.2.tr h2 Ag⟩
theorem ST.step0 {b : Nat} {cells : List Value} (h : ST q b cells T w0 u) (h2 : Fr [] u u') : ST q b cells T w0 u' :=
  ⟨h.1.tr0 h2, h.2.1.Jb h2, h.2.2.tr0 h2⟩
theorem ST.sub {b : Nat} {cells : List Value} {w1 : World} (h : ST q b cells T w1 u) (hf : Fr [q] w0 w1) : ST q b cells T w0 u := ⟨h.1, hf.trans h.2.1 (fun x hx => .inl hx), h.2.2⟩
theorem Jc7 (k : Int) (nm : ByteArray) (n : Int) (a1 a2 a3 : Option Addr) (n1 c1 n2 c2 n3 c3 : Nat) (at_ : Int) (a b c : Bool) (w : World) : Calls prog 230 #[.agg ([iV k, .string nm, iV n, .slice a1 n1 c1, .slice a2 n2 c2, .slice a3 n3 c3, iV at_] : List Value).toArray, .bool a, .bool b, .bool c] w fun e w' => (∃ r : Bool, e = .returned (.bool r)) /\ Fr [] w w' := by
  refine enter func230 rfl ntmps230 rfl ?_;refine rx ?_;refine Gg rfl rfl (fun w1 bJ aj bh => ?_);cases a <;> cases b <;> cases c
  all_goals
    (refine rx ?_; repeat' ((first | refine Vg rfl rfl (fun h => ?_) (fun h => ?_) | refine Vd rfl rfl (fun h => ?_) (fun h => ?_) | refine QZ rfl rfl (fun h => ?_) (fun h => ?_) | refine Vt rfl rfl (fun h => ?_) (fun h => ?_) | refine Ve rfl rfl (fun h => ?_) (fun h => ?_) | refine Vf rfl rfl (fun h => ?_) (fun h => ?_) | refine QB rfl rfl (fun h => ?_) (fun h => ?_) | refine Qv rfl rfl (fun h => ?_) (fun h => ?_) | refine WG rfl rfl (fun h => ?_) (fun h => ?_) | refine WY rfl rfl (fun h => ?_) (fun h => ?_)) <;> refine rx ?_))
    all_goals
      refine gZ ?_;exact ⟨⟨_, rfl⟩, by assumption⟩
theorem U5 (k : Int) (nm : ByteArray) (a1 : Option Addr) (n1 c1 : Nat) (w : World) : Calls prog 212 #[.agg ([iV k, .string nm, .slice a1 n1 c1] : List Value).toArray] w fun e w' => (∃ r : Bool, e = .returned (.bool r)) /\ Fr [] w w' := by
  refine enter func212 rfl ntmps212 rfl ?_;exact Yw
theorem Nl (k : Int) (nm : ByteArray) (a1 a2 a3 : Option Addr) (n1 c1 n2 c2 n3 c3 : Nat) (at_ : Int) (w : World) : Calls prog 214 #[.agg ([iV k, .string nm, .slice a1 n1 c1, .slice a2 n2 c2, .slice a3 n3 c3, iV at_] : List Value).toArray] w fun e w' => (∃ r : Bool, e = .returned (.bool r)) /\ Fr [] w w' := by
  refine enter func214 rfl ntmps214 rfl ?_;exact Yw
theorem U6 (k : Int) (nm : ByteArray) (n : Int) (a1 a2 a3 : Option Addr) (n1 c1 n2 c2 n3 c3 : Nat) (at_ : Int) (w : World) : Calls prog 213 #[.agg ([iV k, .string nm, iV n, .slice a1 n1 c1, .slice a2 n2 c2, .slice a3 n3 c3, iV at_] : List Value).toArray] w fun e w' => (∃ r : Bool, e = .returned (.bool r)) /\ Fr [] w w' := by
  refine enter func213 rfl ntmps213 rfl ?_;refine rx ?_;refine Gg rfl rfl (fun w1 bJ aj bh => ?_)
  (refine rx ?_; repeat' ((first | refine Vg rfl rfl (fun h => ?_) (fun h => ?_) | refine Vd rfl rfl (fun h => ?_) (fun h => ?_) | refine QZ rfl rfl (fun h => ?_) (fun h => ?_) | refine Vt rfl rfl (fun h => ?_) (fun h => ?_) | refine Ve rfl rfl (fun h => ?_) (fun h => ?_) | refine Vf rfl rfl (fun h => ?_) (fun h => ?_) | refine QB rfl rfl (fun h => ?_) (fun h => ?_) | refine Qv rfl rfl (fun h => ?_) (fun h => ?_) | refine WG rfl rfl (fun h => ?_) (fun h => ?_) | refine WY rfl rfl (fun h => ?_) (fun h => ?_)) <;> refine rx ?_))
  all_goals first
  | (refine aT (Jc7 _ _ _ _ _ _ _ _ _ _ _ _ _ _ _ _ _) rfl ?_
     rintro _ w2 ⟨⟨r, rfl⟩, aq⟩;refine ⟨_, rfl, ?_⟩;have aF := aj.Jb aq;refine bM ?_;exact ⟨⟨_, rfl⟩, aF⟩)
  | ((apply TF; exact rfl; (conv => lhs; whnf))
     exact ⟨⟨_, rfl⟩, aj⟩)
theorem JjX (s : ByteArray) (w : World) : Calls prog 231 #[.string s] w fun e w' => (∃ r : Nat, r <= 6 /\ e = .returned (iV r)) /\ Fr [] w w' := by
  obtain ⟨S, rfl⟩ : ∃ S, s = aA S := ⟨_, (Zx s).symm⟩;refine enter func231 rfl ntmps231 rfl ?_;refine rx ?_;refine Jh 4 [3] (σ := Nat) (fun i g u => g 3 = iV i /\ 1 <= i /\ i <= 7 /\ Fr [] w u) (fun i => 7 - i) 1 ⟨rfl, by omega, by omega, Fr.refl _ _⟩ ?_;rintro i g u ⟨h3, h1, h7, aY⟩;rw [Ja h3];by_cases aC : i < 7
  case neg =>
    by_cases hn : aA S = aA [110, 111, 116]
    all_goals
      refine bM ?_
    · exact ⟨⟨3, by omega, rfl⟩, aY⟩
    · exact ⟨⟨0, by omega, rfl⟩, aY⟩
  refine rx ?_;refine Jl (N9 i h1 ab u) ?_;rintro v w2 ⟨ho, aq⟩;refine rx ?_;have hlen : (VN i).length <= 1000 := by
    have hk : i = 1 \/ i = 2 \/ i = 3 \/ i = 4 \/ i = 5 \/ i = 6 := by omega
    rcases hk with rfl | rfl | rfl | rfl | rfl | rfl <;> decide
  refine Jg (inC v (VN i) S w2 ho.src hlen) ?_;rintro w3 rfl;generalize (VN i).contains S = b;cases b with
  | true =>
    refine bM ?_;exact ⟨⟨i, by omega, rfl⟩, aY.Jb aq⟩
  | false =>
    refine rx ?_;exact Jc (i + 1) a6 ⟨rfl, by omega, by omega, aY.Jb aq⟩ ab
end
end Go.Proofs.YtggmccicdhnkgaaGreat
