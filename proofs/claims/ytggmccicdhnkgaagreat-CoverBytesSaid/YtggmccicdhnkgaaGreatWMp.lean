/-
 Maps for the stepping engine:what a map holds ('Mp'),making,looking up,storing,counting,ranging over. It speaks of no program.
-/
import Derived.Test.YtggmccicdhnkgaaGreatWQl
import Derived.Test.YtggmccicdhnkgaaGreatWPe
import Derived.Test.YtggmccicdhnkgaaGreatWQf
import Derived.Test.YtggmccicdhnkgaaGreatWK1
import Derived.Maps.RangeRun
set_option linter.all false
set_option maxHeartbeats 64000000
namespace Go.Rf
open Go.RowKit
variable{l:List Ex}{i q:Nat}
theorem JaG(t:Ty):tyD t=ZX t.kids+1:=by cases t;rfl
theorem XA(t:Ex):exD t=WH t.kids+1:=by cases t;rfl
theorem Ja7(t:Gn):gnD t=max (X6 t.kids) (WH t.args)+1:=by cases t;rfl
theorem Ns(a b:List Ty):ZX (a++b)=max (ZX a) (ZX b):=by
 induction a with
 |nil=>simp[ZX]
 |cons x a ih=>simp only[CQ,ZX,ih];omega
theorem UD(a b:List Ex):WH (a++b)=max (WH a) (WH b):=by
 induction a with
 |nil=>simp[WH]
 |cons x a ih=>simp only[CQ,WH,ih];omega
theorem Uy(a b:List Gn):X6 (a++b)=max (X6 a) (X6 b):=by
 induction a with
 |nil=>simp[X6]
 |cons x a ih=>simp only[CQ,X6,ih];omega
theorem U7{l:List Ty}(h:i<l.length):ZX (l.take (i+1))=max (ZX (l.take i)) (tyD l[i]):=by
 rw[SK h,Ns];simp[ZX]
theorem LJ(h:i<l.length):WH (l.take (i+1))=max (WH (l.take i)) (exD l[i]):=by
 rw[SK h,UD];simp[WH]
theorem Jax{l:List Gn}(h:i<l.length):X6 (l.take (i+1))=max (X6 (l.take i)) (gnD l[i]):=by
 rw[SK h,Uy];simp[X6]
theorem Jbw{l:List Ty}(h:i<l.length):tyD l[i]<=ZX l:=by
 have h1:=U7 h;have h2:=Ns (l.take (i+1)) (l.drop (i+1));rw[List.take_append_drop]at h2;omega
theorem WA(h:i<l.length):exD l[i]<=WH l:=by
 have h1:=LJ h;have h2:=UD (l.take (i+1)) (l.drop (i+1));rw[List.take_append_drop]at h2;omega
theorem Jb6{l:List Gn}(h:i<l.length):gnD l[i]<=X6 l:=by
 have h1:=Jax h;have h2:=Uy (l.take (i+1)) (l.drop (i+1));rw[List.take_append_drop]at h2;omega
theorem Jbv(l:List Ty)(i:Nat):ZX (l.take i)<=ZX l:=by
 have h2:=Ns (l.take i) (l.drop i);rw[List.take_append_drop]at h2;omega
theorem MI(l:List Ex)(i:Nat):WH (l.take i)<=WH l:=by
 have h2:=UD (l.take i) (l.drop i);rw[List.take_append_drop]at h2;omega
theorem Jb5(l:List Gn)(i:Nat):X6 (l.take i)<=X6 l:=by
 have h2:=Uy (l.take i) (l.drop i);rw[List.take_append_drop]at h2;omega
theorem QL{a b:World}(h:Fr [] a b):Fr [q] a b:=h.mono Yhs
end Go.Rf
namespace Go.Proofs.YtggmccicdhnkgaaGreat
open Go.Proofs.Tryz
open Go.Rf Go.RowKit
variable{q:Nat}{w w':World}
attribute [local irreducible] Code.wp wpList Exit.then Exit.inBlock bodyPost A Calls execOp Addr.add
def FB(w:World)(q:Nat):Prop:=∃b1 b2 b3:Bool,Blk w q [.bool false,.bool b1,.bool b2,.bool b3] 164
theorem FB.tr{T:List Nat}(h:FB w q)(hf:Fr T w w')(hq:q∉T):FB w' q:=by
 obtain⟨b1,b2,b3,h⟩:=h;exact⟨b1,b2,b3,h.tr hf hq⟩
theorem FB.tr0(h:FB w q)(hf:Fr [] w w'):FB w' q:=h.tr hf Yhs
theorem FB.lt(h:FB w q):q<w.heap.size:=by
 obtain⟨b1,b2,b3,h⟩:=h;exact h.lt
def FC(q:Nat)(w:World)(e:Ending)(w':World):Prop:=e=.returned (.tuple #[])/\FB w' q/\Fr [q] w w'
theorem U1(q:Nat)(b:Bool)(w:World)(h:FB w q):Calls prog 169 #[.pointer (some ⟨q,0,none⟩),.bool b] w (FC q w):=by
 obtain⟨b1,b2,b3,hB⟩:=h;refine enter func169 rfl ntmps169 rfl ?_;refine rx ?_;cases b1<;>refine rx ?_
 all_goals
  ((with_reducible apply Ji);exact rfl;(conv=>lhs;whnf);exact rfl;exact hB;exact rfl)
  intro w1 h1 hf1 hs1;refine rx ?_;exact WI rfl ⟨rfl,⟨_,_,_,h1⟩,hf1⟩
theorem Jf0(q:Nat)(n:Nat)(w:World)(h:FB w q)(hn:ltN 16 n=false):Calls prog 170 #[.pointer (some ⟨q,0,none⟩),iV n] w (FC q w):=by
 obtain⟨b1,b2,b3,hB⟩:=h;have hn:n<=16:=by
  rcases DF 16 n with h|h
  .simp only[ltN]at hn;rw[ZV h]at hn;cases hn
  .exact h
 exact Ybx
theorem Gw(q:Nat)(n m:Int)(w:World)(h:FB w q):Calls prog 174 #[.pointer (some ⟨q,0,none⟩),iV n,iV m] w (FC q w):=by
 obtain⟨b1,b2,b3,hB⟩:=h;refine enter func174 rfl ntmps174 rfl ?_;refine rx ?_;cases b3<;>(refine rx ?_;repeat' ((first|refine Vg rfl rfl (fun h=>?_) (fun h=>?_)|refine Vd rfl rfl (fun h=>?_) (fun h=>?_)|refine QZ rfl rfl (fun h=>?_) (fun h=>?_)|refine Vt rfl rfl (fun h=>?_) (fun h=>?_)|refine Ve rfl rfl (fun h=>?_) (fun h=>?_)|refine Vf rfl rfl (fun h=>?_) (fun h=>?_)|refine QB rfl rfl (fun h=>?_) (fun h=>?_)|refine Qv rfl rfl (fun h=>?_) (fun h=>?_)|refine WG rfl rfl (fun h=>?_) (fun h=>?_)|refine WY rfl rfl (fun h=>?_) (fun h=>?_))<;>refine rx ?_))
 all_goals
  ((with_reducible apply Ji);exact rfl;(conv=>lhs;whnf);exact rfl;exact hB;exact rfl)
  intro w1 h1 hf1 hs1;refine rx ?_;exact WI rfl ⟨rfl,⟨_,_,_,h1⟩,hf1⟩
theorem Jej(s:ByteArray)(w:World):Calls prog 77 #[.string s] w fun e w'=>∃v a er,e=.returned (.tuple #[v,iV a,iV er])/\Jks w w' (BG s.data.toList) v a er:=by
 rw[<-Zx s];by_cases hl:s.data.toList.length<=1000000000000
 .have:=Jdq s.data.toList w hl
  rwa [Zx]at this ⊢
 have hsz:=VX s.data.toList;refine enter func77 rfl ntmps77 rfl ?_;rw[Zx];unfold BG;have h8:8192<s.data.toList.length:=by omega
 rw[Cb h8];rw[Zx]at hsz;exact Ycp
theorem Vo(q:Nat)(s:ByteArray)(k:Nat)(w:World)(h:FB w q):Calls prog 168 #[.pointer (some ⟨q,0,none⟩),.string s,iV k] w (FC q w):=by
 have hq:=h.lt;refine enter func168 rfl ntmps168 rfl ?_;refine rx ?_;refine s_call (Jej s w) rfl ?_;rintro _ w1 ⟨v,a,er,rfl,hf1,hr⟩;refine⟨_,rfl,?_⟩;have h:=h.tr0 hf1;obtain⟨b1,b2,b3,hB⟩:=h;cases hl:BG s.data.toList with
 |error x=>
  rw[hl]at hr;obtain⟨rfl,rfl⟩:=hr;cases b2
  all_goals
   refine rx ?_;repeat' ((first|refine Vg rfl rfl (fun h=>?_) (fun h=>?_)|refine Vd rfl rfl (fun h=>?_) (fun h=>?_)|refine QZ rfl rfl (fun h=>?_) (fun h=>?_)|refine Vt rfl rfl (fun h=>?_) (fun h=>?_)|refine Ve rfl rfl (fun h=>?_) (fun h=>?_)|refine Vf rfl rfl (fun h=>?_) (fun h=>?_)|refine QB rfl rfl (fun h=>?_) (fun h=>?_)|refine Qv rfl rfl (fun h=>?_) (fun h=>?_)|refine WG rfl rfl (fun h=>?_) (fun h=>?_)|refine WY rfl rfl (fun h=>?_) (fun h=>?_))<;>refine rx ?_)
   all_goals
    ((with_reducible apply Ji);exact rfl;(conv=>lhs;whnf);exact rfl;exact hB;exact rfl)
    intro w2 h2 hf2 hs2;refine rx ?_;exact Ygc
 |ok l=>
  rw[hl]at hr;obtain⟨ho,hb,rfl,rfl⟩:=hr;obtain⟨ao,c,rfl⟩:=ho.slice;cases b2 with
  |true=>
   refine rx ?_
   ((with_reducible apply Ji);exact rfl;(conv=>lhs;whnf);exact rfl;exact hB;exact rfl)
   intro w2 h2 hf2 hs2;refine rx ?_;exact Ygc
  |false=>
  by_cases h1:l.length=1
  case neg=>
   refine rx ?_
   ((with_reducible apply Ji);exact rfl;(conv=>lhs;whnf);exact rfl;exact hB;exact rfl)
   intro w2 h2 hf2 hs2;refine rx ?_;exact Ygc
  obtain⟨t,rfl⟩:=List.length_eq_one_iff.1 h1;obtain⟨ad,had,hc0⟩:=KO (j:=0) (u:=iV t.kind) ho.src rfl;subst had;have hC:Cells w1 (ad.add (0*4)) [iV t.kind,iV t.at_,iV t.n,.string (bst t.text)]:=(Cells.Jid ho.src).sub 0 4;refine rx ?_;refine Wq (j:=0) rfl rfl rfl Yhs rfl ?_;by_cases hk:(t.kind:Int)=k
  case neg=>
   refine rx ?_
   ((with_reducible apply Ji);exact rfl;(conv=>lhs;whnf);exact rfl;exact hB;exact rfl)
   intro w2 h2 hf2 hs2;refine rx ?_;exact Ygc
  refine rx ?_;refine Wq (j:=0) rfl rfl rfl Yhs rfl ?_;by_cases hs:bst t.text=s
  case neg=>
   refine rx ?_
   ((with_reducible apply Ji);exact rfl;(conv=>lhs;whnf);exact rfl;exact hB;exact rfl)
   intro w2 h2 hf2 hs2;refine rx ?_;exact Ygc
  refine rx ?_;refine Jl (Jah w1) ?_;rintro v w2 ⟨ho2,hf2⟩;have hB:=hB.tr0 hf2;refine rx ?_;subst hs;refine Jg (inC v resv t.text w2 ho2.src Yhy) ?_;rintro w3 rfl;refine rx ?_
  ((with_reducible apply Ji);exact rfl;(conv=>lhs;whnf);exact rfl;exact hB;exact rfl)
  intro w3 h3 hf3 hs3;refine rx ?_;exact WI rfl ⟨rfl,⟨_,_,_,h3⟩,(QL (hf1.Jb hf2)).trans hf3 (fun x hx=>.inl hx)⟩
end Go.Proofs.YtggmccicdhnkgaaGreat
namespace Go.Rf
open Go.RowKit
variable{d n:Nat}{w:World}
theorem Jab{D:Dfs}{P:Program}{ops:Array Oper}{Q:Exit->Act->World->Prop}{rest:List Oper}{f:Env}{ty:TypeId}{ps:String}{af:Array Edge}{x y:Operand}
 {k:IntKind} {a b r:Int} {at_:Array TypeId} (hx:ev n f x=.int k a) (hy:ev n f y=.int k b) (hr:(if a<b then b else a)=r) (h:wpList P ops Q rest (A n (upd f d (.int k r))) w):
 wpList P ops Q (⟨some d,.call {callee:=.builtin .max,args:=#[x,y],argTypes:=at_},ty,ps,af,none⟩::rest) (A n f) w:=by
 refine JR (v:=.int k r) (w':=w) ?_ h;subst hr;by_cases hlt:a<b<;>simp[execOp,resolve,invoke,builtin,Builtin.max_,Builtin.max2,hx,hy,hlt]
end Go.Rf
namespace Go.Proofs.YtggmccicdhnkgaaGreat
open Go.Proofs.Tryz
open Go.Rf Go.RowKit
section
variable{a:List It}{d n p:Nat}{x:Value}{w w':World}
attribute [local irreducible] Code.wp wpList Exit.then Exit.inBlock bodyPost A Calls execOp Addr.add
theorem Va(p:Nat)(m:Int)(w:World)(h:GW w p)(hm:0<=m)(hm9:m<=9):
 Calls prog 82 #[.pointer (some ⟨p,0,none⟩),iV m] w fun e w'=>∃k:Nat,e=.returned (.string (bst (dg k)))/\(k:Int)<=m/\GW w' p/\Fr [p] w w':=by
 refine enter func82 rfl ntmps82 rfl ?_;refine rx ?_;refine Jl (Uz p _ w h Yhn) ?_;rintro k w1 ⟨hk0,hk,hg,hf⟩;obtain⟨j,rfl⟩:∃j:Nat,k=(j:Int):=⟨k.toNat,by omega⟩;refine rx ?_;refine Jg (Jcm j w1 Yhn) ?_;rintro _ rfl;refine Yeo ?_;exact⟨j,rfl,by omega,hg,hf⟩
def U2(w:World)(x:Value)(p:Nat)(V:List (List It)):Prop:=Src w x V.length (V.map fun v=>.string (bst (rnd v)))/\Off x (V.map fun v=>Value.string (bst (rnd v))) [p]
theorem U2.tr{V:List (List It)}(h:U2 w x p V)(hf:Fr [p] w w'):U2 w' x p V:=⟨h.1.tr hf h.2,h.2⟩
theorem U2.tr0{V:List (List It)}(h:U2 w x p V)(hf:Fr [] w w'):U2 w' x p V:=⟨h.1.tr0 hf,h.2⟩
theorem GW.tr0(h:GW w p)(hf:Fr [] w w'):GW w' p:=by
 obtain⟨x,l,i,hb,hs,ho,hl⟩:=h;exact⟨x,l,i,hb.tr0 hf,hs.tr0 hf,ho,hl⟩
theorem GW.off{e k c:Nat}{ys:List Value}(h:GW w p)(ho:Own w' e 1 (.slice (some ⟨w.heap.size,0,none⟩) k c) n ys)(hn:n=n):Off (.slice (some ⟨w.heap.size,0,none⟩) k c) ys [p]:=by
 obtain⟨x,l,i,hb,hs,_,hl⟩:=h;intro ad n c e _ hm;simp only[Value.slice.injEq,Sj]at e;obtain⟨rfl,_⟩:=e;have:=hb.lt;simp only[Sv]at hm;omega
def JcQ(fid:Nat)(b:Bool)(V:List (List It))(d:Nat):Prop:=∀(p:Nat) (x:Value) (w:World),GW w p->U2 w x p V->
 Calls prog fid #[.pointer (some ⟨p,0,none⟩),x,iV d] w fun e w'=>∃a,e=.returned (.string (bst (rnd a)))/\EI V b d a/\(rnd a).length<=100000/\GW w' p/\U2 w' x p V/\Fr [p] w w'
theorem Jji{V:List (List It)}(hV:∀v∈V,(rnd v).length<=16){b:Bool}(hd:d<=4)(h:EI V b d a):(rnd a).length<=100000:=by
 refine CG (h.len hV) ?_;have:d=0\/d=1\/d=2\/d=3\/d=4:=by omega
 rcases this with rfl|rfl|rfl|rfl|rfl<;>cases b<;>decide
theorem EI.ups{V:List (List It)}{b:Bool}:∀{d:Nat} (k:Nat),EI V b d a->EI V b (d+k) a
 |d,0,h=>h
 |d,k+1,h=>(EI.ups k h).up
theorem QY{V:List (List It)}(hV:∀v∈V,(rnd v).length<=16){b:Bool}(hd:d<=4){t:Bs}(ht:t=rnd a)(h:EI V b d a)(hG:GW w' p)(hV':U2 w' x p V)(hf:Fr [p] w w'):
 ∃a,Ending.returned (.string (bst t))=.returned (.string (bst (rnd a)))/\EI V b d a/\(rnd a).length<=100000/\GW w' p/\U2 w' x p V/\Fr [p] w w':=⟨a,by rw[ht],h,Jji hV hd h,hG,hV',hf⟩
theorem frp{a b c:World}(h:Fr [p] a b)(k:Fr [p] b c):Fr [p] a c:=h.trans k (fun x hx=>.inl hx)
set_option maxRecDepth 4000 in
theorem Jkf{V:List (List It)}(hV:∀v∈V,(rnd v).length<=16)(h0:0<V.length)(hV9:V.length<=1000)(d:Nat)(hd:d<=4)
 (hI:0<d->JcQ 83 false V (d-1)) (hB:0<d->JcQ 84 true V (d-1)):JcQ 83 false V d:=by
 intro p x w hG hx;obtain⟨ao,c,rfl,hc,_⟩:=id hx.1;generalize hxe:Value.slice ao V.length c=x at hx ⊢;refine enter func83 rfl ntmps83 rfl ?_;refine rx ?_;refine Jl (Uz p 9 w hG Yhn) ?_;rintro k w0 ⟨hk0,hk,hG0,hf0⟩;have hV0:=hx.tr hf0;rw[<-hxe]at hV0;subst hxe;by_cases hd0:d=0
 .subst hd0;have h3:k%3=0\/k%3=1\/k%3=2:=by omega
  rcases h3 with h3|h3|h3
  .refine rx ?_;exact Ybn
  all_goals
   refine rx ?_;refine Ygd ?_;rintro _ w1 ⟨t,ht,rfl,hG1,hf1⟩;refine⟨_,rfl,?_⟩;obtain⟨v,hv,rfl⟩:=Du.1 ht;refine Yeo ?_;exact QY hV hd rfl (.var hv) hG1 (hV0.tr hf1) (frp hf0 hf1)
 obtain⟨e,rfl⟩:∃e,d=e+1:=⟨d-1,by omega⟩;have hI:=hI Yhn;have hB:=hB Yhn;rw[FH]at hI hB;have hde:((e+1:Nat):Int)-1=(e:Int):=by omega
 have hk9:k=0\/k=1\/k=2\/k=3\/k=4\/k=5\/k=6\/k=7\/k=8:=by omega
 rcases hk9 with rfl|rfl|rfl|rfl|rfl|rfl|rfl|rfl|rfl
 .refine rx ?_;exact Ybn
 iterate 2
  .refine rx ?_;refine Ygd ?_;rintro _ w1 ⟨t,ht,rfl,hG1,hf1⟩;refine⟨_,rfl,?_⟩;obtain⟨v,hv,rfl⟩:=Du.1 ht;refine Yeo ?_;exact QY hV hd rfl (.var hv) hG1 (hV0.tr hf1) (frp hf0 hf1)
 .refine rx ?_;rw[hde];refine Jl (hI p _ _ hG0 hV0) ?_;rintro a1 w1 ⟨ha1,hl1,hG1,hV1,hf1⟩;refine rx ?_;refine Yen ?_;rw[hde];refine Jl (hI p _ _ hG1 hV1) ?_;rintro a2 w2 ⟨ha2,hl2,hG2,hV2,hf2⟩;refine rx ?_;refine Yen ?_;refine Yfw ?_;exact QY hV hd Yiy (.add (.inl rfl) ha1 ha2) hG2 hV2 (frp hf0 (frp hf1 hf2))
 .refine rx ?_;rw[hde];refine Jl (hI p _ _ hG0 hV0) ?_;rintro a1 w1 ⟨ha1,hl1,hG1,hV1,hf1⟩;refine rx ?_;refine Yen ?_;rw[hde];refine Jl (hI p _ _ hG1 hV1) ?_;rintro a2 w2 ⟨ha2,hl2,hG2,hV2,hf2⟩;refine rx ?_;refine Yen ?_;refine Yfw ?_;exact QY hV hd Yiy (.add (.inr rfl) ha1 ha2) hG2 hV2 (frp hf0 (frp hf1 hf2))
 .refine rx ?_;rw[hde];refine Jl (hI p _ _ hG0 hV0) ?_;rintro a1 w1 ⟨ha1,hl1,hG1,hV1,hf1⟩;refine rx ?_;refine Yge ?_;refine Jl (Va p 3 _ hG1 Yhn Yhn) ?_;rintro k2 w2 ⟨hk2,hG2,hf2⟩;have hd2:dg k2∈dgs:=Wi Yhn;have hl2:(dg k2).length=1:=rfl;refine rx ?_;refine Yes ?_;exact QY hV hd Yiy (.mul hd2 ha1) hG2 (hV1.tr hf2) (frp hf0 (frp hf1 hf2))
 .refine rx ?_;refine J3 [.string (bst [109,97,120]),.string (bst [109,105,110])] rfl rfl rfl rfl (fun u ho hfu hsu=>?_);have hf0u:Fr [p] w u:=hf0.Jb hfu;have hGu:=hG0.tr0 hfu;refine rx ?_;refine s_call (XQ p _ [[109,97,120],[109,105,110]] u hGu ho.src (hG0.off ho rfl) Yhs Yhs) rfl ?_;rintro _ w3 ⟨t,ht,rfl,hG3,hf3⟩;refine⟨_,rfl,?_⟩;have hlt:t.length=3:=by
   simp only[SC,S9,CU]at ht;rcases ht with rfl|rfl<;>rfl
  refine Yer ?_;rw[hde];refine Jl (hI p _ _ hG3 ((hV0.tr0 hfu).tr hf3)) ?_;rintro a1 w1 ⟨ha1,hl1,hG1,hV1,hf1⟩;refine rx ?_;refine Yen ?_;rw[hde];refine Jl (hI p _ _ hG1 hV1) ?_;rintro a2 w2 ⟨ha2,hl2,hG2,hV2,hf2⟩;refine rx ?_;refine Yen ?_;refine Yfw ?_;exact QY hV hd Yiy (.mm (m:=t) (by simpa using ht) ha1 ha2) hG2 hV2 (frp hf0u (frp hf3 (frp hf1 hf2)))
 .refine rx ?_;rw[hde];refine Jl (hB p _ _ hG0 hV0) ?_;rintro a1 w1 ⟨ha1,hl1,hG1,hV1,hf1⟩;refine rx ?_;refine Yen ?_;rw[hde];refine Jl (hI p _ _ hG1 hV1) ?_;rintro a2 w2 ⟨ha2,hl2,hG2,hV2,hf2⟩;refine rx ?_;refine Yen ?_;rw[hde];refine Jl (hI p _ _ hG2 hV2) ?_;rintro a3 w3 ⟨ha3,hl3,hG3,hV3,hf3⟩;refine rx ?_;refine Yen ?_;refine Yfw ?_;exact QY hV hd Yiy (.ite ha1 ha2 ha3) hG3 hV3 (frp hf0 (frp hf1 (frp hf2 hf3)))
 .refine rx ?_;rw[hde];refine Jl (hI p _ _ hG0 hV0) ?_;rintro a1 w1 ⟨ha1,hl1,hG1,hV1,hf1⟩;refine rx ?_;refine Yen ?_;rw[hde];refine Jl (hI p _ _ hG1 hV1) ?_;rintro a2 w2 ⟨ha2,hl2,hG2,hV2,hf2⟩;refine rx ?_;refine Yen ?_;refine Yfw ?_;exact QY hV hd Yiy (.lt ha1 ha2) hG2 hV2 (frp hf0 (frp hf1 hf2))
set_option maxRecDepth 4000 in
theorem Jih{V:List (List It)}(hV:∀v∈V,(rnd v).length<=16)(d:Nat)(hd:d<=4)
 (hI:JcQ 83 false V (d-1)) (hB:0<d->JcQ 84 true V (d-1)):JcQ 84 true V d:=by
 intro p x w hG hx;obtain⟨ao,c,rfl,hc,_⟩:=id hx.1;generalize hxe:Value.slice ao V.length c=x at hx ⊢;refine enter func84 rfl ntmps84 rfl ?_;refine rx ?_;refine Jl (Uz p 6 w hG Yhn) ?_;rintro k w0 ⟨hk0,hk,hG0,hf0⟩;have hV0:=hx.tr hf0;rw[<-hxe]at hV0;subst hxe;by_cases hd0:d=0
 .have h3:k%3=0\/k%3=1\/k%3=2:=by omega
  rcases h3 with h3|h3|h3
  all_goals
   refine rx ?_;refine Jab rfl rfl (r:=((d-1:Nat):Int)) Ykk ?_;refine rx ?_;refine Jl (hI p _ _ hG0 hV0) ?_;rintro a1 w1 ⟨ha1,hl1,hG1,hV1,hf1⟩;refine rx ?_;refine Yge ?_;refine J3 [.string (bst [32,60,32]),.string (bst [32,60,61,32]),.string (bst [32,61,61,32]),.string (bst [32,33,61,32])] rfl rfl rfl rfl (fun u ho hfu hsu=>?_);refine rx ?_;refine Ygf ?_;rintro _ w3 ⟨t,ht,rfl,hG3,hf3⟩;refine⟨_,rfl,?_⟩;obtain⟨o,rfl,hoo,hol⟩:∃o:Bs,t=32::(o++[32])/\(o=[60]\/o=[60,61]\/o=[61,61]\/o=[33,61])/\o.length<=2:=by
    simp only[SC,S9,CU]at ht;rcases ht with rfl|rfl|rfl|rfl
    .exact ⟨[60],rfl,.inl rfl,by decide⟩
    .exact ⟨[60,61],rfl,.inr (.inl rfl),by decide⟩
    .exact ⟨[61,61],rfl,.inr (.inr (.inl rfl)),by decide⟩
    .exact ⟨[33,61],rfl,.inr (.inr (.inr rfl)),by decide⟩
   refine Yer ?_;refine Jl (hI p _ _ hG3 ((hV1.tr0 hfu).tr hf3)) ?_;rintro a2 w2 ⟨ha2,hl2,hG2,hV2,hf2⟩;refine rx ?_;refine Yen ?_;refine Yfw ?_;have hei:EI V true (d-1+(d-(d-1))) _:=EI.ups (d-(d-1)) (.cmp hoo ha1 ha2);rw[show d-1+(d-(d-1))=d by omega]at hei;exact QY hV hd Yiy hei hG2 hV2 (frp (frp hf0 (hf1.Jb hfu)) (frp hf3 hf2))
 have hk6:k=0\/k=1\/k=2\/k=3\/k=4\/k=5:=by omega
 have hde:(d:Int)-1=((d-1:Nat):Int):=by omega
 have hB:=hB Yhn;rcases hk6 with rfl|rfl|rfl|rfl|rfl|rfl
 iterate 3
  .refine rx ?_;refine Jab rfl rfl (r:=((d-1:Nat):Int)) Ykk ?_;refine rx ?_;refine Jl (hI p _ _ hG0 hV0) ?_;rintro a1 w1 ⟨ha1,hl1,hG1,hV1,hf1⟩;refine rx ?_;refine Yge ?_;refine J3 [.string (bst [32,60,32]),.string (bst [32,60,61,32]),.string (bst [32,61,61,32]),.string (bst [32,33,61,32])] rfl rfl rfl rfl (fun u ho hfu hsu=>?_);refine rx ?_;refine Ygf ?_;rintro _ w3 ⟨t,ht,rfl,hG3,hf3⟩;refine⟨_,rfl,?_⟩;obtain⟨o,rfl,hoo,hol⟩:∃o:Bs,t=32::(o++[32])/\(o=[60]\/o=[60,61]\/o=[61,61]\/o=[33,61])/\o.length<=2:=by
    simp only[SC,S9,CU]at ht;rcases ht with rfl|rfl|rfl|rfl
    .exact ⟨[60],rfl,.inl rfl,by decide⟩
    .exact ⟨[60,61],rfl,.inr (.inl rfl),by decide⟩
    .exact ⟨[61,61],rfl,.inr (.inr (.inl rfl)),by decide⟩
    .exact ⟨[33,61],rfl,.inr (.inr (.inr rfl)),by decide⟩
   refine Yer ?_;refine Jl (hI p _ _ hG3 ((hV1.tr0 hfu).tr hf3)) ?_;rintro a2 w2 ⟨ha2,hl2,hG2,hV2,hf2⟩;refine rx ?_;refine Yen ?_;refine Yfw ?_;have hei:EI V true (d-1+(d-(d-1))) _:=EI.ups (d-(d-1)) (.cmp hoo ha1 ha2);rw[show d-1+(d-(d-1))=d by omega]at hei;exact QY hV hd Yiy hei hG2 hV2 (frp (frp hf0 (hf1.Jb hfu)) (frp hf3 hf2))
 all_goals obtain⟨e,rfl⟩:∃e,d=e+1:=⟨d-1,by omega⟩
 all_goals rw[FH]at hI hB hde
 .refine rx ?_;rw[hde];refine Jl (hB p _ _ hG0 hV0) ?_;rintro a1 w1 ⟨ha1,hl1,hG1,hV1,hf1⟩;refine rx ?_;refine Yen ?_;rw[hde];refine Jl (hB p _ _ hG1 hV1) ?_;rintro a2 w2 ⟨ha2,hl2,hG2,hV2,hf2⟩;refine rx ?_;refine Yen ?_;refine Yfw ?_;exact QY hV hd Yiy (.log (.inl rfl) ha1 ha2) hG2 hV2 (frp hf0 (frp hf1 hf2))
 .refine rx ?_;rw[hde];refine Jl (hB p _ _ hG0 hV0) ?_;rintro a1 w1 ⟨ha1,hl1,hG1,hV1,hf1⟩;refine rx ?_;refine Yen ?_;rw[hde];refine Jl (hB p _ _ hG1 hV1) ?_;rintro a2 w2 ⟨ha2,hl2,hG2,hV2,hf2⟩;refine rx ?_;refine Yen ?_;refine Yfw ?_;exact QY hV hd Yiy (.log (.inr rfl) ha1 ha2) hG2 hV2 (frp hf0 (frp hf1 hf2))
 .refine rx ?_;rw[hde];refine Jl (hB p _ _ hG0 hV0) ?_;rintro a1 w1 ⟨ha1,hl1,hG1,hV1,hf1⟩;refine rx ?_;refine Yes ?_;exact QY hV hd Yiy (.neg ha1) hG1 hV1 (frp hf0 hf1)
theorem Jht{V:List (List It)}(hV:∀v∈V,(rnd v).length<=16)(h0:0<V.length)(hV9:V.length<=1000):∀d:Nat,d<=4->JcQ 83 false V d/\JcQ 84 true V d
 |0,h=>by
  have hI:=Jkf hV h0 hV9 0 h Yhn Yhn;exact⟨hI,Jih hV 0 h hI Yhn⟩
 |d+1,h=>by
  obtain⟨hI,hB⟩:=Jht hV h0 hV9 d Yhn;exact⟨Jkf hV h0 hV9 (d+1) h (fun _=>hI) (fun _=>hB),Jih hV (d+1) h hI (fun _=>hB)⟩
end
section
attribute [local irreducible] Code.wp wpList Exit.then Exit.inBlock bodyPost A Calls execOp Addr.add
theorem Jis:∀(m:Nat),m<=1000->∀(t:Ty),tyD t<=m->∀(w:World) (S:List Nat) (cs:List Value),RD w S (tyC t) cs->Calls prog 215 #[.agg cs.toArray] w fun e w'=>e=.returned (iV (tyD t))/\Fr [] w w':=by
 intro m
 induction m with
 |zero=>intro _ t h;rw[JaG]at h;omega
 |succ m ih=>
  intro hm t ht w S cs hd;obtain⟨s,rfl,hk⟩:=tyR.1 hd;obtain⟨ao,c,rfl,_⟩:=hk.slice;have hbn:=hk.bound;have e:=JaG t;have hl:(t.kids.map tyC).length=t.kids.length:=Sr ..;refine enter func215 rfl ntmps215 rfl ?_;refine rx ?_;refine Gg rfl rfl (fun w1 hb1 hf1 hs1=>?_);refine rx ?_;refine Jh 5 [3,4] (σ:=Nat) (fun i g u=>g 3=iV (ZX (t.kids.take i))/\g 4=iV i/\i<=t.kids.length/\Fr [] w1 u) (fun i=>t.kids.length-i) 0 ⟨rfl,rfl,SL _,Fr.refl _ _⟩ ?_;rintro i g u ⟨h3,h4,hi,hfu⟩;rw[Ja h3,Ja h4];have hb1:=hb1.tr0 hfu;have hle:=Jbv t.kids i;by_cases hlt:i<t.kids.length
  case neg=>
   refine Yeo ?_;rw[SQ Yhn,e];exact⟨rfl,hf1.Jb hfu⟩
  obtain⟨ad,cs2,had,hr,hc⟩:=DR.at QT ((hk.tr0 hf1).tr0 hfu) hlt;subst had;have hr0:=hr;obtain⟨s2,rfl,hk2⟩:=tyR.1 hr;have hg:=Jbw hlt;have hg1:=U7 hlt;refine rx ?_;refine Jg (ih Yhn t.kids[i] Yhn u S _ hr0) ?_;rintro w2 hf2;refine rx ?_;refine Jab rfl rfl (r:=((ZX (t.kids.take (i+1)):Nat):Int)) Ykk ?_;refine rx ?_;exact Ygg
theorem Jgl:∀(m:Nat),m<=1000->∀(t:Ex),exD t<=m->∀(w:World) (S:List Nat) (cs:List Value),RD w S (exC t) cs->Calls prog 217 #[.agg cs.toArray] w fun e w'=>e=.returned (iV (exD t))/\Fr [] w w':=by
 intro m
 induction m with
 |zero=>intro _ t h;rw[XA]at h;omega
 |succ m ih=>
  intro hm t ht w S cs hd;obtain⟨s1,s2,s3,rfl,hk1,hk2,hk⟩:=exR.1 hd;obtain⟨ao1,c1,rfl,_⟩:=DR.slice (rows:=_) hk1;obtain⟨ao2,c2,rfl,_⟩:=hk2.slice;obtain⟨ao,c,rfl,_⟩:=hk.slice;have hbn:=hk.bound;have e:=XA t;have hl:(t.kids.map exC).length=t.kids.length:=Sr ..;refine enter func217 rfl ntmps217 rfl ?_;refine rx ?_;refine Gg rfl rfl (fun w1 hb1 hf1 hs1=>?_);refine rx ?_;refine Jh 5 [3,4] (σ:=Nat) (fun i g u=>g 3=iV (WH (t.kids.take i))/\g 4=iV i/\i<=t.kids.length/\Fr [] w1 u) (fun i=>t.kids.length-i) 0 ⟨rfl,rfl,SL _,Fr.refl _ _⟩ ?_;rintro i g u ⟨h3,h4,hi,hfu⟩;rw[Ja h3,Ja h4];have hb1:=hb1.tr0 hfu;have hle:=MI t.kids i;by_cases hlt:i<t.kids.length
  case neg=>
   refine Yeo ?_;rw[SQ Yhn,e];exact⟨rfl,hf1.Jb hfu⟩
  obtain⟨ad,cs2,had,hr,hc⟩:=DR.at Jq ((hk.tr0 hf1).tr0 hfu) hlt;subst had;have hr0:=hr;obtain⟨x1,x2,x3,rfl,hu1,hu2,hu3⟩:=exR.1 hr;have hg:=WA hlt;have hg1:=LJ hlt;refine rx ?_;refine Jg (ih Yhn t.kids[i] Yhn u S _ hr0) ?_;rintro w2 hf2;refine rx ?_;refine Jab rfl rfl (r:=((WH (t.kids.take (i+1)):Nat):Int)) Ykk ?_;refine rx ?_;exact Ygg
theorem Jje:∀(m:Nat),m<=1000->∀(t:Gn),gnD t<=m->∀(w:World) (S:List Nat) (cs:List Value),RD w S (gnC t) cs->Calls prog 219 #[.agg cs.toArray] w fun e w'=>e=.returned (iV (gnD t))/\Fr [] w w':=by
 intro m
 induction m with
 |zero=>intro _ t h;rw[Ja7]at h;omega
 |succ m ih=>
  intro hm t ht w S cs hd;obtain⟨s1,s2,s3,rfl,hk1,hk2,hk⟩:=gnR.1 hd;obtain⟨ao1,c1,rfl,_⟩:=hk1.slice;obtain⟨ao2,c2,rfl,_⟩:=hk2.slice;obtain⟨ao,c,rfl,_⟩:=hk.slice;have hbn:=hk.bound;have hbn2:=hk2.bound;have e:=Ja7 t;have hl:(t.kids.map gnC).length=t.kids.length:=Sr ..;have hl2:(t.args.map exC).length=t.args.length:=Sr ..;refine enter func219 rfl ntmps219 rfl ?_;refine rx ?_;refine Gg rfl rfl (fun w1 hb1 hf1 hs1=>?_);refine rx ?_;refine Jh 5 [3,4] (σ:=Nat) (fun i g u=>g 3=iV (X6 (t.kids.take i))/\g 4=iV i/\i<=t.kids.length/\Fr [] w1 u) (fun i=>t.kids.length-i) 0 ⟨rfl,rfl,SL _,Fr.refl _ _⟩ ?_;rintro i g u ⟨h3,h4,hi,hfu⟩;rw[Ja h3,Ja h4];have hb1:=hb1.tr0 hfu;have hle:=Jb5 t.kids i;by_cases hlt:i<t.kids.length
  case neg=>
   refine rx ?_;rw[SQ Yhn];refine Jh 6 [3,5] (σ:=Nat) (fun i g u2=>g 3=iV (max (X6 t.kids) (WH (t.args.take i)):Nat)/\g 5=iV i/\i<=t.args.length/\Fr [] u u2) (fun i=>t.args.length-i) 0 ⟨by simp[WH];rfl,rfl,SL _,Fr.refl _ _⟩ ?_;rintro j g2 u2 ⟨h3',h5,hj,hfu2⟩;rw[Ja h3',Ja h5];have hb1:=hb1.tr0 hfu2;have hle2:=MI t.args j;by_cases hlt2:j<t.args.length
   case neg=>
    refine Yeo ?_;rw[SQ Yhn,e];exact⟨rfl,(hf1.Jb hfu).Jb hfu2⟩
   obtain⟨ad,cs2,had,hr,hc⟩:=DR.at Jq (((hk2.tr0 hf1).tr0 hfu).tr0 hfu2) hlt2;subst had;have hr0:=hr;obtain⟨x1,x2,x3,rfl,hu1,hu2,hu3⟩:=exR.1 hr;have hg:=WA hlt2;have hg1:=LJ hlt2;refine rx ?_;refine Jg (Jgl m Yhn t.args[j] Yhn u2 S _ hr0) ?_;rintro w2 hf2;refine rx ?_;refine Jab rfl rfl (r:=((max (X6 t.kids) (WH (t.args.take (j+1))):Nat):Int)) Ykk ?_;refine rx ?_;exact Jc (j+1) Yhl ⟨rfl,rfl,by omega,hfu2.Jb hf2⟩ Yhn
  obtain⟨ad,cs2,had,hr,hc⟩:=DR.at KG ((hk.tr0 hf1).tr0 hfu) hlt;subst had;have hr0:=hr;obtain⟨x1,x2,x3,rfl,hu1,hu2,hu3⟩:=gnR.1 hr;have hg:=Jb6 hlt;have hg1:=Jax hlt;refine rx ?_;refine Jg (ih Yhn t.kids[i] Yhn u S _ hr0) ?_;rintro w2 hf2;refine rx ?_;refine Jab rfl rfl (r:=((X6 (t.kids.take (i+1)):Nat):Int)) Ykk ?_;refine rx ?_;exact Ygg
end
section
variable {T q : Nat} {u u' w0 : World}
attribute [local irreducible] Code.wp wpList Exit.then Exit.inBlock bodyPost A Calls execOp Addr.add
def ST (q b : Nat) (cells : List Value) (T : Nat) (w0 u : World) : Prop := FB u q /\ Fr [q] w0 u /\ Blk u b cells T
theorem ST.step {b : Nat} {cells : List Value} (h : ST q b cells T w0 u) (hb : b ≠ q) (h1 : FB u' q) (h2 : Fr [q] u u') : ST q b cells T w0 u' :=
  ⟨h1, h.2.1.trans h2 (fun x hx => .inl hx), h.2.2.tr h2 Yks⟩
theorem ST.step0 {b : Nat} {cells : List Value} (h : ST q b cells T w0 u) (h2 : Fr [] u u') : ST q b cells T w0 u' :=
  ⟨h.1.tr0 h2, h.2.1.Jb h2, h.2.2.tr0 h2⟩
theorem ST.sub {b : Nat} {cells : List Value} {w1 : World} (h : ST q b cells T w1 u) (hf : Fr [q] w0 w1) : ST q b cells T w0 u := ⟨h.1, hf.trans h.2.1 (fun x hx => .inl hx), h.2.2⟩
theorem Jc7 (k : Int) (nm : ByteArray) (n : Int) (a1 a2 a3 : Option Addr) (n1 c1 n2 c2 n3 c3 : Nat) (at_ : Int) (a b c : Bool) (w : World) : Calls prog 230 #[.agg ([iV k, .string nm, iV n, .slice a1 n1 c1, .slice a2 n2 c2, .slice a3 n3 c3, iV at_] : List Value).toArray, .bool a, .bool b, .bool c] w fun e w' => (∃ r : Bool, e = .returned (.bool r)) /\ Fr [] w w' := by
  refine enter func230 rfl ntmps230 rfl ?_;refine rx ?_;refine Gg rfl rfl (fun w1 hb1 hf1 hs1 => ?_);cases a <;> cases b <;> cases c
  all_goals
    (refine rx ?_; repeat' ((first | refine Vg rfl rfl (fun h => ?_) (fun h => ?_) | refine Vd rfl rfl (fun h => ?_) (fun h => ?_) | refine QZ rfl rfl (fun h => ?_) (fun h => ?_) | refine Vt rfl rfl (fun h => ?_) (fun h => ?_) | refine Ve rfl rfl (fun h => ?_) (fun h => ?_) | refine Vf rfl rfl (fun h => ?_) (fun h => ?_) | refine QB rfl rfl (fun h => ?_) (fun h => ?_) | refine Qv rfl rfl (fun h => ?_) (fun h => ?_) | refine WG rfl rfl (fun h => ?_) (fun h => ?_) | refine WY rfl rfl (fun h => ?_) (fun h => ?_)) <;> refine rx ?_))
    all_goals
      refine Yfw ?_;exact ⟨⟨_, rfl⟩, by assumption⟩
theorem U5 (k : Int) (nm : ByteArray) (a1 : Option Addr) (n1 c1 : Nat) (w : World) : Calls prog 212 #[.agg ([iV k, .string nm, .slice a1 n1 c1] : List Value).toArray] w fun e w' => (∃ r : Bool, e = .returned (.bool r)) /\ Fr [] w w' := by
  refine enter func212 rfl ntmps212 rfl ?_;exact Yw
theorem Nl (k : Int) (nm : ByteArray) (a1 a2 a3 : Option Addr) (n1 c1 n2 c2 n3 c3 : Nat) (at_ : Int) (w : World) : Calls prog 214 #[.agg ([iV k, .string nm, .slice a1 n1 c1, .slice a2 n2 c2, .slice a3 n3 c3, iV at_] : List Value).toArray] w fun e w' => (∃ r : Bool, e = .returned (.bool r)) /\ Fr [] w w' := by
  refine enter func214 rfl ntmps214 rfl ?_;exact Yw
theorem U6 (k : Int) (nm : ByteArray) (n : Int) (a1 a2 a3 : Option Addr) (n1 c1 n2 c2 n3 c3 : Nat) (at_ : Int) (w : World) : Calls prog 213 #[.agg ([iV k, .string nm, iV n, .slice a1 n1 c1, .slice a2 n2 c2, .slice a3 n3 c3, iV at_] : List Value).toArray] w fun e w' => (∃ r : Bool, e = .returned (.bool r)) /\ Fr [] w w' := by
  refine enter func213 rfl ntmps213 rfl ?_;refine rx ?_;refine Gg rfl rfl (fun w1 hb1 hf1 hs1 => ?_)
  (refine rx ?_; repeat' ((first | refine Vg rfl rfl (fun h => ?_) (fun h => ?_) | refine Vd rfl rfl (fun h => ?_) (fun h => ?_) | refine QZ rfl rfl (fun h => ?_) (fun h => ?_) | refine Vt rfl rfl (fun h => ?_) (fun h => ?_) | refine Ve rfl rfl (fun h => ?_) (fun h => ?_) | refine Vf rfl rfl (fun h => ?_) (fun h => ?_) | refine QB rfl rfl (fun h => ?_) (fun h => ?_) | refine Qv rfl rfl (fun h => ?_) (fun h => ?_) | refine WG rfl rfl (fun h => ?_) (fun h => ?_) | refine WY rfl rfl (fun h => ?_) (fun h => ?_)) <;> refine rx ?_))
  all_goals first
  | (refine s_call (Jc7 _ _ _ _ _ _ _ _ _ _ _ _ _ _ _ _ _) rfl ?_
     rintro _ w2 ⟨⟨r, rfl⟩, hf2⟩;refine ⟨_, rfl, ?_⟩;have hf3 := hf1.Jb hf2;refine Yeo ?_;exact ⟨⟨_, rfl⟩, hf3⟩)
  | ((apply Jc1; exact rfl; (conv => lhs; whnf))
     exact ⟨⟨_, rfl⟩, hf1⟩)
theorem JjX (s : ByteArray) (w : World) : Calls prog 231 #[.string s] w fun e w' => (∃ r : Nat, r <= 6 /\ e = .returned (iV r)) /\ Fr [] w w' := by
  obtain ⟨S, rfl⟩ : ∃ S, s = bst S := ⟨_, (Zx s).symm⟩;refine enter func231 rfl ntmps231 rfl ?_;refine rx ?_;refine Jh 4 [3] (σ := Nat) (fun i g u => g 3 = iV i /\ 1 <= i /\ i <= 7 /\ Fr [] w u) (fun i => 7 - i) 1 ⟨rfl, by omega, by omega, Fr.refl _ _⟩ ?_;rintro i g u ⟨h3, h1, h7, hfu⟩;rw [Ja h3];by_cases hlt : i < 7
  case neg =>
    by_cases hn : bst S = bst [110, 111, 116]
    all_goals
      refine Yeo ?_
    · exact ⟨⟨3, by omega, rfl⟩, hfu⟩
    · exact ⟨⟨0, by omega, rfl⟩, hfu⟩
  refine rx ?_;refine Jl (N9 i h1 Yhn u) ?_;rintro v w2 ⟨ho, hf2⟩;refine rx ?_;have hlen : (VN i).length <= 1000 := by
    have hk : i = 1 \/ i = 2 \/ i = 3 \/ i = 4 \/ i = 5 \/ i = 6 := by omega
    rcases hk with rfl | rfl | rfl | rfl | rfl | rfl <;> decide
  refine Jg (inC v (VN i) S w2 ho.src hlen) ?_;rintro w3 rfl;generalize (VN i).contains S = b;cases b with
  | true =>
    refine Yeo ?_;exact ⟨⟨i, by omega, rfl⟩, hfu.Jb hf2⟩
  | false =>
    refine rx ?_;exact Jc (i + 1) Yhl ⟨rfl, by omega, by omega, hfu.Jb hf2⟩ Yhn
end
end Go.Proofs.YtggmccicdhnkgaaGreat
namespace Go.Rf
open Go.RowKit
variable{K:Act->World->Prop}{f:Env}{Q:Exit->Act->World->Prop}{S:List Nat}{c k n nl:Nat}{P:Program}{w:World}
theorem JdY{R:Env->World->Prop}(h2:∀g w,R (mrg nl S f g) w->K (A n (mrg nl S f g)) w):∀g w,(Keep nl S f g/\R g w)->K (A n g) w:=fun g w ⟨hk,hR⟩=>by
 have e:=hk.eq;rw[e]at hR ⊢;exact h2 g w hR
theorem JaE{ops:Array Oper}{l:List Oper}(nl:Nat)(S:List Nat)(R:Env->World->Prop)
 (h1:wpList P ops (Exit.then (fun a w=>∃g,a=A n g/\(Keep nl S f g/\R g w)) Q) l (A n f) w) (h2:∀g w,R (mrg nl S f g) w->K (A n (mrg nl S f g)) w):wpList P ops (Exit.then K Q) l (A n f) w:=
 JjD (fun g w=>Keep nl S f g/\R g w) h1 (JdY h2)
theorem KZ{c:Code}(nl:Nat)(S:List Nat)(R:Env->World->Prop)
 (h1:c.wp P (Exit.then (fun a w=>∃g,a=A n g/\(Keep nl S f g/\R g w)) Q) (A n f) w) (h2:∀g w,R (mrg nl S f g) w->K (A n (mrg nl S f g)) w):c.wp P (Exit.then K Q) (A n f) w:=
 Qw (fun g w=>Keep nl S f g/\R g w) h1 (JdY h2)
theorem JK{f0:Env}{R:Env->World->Prop}(hk:Keep nl S f0 f)(h:R f w):Exit.then (fun a w=>∃g,a=A n g/\(Keep nl S f0 g/\R g w)) Q .normal (A n f) w:=⟨f,rfl,hk,h⟩
class KeyT (P:Program) (k:Nat) {α:Type} [DecidableEq α] (key:α->Value):Prop where
 now:∃d,P.underlying k=some d/\((∀a b,Instr.sameNow d (key a) (key b)=some (decide (a=b)))\/(∀a b,Instr.sameNow d (key a) (key b)=none))
 eqv:∀a b w,(Op.equal k (key a) (key b)).run P w=.ok (decide (a=b)) w
 chk:∀(e:Bool) a w,(Instr.checkKey e 10000 k (key a)).run P w=.ok () w
 same:∀a,Instr.sameBits 10000 (key a) (key a)=true
class MapT (P:Program) (t:Nat) (k e:outParam Nat):Prop where u:P.underlying t=some (.map k e)
section
variable{α β:Type}[DecidableEq α]
def getM:List (α×β)->α->Option β
 |[],_=>none
 |p::m,a=>if a=p.1 then some p.2 else getM m a
def VJ:List (α×β)->α->β->List (α×β)
 |[],a,v=>[(a,v)]
 |p::m,a,v=>if a=p.1 then(a,v)::m else p::VJ m a v
def Wv:List (α×β)->α->Nat->Option (Nat×β)
 |[],_,_=>none
 |p::m,a,i=>if a=p.1 then some (i,p.2) else Wv m a (i+1)
theorem Lu:∀(m:List (α×β)) (a:α) (i:Nat),(Wv m a i).map (·.2)=getM m a
 |[],a,i=>rfl
 |p::m,a,i=>by
  rw[Wv,getM]
  split
  .rfl
  .exact Lu m a (i+1)
theorem BD:∀{m:List (α×β)} {a:α} {i:Nat},Wv m a i=none↔a∉m.map Prod.fst
 |[],a,i=>by simp[Wv]
 |p::m,a,i=>by
  rw[Wv]
  split
  .rename_i h;simp[h]
  .rename_i h;rw[BD];simp[h]
theorem BA:∀{m:List (α×β)} {a:α} {i j:Nat} {v:β},Wv m a i=some (j,v)->i<=j/\m[j-i]?=some (a,v)/\∀v',VJ m a v'=m.set (j-i) (a,v')
 |[],a,i,j,v,h=>by simp[Wv]at h
 |p::m,a,i,j,v,h=>by
  rw[Wv]at h
  split at h
  .rename_i hp;simp only[Sj,Sz]at h;obtain⟨rfl,rfl⟩:=h;refine⟨SX _,by rw[DV,hp];rfl,fun v'=>by rw[DV,VJ,Cb hp];rfl⟩
  .rename_i hp;obtain⟨h1,h2,h3⟩:=BA h;obtain⟨q,hq⟩:∃q,j-i=q+1:=⟨j-i-1,by omega⟩;have hq':j-(i+1)=q:=by omega
   rw[hq']at h2 h3;rw[hq];exact⟨by omega,by simpa using h2,fun v'=>by rw[VJ,SH hp,h3];rfl⟩
theorem Gm{m:List (α×β)}{a:α}{v:β}(h:a∉m.map Prod.fst):VJ m a v=m++[(a,v)]:=by
 induction m with
 |nil=>rfl
 |cons p m ih=>
  simp only[DL,SC,IC]at h;rw[VJ,SH h.1,ih h.2];rfl
theorem Ld{m:List (α×β)}{a:α}{v:β}:(VJ m a v).map Prod.fst=if a∈m.map Prod.fst then m.map Prod.fst else m.map Prod.fst++[a]:=by
 induction m with
 |nil=>simp[VJ]
 |cons p m ih=>
  rw[VJ];by_cases h:a=p.1
  .simp [h]
  .rw [SH h,DL,ih];simp only[DL,SC,h,false_or]
   split<;>simp
theorem JaS{m:List (α×β)}{a:α}{v:β}(h:(m.map Prod.fst).Nodup):((VJ m a v).map Prod.fst).Nodup:=by
 rw[Ld]
 split
 .exact h
 .rename_i hn;rw[DW];exact⟨h,by simp,fun x hx y hy=>by rw[Sv]at hy;subst hy;exact fun e=>hn (e▸hx)⟩
theorem GK{m:List (α×β)}{a c:α}{v:β}:getM (VJ m a v) c=if c=a then some v else getM m c:=by
 induction m with
 |nil=>rfl
 |cons p m ih=>
  rw[VJ];by_cases h:a=p.1
  .rw [Cb h,getM,getM];by_cases hc:c=a
   .rw [Cb hc,Cb hc]
   .rw [SH hc,SH hc,SH (fun e=>hc (by rw[e,h]))]
  .rw [SH h,getM,getM,ih];by_cases hc:c=p.1
   .rw [Cb hc,SH (fun e=>h (by rw[<-e,hc])),Cb hc]
   .rw [SH hc,SH hc]
theorem getM_none{m:List (α×β)}{a:α}:getM m a=none↔a∉m.map Prod.fst:=by
 induction m with
 |nil=>simp[getM]
 |cons p m ih=>
  rw[getM];by_cases h:a=p.1
  .simp [h]
  .rw [SH h,ih];simp[h]
theorem Jll{m:List (α×β)}(hn:(m.map Prod.fst).Nodup){a:α}{v:β}:getM m a=some v↔(a,v)∈m:=by
 induction m with
 |nil=>simp[getM]
 |cons p m ih=>
  simp only[DL,EF]at hn;rw[getM];by_cases h:a=p.1
  .rw [Cb h];constructor
   .intro e;cases e;rw[h];simp
   .intro hm;rcases SC.1 hm with e|hm
    .rw [<-e]
    .exact absurd (Du.2 ⟨_,hm,h⟩) hn.1
  .rw [SH h,ih hn.2];simp only[SC];constructor
   .exact .inr
   .rintro (e|hm)
    .exact absurd (by rw[<-e]) h
    .exact hm
end
/-! ### a map in memory -/
section
variable{α β:Type}
def ents(key:α->Value)(val:β->Value):List (α×β)->List Nat->List MapEntry
 |p::m,n::ns=>⟨key p.1,val p.2,n⟩::ents key val m ns
 |_,_=>[]
theorem Jci(key:α->Value)(val:β->Value):∀{m:List (α×β)} {ns:List Nat},ns.length=m.length->(ents key val m ns).length=m.length
 |[],[],_=>rfl
 |[],n::ns,h=>by simp at h
 |p::m,[],h=>by simp at h
 |p::m,n::ns,h=>by simp only[ents,SI];rw[Jci key val Yil]
theorem UG(key:α->Value)(val:β->Value):∀{m:List (α×β)} {ns:List Nat} {i:Nat} {p:α×β} {n:Nat},m[i]?=some p->ns[i]?=some n->(ents key val m ns)[i]?=some ⟨key p.1,val p.2,n⟩
 |[],ns,i,p,n,h,_=>by simp at h
 |q::m,[],i,p,n,_,h=>by simp at h
 |q::m,k::ns,0,p,n,h1,h2=>by
  simp only[Ep,Sj]at h1 h2;subst h1 h2;rfl
 |q::m,k::ns,i+1,p,n,h1,h2=>by
  simp only[DX]at h1 h2;simpa[ents]using UG key val h1 h2
theorem LK(key:α->Value)(val:β->Value):∀{m:List (α×β)} {ns:List Nat} {p:α×β} {n:Nat},ns.length=m.length->ents key val (m++[p]) (ns++[n])=ents key val m ns++[⟨key p.1,val p.2,n⟩]
 |[],[],p,n,_=>rfl
 |[],k::ns,p,n,h=>by simp at h
 |q::m,[],p,n,h=>by simp at h
 |q::m,k::ns,p,n,h=>by simp only[CQ,ents];rw[LK key val Yil]
theorem Jch(key:α->Value)(val:β->Value)(a:α)(v:β):∀{m:List (α×β)} {ns:List Nat} {i:Nat},ns.length=m.length->(ents key val m ns).modify i (fun e=>{e with key:=key a,val:=val v})=ents key val (m.set i (a,v)) ns
 |[],[],i,_=>by simp[ents]
 |[],k::ns,i,h=>by simp at h
 |q::m,[],i,h=>by simp at h
 |q::m,k::ns,0,h=>by simp[ents]
 |q::m,k::ns,i+1,h=>by
  simp only[ents,Hl,Ie];rw[Jch key val a v Yil]
end
section
variable{α β:Type}
def Mp(key:α->Value)(val:β->Value)(w:World)(b:Nat)(m:List (α×β)):Prop:=
 ∃ns clock,ns.length=m.length/\w.heap[b]?=some (.map (ents key val m ns).toArray clock)/\(m.map Prod.fst).Nodup/\ns.Nodup/\∀n∈ns,n<clock
variable{key:α->Value}{val:β->Value}{w w':World}{b:Nat}{m:List (α×β)}
theorem Mp.lt(h:Mp key val w b m):b<w.heap.size:=by
 obtain⟨ns,c,_,h,_⟩:=h;exact(DI.1 h).1
theorem Mp.tr(h:Mp key val w b m)(hf:Fr S w w')(hS:b∉S):Mp key val w' b m:=by
 have hl:=h.lt;exact Ydi
theorem Mp.tr0(h:Mp key val w b m)(hf:Fr [] w w'):Mp key val w' b m:=h.tr hf Yhs
theorem Mp.nd(h:Mp key val w b m):(m.map Prod.fst).Nodup:=by obtain⟨ns,c,_,_,h,_⟩:=h;exact h
theorem Mp.ne{l:List Value}{t:Nat}(h:Mp key val w b m)(hb:Blk w c l t):b≠c:=by
 intro e;subst e;obtain⟨ns,c,_,h,_⟩:=h;unfold Blk at hb;rw[h]at hb;cases hb
section
variable{P:Program}{ops:Array Oper}{Q:Exit->Act->World->Prop}{rest:List Oper}{n:Nat}{f:Env}{D:Dfs}
variable{d:Nat}{d':Option Nat}{ty:TypeId}{ps:String}{af:Array Edge}{gd:Option (Nat×Bool)}{x y z:Operand}{t k e:Nat}
theorem Kt(h:∀w',Mp key val w' w.heap.size ([]:List (α×β))->Fr [] w w'->w'.heap.size=w.heap.size+1->wpList P ops Q rest (A n (upd f d (.map (some w.heap.size)))) w'):
 wpList P ops Q (⟨some d,.makeMap t none,ty,ps,af,none⟩::rest) (A n f) w:=by
 refine JR (w':=w.alloc (.map #[] 0)) (v:=.map (some w.heap.size)) ?_ (h _ ⟨[],0,rfl,(MapKept.heap_alloc w _).1,by simp,by simp,by simp⟩ (Fr.alloc _ _ _) Yhs);simp only[execOp,Instr.makeMap,newObj,Iw];rfl
theorem JfF{b:Nat}[T:MapT P t k e](hx:ev n f x=.map (some b))(hm:Mp key val w b m):
 (execOp (ev n f) ⟨some d,.call {callee:=.builtin .len,args:=#[x],argTypes:=#[t]},ty,ps,af,gd⟩).run P w=.ok (.value (iV (m.length:Nat))) w:=by
 obtain⟨ns,c,h1,h2,_⟩:=hm;simp[execOp,resolve,invoke,builtin,Builtin.len_,run_underlying T.u,hx,goInt,MapKept.run_getObj_map h2,Jci key val h1]
theorem G7{b:Nat}[T:MapT P t k e](hx:ev n f x=.map (some b))(hm:Mp key val w b m)(h:wpList P ops Q rest (A n (upd f d (iV (m.length:Nat)))) w):
 wpList P ops Q (⟨some d,.call {callee:=.builtin .len,args:=#[x],argTypes:=#[t]},ty,ps,af,none⟩::rest) (A n f) w:=JR (JfF hx hm) h
end
variable[DecidableEq α]
theorem Jca{d:TypeDesc}(hd:∀a b,Instr.sameNow d (key a) (key b)=some (decide (a=b)))(a:α):∀{m:List (α×β)} {ns:List Nat} {i:Nat},ns.length=m.length->Instr.findNow d (key a) (ents key val m ns) i=some ((Wv m a i).map fun p=>(p.1,val p.2))
 |[],[],i,_=>rfl
 |[],n::ns,i,h=>by simp at h
 |p::m,[],i,h=>by simp at h
 |p::m,n::ns,i,h=>by
  rw[ents,Instr.findNow,Wv,hd];by_cases e:a=p.1
  .rw [Cb e,SN e];rfl
  .rw [SH e,SG e];exact Jca hd a Yil
theorem Jcb(hd:∀a b w,(Op.equal k (key a) (key b)).run P w=.ok (decide (a=b)) w)(a:α):∀{m:List (α×β)} {ns:List Nat} {i:Nat},ns.length=m.length->(Instr.findAsking k (key a) (ents key val m ns) i).run P w=.ok ((Wv m a i).map fun p=>(p.1,val p.2)) w
 |[],[],i,_=>rfl
 |[],n::ns,i,h=>by simp at h
 |p::m,[],i,h=>by simp at h
 |p::m,n::ns,i,h=>by
  rw[ents,Instr.findAsking,Wv];simp only[Sem.run_bind,hd,Result.andThen_ok];by_cases e:a=p.1
  .rw [Cb e,Cb (SN e)];rfl
  .rw [SH e,SH (by simpa using e)];exact Jcb hd a Yil
theorem UC[K:KeyT P k key](a:α){ns:List Nat}(h:ns.length=m.length):(Instr.findKey k (key a) (ents key val m ns)).run P w=.ok ((Wv m a 0).map fun p=>(p.1,val p.2)) w:=by
 obtain⟨d,hd,hn⟩:=K.now;unfold Instr.findKey;simp only[Sem.run_bind,run_underlying hd,Result.andThen_ok];rcases hn with hn|hn
 .rw [Jca hn a h];rfl
 .cases m with
  |nil=>
   cases ns with
   |nil=>rfl
   |cons n ns=>simp at h
  |cons p m=>
   cases ns with
   |nil=>simp at h
   |cons n ns=>
    have:Instr.findNow d (key a) (ents key val (p::m) (n::ns)) 0=none:=by rw[ents,Instr.findNow,hn]
    rw[this];exact Jcb K.eqv a h
section
variable{P:Program}{ops:Array Oper}{Q:Exit->Act->World->Prop}{rest:List Oper}{n:Nat}{f:Env}{D:Dfs}
variable{d:Nat}{d':Option Nat}{ty:TypeId}{ps:String}{af:Array Edge}{gd:Option (Nat×Bool)}{x y z:Operand}{t k e:Nat}
theorem Jc3{b:Nat}{a:α}{ok:Bool}[T:MapT P t k e][K:KeyT P k key]{zv:Value}[Z:ZeroT P e zv](hx:ev n f x=.map (some b))(hy:ev n f y=key a)(hm:Mp key val w b m):
 (execOp (ev n f) ⟨some d,.lookup t x y ok,ty,ps,af,gd⟩).run P w=.ok (.value (match getM m a with|some v=>if ok then .tuple #[val v,.bool true] else val v|none=>if ok then .tuple #[zv,.bool false] else zv)) w:=by
 obtain⟨ns,c,h1,h2,_⟩:=hm;obtain⟨i,hi,hz⟩:=Z.z;have hf:=UC (P:=P) (k:=k) (w:=w) (key:=key) (val:=val) a h1;simp only[execOp,Instr.lookup,Sem.run_bind,run_underlying T.u,hx,hy,Result.andThen_ok,Sem.run_pure,MapKept.run_getObj_map h2,K.chk];rw[hf];rw[<-Lu m a 0];cases hl:Wv m a 0 with
 |none=>cases ok<;>simp[zeroValue,typeInfo,hi,hz]
 |some p=>cases ok<;>simp
theorem Uo{o:Obj}{b:Nat}{es:Array MapEntry}(h:w.heap[b]?=some (.map es c)):Fr [b] w (ChangeMaps.setBlock w b o)/\(ChangeMaps.setBlock w b o).heap[b]?=some o:=by
 have hl:=(DI.1 h).1;refine⟨⟨rfl,rfl,rfl,by simp[ChangeMaps.setBlock],fun i _ hi=>?_,SX _⟩,?_⟩
 .have:¬b=i:=fun e=>hi (by rw[e];simp)
  simp[ChangeMaps.setBlock,EY,this]
 .simp [ChangeMaps.setBlock,EY,hl]
theorem JcZ{b:Nat}{a:α}{v:β}[T:MapT P t k e][K:KeyT P k key](hm:Mp key val w b m):
 ∃w',(Instr.mapUpdate t (.map (some b)) (key a) (val v)).run P w=.ok () w'/\Mp key val w' b (VJ m a v)/\Fr [b] w w'/\w'.heap.size=w.heap.size:=by
 obtain⟨ns,c,h1,h2,h3,h4,h5⟩:=hm;have hf:=UC (P:=P) (k:=k) (w:=w) (key:=key) (val:=val) a h1;cases hl:Wv m a 0 with
 |none=>
  rw[hl]at hf;have hnm:=BD.1 hl;have hs:=Uo (o:=.map (ents key val (m++[(a,v)]) (ns++[c])).toArray (c+1)) h2;refine⟨_,?_,⟨ns++[c],c+1,by simp[Gm hnm,h1],?_,JaS h3,?_,?_⟩,hs.1,by simp[ChangeMaps.setBlock]⟩
  .simp only[Instr.mapUpdate,Sem.run_bind,run_underlying T.u,Result.andThen_ok,MapKept.run_getObj_map h2,K.chk];rw[hf];simp only[Iw,Result.andThen_ok,MapKept.run_setObj_map _ h2];rw[LK key val h1];simp[ChangeMaps.setBlock]
  .rw [Gm hnm];exact hs.2
  .rw [DW];exact Ycw
  .intro q hq;exact Ydf
 |some p=>
  obtain⟨j,v0⟩:=p;rw[hl]at hf;obtain⟨_,g1,g2⟩:=BA hl;rw[EJ]at g1 g2;have hjl:j<m.length:=(Df.1 g1).1;have hs:=Uo (o:=.map (ents key val (m.set j (a,v)) ns).toArray c) h2;have hge:=UG key val (i:=j) g1 (Dc (show j<ns.length by omega));refine⟨_,?_,⟨ns,c,by rw[g2];simp[h1],?_,JaS h3,h4,h5⟩,hs.1,by simp[ChangeMaps.setBlock]⟩
  .simp only[Instr.mapUpdate,Sem.run_bind,run_underlying T.u,Result.andThen_ok,MapKept.run_getObj_map h2,K.chk];rw[hf];simp only[EO,Result.andThen_ok,Sem.run_bind,EX,hge,E8,Instr.keyThatStays,K.same,CX,Sem.run_pure,MapKept.run_setObj_map _ h2];rw[<-Jch key val a v h1];simp[ChangeMaps.setBlock]
  .rw [g2];exact hs.2
theorem BX{b:Nat}{a:α}{v:β}[T:MapT P t k e][K:KeyT P k key](hm:Mp key val w b m)(hx:ev n f x=.map (some b))(hy:ev n f y=key a)(hz:ev n f z=val v)
 (h:∀w',Mp key val w' b (VJ m a v)->Fr [b] w w'->w'.heap.size=w.heap.size->wpList P ops Q rest (A n (Jei f d' undef)) w'):
 wpList P ops Q (⟨d',.mapUpdate t x y z,ty,ps,af,none⟩::rest) (A n f) w:=by
 obtain⟨w',hr,h1,h2,h3⟩:=JcZ (P:=P) (t:=t) (a:=a) (v:=v) hm;refine X8 (w':=w') ?_ (h w' h1 h2 h3);simp[execOp,hx,hy,hz,hr,Result.andThen]
end
end
/-! ### keys that are strings -/
theorem LM(a b:ByteArray):(a==b)=decide (a=b):=by
 by_cases h:a=b
 .rw [SN h];exact(MapKept.bytes_beq a b).2 h
 .rw [SG h];cases hb:a==b
  .rfl
  .exact absurd ((MapKept.bytes_beq a b).1 hb) h
theorem JhD(h:P.underlying k=some .string)(a b:ByteArray)(w:World):(Op.equal k (.string a) (.string b)).run P w=.ok (decide (a=b)) w:=by
 have e:=LM a b;show(Op.equalIn (9999+1) k _ _).run P w=_;rw[Op.equalIn];simp only[Sem.run_bind,run_underlying h,Result.andThen_ok,Sem.run_pure,e]
instance keyStr{P:Program}{k:Nat}[S:StrT P k]:KeyT P k Value.string where
 now:=⟨_,S.u,.inl fun a b=>by
  have e:=LM a b;simp[Instr.sameNow,e]⟩
 eqv:=JhD S.u
 chk:=fun e a w=>by
  show(Instr.checkKey e (9999+1) k (.string a)).run P w=_;rw[Instr.checkKey];simp only[Sem.run_bind,run_underlying S.u,Result.andThen_ok];rfl
 same:=fun a=>by
  show Instr.sameBits (9999+1) _ _=true;rw[Instr.sameBits];exact(MapKept.bytes_beq a a).2 rfl
end Go.Rf
