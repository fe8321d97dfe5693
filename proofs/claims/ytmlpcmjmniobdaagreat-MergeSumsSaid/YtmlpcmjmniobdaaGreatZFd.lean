/-
 The reference's Faults:types,parameters.
-/
import Derived.Test.YtmlpcmjmniobdaaGreatZQl
import Derived.Test.YtmlpcmjmniobdaaGreatZPe
import Derived.Test.YtmlpcmjmniobdaaGreatZQe
import Derived.Test.YtmlpcmjmniobdaaGreatZMp
set_option linter.all false
set_option maxHeartbeats 64000000
namespace Go.Rf
open Go.RowKit
variable{l:List Ex}{i q:Nat}
theorem tyD_eq(t:Ty):tyD t=tyDs t.kids+1:=by cases t;rfl
theorem exD_eq(t:Ex):exD t=exDs t.kids+1:=by cases t;rfl
theorem gnD_eq(t:Gn):gnD t=max (gnDs t.kids) (exDs t.args)+1:=by cases t;rfl
theorem tyDs_app(a b:List Ty):tyDs (a++b)=max (tyDs a) (tyDs b):=by
 induction a with
 |nil=>simp[tyDs]
 |cons x a ih=>simp only[List.cons_append,tyDs,ih];omega
theorem exDs_app(a b:List Ex):exDs (a++b)=max (exDs a) (exDs b):=by
 induction a with
 |nil=>simp[exDs]
 |cons x a ih=>simp only[List.cons_append,exDs,ih];omega
theorem gnDs_app(a b:List Gn):gnDs (a++b)=max (gnDs a) (gnDs b):=by
 induction a with
 |nil=>simp[gnDs]
 |cons x a ih=>simp only[List.cons_append,gnDs,ih];omega
theorem tyDs_take{l:List Ty}(h:i<l.length):tyDs (l.take (i+1))=max (tyDs (l.take i)) (tyD l[i]):=by
 rw[List.take_succ_eq_append_getElem h,tyDs_app];simp[tyDs]
theorem exDs_take(h:i<l.length):exDs (l.take (i+1))=max (exDs (l.take i)) (exD l[i]):=by
 rw[List.take_succ_eq_append_getElem h,exDs_app];simp[exDs]
theorem gnDs_take{l:List Gn}(h:i<l.length):gnDs (l.take (i+1))=max (gnDs (l.take i)) (gnD l[i]):=by
 rw[List.take_succ_eq_append_getElem h,gnDs_app];simp[gnDs]
theorem tyDs_get{l:List Ty}(h:i<l.length):tyD l[i]<=tyDs l:=by
 have h1:=tyDs_take h;have h2:=tyDs_app (l.take (i+1)) (l.drop (i+1));rw[List.take_append_drop]at h2;omega
theorem exDs_get(h:i<l.length):exD l[i]<=exDs l:=by
 have h1:=exDs_take h;have h2:=exDs_app (l.take (i+1)) (l.drop (i+1));rw[List.take_append_drop]at h2;omega
theorem gnDs_get{l:List Gn}(h:i<l.length):gnD l[i]<=gnDs l:=by
 have h1:=gnDs_take h;have h2:=gnDs_app (l.take (i+1)) (l.drop (i+1));rw[List.take_append_drop]at h2;omega
theorem tyDs_takele(l:List Ty)(i:Nat):tyDs (l.take i)<=tyDs l:=by
 have h2:=tyDs_app (l.take i) (l.drop i);rw[List.take_append_drop]at h2;omega
theorem exDs_takele(l:List Ex)(i:Nat):exDs (l.take i)<=exDs l:=by
 have h2:=exDs_app (l.take i) (l.drop i);rw[List.take_append_drop]at h2;omega
theorem gnDs_takele(l:List Gn)(i:Nat):gnDs (l.take i)<=gnDs l:=by
 have h2:=gnDs_app (l.take i) (l.drop i);rw[List.take_append_drop]at h2;omega
theorem fr_new{a b:World}(h:Fr [] a b):Fr [q] a b:=h.mono Yhs
end Go.Rf
namespace Go.Proofs.YtmlpcmjmniobdaaGreat
open Go.Proofs.Tryz
open Go.Rf Go.RowKit
variable{q:Nat}{w w':World}
attribute [local irreducible] Code.wp wpList Exit.then Exit.inBlock bodyPost A Calls execOp Addr.add
def FB(w:World)(q:Nat):Prop:=∃b1 b2 b3:Bool,Blk w q [.bool false,.bool b1,.bool b2,.bool b3] 106
theorem FB.tr{T:List Nat}(h:FB w q)(hf:Fr T w w')(hq:q∉T):FB w' q:=by
 obtain⟨b1,b2,b3,h⟩:=h;exact⟨b1,b2,b3,h.tr hf hq⟩
theorem FB.tr0(h:FB w q)(hf:Fr [] w w'):FB w' q:=h.tr hf Yhs
theorem FB.lt(h:FB w q):q<w.heap.size:=by
 obtain⟨b1,b2,b3,h⟩:=h;exact h.lt
def FC(q:Nat)(w:World)(e:Ending)(w':World):Prop:=e=.returned (.tuple #[])/\FB w' q/\Fr [q] w w'
theorem argC(q:Nat)(b:Bool)(w:World)(h:FB w q):Calls prog 120 #[.pointer (some ⟨q,0,none⟩),.bool b] w (FC q w):=by
 obtain⟨b1,b2,b3,hB⟩:=h;refine enter func120 rfl ntmps120 rfl ?_;refine rx ?_;cases b1<;>refine rx ?_
 all_goals
  ((with_reducible apply s_storeB);exact rfl;(conv=>lhs;whnf);exact rfl;exact hB;exact rfl)
  intro w1 h1 hf1 hs1;refine rx ?_;exact end0 rfl ⟨rfl,⟨_,_,_,h1⟩,hf1⟩
theorem mostC(q:Nat)(n:Nat)(w:World)(h:FB w q)(hn:ltN 16 n=false):Calls prog 121 #[.pointer (some ⟨q,0,none⟩),iV n] w (FC q w):=by
 obtain⟨b1,b2,b3,hB⟩:=h;have hn:n<=16:=by
  rcases Nat.lt_or_ge 16 n with h|h
  .simp only[ltN]at hn;rw[blt_yes h]at hn;cases hn
  .exact h
 exact Ymf
theorem numberC(q:Nat)(n m:Int)(w:World)(h:FB w q):Calls prog 125 #[.pointer (some ⟨q,0,none⟩),iV n,iV m] w (FC q w):=by
 obtain⟨b1,b2,b3,hB⟩:=h;refine enter func125 rfl ntmps125 rfl ?_;refine rx ?_;cases b3<;>(refine rx ?_;repeat' ((first|refine s_eql rfl rfl (fun h=>?_) (fun h=>?_)|refine s_neq rfl rfl (fun h=>?_) (fun h=>?_)|refine s_lss rfl rfl (fun h=>?_) (fun h=>?_)|refine s_leq rfl rfl (fun h=>?_) (fun h=>?_)|refine s_gtr rfl rfl (fun h=>?_) (fun h=>?_)|refine s_geq rfl rfl (fun h=>?_) (fun h=>?_)|refine s_eqlE rfl rfl (fun h=>?_) (fun h=>?_)|refine s_neqE rfl rfl (fun h=>?_) (fun h=>?_)|refine s_lssS rfl rfl (fun h=>?_) (fun h=>?_)|refine s_gtrS rfl rfl (fun h=>?_) (fun h=>?_))<;>refine rx ?_))
 all_goals
  ((with_reducible apply s_storeB);exact rfl;(conv=>lhs;whnf);exact rfl;exact hB;exact rfl)
  intro w1 h1 hf1 hs1;refine rx ?_;exact end0 rfl ⟨rfl,⟨_,_,_,h1⟩,hf1⟩
theorem tokensAny(s:ByteArray)(w:World):Calls prog 23 #[.string s] w fun e w'=>∃v a er,e=.returned (.tuple #[v,iV a,iV er])/\TokR w w' (lexF s.data.toList) v a er:=by
 rw[<-bst_data s];by_cases hl:s.data.toList.length<=1000000000000
 .have:=tokensP s.data.toList w hl
  rwa [bst_data]at this ⊢
 have hsz:=bst_size s.data.toList;refine enter func23 rfl ntmps23 rfl ?_;rw[bst_data];unfold lexF;have h8:8192<s.data.toList.length:=by omega
 rw[if_pos h8];rw[bst_data]at hsz;exact Ycp
theorem namedC(q:Nat)(s:ByteArray)(k:Nat)(w:World)(h:FB w q):Calls prog 119 #[.pointer (some ⟨q,0,none⟩),.string s,iV k] w (FC q w):=by
 have hq:=h.lt;refine enter func119 rfl ntmps119 rfl ?_;refine rx ?_;refine s_call (tokensAny s w) rfl ?_;rintro _ w1 ⟨v,a,er,rfl,hf1,hr⟩;refine⟨_,rfl,?_⟩;have h:=h.tr0 hf1;obtain⟨b1,b2,b3,hB⟩:=h;cases hl:lexF s.data.toList with
 |error x=>
  rw[hl]at hr;obtain⟨rfl,rfl⟩:=hr;cases b2
  all_goals
   refine rx ?_;repeat' ((first|refine s_eql rfl rfl (fun h=>?_) (fun h=>?_)|refine s_neq rfl rfl (fun h=>?_) (fun h=>?_)|refine s_lss rfl rfl (fun h=>?_) (fun h=>?_)|refine s_leq rfl rfl (fun h=>?_) (fun h=>?_)|refine s_gtr rfl rfl (fun h=>?_) (fun h=>?_)|refine s_geq rfl rfl (fun h=>?_) (fun h=>?_)|refine s_eqlE rfl rfl (fun h=>?_) (fun h=>?_)|refine s_neqE rfl rfl (fun h=>?_) (fun h=>?_)|refine s_lssS rfl rfl (fun h=>?_) (fun h=>?_)|refine s_gtrS rfl rfl (fun h=>?_) (fun h=>?_))<;>refine rx ?_)
   all_goals
    ((with_reducible apply s_storeB);exact rfl;(conv=>lhs;whnf);exact rfl;exact hB;exact rfl)
    intro w2 h2 hf2 hs2;refine rx ?_;exact Ygc
 |ok l=>
  rw[hl]at hr;obtain⟨ho,hb,rfl,rfl⟩:=hr;obtain⟨ao,c,rfl⟩:=ho.slice;cases b2 with
  |true=>
   refine rx ?_
   ((with_reducible apply s_storeB);exact rfl;(conv=>lhs;whnf);exact rfl;exact hB;exact rfl)
   intro w2 h2 hf2 hs2;refine rx ?_;exact Ygc
  |false=>
  by_cases h1:l.length=1
  case neg=>
   refine rx ?_
   ((with_reducible apply s_storeB);exact rfl;(conv=>lhs;whnf);exact rfl;exact hB;exact rfl)
   intro w2 h2 hf2 hs2;refine rx ?_;exact Ygc
  obtain⟨t,rfl⟩:=List.length_eq_one_iff.1 h1;obtain⟨ad,had,hc0⟩:=src_at (j:=0) (u:=iV t.kind) ho.src rfl;subst had;have hC:Cells w1 (ad.add (0*4)) [iV t.kind,iV t.at_,iV t.n,.string (bst t.text)]:=(Cells.ofSrc ho.src).sub 0 4;refine rx ?_;refine s_indexAddr (j:=0) rfl rfl rfl Yhs rfl ?_;by_cases hk:(t.kind:Int)=k
  case neg=>
   refine rx ?_
   ((with_reducible apply s_storeB);exact rfl;(conv=>lhs;whnf);exact rfl;exact hB;exact rfl)
   intro w2 h2 hf2 hs2;refine rx ?_;exact Ygc
  refine rx ?_;refine s_indexAddr (j:=0) rfl rfl rfl Yhs rfl ?_;by_cases hs:bst t.text=s
  case neg=>
   refine rx ?_
   ((with_reducible apply s_storeB);exact rfl;(conv=>lhs;whnf);exact rfl;exact hB;exact rfl)
   intro w2 h2 hf2 hs2;refine rx ?_;exact Ygc
  refine rx ?_;refine s_c1 (reservedC w1) ?_;rintro v w2 ⟨ho2,hf2⟩;have hB:=hB.tr0 hf2;refine rx ?_;subst hs;refine s_cE (inC v resv t.text w2 ho2.src Yhy) ?_;rintro w3 rfl;refine rx ?_
  ((with_reducible apply s_storeB);exact rfl;(conv=>lhs;whnf);exact rfl;exact hB;exact rfl)
  intro w3 h3 hf3 hs3;refine rx ?_;exact end0 rfl ⟨rfl,⟨_,_,_,h3⟩,(fr_new (hf1.trans0 hf2)).trans hf3 (fun x hx=>.inl hx)⟩
end Go.Proofs.YtmlpcmjmniobdaaGreat
namespace Go.Rf
open Go.RowKit
variable{n:Nat}{w:World}
theorem s_max{D:Dfs}{P:Program}{ops:Array Oper}{Q:Exit->Act->World->Prop}{rest:List Oper}{f:Env}{d:Nat}{ty:TypeId}{ps:String}{af:Array Edge}{x y:Operand}
 {k:IntKind} {a b r:Int} {at_:Array TypeId} (hx:ev n f x=.int k a) (hy:ev n f y=.int k b) (hr:(if a<b then b else a)=r) (h:wpList P ops Q rest (A n (upd f d (.int k r))) w):
 wpList P ops Q (⟨some d,.call {callee:=.builtin .max,args:=#[x,y],argTypes:=at_},ty,ps,af,none⟩::rest) (A n f) w:=by
 refine s_run (v:=.int k r) (w':=w) ?_ h;subst hr;by_cases hlt:a<b<;>simp[execOp,resolve,invoke,builtin,Builtin.max_,Builtin.max2,hx,hy,hlt]
end Go.Rf
namespace Go.Proofs.YtmlpcmjmniobdaaGreat
open Go.Proofs.Tryz
open Go.Rf Go.RowKit
section
variable{n p:Nat}{x:Value}{w w':World}
attribute [local irreducible] Code.wp wpList Exit.then Exit.inBlock bodyPost A Calls execOp Addr.add
theorem gNumber(p:Nat)(m:Int)(w:World)(h:GW w p)(hm:0<=m)(hm9:m<=9):
 Calls prog 28 #[.pointer (some ⟨p,0,none⟩),iV m] w fun e w'=>∃k:Nat,e=.returned (.string (bst (dg k)))/\(k:Int)<=m/\GW w' p/\Fr [p] w w':=by
 refine enter func28 rfl ntmps28 rfl ?_;refine rx ?_;refine s_c1 (gNext p _ w h Yhn) ?_;rintro k w1 ⟨hk0,hk,hg,hf⟩;obtain⟨j,rfl⟩:∃j:Nat,k=(j:Int):=⟨k.toNat,by omega⟩;refine rx ?_;refine s_cE (decimal1 j w1 Yhn) ?_;rintro _ rfl;refine Yeo ?_;exact⟨j,rfl,by omega,hg,hf⟩
def VsIn(w:World)(x:Value)(p:Nat)(V:List (List It)):Prop:=Src w x V.length (V.map fun v=>.string (bst (rnd v)))/\Off x (V.map fun v=>Value.string (bst (rnd v))) [p]
theorem VsIn.tr{V:List (List It)}(h:VsIn w x p V)(hf:Fr [p] w w'):VsIn w' x p V:=⟨h.1.tr hf h.2,h.2⟩
theorem VsIn.tr0{V:List (List It)}(h:VsIn w x p V)(hf:Fr [] w w'):VsIn w' x p V:=⟨h.1.tr0 hf,h.2⟩
theorem GW.tr0(h:GW w p)(hf:Fr [] w w'):GW w' p:=by
 obtain⟨x,l,i,hb,hs,ho,hl⟩:=h;exact⟨x,l,i,hb.tr0 hf,hs.tr0 hf,ho,hl⟩
theorem GW.off{e k c:Nat}{ys:List Value}(h:GW w p)(ho:Own w' e 1 (.slice (some ⟨w.heap.size,0,none⟩) k c) n ys)(hn:n=n):Off (.slice (some ⟨w.heap.size,0,none⟩) k c) ys [p]:=by
 obtain⟨x,l,i,hb,hs,_,hl⟩:=h;intro ad n c e _ hm;simp only[Value.slice.injEq,Option.some.injEq]at e;obtain⟨rfl,_⟩:=e;have:=hb.lt;simp only[List.mem_singleton]at hm;omega
def GenC(fid:Nat)(b:Bool)(V:List (List It))(d:Nat):Prop:=∀(p:Nat) (x:Value) (w:World),GW w p->VsIn w x p V->
 Calls prog fid #[.pointer (some ⟨p,0,none⟩),x,iV d] w fun e w'=>∃a,e=.returned (.string (bst (rnd a)))/\EI V b d a/\(rnd a).length<=100000/\GW w' p/\VsIn w' x p V/\Fr [p] w w'
theorem ei_len{V:List (List It)}(hV:∀v∈V,(rnd v).length<=16){b:Bool}{d:Nat}(hd:d<=4){a:List It}(h:EI V b d a):(rnd a).length<=100000:=by
 refine Nat.le_trans (h.len hV) ?_;have:d=0\/d=1\/d=2\/d=3\/d=4:=by omega
 rcases this with rfl|rfl|rfl|rfl|rfl<;>cases b<;>decide
theorem EI.ups{V:List (List It)}{b:Bool}{a:List It}:∀{d:Nat} (k:Nat),EI V b d a->EI V b (d+k) a
 |d,0,h=>h
 |d,k+1,h=>(EI.ups k h).up
theorem gen_out{V:List (List It)}(hV:∀v∈V,(rnd v).length<=16){b:Bool}{d:Nat}(hd:d<=4){a:List It}{t:Bs}(ht:t=rnd a)(h:EI V b d a)(hG:GW w' p)(hV':VsIn w' x p V)(hf:Fr [p] w w'):
 ∃a,Ending.returned (.string (bst t))=.returned (.string (bst (rnd a)))/\EI V b d a/\(rnd a).length<=100000/\GW w' p/\VsIn w' x p V/\Fr [p] w w':=⟨a,by rw[ht],h,ei_len hV hd h,hG,hV',hf⟩
theorem frp{a b c:World}(h:Fr [p] a b)(k:Fr [p] b c):Fr [p] a c:=h.trans k (fun x hx=>.inl hx)
set_option maxRecDepth 4000 in
theorem gInt{V:List (List It)}(hV:∀v∈V,(rnd v).length<=16)(h0:0<V.length)(hV9:V.length<=1000)(d:Nat)(hd:d<=4)
 (hI:0<d->GenC 29 false V (d-1)) (hB:0<d->GenC 30 true V (d-1)):GenC 29 false V d:=by
 intro p x w hG hx;obtain⟨ao,c,rfl,hc,_⟩:=id hx.1;generalize hxe:Value.slice ao V.length c=x at hx ⊢;refine enter func29 rfl ntmps29 rfl ?_;refine rx ?_;refine s_c1 (gNext p 9 w hG Yhn) ?_;rintro k w0 ⟨hk0,hk,hG0,hf0⟩;have hV0:=hx.tr hf0;rw[<-hxe]at hV0;subst hxe;by_cases hd0:d=0
 .subst hd0;have h3:k%3=0\/k%3=1\/k%3=2:=by omega
  rcases h3 with h3|h3|h3
  .refine rx ?_;exact Ybn
  all_goals
   refine rx ?_;refine Ygd ?_;rintro _ w1 ⟨t,ht,rfl,hG1,hf1⟩;refine⟨_,rfl,?_⟩;obtain⟨v,hv,rfl⟩:=List.mem_map.1 ht;refine Yeo ?_;exact gen_out hV hd rfl (.var hv) hG1 (hV0.tr hf1) (frp hf0 hf1)
 obtain⟨e,rfl⟩:∃e,d=e+1:=⟨d-1,by omega⟩;have hI:=hI Yhn;have hB:=hB Yhn;rw[Nat.add_sub_cancel]at hI hB;have hde:((e+1:Nat):Int)-1=(e:Int):=by omega
 have hk9:k=0\/k=1\/k=2\/k=3\/k=4\/k=5\/k=6\/k=7\/k=8:=by omega
 rcases hk9 with rfl|rfl|rfl|rfl|rfl|rfl|rfl|rfl|rfl
 .refine rx ?_;exact Ybn
 iterate 2
  .refine rx ?_;refine Ygd ?_;rintro _ w1 ⟨t,ht,rfl,hG1,hf1⟩;refine⟨_,rfl,?_⟩;obtain⟨v,hv,rfl⟩:=List.mem_map.1 ht;refine Yeo ?_;exact gen_out hV hd rfl (.var hv) hG1 (hV0.tr hf1) (frp hf0 hf1)
 .refine rx ?_;rw[hde];refine s_c1 (hI p _ _ hG0 hV0) ?_;rintro a1 w1 ⟨ha1,hl1,hG1,hV1,hf1⟩;refine rx ?_;refine Yen ?_;rw[hde];refine s_c1 (hI p _ _ hG1 hV1) ?_;rintro a2 w2 ⟨ha2,hl2,hG2,hV2,hf2⟩;refine rx ?_;refine Yen ?_;refine Yfw ?_;exact gen_out hV hd Yiy (.add (.inl rfl) ha1 ha2) hG2 hV2 (frp hf0 (frp hf1 hf2))
 .refine rx ?_;rw[hde];refine s_c1 (hI p _ _ hG0 hV0) ?_;rintro a1 w1 ⟨ha1,hl1,hG1,hV1,hf1⟩;refine rx ?_;refine Yen ?_;rw[hde];refine s_c1 (hI p _ _ hG1 hV1) ?_;rintro a2 w2 ⟨ha2,hl2,hG2,hV2,hf2⟩;refine rx ?_;refine Yen ?_;refine Yfw ?_;exact gen_out hV hd Yiy (.add (.inr rfl) ha1 ha2) hG2 hV2 (frp hf0 (frp hf1 hf2))
 .refine rx ?_;rw[hde];refine s_c1 (hI p _ _ hG0 hV0) ?_;rintro a1 w1 ⟨ha1,hl1,hG1,hV1,hf1⟩;refine rx ?_;refine Yge ?_;refine s_c1 (gNumber p 3 _ hG1 Yhn Yhn) ?_;rintro k2 w2 ⟨hk2,hG2,hf2⟩;have hd2:dg k2∈dgs:=dg_mem Yhn;have hl2:(dg k2).length=1:=rfl;refine rx ?_;refine Yes ?_;exact gen_out hV hd Yiy (.mul hd2 ha1) hG2 (hV1.tr hf2) (frp hf0 (frp hf1 hf2))
 .refine rx ?_;refine s_buildS [.string (bst [109,97,120]),.string (bst [109,105,110])] rfl rfl rfl rfl (fun u ho hfu hsu=>?_);have hf0u:Fr [p] w u:=hf0.trans0 hfu;have hGu:=hG0.tr0 hfu;refine rx ?_;refine s_call (gChoose p _ [[109,97,120],[109,105,110]] u hGu ho.src (hG0.off ho rfl) Yhs Yhs) rfl ?_;rintro _ w3 ⟨t,ht,rfl,hG3,hf3⟩;refine⟨_,rfl,?_⟩;have hlt:t.length=3:=by
   simp only[List.mem_cons,List.not_mem_nil,or_false]at ht;rcases ht with rfl|rfl<;>rfl
  refine Yer ?_;rw[hde];refine s_c1 (hI p _ _ hG3 ((hV0.tr0 hfu).tr hf3)) ?_;rintro a1 w1 ⟨ha1,hl1,hG1,hV1,hf1⟩;refine rx ?_;refine Yen ?_;rw[hde];refine s_c1 (hI p _ _ hG1 hV1) ?_;rintro a2 w2 ⟨ha2,hl2,hG2,hV2,hf2⟩;refine rx ?_;refine Yen ?_;refine Yfw ?_;exact gen_out hV hd Yiy (.mm (m:=t) (by simpa using ht) ha1 ha2) hG2 hV2 (frp hf0u (frp hf3 (frp hf1 hf2)))
 .refine rx ?_;rw[hde];refine s_c1 (hB p _ _ hG0 hV0) ?_;rintro a1 w1 ⟨ha1,hl1,hG1,hV1,hf1⟩;refine rx ?_;refine Yen ?_;rw[hde];refine s_c1 (hI p _ _ hG1 hV1) ?_;rintro a2 w2 ⟨ha2,hl2,hG2,hV2,hf2⟩;refine rx ?_;refine Yen ?_;rw[hde];refine s_c1 (hI p _ _ hG2 hV2) ?_;rintro a3 w3 ⟨ha3,hl3,hG3,hV3,hf3⟩;refine rx ?_;refine Yen ?_;refine Yfw ?_;exact gen_out hV hd Yiy (.ite ha1 ha2 ha3) hG3 hV3 (frp hf0 (frp hf1 (frp hf2 hf3)))
 .refine rx ?_;rw[hde];refine s_c1 (hI p _ _ hG0 hV0) ?_;rintro a1 w1 ⟨ha1,hl1,hG1,hV1,hf1⟩;refine rx ?_;refine Yen ?_;rw[hde];refine s_c1 (hI p _ _ hG1 hV1) ?_;rintro a2 w2 ⟨ha2,hl2,hG2,hV2,hf2⟩;refine rx ?_;refine Yen ?_;refine Yfw ?_;exact gen_out hV hd Yiy (.lt ha1 ha2) hG2 hV2 (frp hf0 (frp hf1 hf2))
set_option maxRecDepth 4000 in
theorem gBool{V:List (List It)}(hV:∀v∈V,(rnd v).length<=16)(d:Nat)(hd:d<=4)
 (hI:GenC 29 false V (d-1)) (hB:0<d->GenC 30 true V (d-1)):GenC 30 true V d:=by
 intro p x w hG hx;obtain⟨ao,c,rfl,hc,_⟩:=id hx.1;generalize hxe:Value.slice ao V.length c=x at hx ⊢;refine enter func30 rfl ntmps30 rfl ?_;refine rx ?_;refine s_c1 (gNext p 6 w hG Yhn) ?_;rintro k w0 ⟨hk0,hk,hG0,hf0⟩;have hV0:=hx.tr hf0;rw[<-hxe]at hV0;subst hxe;by_cases hd0:d=0
 .have h3:k%3=0\/k%3=1\/k%3=2:=by omega
  rcases h3 with h3|h3|h3
  all_goals
   refine rx ?_;refine s_max rfl rfl (r:=((d-1:Nat):Int)) Ykk ?_;refine rx ?_;refine s_c1 (hI p _ _ hG0 hV0) ?_;rintro a1 w1 ⟨ha1,hl1,hG1,hV1,hf1⟩;refine rx ?_;refine Yge ?_;refine s_buildS [.string (bst [32,60,32]),.string (bst [32,60,61,32]),.string (bst [32,61,61,32]),.string (bst [32,33,61,32])] rfl rfl rfl rfl (fun u ho hfu hsu=>?_);refine rx ?_;refine Ygf ?_;rintro _ w3 ⟨t,ht,rfl,hG3,hf3⟩;refine⟨_,rfl,?_⟩;obtain⟨o,rfl,hoo,hol⟩:∃o:Bs,t=32::(o++[32])/\(o=[60]\/o=[60,61]\/o=[61,61]\/o=[33,61])/\o.length<=2:=by
    simp only[List.mem_cons,List.not_mem_nil,or_false]at ht;rcases ht with rfl|rfl|rfl|rfl
    .exact ⟨[60],rfl,.inl rfl,by decide⟩
    .exact ⟨[60,61],rfl,.inr (.inl rfl),by decide⟩
    .exact ⟨[61,61],rfl,.inr (.inr (.inl rfl)),by decide⟩
    .exact ⟨[33,61],rfl,.inr (.inr (.inr rfl)),by decide⟩
   refine Yer ?_;refine s_c1 (hI p _ _ hG3 ((hV1.tr0 hfu).tr hf3)) ?_;rintro a2 w2 ⟨ha2,hl2,hG2,hV2,hf2⟩;refine rx ?_;refine Yen ?_;refine Yfw ?_;have hei:EI V true (d-1+(d-(d-1))) _:=EI.ups (d-(d-1)) (.cmp hoo ha1 ha2);rw[show d-1+(d-(d-1))=d by omega]at hei;exact gen_out hV hd Yiy hei hG2 hV2 (frp (frp hf0 (hf1.trans0 hfu)) (frp hf3 hf2))
 have hk6:k=0\/k=1\/k=2\/k=3\/k=4\/k=5:=by omega
 have hde:(d:Int)-1=((d-1:Nat):Int):=by omega
 have hB:=hB Yhn;rcases hk6 with rfl|rfl|rfl|rfl|rfl|rfl
 iterate 3
  .refine rx ?_;refine s_max rfl rfl (r:=((d-1:Nat):Int)) Ykk ?_;refine rx ?_;refine s_c1 (hI p _ _ hG0 hV0) ?_;rintro a1 w1 ⟨ha1,hl1,hG1,hV1,hf1⟩;refine rx ?_;refine Yge ?_;refine s_buildS [.string (bst [32,60,32]),.string (bst [32,60,61,32]),.string (bst [32,61,61,32]),.string (bst [32,33,61,32])] rfl rfl rfl rfl (fun u ho hfu hsu=>?_);refine rx ?_;refine Ygf ?_;rintro _ w3 ⟨t,ht,rfl,hG3,hf3⟩;refine⟨_,rfl,?_⟩;obtain⟨o,rfl,hoo,hol⟩:∃o:Bs,t=32::(o++[32])/\(o=[60]\/o=[60,61]\/o=[61,61]\/o=[33,61])/\o.length<=2:=by
    simp only[List.mem_cons,List.not_mem_nil,or_false]at ht;rcases ht with rfl|rfl|rfl|rfl
    .exact ⟨[60],rfl,.inl rfl,by decide⟩
    .exact ⟨[60,61],rfl,.inr (.inl rfl),by decide⟩
    .exact ⟨[61,61],rfl,.inr (.inr (.inl rfl)),by decide⟩
    .exact ⟨[33,61],rfl,.inr (.inr (.inr rfl)),by decide⟩
   refine Yer ?_;refine s_c1 (hI p _ _ hG3 ((hV1.tr0 hfu).tr hf3)) ?_;rintro a2 w2 ⟨ha2,hl2,hG2,hV2,hf2⟩;refine rx ?_;refine Yen ?_;refine Yfw ?_;have hei:EI V true (d-1+(d-(d-1))) _:=EI.ups (d-(d-1)) (.cmp hoo ha1 ha2);rw[show d-1+(d-(d-1))=d by omega]at hei;exact gen_out hV hd Yiy hei hG2 hV2 (frp (frp hf0 (hf1.trans0 hfu)) (frp hf3 hf2))
 all_goals obtain⟨e,rfl⟩:∃e,d=e+1:=⟨d-1,by omega⟩
 all_goals rw[Nat.add_sub_cancel]at hI hB hde
 .refine rx ?_;rw[hde];refine s_c1 (hB p _ _ hG0 hV0) ?_;rintro a1 w1 ⟨ha1,hl1,hG1,hV1,hf1⟩;refine rx ?_;refine Yen ?_;rw[hde];refine s_c1 (hB p _ _ hG1 hV1) ?_;rintro a2 w2 ⟨ha2,hl2,hG2,hV2,hf2⟩;refine rx ?_;refine Yen ?_;refine Yfw ?_;exact gen_out hV hd Yiy (.log (.inl rfl) ha1 ha2) hG2 hV2 (frp hf0 (frp hf1 hf2))
 .refine rx ?_;rw[hde];refine s_c1 (hB p _ _ hG0 hV0) ?_;rintro a1 w1 ⟨ha1,hl1,hG1,hV1,hf1⟩;refine rx ?_;refine Yen ?_;rw[hde];refine s_c1 (hB p _ _ hG1 hV1) ?_;rintro a2 w2 ⟨ha2,hl2,hG2,hV2,hf2⟩;refine rx ?_;refine Yen ?_;refine Yfw ?_;exact gen_out hV hd Yiy (.log (.inr rfl) ha1 ha2) hG2 hV2 (frp hf0 (frp hf1 hf2))
 .refine rx ?_;rw[hde];refine s_c1 (hB p _ _ hG0 hV0) ?_;rintro a1 w1 ⟨ha1,hl1,hG1,hV1,hf1⟩;refine rx ?_;refine Yes ?_;exact gen_out hV hd Yiy (.neg ha1) hG1 hV1 (frp hf0 hf1)
theorem gens{V:List (List It)}(hV:∀v∈V,(rnd v).length<=16)(h0:0<V.length)(hV9:V.length<=1000):∀d:Nat,d<=4->GenC 29 false V d/\GenC 30 true V d
 |0,h=>by
  have hI:=gInt hV h0 hV9 0 h Yhn Yhn;exact⟨hI,gBool hV 0 h hI Yhn⟩
 |d+1,h=>by
  obtain⟨hI,hB⟩:=gens hV h0 hV9 d Yhn;exact⟨gInt hV h0 hV9 (d+1) h (fun _=>hI) (fun _=>hB),gBool hV (d+1) h hI (fun _=>hB)⟩
end
section
attribute [local irreducible] Code.wp wpList Exit.then Exit.inBlock bodyPost A Calls execOp Addr.add
theorem tyDepC:∀(m:Nat),m<=1000->∀(t:Ty),tyD t<=m->∀(w:World) (S:List Nat) (cs:List Value),RD w S (tyC t) cs->Calls prog 213 #[.agg cs.toArray] w fun e w'=>e=.returned (iV (tyD t))/\Fr [] w w':=by
 intro m
 induction m with
 |zero=>intro _ t h;rw[tyD_eq]at h;omega
 |succ m ih=>
  intro hm t ht w S cs hd;obtain⟨s,rfl,hk⟩:=tyR.1 hd;obtain⟨ao,c,rfl,_⟩:=hk.slice;have hbn:=hk.bound;have e:=tyD_eq t;have hl:(t.kids.map tyC).length=t.kids.length:=List.length_map ..;refine enter func213 rfl ntmps213 rfl ?_;refine rx ?_;refine s_box rfl rfl (fun w1 hb1 hf1 hs1=>?_);refine rx ?_;refine c_loopK 5 [3,4] (σ:=Nat) (fun i g u=>g 3=iV (tyDs (t.kids.take i))/\g 4=iV i/\i<=t.kids.length/\Fr [] w1 u) (fun i=>t.kids.length-i) 0 ⟨rfl,rfl,Nat.zero_le _,Fr.refl _ _⟩ ?_;rintro i g u ⟨h3,h4,hi,hfu⟩;rw[eq_upd h3,eq_upd h4];have hb1:=hb1.tr0 hfu;have hle:=tyDs_takele t.kids i;by_cases hlt:i<t.kids.length
  case neg=>
   refine Yeo ?_;rw[List.take_of_length_le Yhn,e];exact⟨rfl,hf1.trans0 hfu⟩
  obtain⟨ad,cs2,had,hr,hc⟩:=DR.at tyC_len ((hk.tr0 hf1).tr0 hfu) hlt;subst had;have hr0:=hr;obtain⟨s2,rfl,hk2⟩:=tyR.1 hr;have hg:=tyDs_get hlt;have hg1:=tyDs_take hlt;refine rx ?_;refine s_cE (ih Yhn t.kids[i] Yhn u S _ hr0) ?_;rintro w2 hf2;refine rx ?_;refine s_max rfl rfl (r:=((tyDs (t.kids.take (i+1)):Nat):Int)) Ykk ?_;refine rx ?_;exact Ygg
theorem exDepC:∀(m:Nat),m<=1000->∀(t:Ex),exD t<=m->∀(w:World) (S:List Nat) (cs:List Value),RD w S (exC t) cs->Calls prog 215 #[.agg cs.toArray] w fun e w'=>e=.returned (iV (exD t))/\Fr [] w w':=by
 intro m
 induction m with
 |zero=>intro _ t h;rw[exD_eq]at h;omega
 |succ m ih=>
  intro hm t ht w S cs hd;obtain⟨s1,s2,s3,rfl,hk1,hk2,hk⟩:=exR.1 hd;obtain⟨ao1,c1,rfl,_⟩:=DR.slice (rows:=_) hk1;obtain⟨ao2,c2,rfl,_⟩:=hk2.slice;obtain⟨ao,c,rfl,_⟩:=hk.slice;have hbn:=hk.bound;have e:=exD_eq t;have hl:(t.kids.map exC).length=t.kids.length:=List.length_map ..;refine enter func215 rfl ntmps215 rfl ?_;refine rx ?_;refine s_box rfl rfl (fun w1 hb1 hf1 hs1=>?_);refine rx ?_;refine c_loopK 5 [3,4] (σ:=Nat) (fun i g u=>g 3=iV (exDs (t.kids.take i))/\g 4=iV i/\i<=t.kids.length/\Fr [] w1 u) (fun i=>t.kids.length-i) 0 ⟨rfl,rfl,Nat.zero_le _,Fr.refl _ _⟩ ?_;rintro i g u ⟨h3,h4,hi,hfu⟩;rw[eq_upd h3,eq_upd h4];have hb1:=hb1.tr0 hfu;have hle:=exDs_takele t.kids i;by_cases hlt:i<t.kids.length
  case neg=>
   refine Yeo ?_;rw[List.take_of_length_le Yhn,e];exact⟨rfl,hf1.trans0 hfu⟩
  obtain⟨ad,cs2,had,hr,hc⟩:=DR.at exC_len ((hk.tr0 hf1).tr0 hfu) hlt;subst had;have hr0:=hr;obtain⟨x1,x2,x3,rfl,hu1,hu2,hu3⟩:=exR.1 hr;have hg:=exDs_get hlt;have hg1:=exDs_take hlt;refine rx ?_;refine s_cE (ih Yhn t.kids[i] Yhn u S _ hr0) ?_;rintro w2 hf2;refine rx ?_;refine s_max rfl rfl (r:=((exDs (t.kids.take (i+1)):Nat):Int)) Ykk ?_;refine rx ?_;exact Ygg
theorem gnDepC:∀(m:Nat),m<=1000->∀(t:Gn),gnD t<=m->∀(w:World) (S:List Nat) (cs:List Value),RD w S (gnC t) cs->Calls prog 217 #[.agg cs.toArray] w fun e w'=>e=.returned (iV (gnD t))/\Fr [] w w':=by
 intro m
 induction m with
 |zero=>intro _ t h;rw[gnD_eq]at h;omega
 |succ m ih=>
  intro hm t ht w S cs hd;obtain⟨s1,s2,s3,rfl,hk1,hk2,hk⟩:=gnR.1 hd;obtain⟨ao1,c1,rfl,_⟩:=hk1.slice;obtain⟨ao2,c2,rfl,_⟩:=hk2.slice;obtain⟨ao,c,rfl,_⟩:=hk.slice;have hbn:=hk.bound;have hbn2:=hk2.bound;have e:=gnD_eq t;have hl:(t.kids.map gnC).length=t.kids.length:=List.length_map ..;have hl2:(t.args.map exC).length=t.args.length:=List.length_map ..;refine enter func217 rfl ntmps217 rfl ?_;refine rx ?_;refine s_box rfl rfl (fun w1 hb1 hf1 hs1=>?_);refine rx ?_;refine c_loopK 5 [3,4] (σ:=Nat) (fun i g u=>g 3=iV (gnDs (t.kids.take i))/\g 4=iV i/\i<=t.kids.length/\Fr [] w1 u) (fun i=>t.kids.length-i) 0 ⟨rfl,rfl,Nat.zero_le _,Fr.refl _ _⟩ ?_;rintro i g u ⟨h3,h4,hi,hfu⟩;rw[eq_upd h3,eq_upd h4];have hb1:=hb1.tr0 hfu;have hle:=gnDs_takele t.kids i;by_cases hlt:i<t.kids.length
  case neg=>
   refine rx ?_;rw[List.take_of_length_le Yhn];refine c_loopK 6 [3,5] (σ:=Nat) (fun i g u2=>g 3=iV (max (gnDs t.kids) (exDs (t.args.take i)):Nat)/\g 5=iV i/\i<=t.args.length/\Fr [] u u2) (fun i=>t.args.length-i) 0 ⟨by simp[exDs];rfl,rfl,Nat.zero_le _,Fr.refl _ _⟩ ?_;rintro j g2 u2 ⟨h3',h5,hj,hfu2⟩;rw[eq_upd h3',eq_upd h5];have hb1:=hb1.tr0 hfu2;have hle2:=exDs_takele t.args j;by_cases hlt2:j<t.args.length
   case neg=>
    refine Yeo ?_;rw[List.take_of_length_le Yhn,e];exact⟨rfl,(hf1.trans0 hfu).trans0 hfu2⟩
   obtain⟨ad,cs2,had,hr,hc⟩:=DR.at exC_len (((hk2.tr0 hf1).tr0 hfu).tr0 hfu2) hlt2;subst had;have hr0:=hr;obtain⟨x1,x2,x3,rfl,hu1,hu2,hu3⟩:=exR.1 hr;have hg:=exDs_get hlt2;have hg1:=exDs_take hlt2;refine rx ?_;refine s_cE (exDepC m Yhn t.args[j] Yhn u2 S _ hr0) ?_;rintro w2 hf2;refine rx ?_;refine s_max rfl rfl (r:=((max (gnDs t.kids) (exDs (t.args.take (j+1))):Nat):Int)) Ykk ?_;refine rx ?_;exact q_roundK (j+1) Yhl ⟨rfl,rfl,by omega,hfu2.trans0 hf2⟩ Yhn
  obtain⟨ad,cs2,had,hr,hc⟩:=DR.at gnC_len ((hk.tr0 hf1).tr0 hfu) hlt;subst had;have hr0:=hr;obtain⟨x1,x2,x3,rfl,hu1,hu2,hu3⟩:=gnR.1 hr;have hg:=gnDs_get hlt;have hg1:=gnDs_take hlt;refine rx ?_;refine s_cE (ih Yhn t.kids[i] Yhn u S _ hr0) ?_;rintro w2 hf2;refine rx ?_;refine s_max rfl rfl (r:=((gnDs (t.kids.take (i+1)):Nat):Int)) Ykk ?_;refine rx ?_;exact Ygg
end
section
variable {T q : Nat} {u u' w0 : World}
attribute [local irreducible] Code.wp wpList Exit.then Exit.inBlock bodyPost A Calls execOp Addr.add
def ST (q b : Nat) (cells : List Value) (T : Nat) (w0 u : World) : Prop := FB u q /\ Fr [q] w0 u /\ Blk u b cells T
theorem ST.step {b : Nat} {cells : List Value} (h : ST q b cells T w0 u) (hb : b ≠ q) (h1 : FB u' q) (h2 : Fr [q] u u') : ST q b cells T w0 u' :=
  ⟨h1, h.2.1.trans h2 (fun x hx => .inl hx), h.2.2.tr h2 Yks⟩
theorem ST.step0 {b : Nat} {cells : List Value} (h : ST q b cells T w0 u) (h2 : Fr [] u u') : ST q b cells T w0 u' :=
  ⟨h.1.tr0 h2, h.2.1.trans0 h2, h.2.2.tr0 h2⟩
theorem ST.sub {b : Nat} {cells : List Value} {w1 : World} (h : ST q b cells T w1 u) (hf : Fr [q] w0 w1) : ST q b cells T w0 u := ⟨h.1, hf.trans h.2.1 (fun x hx => .inl hx), h.2.2⟩
theorem plainC (k : Int) (nm : ByteArray) (n : Int) (a1 a2 a3 : Option Addr) (n1 c1 n2 c2 n3 c3 : Nat) (at_ : Int) (a b c : Bool) (w : World) : Calls prog 278 #[.agg ([iV k, .string nm, iV n, .slice a1 n1 c1, .slice a2 n2 c2, .slice a3 n3 c3, iV at_] : List Value).toArray, .bool a, .bool b, .bool c] w fun e w' => (∃ r : Bool, e = .returned (.bool r)) /\ Fr [] w w' := by
  refine enter func278 rfl ntmps278 rfl ?_;refine rx ?_;refine s_box rfl rfl (fun w1 hb1 hf1 hs1 => ?_);cases a <;> cases b <;> cases c
  all_goals
    (refine rx ?_; repeat' ((first | refine s_eql rfl rfl (fun h => ?_) (fun h => ?_) | refine s_neq rfl rfl (fun h => ?_) (fun h => ?_) | refine s_lss rfl rfl (fun h => ?_) (fun h => ?_) | refine s_leq rfl rfl (fun h => ?_) (fun h => ?_) | refine s_gtr rfl rfl (fun h => ?_) (fun h => ?_) | refine s_geq rfl rfl (fun h => ?_) (fun h => ?_) | refine s_eqlE rfl rfl (fun h => ?_) (fun h => ?_) | refine s_neqE rfl rfl (fun h => ?_) (fun h => ?_) | refine s_lssS rfl rfl (fun h => ?_) (fun h => ?_) | refine s_gtrS rfl rfl (fun h => ?_) (fun h => ?_)) <;> refine rx ?_))
    all_goals
      refine Yfw ?_;exact ⟨⟨_, rfl⟩, by assumption⟩
theorem zeroTypeC (k : Int) (nm : ByteArray) (a1 : Option Addr) (n1 c1 : Nat) (w : World) : Calls prog 210 #[.agg ([iV k, .string nm, .slice a1 n1 c1] : List Value).toArray] w fun e w' => (∃ r : Bool, e = .returned (.bool r)) /\ Fr [] w w' := by
  refine enter func210 rfl ntmps210 rfl ?_;exact Yw
theorem zeroGenC (k : Int) (nm : ByteArray) (a1 a2 a3 : Option Addr) (n1 c1 n2 c2 n3 c3 : Nat) (at_ : Int) (w : World) : Calls prog 212 #[.agg ([iV k, .string nm, .slice a1 n1 c1, .slice a2 n2 c2, .slice a3 n3 c3, iV at_] : List Value).toArray] w fun e w' => (∃ r : Bool, e = .returned (.bool r)) /\ Fr [] w w' := by
  refine enter func212 rfl ntmps212 rfl ?_;exact Yw
theorem zeroExprC (k : Int) (nm : ByteArray) (n : Int) (a1 a2 a3 : Option Addr) (n1 c1 n2 c2 n3 c3 : Nat) (at_ : Int) (w : World) : Calls prog 211 #[.agg ([iV k, .string nm, iV n, .slice a1 n1 c1, .slice a2 n2 c2, .slice a3 n3 c3, iV at_] : List Value).toArray] w fun e w' => (∃ r : Bool, e = .returned (.bool r)) /\ Fr [] w w' := by
  refine enter func211 rfl ntmps211 rfl ?_;refine rx ?_;refine s_box rfl rfl (fun w1 hb1 hf1 hs1 => ?_)
  (refine rx ?_; repeat' ((first | refine s_eql rfl rfl (fun h => ?_) (fun h => ?_) | refine s_neq rfl rfl (fun h => ?_) (fun h => ?_) | refine s_lss rfl rfl (fun h => ?_) (fun h => ?_) | refine s_leq rfl rfl (fun h => ?_) (fun h => ?_) | refine s_gtr rfl rfl (fun h => ?_) (fun h => ?_) | refine s_geq rfl rfl (fun h => ?_) (fun h => ?_) | refine s_eqlE rfl rfl (fun h => ?_) (fun h => ?_) | refine s_neqE rfl rfl (fun h => ?_) (fun h => ?_) | refine s_lssS rfl rfl (fun h => ?_) (fun h => ?_) | refine s_gtrS rfl rfl (fun h => ?_) (fun h => ?_)) <;> refine rx ?_))
  all_goals first
  | (refine s_call (plainC _ _ _ _ _ _ _ _ _ _ _ _ _ _ _ _ _) rfl ?_
     rintro _ w2 ⟨⟨r, rfl⟩, hf2⟩;refine ⟨_, rfl, ?_⟩;have hf3 := hf1.trans0 hf2;refine Yeo ?_;exact ⟨⟨_, rfl⟩, hf3⟩)
  | ((apply ret1; exact rfl; (conv => lhs; whnf))
     exact ⟨⟨_, rfl⟩, hf1⟩)
theorem rankC (s : ByteArray) (w : World) : Calls prog 279 #[.string s] w fun e w' => (∃ r : Nat, r <= 6 /\ e = .returned (iV r)) /\ Fr [] w w' := by
  obtain ⟨S, rfl⟩ : ∃ S, s = bst S := ⟨_, (bst_data s).symm⟩;refine enter func279 rfl ntmps279 rfl ?_;refine rx ?_;refine c_loopK 4 [3] (σ := Nat) (fun i g u => g 3 = iV i /\ 1 <= i /\ i <= 7 /\ Fr [] w u) (fun i => 7 - i) 1 ⟨rfl, by omega, by omega, Fr.refl _ _⟩ ?_;rintro i g u ⟨h3, h1, h7, hfu⟩;rw [eq_upd h3];by_cases hlt : i < 7
  case neg =>
    by_cases hn : bst S = bst [110, 111, 116]
    all_goals
      refine Yeo ?_
    · exact ⟨⟨3, by omega, rfl⟩, hfu⟩
    · exact ⟨⟨0, by omega, rfl⟩, hfu⟩
  refine rx ?_;refine s_c1 (operatorsC i h1 Yhn u) ?_;rintro v w2 ⟨ho, hf2⟩;refine rx ?_;have hlen : (opsR i).length <= 1000 := by
    have hk : i = 1 \/ i = 2 \/ i = 3 \/ i = 4 \/ i = 5 \/ i = 6 := by omega
    rcases hk with rfl | rfl | rfl | rfl | rfl | rfl <;> decide
  refine s_cE (inC v (opsR i) S w2 ho.src hlen) ?_;rintro w3 rfl;generalize (opsR i).contains S = b;cases b with
  | true =>
    refine Yeo ?_;exact ⟨⟨i, by omega, rfl⟩, hfu.trans0 hf2⟩
  | false =>
    refine rx ?_;exact q_roundK (i + 1) Yhl ⟨rfl, by omega, by omega, hfu.trans0 hf2⟩ Yhn
end
section
variable{w:World}
attribute [local irreducible] Code.wp wpList Exit.then Exit.inBlock bodyPost A Calls execOp Addr.add
theorem equalIn_bool{P:Program}(dd:Nat){e:Nat}(he:P.underlying e=some .bool)(x y:Bool):(Op.equalIn (dd+1) e (.bool x) (.bool y)).run P w=.ok (x==y) w:=by
 simp[Op.equalIn,run_underlying he]
theorem s_eqBool{ops:Array Oper}{Q:Exit->Act->World->Prop}{rest:List Oper}{n:Nat}{f:Env}{d:Nat}{ty t2:TypeId}{ps:String}{af:Array Edge}{x y:Operand}{a b:Bool}(hx:ev n f x=.bool a)(hy:ev n f y=.bool b)(h:wpList prog ops Q rest (A n (upd f d (.bool (a==b)))) w):
 wpList prog ops Q (⟨some d,.binOp .eql 4 x y t2,ty,ps,af,none⟩::rest) (A n f) w:=by
 have hu:prog.underlying 4=some .bool:=underlying4;have hg:prog.eqGuardType prog.depth 4=false:=by kernel_rfl
 have e:(Op.equal 4 (.bool a) (.bool b)).run prog w=.ok (a==b) w:=by
  exact equalIn_bool 9999 hu a b
 exact s_run (by simp[execOp,eqGuard,binOp,hx,hy,e,hg]) h
theorem partC(q:Nat):∀(m:Nat) (t:Ty),tyD t<=m->∀(w:World) (S:List Nat) (cs:List Value),q∈S->FB w q->RD w S (tyC t) cs->Calls prog 214 #[.pointer (some ⟨q,0,none⟩),.agg cs.toArray] w (FC q w):=by
 intro m
 induction m with
 |zero=>intro t h;rw[tyD_eq]at h;omega
 |succ m ih=>
  intro t ht w S cs hqS hFB hd;have hqw:=hFB.lt;obtain⟨s,rfl,hk⟩:=tyR.1 hd;obtain⟨ao,c,rfl,_⟩:=hk.slice;have hbn:=hk.bound;have e:=tyD_eq t;have hl:(t.kids.map tyC).length=t.kids.length:=List.length_map ..;refine enter func214 rfl ntmps214 rfl ?_;refine rx ?_;refine s_boxN rfl rfl (fun w1 b hb hB hf1 hs1=>?_);have hbq:b≠q:=by omega
  have hst:ST q b _ 38 w w1:=⟨hFB.tr0 hf1,fr_new hf1,hB⟩;refine rr ?_;refine wpList_nil ?_;refine q_then ?_;refine wp_seq ?_;refine c_region ?_;refine w_cutK 4 [] (fun g u=>(ST q b (tyV t (.slice ao (t.kids.map tyC).length c)) 38 w) u) ?_ ?_
  .refine rx ?_
   repeat' (first|exact q_cutK Yhl Yhz|exact wpList_nil (q_cutK Yhl Yhz)|(refine s_cE (argC q _ _ hst.1) ?_;rintro _ ⟨hx1,hx2⟩;have hst:=hst.step hbq hx1 hx2;have hB:=hst.2.2;clear hx1 hx2;refine rx ?_)|(refine s_eqBool rfl rfl ?_;refine rx ?_)|(first|refine s_eql rfl rfl (fun _=>?_) (fun _=>?_)|refine s_neq rfl rfl (fun _=>?_) (fun _=>?_)|refine s_lss rfl rfl (fun _=>?_) (fun _=>?_)|refine s_leq rfl rfl (fun _=>?_) (fun _=>?_)|refine s_gtr rfl rfl (fun _=>?_) (fun _=>?_)|refine s_geq rfl rfl (fun _=>?_) (fun _=>?_)|refine s_eqlE rfl rfl (fun _=>?_) (fun _=>?_)|refine s_neqE rfl rfl (fun _=>?_) (fun _=>?_))<;>refine rx ?_)
  clear hst hB;rintro g u hst;have hB:Blk u b [iV t.kind,.string t.name,.slice ao (t.kids.map tyC).length c] 38:=hst.2.2;refine wp_seq ?_;refine c_cutK 4 [] (fun g u=>ST q b (tyV t (.slice ao (t.kids.map tyC).length c)) 38 w u) ?_ ?_
  .refine rx ?_
   repeat' (first|exact q_cutK Yhl Yhz|exact wpList_nil (q_cutK Yhl Yhz)|(refine s_cE (namedC q _ _ _ hst.1) ?_;rintro _ ⟨hx1,hx2⟩;have hst:=hst.step hbq hx1 hx2;have hB:=hst.2.2;clear hx1 hx2;refine rx ?_)|(refine s_cE (namedC q _ 1 _ hst.1) ?_;rintro _ ⟨hx1,hx2⟩;have hst:=hst.step hbq hx1 hx2;have hB:=hst.2.2;clear hx1 hx2;refine rx ?_)|(first|refine s_eql rfl rfl (fun _=>?_) (fun _=>?_)|refine s_neq rfl rfl (fun _=>?_) (fun _=>?_)|refine s_lss rfl rfl (fun _=>?_) (fun _=>?_)|refine s_leq rfl rfl (fun _=>?_) (fun _=>?_)|refine s_gtr rfl rfl (fun _=>?_) (fun _=>?_)|refine s_geq rfl rfl (fun _=>?_) (fun _=>?_)|refine s_eqlE rfl rfl (fun _=>?_) (fun _=>?_)|refine s_neqE rfl rfl (fun _=>?_) (fun _=>?_))<;>refine rx ?_)
  clear hst hB;rintro g u hst;refine rx ?_;refine c_loopK 5 [4] (σ:=Nat) (fun i g u=>g 4=iV i/\i<=t.kids.length/\ST q b (tyV t (.slice ao (t.kids.map tyC).length c)) 38 w u) (fun i=>t.kids.length-i) 0 ⟨rfl,Nat.zero_le _,hst⟩ ?_;clear hst;rintro i g u ⟨h4,hi,hst⟩;rw[eq_upd h4];have hB:Blk u b [iV t.kind,.string t.name,.slice ao (t.kids.map tyC).length c] 38:=hst.2.2;by_cases hlt:i<t.kids.length
  case neg=>
   refine rx ?_;exact Ygh
  obtain⟨ad,cs2,had,hr,hc⟩:=DR.at tyC_len (hk.old hst.2.1 (one_in hqS)) hlt;subst had;have hr0:=hr;obtain⟨s2,rfl,hk2⟩:=tyR.1 hr;have hg:=tyDs_get hlt;refine rx ?_;refine s_cE (ih t.kids[i] Yhn u S _ hqS hst.1 hr0) ?_;rintro w2 ⟨hx1,hx2⟩;have hst:=hst.step hbq hx1 hx2;have hB:=hst.2.2;clear hx1 hx2;refine rx ?_;exact Ygi
theorem ltN_le{a b:Nat}(h:ltN a b=false):b<=a:=by
 rcases Nat.lt_or_ge a b with h1|h1
 .simp only[ltN]at h;rw[blt_yes h1]at h;cases h
 .exact h1
theorem typC(q:Nat)(t:Ty)(hlim:limT t=false)(w:World)(S:List Nat)(cs:List Value)(hqS:q∈S)(hFB:FB w q)(hd:RD w S (tyC t) cs):Calls prog 122 #[.pointer (some ⟨q,0,none⟩),.agg cs.toArray] w (FC q w):=by
 have h32:tyD t<=32:=ltN_le hlim;have hd0:=hd;obtain⟨s,rfl,hk⟩:=tyR.1 hd;obtain⟨ao,c,rfl,_⟩:=hk.slice;refine enter func122 rfl ntmps122 rfl ?_;refine rx ?_;refine s_boxN rfl rfl (fun w1 b hb hB hf1 hs1=>?_);have hqw:=hFB.lt;have hbq:b≠q:=by omega
 obtain⟨b1,b2,b3,hQ⟩:=hFB.tr0 hf1;refine rx ?_;refine s_cE (tyDepC 32 Yhn t h32 w1 S _ (hd0.tr0 hf1)) ?_;rintro w2 hf2;have hQ:=hQ.tr0 hf2;have hB:=hB.tr0 hf2;refine rx ?_
 ((with_reducible apply s_storeB);exact rfl;(conv=>lhs;whnf);exact rfl;exact hQ;exact rfl)
 intro w3 hQ hf3 hs3;have hB:Blk w3 b _ 38:=hB.tr hf3 (by simpa using hbq);have hF:Fr [q] w w3:=(fr_new (hf1.trans0 hf2)).trans hf3 (fun x hx=>.inl hx);refine rx ?_;refine s_cE (partC q 32 t h32 w3 S _ hqS ⟨_,_,_,hQ⟩ (hd0.old hF (one_in hqS))) ?_;exact Ych
theorem paramsC(q:Nat)(l:List Pm)(hlim:limPs l=false)(w:World)(S:List Nat)(v:Value)(hqS:q∈S)(hFB:FB w q)(hd:DR w S (.l (l.map pmC)) v):Calls prog 123 #[.pointer (some ⟨q,0,none⟩),v] w (FC q w):=by
 simp only[limPs,Bool.or_eq_false_iff,List.any_eq_false]at hlim;obtain⟨h16,hlim⟩:=hlim;obtain⟨ao,c,rfl,_⟩:=hd.slice;have hbn:=hd.bound;have hl:(l.map pmC).length=l.length:=List.length_map ..;refine enter func123 rfl ntmps123 rfl ?_;refine rx ?_;refine s_cE (mostC q _ w hFB (by rw[hl];exact h16)) ?_;rintro w1 ⟨h1,hf1⟩;refine Yfu ?_;rintro i g u ⟨h4,hi,hq,hf⟩;rw[eq_upd h4];by_cases hlt:i<l.length
 case neg=>
  refine rx ?_;exact end0 rfl ⟨rfl,hq,hf⟩
 obtain⟨ad,cs2,had,hr,hc⟩:=DR.at pmC_len (hd.old hf (one_in hqS)) hlt;subst had;obtain⟨cs3,rfl,hr0⟩:=hr.invC;obtain⟨s2,rfl,hk2⟩:=tyR.1 hr0;have hc:Cells u (ad.add (i*4)) [.string l[i].name,iV l[i].type.kind,.string l[i].type.name,s2]:=hc;refine rx ?_;refine s_cE (namedC q _ 0 _ hq) ?_;rintro w2 ⟨hq2,hf2⟩;have hF2:=hf.trans hf2 (fun x hx=>.inl hx);obtain⟨ad',cs2,had,hr2,hc2⟩:=DR.at pmC_len (hd.old hF2 (one_in hqS)) hlt;obtain rfl:=Option.some.inj had;obtain⟨cs3,rfl,hr20⟩:=hr2.invC;obtain⟨s3,rfl,hk3⟩:=tyR.1 hr20;have hc2:Cells w2 (ad.add (i*4)) [.string l[i].name,iV l[i].type.kind,.string l[i].type.name,s3]:=hc2;refine rx ?_;refine s_cE (typC q l[i].type (by simpa using hlim l[i] (List.getElem_mem hlt)) w2 S _ hqS hq2 hr20) ?_;rintro w3 ⟨hq3,hf3⟩;refine rx ?_;exact q_roundK (i+1) Yhl ⟨rfl,by omega,hq3,hF2.trans hf3 (fun x hx=>.inl hx)⟩ Yhn
end
end Go.Proofs.YtmlpcmjmniobdaaGreat
