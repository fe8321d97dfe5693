/-
  The reference's Faults: small tests, types.
-/
import Derived.Test.YtggmccicdhnkgaaGreatZQk
import Derived.Test.YtggmccicdhnkgaaGreatZPd
import Derived.Test.YtggmccicdhnkgaaGreatZQd
set_option linter.all false
namespace Go.Proofs.YtggmccicdhnkgaaGreat
open Go.Proofs.Tryz
open Go.Rf Go.RowKit
attribute [local irreducible] Code.wp wpList Exit.then Exit.inBlock bodyPost A Calls execOp Addr.add
theorem pExprsC(f:Nat)(hf:f+1<=1000000)(ih:∀f'<f,PC 125 [] (fun n=>pExpr n f') exC)(e:Bs):PL 208 [.string (bst e)] (fun n=>pExprs n (f+1) e) (fun l=>l.map exC):=by
 intro bd p n r w x r' hP0 hg
 have hbd:bd<=w.heap.size:=hP0.le
 have hpw:p<w.heap.size:=Nat.lt_of_lt_of_le hP0.lt hbd
 have hF0:Fr [p] w w:=Fr.refl _ _
 refine enter func208 rfl ntmps208 rfl ?_
 refine rx ?_
 simp only[pExprs]at hg
 refine s_cE (pSkip e p n _ _ hP0) ?_;rintro w1 ⟨hP1,hf1⟩;have hF1:=hF0.trans hf1 Yhc;have hs1:=hf1.size
 cases h1:isT e r with
 |true=>
  simp only[h1,nextP,if_true,Option.some.injEq,Prod.mk.injEq]at hg hP1
  obtain⟨rfl,rfl⟩:=hg
  refine Yei ?_
  exact⟨_,rfl,.nil,hP1,hF1⟩
 |false=>
 simp only[h1,nextP,Bool.false_eq_true,if_false]at hg hP1
 obtain⟨⟨l,r1⟩,h2,hg⟩:=bind_some hg
 obtain⟨r2,h3,hg⟩:=bind_some hg
 simp only[Option.some.injEq,Prod.mk.injEq]at hg
 obtain⟨rfl,rfl⟩:=hg
 refine rx ?_
 refine c_loopK 7 [5,6] (σ:=Nat×List Ex×List Tk×Bool) (fun s g u=>∃v,g 5=v/\g 6=.bool s.2.2.2/\s.1<=f/\LI bd p n w (rg w) 95 7 exC (pExGo n) l r1 s.1 s.2.1 s.2.2.1 s.2.2.2 u v) (fun s=>2*s.1+s.2.2.2.toNat) (f,[],r,true) ⟨_,rfl,rfl,Nat.le_refl _,hP1,hF1,.nil,by simp only[List.length_nil];omega,fun _=>⟨l,h2,rfl⟩,fun h=>by cases h⟩ ?_
 rintro⟨f',acc,r,b⟩ g u ⟨v,h4,h5,hff,hP2,hF2,hL,hlen,ht,hfl⟩
 simp only at hff hP2 hF2 hL hlen ht hfl
 rw[eq_upd h4,eq_upd h5]
 have hs2:=hF2.size
 obtain⟨S0,T0,ao0,c0,i0,hb0,_⟩:=id hP2
 cases b with
 |false=>
  obtain⟨rfl,rfl⟩:=hfl rfl
  refine rx ?_
  refine s_cE (cTake hP2 h3) ?_;rintro w3 ⟨hP3,hf3⟩;have hF3:=hF2.trans hf3 Yhc;have hs3:=hf3.size
  have hL:=LS.keep hL hf3 Yhx
  refine Yei ?_
  have hd:=LS.dr hL (k:=7) exC_len Yhd
  exact⟨_,rfl,hd,hP3,hF3⟩
 |true=>
 obtain⟨l',hgo,hacc⟩:=ht rfl
 cases f' with
 |zero=>simp[pExGo]at hgo
 |succ f'=>
 simp only[pExGo]at hgo
 obtain⟨⟨t,r3⟩,h6,hgo⟩:=bind_some hgo
 have hlt:=hL.lt
 refine rx ?_
 refine s_c1 ((ih f' Yhd) bd p n _ _ _ _ hP2 h6) ?_;rintro cs w3 ⟨hd,hP3,hf3⟩;have hF3:=hF2.trans hf3 Yhc;have hs3:=hf3.size
 have hL:=LS.keep hL hf3 Yhx
 refine s_pushL hL exC_len rfl rfl rfl hd (fun b hb=>.inl (rg_mem.2 (hb.elim (fun h=>hlt b h) (fun h=>by have:=rg_mem.1 h;omega)))) rfl rfl rfl Yhl Yhd Yjg (fun v' w4 hL' hf4 hk4=>?_);have hge4:=LS.ge hL (w0:=w) Yib;have hP4:=hP3.tr hf4 (fun k hk=>Nat.le_trans hbd (hge4 k hk));have hF4:=hF3.trans hf4 (fun k hk=>.inr (hge4 k hk));have hs4:=hf4.size
 refine rx ?_
 refine s_cE (pSkip [44] p n _ _ hP4) ?_;rintro w5 ⟨hP5,hf5⟩;have hF5:=hF4.trans hf5 Yhc;have hs5:=hf5.size
 have hL':=LS.keep hL' hf5 Yhx
 refine rx ?_
 obtain⟨e1,e2⟩:=li_end (go:=pExGo n) hgo hacc
 exact q_roundK (f',acc++[t],nextP (isT [44] r3) r3,isT [44] r3) Yhh ⟨_,rfl,rfl,by simp only;omega,hP5,hF5,hL',by simp only[List.length_append,List.length_cons,List.length_nil];omega,e1,e2⟩ (by cases isT [44] r3<;>simp<;>omega)
theorem pBoundsC(f:Nat)(ih:PC 125 [] (fun n=>pExpr n f) exC):PL 207 [] (fun n=>pBounds n f) (fun l=>l.map exC):=by
 intro bd p n r w x r' hP0 hg
 have hbd:bd<=w.heap.size:=hP0.le
 have hpw:p<w.heap.size:=Nat.lt_of_lt_of_le hP0.lt hbd
 have hF0:Fr [p] w w:=Fr.refl _ _
 refine enter func207 rfl ntmps207 rfl ?_
 refine rx ?_
 simp only[pBounds]at hg
 obtain⟨⟨t1,r1⟩,h1,hg⟩:=bind_some hg
 obtain⟨r2,h2,hg⟩:=bind_some hg
 obtain⟨⟨t2,r3⟩,h3,hg⟩:=bind_some hg
 simp only[Option.some.injEq,Prod.mk.injEq]at hg
 obtain⟨rfl,rfl⟩:=hg
 refine s_c1 (ih bd p n _ _ _ _ hP0 h1) ?_;rintro cs w1 ⟨hd,hP1,hf1⟩;have hF1:=hF0.trans hf1 Yhc;have hs1:=hf1.size
 have hl:cs.length=7:=by rw[hd.len,exC_len]
 refine s_var (l:=[zI,zT,zI,zS,zS,zS,zI]) (cs:=cs) rfl rfl hl hd.one rfl (fun v=>rfl) (fun w2 a hqa hba hf2 hs2=>?_);have hP2:=hP1.tr0 hf2;have hF2:=hF1.trans0 hf2
 have hd:=RD.keep hd hf2 Yhe
 refine rx ?_
 refine s_cE (cTake hP2 h2) ?_;rintro w3 ⟨hP3,hf3⟩;have hF3:=hF2.trans hf3 Yhc;have hs3:=hf3.size
 have hba:=hba.tr hf3 Yhe
 have hd:=RD.keep hd hf3 Yhe
 refine rx ?_
 ((refine d_begin (fun z=>Fr [p] w3 z) Yhf rfl ?_);obtain⟨w4,hw4⟩:=exq w3.drew;rw[<-hw4];have hf4:Fr [] w3 w4:=hw4▸Fr.drew _ _;have hS4:Fr [p] w3 w4:=hf4.mono Yhi;have hP4:=hP3.tr0 hf4;have hF4:=hF3.trans0 hf4;have hs4:=hf4.size)
 refine d_tx 0 hS4 ?_ (hrun:=by(intro u hu;exact(r_loadC rfl (Cells.ofBlk (hba.tr hu Yhe)) hl)))
 refine d_z 1 hS4 ?_
 have hd:=RD.keep hd hf4 Yhe
 refine d_one (i:=2) rfl Yhf ?_
 refine s_c1 (ih bd p n _ _ _ _ hP4 h3) ?_;rintro cs2 w5 ⟨hd2,hP5,hf5⟩;have hF5:=hF4.trans hf5 Yhc;have hs5:=hf5.size
 have hl2:cs2.length=7:=by rw[hd2.len,exC_len]
 have hd:=RD.keep hd hf5 Yhe
 have hS5:=hS4.trans hf5 Yhi;refine wpList_nil (q_held hS5 ?_)
 refine d_one (i:=3) rfl Yhf ?_
 refine s_rows2 rfl rfl hl hl2 rfl (fun w6 k hk ho hf6 hs6=>?_)
 have hP6:=hP5.tr0 hf6;have hF6:=hF5.trans0 hf6
 have hd:=RD.keep hd hf6 Yhe
 have hd2:=RD.keep hd2 hf6 Yhe
 have hS6:=hS5.trans hf6 Yhi;refine wpList_nil (q_held hS6 ?_)
 refine d_one (i:=4) rfl Yhf ?_;refine rx ?_;refine q_held hS6 ?_
 refine Yfp ?_
 refine Yei ?_
 exact⟨_,rfl,drOwn (rows:=[exC t1,exC t2]) ho (.cons (hd.down Yhd) (.one (hd2.down Yhd))) (by simp[exC_len]) Yhi Yhw,hP6,hF6⟩
theorem operatorsC(k:Nat)(h1:1<=k)(h6:k<=6)(w:World):Calls prog 229 #[iV k] w fun e w'=>∃v,e=.returned v/\Own w' 9 1 v (opsR k).length ((opsR k).map fun t=>.string (bst t))/\Fr [] w w':=by
 have hk:k=1\/k=2\/k=3\/k=4\/k=5\/k=6:=by omega
 rcases hk with rfl|rfl|rfl|rfl|rfl|rfl<;>refine enter func229 rfl ntmps229 rfl ?_<;>refine rx ?_
 .refine s_buildS ((opsR 1).map fun t=>.string (bst t)) rfl rfl rfl rfl (fun u ho hf hs=>?_)
  exact Ybc
 .refine s_buildS ((opsR 2).map fun t=>.string (bst t)) rfl rfl rfl rfl (fun u ho hf hs=>?_)
  exact Ybc
 . (apply ret1;exact rfl;(conv=>lhs;whnf))
   exact⟨_,rfl,Own.nil _ _ _,Fr.refl _ _⟩
 .refine s_buildS ((opsR 4).map fun t=>.string (bst t)) rfl rfl rfl rfl (fun u ho hf hs=>?_)
  exact Ybc
 .refine s_buildS ((opsR 5).map fun t=>.string (bst t)) rfl rfl rfl rfl (fun u ho hf hs=>?_)
  exact Ybc
 .refine s_buildS ((opsR 6).map fun t=>.string (bst t)) rfl rfl rfl rfl (fun u ho hf hs=>?_)
  exact Ybc
theorem pOperC(k:Nat)(h1:1<=k)(h6:k<=6)(bd p:Nat)(n:Int)(r:List Tk)(w:World)(hP:PS bd w p n r):
 Calls prog 211 #[.pointer (some ⟨p,0,none⟩),iV k] w fun e w'=>e=.returned (.string (bst ((operT k r).getD [])))/\Fr [] w w':=by
 refine enter func211 rfl ntmps211 rfl ?_
 refine rx ?_
 refine s_c1 (operatorsC k h1 h6 w) ?_
 rintro v w1 ⟨ho,hf1⟩
 obtain⟨ao,c,rfl⟩:=ho.slice
 have hlen:(opsR k).length<=4:=by
  have hk:k=1\/k=2\/k=3\/k=4\/k=5\/k=6:=by omega
  rcases hk with rfl|rfl|rfl|rfl|rfl|rfl<;>decide
 refine rx ?_
 refine c_loopK 7 [6] (σ:=Nat) (fun i g u=>g 6=iV i/\i<=(opsR k).length/\((opsR k).drop i).find? (fun o=>isT o r)=operT k r/\Fr [] w1 u) (fun i=>(opsR k).length-i) 0 ⟨rfl,by omega,by simp[operT],Fr.refl _ _⟩ ?_
 rintro i g u ⟨h5,hi,he,hfu⟩
 rw[eq_upd h5]
 by_cases hlt:i<(opsR k).length
 case neg=>
  refine Yei ?_
  rw[<-he,List.drop_eq_nil_of_le Yhd]
  exact⟨rfl,hf1.trans0 hfu⟩
 obtain⟨ad,had,hcell⟩:=src_at (j:=i) (u:=.string (bst (opsR k)[i])) (ho.src.tr0 hfu) (by simp[hlt])
 subst had
 rw[List.drop_eq_getElem_cons hlt,List.find?_cons]at he
 refine rx ?_
 rw[Nat.mul_one]
 refine s_load rfl hcell ?_
 refine s_cE (isC (opsR k)[i] p n r u ((hP.tr0 hf1).tr0 hfu)) ?_
 rintro u2 hf2
 have hcell2:=(src_at (j:=i) (u:=.string (bst (opsR k)[i])) ((ho.src.tr0 hfu).tr0 hf2) (by simp[hlt]))
 obtain⟨ad2,had2,hcell2⟩:=hcell2
 simp only[Option.some.injEq]at had2
 subst had2
 cases hq:isT (opsR k)[i] r with
 |true=>
  rw[hq]at he
  refine rx ?_
  rw[Nat.mul_one]
  refine s_load rfl hcell2 ?_
  refine Yei ?_
  rw[<-he]
  exact⟨rfl,hf1.trans0 (hfu.trans0 hf2)⟩
 |false=>
  rw[hq]at he
  refine rx ?_
  exact q_roundK (i+1) Yhh ⟨rfl,by omega,he,hfu.trans0 hf2⟩ Yhd
end Go.Proofs.YtggmccicdhnkgaaGreat
namespace Go.Rf
open Go.RowKit
variable{l:List Ex}{i q:Nat}
theorem tyD_eq(t:Ty):tyD t=tyDs t.kids+1:=by cases t;rfl
theorem exD_eq(t:Ex):exD t=exDs t.kids+1:=by cases t;rfl
theorem gnD_eq(t:Gn):gnD t=max (gnDs t.kids) (exDs t.args)+1:=by cases t;rfl
theorem tyDs_app(a b:List Ty):tyDs (a++b)=max (tyDs a) (tyDs b):=by
 induction a with
 |nil=>simp[tyDs]
 |cons x a ih=>simp only[List.cons_append,tyDs,ih];omega
theorem exDs_app(a b:List Ex):exDs (a++b)=max (exDs a) (exDs b):=by
 induction a with
 |nil=>simp[exDs]
 |cons x a ih=>simp only[List.cons_append,exDs,ih];omega
theorem gnDs_app(a b:List Gn):gnDs (a++b)=max (gnDs a) (gnDs b):=by
 induction a with
 |nil=>simp[gnDs]
 |cons x a ih=>simp only[List.cons_append,gnDs,ih];omega
theorem tyDs_take{l:List Ty}(h:i<l.length):tyDs (l.take (i+1))=max (tyDs (l.take i)) (tyD l[i]):=by
 rw[List.take_succ_eq_append_getElem h,tyDs_app];simp[tyDs]
theorem exDs_take(h:i<l.length):exDs (l.take (i+1))=max (exDs (l.take i)) (exD l[i]):=by
 rw[List.take_succ_eq_append_getElem h,exDs_app];simp[exDs]
theorem gnDs_take{l:List Gn}(h:i<l.length):gnDs (l.take (i+1))=max (gnDs (l.take i)) (gnD l[i]):=by
 rw[List.take_succ_eq_append_getElem h,gnDs_app];simp[gnDs]
theorem tyDs_get{l:List Ty}(h:i<l.length):tyD l[i]<=tyDs l:=by
 have h1:=tyDs_take h
 have h2:=tyDs_app (l.take (i+1)) (l.drop (i+1))
 rw[List.take_append_drop]at h2
 omega
theorem exDs_get(h:i<l.length):exD l[i]<=exDs l:=by
 have h1:=exDs_take h
 have h2:=exDs_app (l.take (i+1)) (l.drop (i+1))
 rw[List.take_append_drop]at h2
 omega
theorem gnDs_get{l:List Gn}(h:i<l.length):gnD l[i]<=gnDs l:=by
 have h1:=gnDs_take h
 have h2:=gnDs_app (l.take (i+1)) (l.drop (i+1))
 rw[List.take_append_drop]at h2
 omega
theorem tyDs_takele(l:List Ty)(i:Nat):tyDs (l.take i)<=tyDs l:=by
 have h2:=tyDs_app (l.take i) (l.drop i)
 rw[List.take_append_drop]at h2
 omega
theorem exDs_takele(l:List Ex)(i:Nat):exDs (l.take i)<=exDs l:=by
 have h2:=exDs_app (l.take i) (l.drop i)
 rw[List.take_append_drop]at h2
 omega
theorem gnDs_takele(l:List Gn)(i:Nat):gnDs (l.take i)<=gnDs l:=by
 have h2:=gnDs_app (l.take i) (l.drop i)
 rw[List.take_append_drop]at h2
 omega
theorem fr_new{a b:World}(h:Fr [] a b):Fr [q] a b:=h.mono Yhi
end Go.Rf
namespace Go.Proofs.YtggmccicdhnkgaaGreat
open Go.Proofs.Tryz
open Go.Rf Go.RowKit
variable{q:Nat}{w w':World}
attribute [local irreducible] Code.wp wpList Exit.then Exit.inBlock bodyPost A Calls execOp Addr.add
def FB(w:World)(q:Nat):Prop:=∃b1 b2 b3:Bool,Blk w q [.bool false,.bool b1,.bool b2,.bool b3] 164
theorem FB.tr{T:List Nat}(h:FB w q)(hf:Fr T w w')(hq:q∉T):FB w' q:=by
 obtain⟨b1,b2,b3,h⟩:=h
 exact⟨b1,b2,b3,h.tr hf hq⟩
theorem FB.tr0(h:FB w q)(hf:Fr [] w w'):FB w' q:=h.tr hf Yhi
theorem FB.lt(h:FB w q):q<w.heap.size:=by
 obtain⟨b1,b2,b3,h⟩:=h
 exact h.lt
def FC(q:Nat)(w:World)(e:Ending)(w':World):Prop:=e=.returned (.tuple #[])/\FB w' q/\Fr [q] w w'
theorem argC(q:Nat)(b:Bool)(w:World)(h:FB w q):Calls prog 169 #[.pointer (some ⟨q,0,none⟩),.bool b] w (FC q w):=by
 obtain⟨b1,b2,b3,hB⟩:=h
 refine enter func169 rfl ntmps169 rfl ?_
 refine rx ?_
 cases b1<;>refine rx ?_
 all_goals
  ((with_reducible apply s_storeB);exact rfl;(conv=>lhs;whnf);exact rfl;exact hB;exact rfl)
  intro w1 h1 hf1 hs1
  refine rx ?_
  exact end0 rfl ⟨rfl,⟨_,_,_,h1⟩,hf1⟩
theorem mostC(q:Nat)(n:Nat)(w:World)(h:FB w q)(hn:ltN 16 n=false):Calls prog 170 #[.pointer (some ⟨q,0,none⟩),iV n] w (FC q w):=by
 obtain⟨b1,b2,b3,hB⟩:=h
 have hn:n<=16:=by
  rcases Nat.lt_or_ge 16 n with h|h
  .simp only[ltN]at hn;rw[blt_yes h]at hn;cases hn
  .exact h
 exact Ybv
theorem numberC(q:Nat)(n m:Int)(w:World)(h:FB w q):Calls prog 174 #[.pointer (some ⟨q,0,none⟩),iV n,iV m] w (FC q w):=by
 obtain⟨b1,b2,b3,hB⟩:=h
 refine enter func174 rfl ntmps174 rfl ?_
 refine rx ?_
 cases b3<;>(refine rx ?_;repeat' ((first|refine s_eql rfl rfl (fun h=>?_) (fun h=>?_)|refine s_neq rfl rfl (fun h=>?_) (fun h=>?_)|refine s_lss rfl rfl (fun h=>?_) (fun h=>?_)|refine s_leq rfl rfl (fun h=>?_) (fun h=>?_)|refine s_gtr rfl rfl (fun h=>?_) (fun h=>?_)|refine s_geq rfl rfl (fun h=>?_) (fun h=>?_)|refine s_eqlE rfl rfl (fun h=>?_) (fun h=>?_)|refine s_neqE rfl rfl (fun h=>?_) (fun h=>?_)|refine s_lssS rfl rfl (fun h=>?_) (fun h=>?_)|refine s_gtrS rfl rfl (fun h=>?_) (fun h=>?_))<;>refine rx ?_))
 all_goals
  ((with_reducible apply s_storeB);exact rfl;(conv=>lhs;whnf);exact rfl;exact hB;exact rfl)
  intro w1 h1 hf1 hs1
  refine rx ?_
  exact end0 rfl ⟨rfl,⟨_,_,_,h1⟩,hf1⟩
theorem tokensAny(s:ByteArray)(w:World):Calls prog 77 #[.string s] w fun e w'=>∃v a er,e=.returned (.tuple #[v,iV a,iV er])/\TokR w w' (lexF s.data.toList) v a er:=by
 rw[<-bst_data s]
 by_cases hl:s.data.toList.length<=1000000000000
 .have:=tokensP s.data.toList w hl
  rwa [bst_data]at this ⊢
 have hsz:=bst_size s.data.toList
 refine enter func77 rfl ntmps77 rfl ?_
 rw[bst_data]
 unfold lexF
 have h8:8192<s.data.toList.length:=by omega
 rw[if_pos h8]
 rw[bst_data]at hsz
 exact Ycl
theorem namedC(q:Nat)(s:ByteArray)(k:Nat)(w:World)(h:FB w q):Calls prog 168 #[.pointer (some ⟨q,0,none⟩),.string s,iV k] w (FC q w):=by
 have hq:=h.lt
 refine enter func168 rfl ntmps168 rfl ?_
 refine rx ?_
 refine s_call (tokensAny s w) rfl ?_
 rintro _ w1 ⟨v,a,er,rfl,hf1,hr⟩
 refine⟨_,rfl,?_⟩
 have h:=h.tr0 hf1
 obtain⟨b1,b2,b3,hB⟩:=h
 cases hl:lexF s.data.toList with
 |error x=>
  rw[hl]at hr
  obtain⟨rfl,rfl⟩:=hr
  cases b2
  all_goals
   refine rx ?_;repeat' ((first|refine s_eql rfl rfl (fun h=>?_) (fun h=>?_)|refine s_neq rfl rfl (fun h=>?_) (fun h=>?_)|refine s_lss rfl rfl (fun h=>?_) (fun h=>?_)|refine s_leq rfl rfl (fun h=>?_) (fun h=>?_)|refine s_gtr rfl rfl (fun h=>?_) (fun h=>?_)|refine s_geq rfl rfl (fun h=>?_) (fun h=>?_)|refine s_eqlE rfl rfl (fun h=>?_) (fun h=>?_)|refine s_neqE rfl rfl (fun h=>?_) (fun h=>?_)|refine s_lssS rfl rfl (fun h=>?_) (fun h=>?_)|refine s_gtrS rfl rfl (fun h=>?_) (fun h=>?_))<;>refine rx ?_)
   all_goals
    ((with_reducible apply s_storeB);exact rfl;(conv=>lhs;whnf);exact rfl;exact hB;exact rfl)
    intro w2 h2 hf2 hs2
    refine rx ?_
    exact Yfs
 |ok l=>
  rw[hl]at hr
  obtain⟨ho,hb,rfl,rfl⟩:=hr
  obtain⟨ao,c,rfl⟩:=ho.slice
  cases b2 with
  |true=>
   refine rx ?_
   ((with_reducible apply s_storeB);exact rfl;(conv=>lhs;whnf);exact rfl;exact hB;exact rfl)
   intro w2 h2 hf2 hs2
   refine rx ?_
   exact Yfs
  |false=>
  by_cases h1:l.length=1
  case neg=>
   refine rx ?_
   ((with_reducible apply s_storeB);exact rfl;(conv=>lhs;whnf);exact rfl;exact hB;exact rfl)
   intro w2 h2 hf2 hs2
   refine rx ?_
   exact Yfs
  obtain⟨t,rfl⟩:=List.length_eq_one_iff.1 h1
  obtain⟨ad,had,hc0⟩:=src_at (j:=0) (u:=iV t.kind) ho.src rfl
  subst had
  have hC:Cells w1 (ad.add (0*4)) [iV t.kind,iV t.at_,iV t.n,.string (bst t.text)]:=(Cells.ofSrc ho.src).sub 0 4
  refine rx ?_
  refine s_indexAddr (j:=0) rfl rfl rfl Yhi rfl ?_
  by_cases hk:(t.kind:Int)=k
  case neg=>
   refine rx ?_
   ((with_reducible apply s_storeB);exact rfl;(conv=>lhs;whnf);exact rfl;exact hB;exact rfl)
   intro w2 h2 hf2 hs2
   refine rx ?_
   exact Yfs
  refine rx ?_
  refine s_indexAddr (j:=0) rfl rfl rfl Yhi rfl ?_
  by_cases hs:bst t.text=s
  case neg=>
   refine rx ?_
   ((with_reducible apply s_storeB);exact rfl;(conv=>lhs;whnf);exact rfl;exact hB;exact rfl)
   intro w2 h2 hf2 hs2
   refine rx ?_
   exact Yfs
  refine rx ?_
  refine s_c1 (reservedC w1) ?_
  rintro v w2 ⟨ho2,hf2⟩
  have hB:=hB.tr0 hf2
  refine rx ?_
  subst hs
  refine s_cE (inC v resv t.text w2 ho2.src Yho) ?_
  rintro w3 rfl
  refine rx ?_
  ((with_reducible apply s_storeB);exact rfl;(conv=>lhs;whnf);exact rfl;exact hB;exact rfl)
  intro w3 h3 hf3 hs3
  refine rx ?_
  exact end0 rfl ⟨rfl,⟨_,_,_,h3⟩,(fr_new (hf1.trans0 hf2)).trans hf3 (fun x hx=>.inl hx)⟩
end Go.Proofs.YtggmccicdhnkgaaGreat
namespace Go.Rf
open Go.RowKit
variable{d n:Nat}{w:World}
theorem s_max{D:Dfs}{P:Program}{ops:Array Oper}{Q:Exit->Act->World->Prop}{rest:List Oper}{f:Env}{ty:TypeId}{ps:String}{af:Array Edge}{x y:Operand}
 {k:IntKind} {a b r:Int} {at_:Array TypeId} (hx:ev n f x=.int k a) (hy:ev n f y=.int k b) (hr:(if a<b then b else a)=r) (h:wpList P ops Q rest (A n (upd f d (.int k r))) w):
 wpList P ops Q (⟨some d,.call {callee:=.builtin .max,args:=#[x,y],argTypes:=at_},ty,ps,af,none⟩::rest) (A n f) w:=by
 refine s_run (v:=.int k r) (w':=w) ?_ h
 subst hr
 by_cases hlt:a<b<;>simp[execOp,resolve,invoke,builtin,Builtin.max_,Builtin.max2,hx,hy,hlt]
end Go.Rf
namespace Go.Proofs.YtggmccicdhnkgaaGreat
open Go.Proofs.Tryz
open Go.Rf Go.RowKit
variable{a:List It}{d n p:Nat}{x:Value}{w w':World}
attribute [local irreducible] Code.wp wpList Exit.then Exit.inBlock bodyPost A Calls execOp Addr.add
theorem gNumber(p:Nat)(m:Int)(w:World)(h:GW w p)(hm:0<=m)(hm9:m<=9):
 Calls prog 82 #[.pointer (some ⟨p,0,none⟩),iV m] w fun e w'=>∃k:Nat,e=.returned (.string (bst (dg k)))/\(k:Int)<=m/\GW w' p/\Fr [p] w w':=by
 refine enter func82 rfl ntmps82 rfl ?_
 refine rx ?_
 refine s_c1 (gNext p _ w h Yhd) ?_
 rintro k w1 ⟨hk0,hk,hg,hf⟩
 obtain⟨j,rfl⟩:∃j:Nat,k=(j:Int):=⟨k.toNat,by omega⟩
 refine rx ?_
 refine s_cE (decimal1 j w1 Yhd) ?_
 rintro _ rfl
 refine Yei ?_
 exact⟨j,rfl,by omega,hg,hf⟩
def VsIn(w:World)(x:Value)(p:Nat)(V:List (List It)):Prop:=Src w x V.length (V.map fun v=>.string (bst (rnd v)))/\Off x (V.map fun v=>Value.string (bst (rnd v))) [p]
theorem VsIn.tr{V:List (List It)}(h:VsIn w x p V)(hf:Fr [p] w w'):VsIn w' x p V:=⟨h.1.tr hf h.2,h.2⟩
theorem VsIn.tr0{V:List (List It)}(h:VsIn w x p V)(hf:Fr [] w w'):VsIn w' x p V:=⟨h.1.tr0 hf,h.2⟩
theorem GW.tr0(h:GW w p)(hf:Fr [] w w'):GW w' p:=by
 obtain⟨x,l,i,hb,hs,ho,hl⟩:=h
 exact⟨x,l,i,hb.tr0 hf,hs.tr0 hf,ho,hl⟩
theorem GW.off{e k c:Nat}{ys:List Value}(h:GW w p)(ho:Own w' e 1 (.slice (some ⟨w.heap.size,0,none⟩) k c) n ys)(hn:n=n):Off (.slice (some ⟨w.heap.size,0,none⟩) k c) ys [p]:=by
 obtain⟨x,l,i,hb,hs,_,hl⟩:=h
 intro ad n c e _ hm
 simp only[Value.slice.injEq,Option.some.injEq]at e
 obtain⟨rfl,_⟩:=e
 have:=hb.lt
 simp only[List.mem_singleton]at hm
 omega
def GenC(fid:Nat)(b:Bool)(V:List (List It))(d:Nat):Prop:=∀(p:Nat) (x:Value) (w:World),GW w p->VsIn w x p V->
 Calls prog fid #[.pointer (some ⟨p,0,none⟩),x,iV d] w fun e w'=>∃a,e=.returned (.string (bst (rnd a)))/\EI V b d a/\(rnd a).length<=100000/\GW w' p/\VsIn w' x p V/\Fr [p] w w'
theorem ei_len{V:List (List It)}(hV:∀v∈V,(rnd v).length<=16){b:Bool}(hd:d<=4)(h:EI V b d a):(rnd a).length<=100000:=by
 refine Nat.le_trans (h.len hV) ?_
 have:d=0\/d=1\/d=2\/d=3\/d=4:=by omega
 rcases this with rfl|rfl|rfl|rfl|rfl<;>cases b<;>decide
theorem EI.ups{V:List (List It)}{b:Bool}:∀{d:Nat} (k:Nat),EI V b d a->EI V b (d+k) a
 |d,0,h=>h
 |d,k+1,h=>(EI.ups k h).up
theorem gen_out{V:List (List It)}(hV:∀v∈V,(rnd v).length<=16){b:Bool}(hd:d<=4){t:Bs}(ht:t=rnd a)(h:EI V b d a)(hG:GW w' p)(hV':VsIn w' x p V)(hf:Fr [p] w w'):
 ∃a,Ending.returned (.string (bst t))=.returned (.string (bst (rnd a)))/\EI V b d a/\(rnd a).length<=100000/\GW w' p/\VsIn w' x p V/\Fr [p] w w':=⟨a,by rw[ht],h,ei_len hV hd h,hG,hV',hf⟩
theorem frp{a b c:World}(h:Fr [p] a b)(k:Fr [p] b c):Fr [p] a c:=h.trans k (fun x hx=>.inl hx)
set_option maxRecDepth 4000 in
set_option maxHeartbeats 8000000 in
theorem gInt{V:List (List It)}(hV:∀v∈V,(rnd v).length<=16)(h0:0<V.length)(hV9:V.length<=1000)(d:Nat)(hd:d<=4)
 (hI:0<d->GenC 83 false V (d-1)) (hB:0<d->GenC 84 true V (d-1)):GenC 83 false V d:=by
 intro p x w hG hx
 obtain⟨ao,c,rfl,hc,_⟩:=id hx.1
 generalize hxe:Value.slice ao V.length c=x at hx ⊢
 refine enter func83 rfl ntmps83 rfl ?_
 refine rx ?_
 refine s_c1 (gNext p 9 w hG Yhd) ?_
 rintro k w0 ⟨hk0,hk,hG0,hf0⟩
 have hV0:=hx.tr hf0
 rw[<-hxe]at hV0
 subst hxe
 by_cases hd0:d=0
 .subst hd0
  have h3:k%3=0\/k%3=1\/k%3=2:=by omega
  rcases h3 with h3|h3|h3
  .refine rx ?_
   exact Ybk
  all_goals
   refine rx ?_
   refine Yft ?_
   rintro _ w1 ⟨t,ht,rfl,hG1,hf1⟩
   refine⟨_,rfl,?_⟩
   obtain⟨v,hv,rfl⟩:=List.mem_map.1 ht
   refine Yei ?_
   exact gen_out hV hd rfl (.var hv) hG1 (hV0.tr hf1) (frp hf0 hf1)
 obtain⟨e,rfl⟩:∃e,d=e+1:=⟨d-1,by omega⟩
 have hI:=hI Yhd
 have hB:=hB Yhd
 rw[Nat.add_sub_cancel]at hI hB
 have hde:((e+1:Nat):Int)-1=(e:Int):=by omega
 have hk9:k=0\/k=1\/k=2\/k=3\/k=4\/k=5\/k=6\/k=7\/k=8:=by omega
 rcases hk9 with rfl|rfl|rfl|rfl|rfl|rfl|rfl|rfl|rfl
 .refine rx ?_
  exact Ybk
 iterate 2
  .refine rx ?_
   refine Yft ?_
   rintro _ w1 ⟨t,ht,rfl,hG1,hf1⟩
   refine⟨_,rfl,?_⟩
   obtain⟨v,hv,rfl⟩:=List.mem_map.1 ht
   refine Yei ?_
   exact gen_out hV hd rfl (.var hv) hG1 (hV0.tr hf1) (frp hf0 hf1)
 .refine rx ?_
  rw[hde]
  refine s_c1 (hI p _ _ hG0 hV0) ?_;rintro a1 w1 ⟨ha1,hl1,hG1,hV1,hf1⟩;refine rx ?_
  refine Yeh ?_
  rw[hde]
  refine s_c1 (hI p _ _ hG1 hV1) ?_;rintro a2 w2 ⟨ha2,hl2,hG2,hV2,hf2⟩;refine rx ?_
  refine Yeh ?_
  refine Yfn ?_
  exact gen_out hV hd Yil (.add (.inl rfl) ha1 ha2) hG2 hV2 (frp hf0 (frp hf1 hf2))
 .refine rx ?_
  rw[hde]
  refine s_c1 (hI p _ _ hG0 hV0) ?_;rintro a1 w1 ⟨ha1,hl1,hG1,hV1,hf1⟩;refine rx ?_
  refine Yeh ?_
  rw[hde]
  refine s_c1 (hI p _ _ hG1 hV1) ?_;rintro a2 w2 ⟨ha2,hl2,hG2,hV2,hf2⟩;refine rx ?_
  refine Yeh ?_
  refine Yfn ?_
  exact gen_out hV hd Yil (.add (.inr rfl) ha1 ha2) hG2 hV2 (frp hf0 (frp hf1 hf2))
 .refine rx ?_
  rw[hde]
  refine s_c1 (hI p _ _ hG0 hV0) ?_;rintro a1 w1 ⟨ha1,hl1,hG1,hV1,hf1⟩;refine rx ?_
  refine Yfu ?_
  refine s_c1 (gNumber p 3 _ hG1 Yhd Yhd) ?_;rintro k2 w2 ⟨hk2,hG2,hf2⟩;have hd2:dg k2∈dgs:=dg_mem Yhd;have hl2:(dg k2).length=1:=rfl;refine rx ?_
  refine Yem ?_
  exact gen_out hV hd Yil (.mul hd2 ha1) hG2 (hV1.tr hf2) (frp hf0 (frp hf1 hf2))
 .refine rx ?_
  refine s_buildS [.string (bst [109,97,120]),.string (bst [109,105,110])] rfl rfl rfl rfl (fun u ho hfu hsu=>?_)
  have hf0u:Fr [p] w u:=hf0.trans0 hfu
  have hGu:=hG0.tr0 hfu
  refine rx ?_
  refine s_call (gChoose p _ [[109,97,120],[109,105,110]] u hGu ho.src (hG0.off ho rfl) Yhi Yhi) rfl ?_
  rintro _ w3 ⟨t,ht,rfl,hG3,hf3⟩
  refine⟨_,rfl,?_⟩
  have hlt:t.length=3:=by
   simp only[List.mem_cons,List.not_mem_nil,or_false]at ht
   rcases ht with rfl|rfl<;>rfl
  refine Yel ?_
  rw[hde]
  refine s_c1 (hI p _ _ hG3 ((hV0.tr0 hfu).tr hf3)) ?_;rintro a1 w1 ⟨ha1,hl1,hG1,hV1,hf1⟩;refine rx ?_
  refine Yeh ?_
  rw[hde]
  refine s_c1 (hI p _ _ hG1 hV1) ?_;rintro a2 w2 ⟨ha2,hl2,hG2,hV2,hf2⟩;refine rx ?_
  refine Yeh ?_
  refine Yfn ?_
  exact gen_out hV hd Yil (.mm (m:=t) (by simpa using ht) ha1 ha2) hG2 hV2 (frp hf0u (frp hf3 (frp hf1 hf2)))
 .refine rx ?_
  rw[hde]
  refine s_c1 (hB p _ _ hG0 hV0) ?_;rintro a1 w1 ⟨ha1,hl1,hG1,hV1,hf1⟩;refine rx ?_
  refine Yeh ?_
  rw[hde]
  refine s_c1 (hI p _ _ hG1 hV1) ?_;rintro a2 w2 ⟨ha2,hl2,hG2,hV2,hf2⟩;refine rx ?_
  refine Yeh ?_
  rw[hde]
  refine s_c1 (hI p _ _ hG2 hV2) ?_;rintro a3 w3 ⟨ha3,hl3,hG3,hV3,hf3⟩;refine rx ?_
  refine Yeh ?_
  refine Yfn ?_
  exact gen_out hV hd Yil (.ite ha1 ha2 ha3) hG3 hV3 (frp hf0 (frp hf1 (frp hf2 hf3)))
 .refine rx ?_
  rw[hde]
  refine s_c1 (hI p _ _ hG0 hV0) ?_;rintro a1 w1 ⟨ha1,hl1,hG1,hV1,hf1⟩;refine rx ?_
  refine Yeh ?_
  rw[hde]
  refine s_c1 (hI p _ _ hG1 hV1) ?_;rintro a2 w2 ⟨ha2,hl2,hG2,hV2,hf2⟩;refine rx ?_
  refine Yeh ?_
  refine Yfn ?_
  exact gen_out hV hd Yil (.lt ha1 ha2) hG2 hV2 (frp hf0 (frp hf1 hf2))
set_option maxRecDepth 4000 in
set_option maxHeartbeats 8000000 in
theorem gBool{V:List (List It)}(hV:∀v∈V,(rnd v).length<=16)(d:Nat)(hd:d<=4)
 (hI:GenC 83 false V (d-1)) (hB:0<d->GenC 84 true V (d-1)):GenC 84 true V d:=by
 intro p x w hG hx
 obtain⟨ao,c,rfl,hc,_⟩:=id hx.1
 generalize hxe:Value.slice ao V.length c=x at hx ⊢
 refine enter func84 rfl ntmps84 rfl ?_
 refine rx ?_
 refine s_c1 (gNext p 6 w hG Yhd) ?_
 rintro k w0 ⟨hk0,hk,hG0,hf0⟩
 have hV0:=hx.tr hf0
 rw[<-hxe]at hV0
 subst hxe
 by_cases hd0:d=0
 .have h3:k%3=0\/k%3=1\/k%3=2:=by omega
  rcases h3 with h3|h3|h3
  all_goals
   refine rx ?_
   refine s_max rfl rfl (r:=((d-1:Nat):Int)) Yjq ?_
   refine rx ?_
   refine s_c1 (hI p _ _ hG0 hV0) ?_;rintro a1 w1 ⟨ha1,hl1,hG1,hV1,hf1⟩;refine rx ?_
   refine Yfu ?_
   refine s_buildS [.string (bst [32,60,32]),.string (bst [32,60,61,32]),.string (bst [32,61,61,32]),.string (bst [32,33,61,32])] rfl rfl rfl rfl (fun u ho hfu hsu=>?_)
   refine rx ?_
   refine Yfv ?_
   rintro _ w3 ⟨t,ht,rfl,hG3,hf3⟩
   refine⟨_,rfl,?_⟩
   obtain⟨o,rfl,hoo,hol⟩:∃o:Bs,t=32::(o++[32])/\(o=[60]\/o=[60,61]\/o=[61,61]\/o=[33,61])/\o.length<=2:=by
    simp only[List.mem_cons,List.not_mem_nil,or_false]at ht
    rcases ht with rfl|rfl|rfl|rfl
    .exact ⟨[60],rfl,.inl rfl,by decide⟩
    .exact ⟨[60,61],rfl,.inr (.inl rfl),by decide⟩
    .exact ⟨[61,61],rfl,.inr (.inr (.inl rfl)),by decide⟩
    .exact ⟨[33,61],rfl,.inr (.inr (.inr rfl)),by decide⟩
   refine Yel ?_
   refine s_c1 (hI p _ _ hG3 ((hV1.tr0 hfu).tr hf3)) ?_;rintro a2 w2 ⟨ha2,hl2,hG2,hV2,hf2⟩;refine rx ?_
   refine Yeh ?_
   refine Yfn ?_
   have hei:EI V true (d-1+(d-(d-1))) _:=EI.ups (d-(d-1)) (.cmp hoo ha1 ha2)
   rw[show d-1+(d-(d-1))=d by omega]at hei
   exact gen_out hV hd Yil hei hG2 hV2 (frp (frp hf0 (hf1.trans0 hfu)) (frp hf3 hf2))
 have hk6:k=0\/k=1\/k=2\/k=3\/k=4\/k=5:=by omega
 have hde:(d:Int)-1=((d-1:Nat):Int):=by omega
 have hB:=hB Yhd
 rcases hk6 with rfl|rfl|rfl|rfl|rfl|rfl
 iterate 3
  .refine rx ?_
   refine s_max rfl rfl (r:=((d-1:Nat):Int)) Yjq ?_
   refine rx ?_
   refine s_c1 (hI p _ _ hG0 hV0) ?_;rintro a1 w1 ⟨ha1,hl1,hG1,hV1,hf1⟩;refine rx ?_
   refine Yfu ?_
   refine s_buildS [.string (bst [32,60,32]),.string (bst [32,60,61,32]),.string (bst [32,61,61,32]),.string (bst [32,33,61,32])] rfl rfl rfl rfl (fun u ho hfu hsu=>?_)
   refine rx ?_
   refine Yfv ?_
   rintro _ w3 ⟨t,ht,rfl,hG3,hf3⟩
   refine⟨_,rfl,?_⟩
   obtain⟨o,rfl,hoo,hol⟩:∃o:Bs,t=32::(o++[32])/\(o=[60]\/o=[60,61]\/o=[61,61]\/o=[33,61])/\o.length<=2:=by
    simp only[List.mem_cons,List.not_mem_nil,or_false]at ht
    rcases ht with rfl|rfl|rfl|rfl
    .exact ⟨[60],rfl,.inl rfl,by decide⟩
    .exact ⟨[60,61],rfl,.inr (.inl rfl),by decide⟩
    .exact ⟨[61,61],rfl,.inr (.inr (.inl rfl)),by decide⟩
    .exact ⟨[33,61],rfl,.inr (.inr (.inr rfl)),by decide⟩
   refine Yel ?_
   refine s_c1 (hI p _ _ hG3 ((hV1.tr0 hfu).tr hf3)) ?_;rintro a2 w2 ⟨ha2,hl2,hG2,hV2,hf2⟩;refine rx ?_
   refine Yeh ?_
   refine Yfn ?_
   have hei:EI V true (d-1+(d-(d-1))) _:=EI.ups (d-(d-1)) (.cmp hoo ha1 ha2)
   rw[show d-1+(d-(d-1))=d by omega]at hei
   exact gen_out hV hd Yil hei hG2 hV2 (frp (frp hf0 (hf1.trans0 hfu)) (frp hf3 hf2))
 all_goals obtain⟨e,rfl⟩:∃e,d=e+1:=⟨d-1,by omega⟩
 all_goals rw[Nat.add_sub_cancel]at hI hB hde
 .refine rx ?_
  rw[hde]
  refine s_c1 (hB p _ _ hG0 hV0) ?_;rintro a1 w1 ⟨ha1,hl1,hG1,hV1,hf1⟩;refine rx ?_
  refine Yeh ?_
  rw[hde]
  refine s_c1 (hB p _ _ hG1 hV1) ?_;rintro a2 w2 ⟨ha2,hl2,hG2,hV2,hf2⟩;refine rx ?_
  refine Yeh ?_
  refine Yfn ?_
  exact gen_out hV hd Yil (.log (.inl rfl) ha1 ha2) hG2 hV2 (frp hf0 (frp hf1 hf2))
 .refine rx ?_
  rw[hde]
  refine s_c1 (hB p _ _ hG0 hV0) ?_;rintro a1 w1 ⟨ha1,hl1,hG1,hV1,hf1⟩;refine rx ?_
  refine Yeh ?_
  rw[hde]
  refine s_c1 (hB p _ _ hG1 hV1) ?_;rintro a2 w2 ⟨ha2,hl2,hG2,hV2,hf2⟩;refine rx ?_
  refine Yeh ?_
  refine Yfn ?_
  exact gen_out hV hd Yil (.log (.inr rfl) ha1 ha2) hG2 hV2 (frp hf0 (frp hf1 hf2))
 .refine rx ?_
  rw[hde]
  refine s_c1 (hB p _ _ hG0 hV0) ?_;rintro a1 w1 ⟨ha1,hl1,hG1,hV1,hf1⟩;refine rx ?_
  refine Yem ?_
  exact gen_out hV hd Yil (.neg ha1) hG1 hV1 (frp hf0 hf1)
theorem gens{V:List (List It)}(hV:∀v∈V,(rnd v).length<=16)(h0:0<V.length)(hV9:V.length<=1000):∀d:Nat,d<=4->GenC 83 false V d/\GenC 84 true V d
 |0,h=>by
  have hI:=gInt hV h0 hV9 0 h Yhd Yhd
  exact⟨hI,gBool hV 0 h hI Yhd⟩
 |d+1,h=>by
  obtain⟨hI,hB⟩:=gens hV h0 hV9 d Yhd
  exact⟨gInt hV h0 hV9 (d+1) h (fun _=>hI) (fun _=>hB),gBool hV (d+1) h hI (fun _=>hB)⟩
end Go.Proofs.YtggmccicdhnkgaaGreat
namespace Go.Proofs.YtggmccicdhnkgaaGreat
open Go.Proofs.Tryz
open Go.Rf Go.RowKit
attribute [local irreducible] Code.wp wpList Exit.then Exit.inBlock bodyPost A Calls execOp Addr.add
set_option maxHeartbeats 8000000 in
theorem tyDepC:∀(m:Nat),m<=1000->∀(t:Ty),tyD t<=m->∀(w:World) (S:List Nat) (cs:List Value),RD w S (tyC t) cs->Calls prog 215 #[.agg cs.toArray] w fun e w'=>e=.returned (iV (tyD t))/\Fr [] w w':=by
 intro m
 induction m with
 |zero=>intro _ t h;rw[tyD_eq]at h;omega
 |succ m ih=>
  intro hm t ht w S cs hd
  obtain⟨s,rfl,hk⟩:=tyR.1 hd
  obtain⟨ao,c,rfl,_⟩:=hk.slice
  have hbn:=hk.bound
  have e:=tyD_eq t
  have hl:(t.kids.map tyC).length=t.kids.length:=List.length_map ..
  refine enter func215 rfl ntmps215 rfl ?_
  refine rx ?_
  refine s_box rfl rfl (fun w1 hb1 hf1 hs1=>?_)
  refine rx ?_
  refine c_loopK 5 [3,4] (σ:=Nat) (fun i g u=>g 3=iV (tyDs (t.kids.take i))/\g 4=iV i/\i<=t.kids.length/\Fr [] w1 u) (fun i=>t.kids.length-i) 0 ⟨rfl,rfl,Nat.zero_le _,Fr.refl _ _⟩ ?_
  rintro i g u ⟨h3,h4,hi,hfu⟩
  rw[eq_upd h3,eq_upd h4]
  have hb1:=hb1.tr0 hfu
  have hle:=tyDs_takele t.kids i
  by_cases hlt:i<t.kids.length
  case neg=>
   refine Yei ?_
   rw[List.take_of_length_le Yhd,e]
   exact⟨rfl,hf1.trans0 hfu⟩
  obtain⟨ad,cs2,had,hr,hc⟩:=DR.at tyC_len ((hk.tr0 hf1).tr0 hfu) hlt
  subst had
  have hr0:=hr
  obtain⟨s2,rfl,hk2⟩:=tyR.1 hr
  have hg:=tyDs_get hlt
  have hg1:=tyDs_take hlt
  refine rx ?_
  refine s_cE (ih Yhd t.kids[i] Yhd u S _ hr0) ?_
  rintro w2 hf2
  refine rx ?_
  refine s_max rfl rfl (r:=((tyDs (t.kids.take (i+1)):Nat):Int)) Yjq ?_
  refine rx ?_
  exact Yfw
set_option maxHeartbeats 8000000 in
theorem exDepC:∀(m:Nat),m<=1000->∀(t:Ex),exD t<=m->∀(w:World) (S:List Nat) (cs:List Value),RD w S (exC t) cs->Calls prog 217 #[.agg cs.toArray] w fun e w'=>e=.returned (iV (exD t))/\Fr [] w w':=by
 intro m
 induction m with
 |zero=>intro _ t h;rw[exD_eq]at h;omega
 |succ m ih=>
  intro hm t ht w S cs hd
  obtain⟨s1,s2,s3,rfl,hk1,hk2,hk⟩:=exR.1 hd
  obtain⟨ao1,c1,rfl,_⟩:=DR.slice (rows:=_) hk1
  obtain⟨ao2,c2,rfl,_⟩:=hk2.slice
  obtain⟨ao,c,rfl,_⟩:=hk.slice
  have hbn:=hk.bound
  have e:=exD_eq t
  have hl:(t.kids.map exC).length=t.kids.length:=List.length_map ..
  refine enter func217 rfl ntmps217 rfl ?_
  refine rx ?_
  refine s_box rfl rfl (fun w1 hb1 hf1 hs1=>?_)
  refine rx ?_
  refine c_loopK 5 [3,4] (σ:=Nat) (fun i g u=>g 3=iV (exDs (t.kids.take i))/\g 4=iV i/\i<=t.kids.length/\Fr [] w1 u) (fun i=>t.kids.length-i) 0 ⟨rfl,rfl,Nat.zero_le _,Fr.refl _ _⟩ ?_
  rintro i g u ⟨h3,h4,hi,hfu⟩
  rw[eq_upd h3,eq_upd h4]
  have hb1:=hb1.tr0 hfu
  have hle:=exDs_takele t.kids i
  by_cases hlt:i<t.kids.length
  case neg=>
   refine Yei ?_
   rw[List.take_of_length_le Yhd,e]
   exact⟨rfl,hf1.trans0 hfu⟩
  obtain⟨ad,cs2,had,hr,hc⟩:=DR.at exC_len ((hk.tr0 hf1).tr0 hfu) hlt
  subst had
  have hr0:=hr
  obtain⟨x1,x2,x3,rfl,hu1,hu2,hu3⟩:=exR.1 hr
  have hg:=exDs_get hlt
  have hg1:=exDs_take hlt
  refine rx ?_
  refine s_cE (ih Yhd t.kids[i] Yhd u S _ hr0) ?_
  rintro w2 hf2
  refine rx ?_
  refine s_max rfl rfl (r:=((exDs (t.kids.take (i+1)):Nat):Int)) Yjq ?_
  refine rx ?_
  exact Yfw
set_option maxHeartbeats 8000000 in
theorem gnDepC:∀(m:Nat),m<=1000->∀(t:Gn),gnD t<=m->∀(w:World) (S:List Nat) (cs:List Value),RD w S (gnC t) cs->Calls prog 219 #[.agg cs.toArray] w fun e w'=>e=.returned (iV (gnD t))/\Fr [] w w':=by
 intro m
 induction m with
 |zero=>intro _ t h;rw[gnD_eq]at h;omega
 |succ m ih=>
  intro hm t ht w S cs hd
  obtain⟨s1,s2,s3,rfl,hk1,hk2,hk⟩:=gnR.1 hd
  obtain⟨ao1,c1,rfl,_⟩:=hk1.slice
  obtain⟨ao2,c2,rfl,_⟩:=hk2.slice
  obtain⟨ao,c,rfl,_⟩:=hk.slice
  have hbn:=hk.bound
  have hbn2:=hk2.bound
  have e:=gnD_eq t
  have hl:(t.kids.map gnC).length=t.kids.length:=List.length_map ..
  have hl2:(t.args.map exC).length=t.args.length:=List.length_map ..
  refine enter func219 rfl ntmps219 rfl ?_
  refine rx ?_
  refine s_box rfl rfl (fun w1 hb1 hf1 hs1=>?_)
  refine rx ?_
  refine c_loopK 5 [3,4] (σ:=Nat) (fun i g u=>g 3=iV (gnDs (t.kids.take i))/\g 4=iV i/\i<=t.kids.length/\Fr [] w1 u) (fun i=>t.kids.length-i) 0 ⟨rfl,rfl,Nat.zero_le _,Fr.refl _ _⟩ ?_
  rintro i g u ⟨h3,h4,hi,hfu⟩
  rw[eq_upd h3,eq_upd h4]
  have hb1:=hb1.tr0 hfu
  have hle:=gnDs_takele t.kids i
  by_cases hlt:i<t.kids.length
  case neg=>
   refine rx ?_
   rw[List.take_of_length_le Yhd]
   refine c_loopK 6 [3,5] (σ:=Nat) (fun i g u2=>g 3=iV (max (gnDs t.kids) (exDs (t.args.take i)):Nat)/\g 5=iV i/\i<=t.args.length/\Fr [] u u2) (fun i=>t.args.length-i) 0 ⟨by simp[exDs];rfl,rfl,Nat.zero_le _,Fr.refl _ _⟩ ?_
   rintro j g2 u2 ⟨h3',h5,hj,hfu2⟩
   rw[eq_upd h3',eq_upd h5]
   have hb1:=hb1.tr0 hfu2
   have hle2:=exDs_takele t.args j
   by_cases hlt2:j<t.args.length
   case neg=>
    refine Yei ?_
    rw[List.take_of_length_le Yhd,e]
    exact⟨rfl,(hf1.trans0 hfu).trans0 hfu2⟩
   obtain⟨ad,cs2,had,hr,hc⟩:=DR.at exC_len (((hk2.tr0 hf1).tr0 hfu).tr0 hfu2) hlt2
   subst had
   have hr0:=hr
   obtain⟨x1,x2,x3,rfl,hu1,hu2,hu3⟩:=exR.1 hr
   have hg:=exDs_get hlt2
   have hg1:=exDs_take hlt2
   refine rx ?_
   refine s_cE (exDepC m Yhd t.args[j] Yhd u2 S _ hr0) ?_
   rintro w2 hf2
   refine rx ?_
   refine s_max rfl rfl (r:=((max (gnDs t.kids) (exDs (t.args.take (j+1))):Nat):Int)) Yjq ?_
   refine rx ?_
   exact q_roundK (j+1) Yhb ⟨rfl,rfl,by omega,hfu2.trans0 hf2⟩ Yhd
  obtain⟨ad,cs2,had,hr,hc⟩:=DR.at gnC_len ((hk.tr0 hf1).tr0 hfu) hlt
  subst had
  have hr0:=hr
  obtain⟨x1,x2,x3,rfl,hu1,hu2,hu3⟩:=gnR.1 hr
  have hg:=gnDs_get hlt
  have hg1:=gnDs_take hlt
  refine rx ?_
  refine s_cE (ih Yhd t.kids[i] Yhd u S _ hr0) ?_
  rintro w2 hf2
  refine rx ?_
  refine s_max rfl rfl (r:=((gnDs (t.kids.take (i+1)):Nat):Int)) Yjq ?_
  refine rx ?_
  exact Yfw
end Go.Proofs.YtggmccicdhnkgaaGreat
namespace Go.Proofs.YtggmccicdhnkgaaGreat
open Go.Proofs.Tryz
open Go.Rf Go.RowKit
variable {T q : Nat} {u u' w0 : World}
attribute [local irreducible] Code.wp wpList Exit.then Exit.inBlock bodyPost A Calls execOp Addr.add
def ST (q b : Nat) (cells : List Value) (T : Nat) (w0 u : World) : Prop := FB u q /\ Fr [q] w0 u /\ Blk u b cells T
theorem ST.step {b : Nat} {cells : List Value} (h : ST q b cells T w0 u) (hb : b ≠ q) (h1 : FB u' q) (h2 : Fr [q] u u') : ST q b cells T w0 u' :=
  ⟨h1, h.2.1.trans h2 (fun x hx => .inl hx), h.2.2.tr h2 Yjy⟩
theorem ST.step0 {b : Nat} {cells : List Value} (h : ST q b cells T w0 u) (h2 : Fr [] u u') : ST q b cells T w0 u' :=
  ⟨h.1.tr0 h2, h.2.1.trans0 h2, h.2.2.tr0 h2⟩
theorem ST.sub {b : Nat} {cells : List Value} {w1 : World} (h : ST q b cells T w1 u) (hf : Fr [q] w0 w1) : ST q b cells T w0 u := ⟨h.1, hf.trans h.2.1 (fun x hx => .inl hx), h.2.2⟩
set_option maxHeartbeats 8000000 in
theorem plainC (k : Int) (nm : ByteArray) (n : Int) (a1 a2 a3 : Option Addr) (n1 c1 n2 c2 n3 c3 : Nat) (at_ : Int) (a b c : Bool) (w : World) : Calls prog 230 #[.agg ([iV k, .string nm, iV n, .slice a1 n1 c1, .slice a2 n2 c2, .slice a3 n3 c3, iV at_] : List Value).toArray, .bool a, .bool b, .bool c] w fun e w' => (∃ r : Bool, e = .returned (.bool r)) /\ Fr [] w w' := by
  refine enter func230 rfl ntmps230 rfl ?_
  refine rx ?_
  refine s_box rfl rfl (fun w1 hb1 hf1 hs1 => ?_)
  cases a <;> cases b <;> cases c
  all_goals
    (refine rx ?_; repeat' ((first | refine s_eql rfl rfl (fun h => ?_) (fun h => ?_) | refine s_neq rfl rfl (fun h => ?_) (fun h => ?_) | refine s_lss rfl rfl (fun h => ?_) (fun h => ?_) | refine s_leq rfl rfl (fun h => ?_) (fun h => ?_) | refine s_gtr rfl rfl (fun h => ?_) (fun h => ?_) | refine s_geq rfl rfl (fun h => ?_) (fun h => ?_) | refine s_eqlE rfl rfl (fun h => ?_) (fun h => ?_) | refine s_neqE rfl rfl (fun h => ?_) (fun h => ?_) | refine s_lssS rfl rfl (fun h => ?_) (fun h => ?_) | refine s_gtrS rfl rfl (fun h => ?_) (fun h => ?_)) <;> refine rx ?_))
    all_goals
      refine Yfn ?_
      exact ⟨⟨_, rfl⟩, by assumption⟩
set_option maxHeartbeats 8000000 in
theorem zeroTypeC (k : Int) (nm : ByteArray) (a1 : Option Addr) (n1 c1 : Nat) (w : World) : Calls prog 212 #[.agg ([iV k, .string nm, .slice a1 n1 c1] : List Value).toArray] w fun e w' => (∃ r : Bool, e = .returned (.bool r)) /\ Fr [] w w' := by
  refine enter func212 rfl ntmps212 rfl ?_
  exact Yu
set_option maxHeartbeats 8000000 in
theorem zeroGenC (k : Int) (nm : ByteArray) (a1 a2 a3 : Option Addr) (n1 c1 n2 c2 n3 c3 : Nat) (at_ : Int) (w : World) : Calls prog 214 #[.agg ([iV k, .string nm, .slice a1 n1 c1, .slice a2 n2 c2, .slice a3 n3 c3, iV at_] : List Value).toArray] w fun e w' => (∃ r : Bool, e = .returned (.bool r)) /\ Fr [] w w' := by
  refine enter func214 rfl ntmps214 rfl ?_
  exact Yu
set_option maxHeartbeats 8000000 in
theorem zeroExprC (k : Int) (nm : ByteArray) (n : Int) (a1 a2 a3 : Option Addr) (n1 c1 n2 c2 n3 c3 : Nat) (at_ : Int) (w : World) : Calls prog 213 #[.agg ([iV k, .string nm, iV n, .slice a1 n1 c1, .slice a2 n2 c2, .slice a3 n3 c3, iV at_] : List Value).toArray] w fun e w' => (∃ r : Bool, e = .returned (.bool r)) /\ Fr [] w w' := by
  refine enter func213 rfl ntmps213 rfl ?_
  refine rx ?_
  refine s_box rfl rfl (fun w1 hb1 hf1 hs1 => ?_)
  (refine rx ?_; repeat' ((first | refine s_eql rfl rfl (fun h => ?_) (fun h => ?_) | refine s_neq rfl rfl (fun h => ?_) (fun h => ?_) | refine s_lss rfl rfl (fun h => ?_) (fun h => ?_) | refine s_leq rfl rfl (fun h => ?_) (fun h => ?_) | refine s_gtr rfl rfl (fun h => ?_) (fun h => ?_) | refine s_geq rfl rfl (fun h => ?_) (fun h => ?_) | refine s_eqlE rfl rfl (fun h => ?_) (fun h => ?_) | refine s_neqE rfl rfl (fun h => ?_) (fun h => ?_) | refine s_lssS rfl rfl (fun h => ?_) (fun h => ?_) | refine s_gtrS rfl rfl (fun h => ?_) (fun h => ?_)) <;> refine rx ?_))
  all_goals first
  | (refine s_call (plainC _ _ _ _ _ _ _ _ _ _ _ _ _ _ _ _ _) rfl ?_
     rintro _ w2 ⟨⟨r, rfl⟩, hf2⟩
     refine ⟨_, rfl, ?_⟩
     have hf3 := hf1.trans0 hf2
     refine Yei ?_
     exact ⟨⟨_, rfl⟩, hf3⟩)
  | ((apply ret1; exact rfl; (conv => lhs; whnf))
     exact ⟨⟨_, rfl⟩, hf1⟩)
set_option maxHeartbeats 8000000 in
theorem rankC (s : ByteArray) (w : World) : Calls prog 231 #[.string s] w fun e w' => (∃ r : Nat, r <= 6 /\ e = .returned (iV r)) /\ Fr [] w w' := by
  obtain ⟨S, rfl⟩ : ∃ S, s = bst S := ⟨_, (bst_data s).symm⟩
  refine enter func231 rfl ntmps231 rfl ?_
  refine rx ?_
  refine c_loopK 4 [3] (σ := Nat) (fun i g u => g 3 = iV i /\ 1 <= i /\ i <= 7 /\ Fr [] w u) (fun i => 7 - i) 1 ⟨rfl, by omega, by omega, Fr.refl _ _⟩ ?_
  rintro i g u ⟨h3, h1, h7, hfu⟩
  rw [eq_upd h3]
  by_cases hlt : i < 7
  case neg =>
    by_cases hn : bst S = bst [110, 111, 116]
    all_goals
      refine Yei ?_
    · exact ⟨⟨3, by omega, rfl⟩, hfu⟩
    · exact ⟨⟨0, by omega, rfl⟩, hfu⟩
  refine rx ?_
  refine s_c1 (operatorsC i h1 Yhd u) ?_
  rintro v w2 ⟨ho, hf2⟩
  refine rx ?_
  have hlen : (opsR i).length <= 1000 := by
    have hk : i = 1 \/ i = 2 \/ i = 3 \/ i = 4 \/ i = 5 \/ i = 6 := by omega
    rcases hk with rfl | rfl | rfl | rfl | rfl | rfl <;> decide
  refine s_cE (inC v (opsR i) S w2 ho.src hlen) ?_
  rintro w3 rfl
  generalize (opsR i).contains S = b
  cases b with
  | true =>
    refine Yei ?_
    exact ⟨⟨i, by omega, rfl⟩, hfu.trans0 hf2⟩
  | false =>
    refine rx ?_
    exact q_roundK (i + 1) Yhb ⟨rfl, by omega, by omega, hfu.trans0 hf2⟩ Yhd
end Go.Proofs.YtggmccicdhnkgaaGreat
