/-
 The reference's parser:kind,token.
-/
import Derived.Test.YtmlpcmjmniobdaaGreatZQe
set_option linter.all false
set_option maxHeartbeats 64000000
namespace Go.Rf
open Go.RowKit
variable{r:Bs}
theorem ret3{P:Program}{fn:Func}{R:Ending->World->Prop}{n:Nat}{f:Env}{w:World}{t u s:Nat}{v x y:Value}(hr:fn.results=#[.tmp t,.tmp u,.tmp s])(hv:ev n f (.tmp t)=v)(hx:ev n f (.tmp u)=x)(hy:ev n f (.tmp s)=y)
 (h:R (.returned (.tuple #[v,x,y])) w):bodyPost P fn R .ret (A n f) w:=
 ⟨rfl,.tuple #[v,x,y],by
  have e:(A n f).tmps.getD t undef=v:=by rw[A_getD];exact hv
  have e2:(A n f).tmps.getD u undef=x:=by rw[A_getD];exact hx
  have e3:(A n f).tmps.getD s undef=y:=by rw[A_getD];exact hy
  rw[Array.getD_eq_getD_getElem?]at e e2 e3;simp[results,hr,e,e2,e3],h⟩
def prep(acc:List Tk)(r:Except (Int×Int) (List Tk)):Except (Int×Int) (List Tk):=match r with
 |.ok l=>.ok (acc++l)
 |.error e=>.error e
theorem lexGo_step{f:Nat}{at_:Nat}{S:Bs}(h:at_<S.length):lexGo (f+1) (at_:Int) (S.drop at_)=
 (if endF (S.drop at_)=0 then .error ((at_:Int),2) else if bigT ((S.drop at_).take (endF (S.drop at_))) then .error ((at_:Int),4) else
  prep [mkTk at_ ((S.drop at_).take (endF (S.drop at_)))] (lexGo f ((at_+endF (S.drop at_)+skipF false (S.drop (at_+endF (S.drop at_))):Nat):Int) (S.drop (at_+endF (S.drop at_)+skipF false (S.drop (at_+endF (S.drop at_))))))):=by
 have hne:(S.drop at_).isEmpty=false:=by rw[drop_get h];rfl
 rw[lexGo,if_neg (by rw[hne];simp)];simp only[List.drop_drop];have e:((at_+endF (S.drop at_)+skipF false (S.drop (at_+endF (S.drop at_))):Nat):Int)=(at_:Int)+(endF (S.drop at_):Nat)+(skipF false (S.drop (at_+endF (S.drop at_))):Nat):=by omega
 rw[e];rfl
theorem prep_prep(a b:List Tk)(r:Except (Int×Int) (List Tk)):prep a (prep b r)=prep (a++b) r:=by
 cases r<;>simp[prep]
theorem skipF_le:∀(cm:Bool) (r:Bs),skipF cm r<=r.length
 |_,[]=>Nat.le_refl _
 |cm,b::r=>by
  rw[skipF];have:=skipF_le (if b.toNat=10 then false else if b.toNat=35 then true else cm) r;generalize (if b.toNat=10 then false else if b.toNat=35 then true else cm)=c at this ⊢
  split<;>simp only[List.length_cons]<;>omega
theorem mk_big{b:UInt8}:bigT (b::r)=((decide (clsB b<=2)&&decide (16<(b::r).length))||(decide (clsB b=3)&&decide (1099511627776<valF (b::r)))):=rfl
theorem mk_tk{a:Int}{b:UInt8}:mkTk a (b::r)=⟨if clsB b=1 then 0 else if clsB b=2 then 1 else if clsB b=3 then 2 else 3,a,if clsB b=3 then valF (b::r) else 0,b::r⟩:=rfl
theorem spanF_le(p:Nat->Bool):∀r:Bs,spanF p r<=r.length
 |[]=>Nat.le_refl _
 |b::r=>by
  rw[spanF];have:=spanF_le p r
  split<;>simp only[List.length_cons]<;>omega
theorem symF_len(x:Bs):symF x<=x.length:=by
 unfold symF
 split
 .rename_i s hs;have:=List.find?_some hs;rw[List.isPrefixOf_iff_prefix]at this;exact this.length_le
 .exact Nat.zero_le _
theorem endF_le:∀r:Bs,endF r<=r.length
 |[]=>Nat.le_refl _
 |b::r=>by
  rw[endF];have h1:=spanF_le p1 r;have h2:=spanF_le p2 r;have h3:=spanF_le p3 r;have h4:=symF_len ((b::r).take 2);have h5:((b::r).take 2).length<=(b::r).length:=by rw[List.length_take];omega
  simp only[List.length_cons]at*
  split
  .omega
  .split
   .omega
   .split<;>omega
theorem cls3{b:UInt8}(h:clsB b=3):48<=b.toNat/\b.toNat<=57:=by
 unfold clsB clsN at h
 split at h
 .cases h
 .split at h
  .cases h
  .split at h
   .cases h
   .split at h
    .cases h
    .split at h
     .cases h
     .split at h
      .assumption
      .cases h
theorem span3:∀(r:Bs),∀b∈r.take (spanF p3 r),clsB b=3
 |[],b,h=>by simp at h
 |c::r,b,h=>by
  rw[spanF]at h
  split at h
  .rename_i hc;rw[Nat.add_comm,List.take_succ_cons]at h;rcases List.mem_cons.1 h with rfl|h
   .simpa [p3]using hc
   .exact span3 r b h
  .simp at h
theorem end3{b:UInt8}(h:clsB b=3):∀c∈(b::r).take (endF (b::r)),48<=c.toNat/\c.toNat<=57:=by
 rw[endF,if_neg Yhn,if_neg Yhn,if_pos h,Nat.add_comm,List.take_succ_cons];intro c hc;rcases List.mem_cons.1 hc with rfl|hc
 .exact cls3 h
 .exact cls3 (span3 r c hc)
theorem valF_range{t:Bs}(h:∀b∈t,48<=b.toNat/\b.toNat<=57):0<=valF t/\valF t<=1099511627777:=by
 unfold valF;have:∀(t:Bs) (v:Int),(∀b∈t,48<=b.toNat/\b.toNat<=57)->0<=v->v<=1099511627777->0<=t.foldl (fun n b=>min (10*n+((b.toNat:Int)-48)) 1099511627777) v/\t.foldl (fun n b=>min (10*n+((b.toNat:Int)-48)) 1099511627777) v<=1099511627777:=by
  intro t
  induction t with
  |nil=>exact fun v _ h1 h2=>⟨h1,h2⟩
  |cons b t ih=>
   intro v hb h1 h2;rw[List.foldl_cons];have:=hb b Yhs;exact ih _ (fun x hx=>hb x (by simp[hx])) Yhn Yhn
 exact this t 0 h Yhn Yhn
end Go.Rf
namespace Go.Proofs.YtmlpcmjmniobdaaGreat
open Go.Proofs.Tryz
open Go.Rf Go.RowKit
section
attribute [local irreducible] Code.wp wpList Exit.then Exit.inBlock bodyPost A Calls execOp Addr.add
def tkC(t:Tk):List Value:=[iV t.kind,iV t.at_,iV t.n,.string (bst t.text)]
def TokR(w w':World)(r:Except (Int×Int) (List Tk))(v:Value)(a e:Int):Prop:=Fr [] w w'/\match r with
 |.ok l=>Own w' 155 4 v l.length (l.flatMap tkC)/\(∀k∈blks v,w.heap.size<=k)/\a=0/\e=0
 |.error x=>(a,e)=x/\v=.slice none 0 0
theorem tokensP(S:Bs)(w:World)(hl:S.length<=1000000000000):
 Calls prog 23 #[.string (bst S)] w fun e w'=>∃v a er,e=.returned (.tuple #[v,iV a,iV er])/\TokR w w' (lexF S) v a er:=by
 refine enter func23 rfl ntmps23 rfl ?_;have hsz:=bst_size S;unfold lexF;by_cases h8:8192<S.length
 .rw [if_pos h8];exact Ycp
 rw[if_neg h8];refine rx ?_;refine s_cE (skipP S 0 w Yhn hl) ?_;rintro _ rfl;rw[List.drop_zero,Nat.zero_add];refine rx ?_;have hsk:=skipF_le false S;refine c_loopK 10 [5,6,7,8,9] (σ:=Nat×Nat×List Tk×Value) (fun i g u=>g 5=i.2.2.2/\g 6=iV i.2.1/\i.2.1<=S.length/\S.length<i.2.1+i.1/\i.2.2.1.length<=i.2.1/\lexGo (S.length+1) (skipF false S) (S.drop (skipF false S))=prep i.2.2.1 (lexGo i.1 i.2.1 (S.drop i.2.1))/\Own u 155 4 i.2.2.2 i.2.2.1.length (i.2.2.1.flatMap tkC)/\(∀k∈blks i.2.2.2,w.heap.size<=k)/\Fr [] w u) (fun i=>i.1) (S.length+1,skipF false S,[],zS)
  ⟨rfl,rfl,hsk,by simp only;omega,by simp,by simp only[prep];split<;>simp_all,Own.nil _ _ _,by simp[blks,Value.ownBlock],Fr.refl _ _⟩ ?_
 rintro⟨f,at_,acc,v⟩ g u ⟨h5,h6,ha,hf1,hal,he,hown,hfr,hf⟩;simp only at h5 h6 ha hf1 hal he hown hfr;rw[eq_upd h5,eq_upd h6];by_cases hlt:at_<S.length
 case neg=>
  refine Yfc ?_;refine⟨_,_,_,rfl,hf,?_⟩;rw[he,List.drop_eq_nil_of_le Yhn];obtain⟨q',rfl⟩:∃q,f=q+1:=⟨f-1,by omega⟩;have e0:lexGo (q'+1) (at_:Int) []=.ok []:=by rw[lexGo];exact if_pos rfl
  rw[e0];simp only[prep,List.append_nil];exact⟨hown,hfr,trivial,trivial⟩
 obtain⟨f',rfl⟩:∃q,f=q+1:=⟨f-1,by omega⟩;rw[lexGo_step hlt]at he;have hkl:=endF_le (S.drop at_);rw[List.length_drop]at hkl;refine rx ?_;refine s_cE (endP S at_ u hlt hl) ?_;rintro u1 hf2;have hix:(bst S).data.toList[at_]?=some S[at_]:=by simp[bst,hlt]
 have hdr:=drop_get hlt;have hd3:clsB S[at_]=3->∀c∈(S.drop at_).take (endF (S.drop at_)),48<=c.toNat/\c.toNat<=57:=by rw[hdr];exact end3
 have hcut:(bst S).extract at_ (at_+endF (S.drop at_))=bst ((S.drop at_).take (endF (S.drop at_))):=by rw[bst_cut,List.drop_take,Nat.add_sub_cancel_left]
 obtain⟨k,hk⟩:=exq (endF (S.drop at_));obtain⟨T,hT⟩:=exq ((S.drop at_).take k);have hTl:T.length=k:=by rw[hT,List.length_take,List.length_drop];omega
 have hT0:k≠0->∃T',T=S[at_]::T':=by
  intro h0;obtain⟨q,hq⟩:∃q,k=q+1:=⟨k-1,by omega⟩;rw[hT,hq,hdr,List.take_succ_cons];exact⟨_,rfl⟩
 rw[<-hk]at he hkl hd3 hcut;rw[<-hT]at he hd3 hcut;rw[<-hk];clear hT hk hdr;generalize S[at_]=b at hix hd3 hT0;by_cases hk0:k=0
 .subst hk0;rw[if_pos rfl]at he;refine Yfc ?_;refine⟨_,_,_,rfl,hf.trans0 hf2,?_⟩;rw[he];exact⟨rfl,rfl⟩
 rw[if_neg hk0]at he;obtain⟨T',rfl⟩:=hT0 hk0;rw[mk_big,mk_tk]at he;refine rx ?_;have hTs:=bst_size (b::T');refine s_strCut (j:=at_) (k:=at_+k) rfl rfl rfl rfl rfl Yhn Yhn ?_;rw[hcut];refine rx ?_;refine s_build [iV 3,iV at_,zI,.string (bst (b::T'))] rfl ?_;refine rx ?_;refine s_allocN (l:=[zI,zI,zI,zT]) rfl (fun u2 p hpe hb2 hf3 hs3=>?_);refine rx ?_;refine s_storeAggB (cs:=[iV 3,iV at_,zI,.string (bst (b::T'))]) rfl rfl hb2 Yhu rfl rfl (fun u3 hb3 hf4 hs4=>?_);refine Yff ?_;refine s_cE (classC b u3) ?_;rintro _ rfl;have hf13:Fr [] u u3:=(hf2.trans0 hf3).trans hf4 (fun x hx=>.inr (by rw[List.mem_singleton.1 hx,hpe];exact hf2.size));have hskk:=skipF_le false (S.drop (at_+k));rw[List.length_drop]at hskk;have hat:at_+k+skipF false (S.drop (at_+k))<=S.length:=by omega
 have hp:u.heap.size<=p:=by rw[hpe];exact hf2.size
 by_cases hc1:clsB b=1
 .have hc3:¬clsB b=3:=by omega
  rw[if_pos hc1,if_neg hc3,decide_eq_false hc3,Bool.false_and,Bool.or_false,decide_eq_true (show clsB b<=2 by omega),Bool.true_and,hTl]at he;refine rx ?_;rw[show((clsB b:Nat):Int)-1=0 by omega]
  ((with_reducible apply s_storeB);exact rfl;(conv=>lhs;whnf);exact rfl;exact hb3;exact rfl)
  intro u4 hb4 hf5 hs5;have hf14:Fr [] u u4:=hf13.trans hf5 (fun x hx=>.inr Yjx);by_cases hbig:16<k
  .rw [if_pos (decide_eq_true hbig)]at he;exact Yck
  .rw [if_neg (by simpa using hbig)]at he;refine rx ?_;refine s_buildS [zI,iV at_,zI,.string (bst (b::T'))] rfl rfl rfl rfl (fun z1 ho1 hg1 hs1=>?_);refine rx ?_;refine s_append (hown.tr0 ((hf14).trans0 hg1)) rfl ho1.src rfl rfl Yhu Yhv Yhn (fun v' z2 hov hfv hbv _=>?_);refine rx ?_;refine s_cE (skipP S (at_+k) z2 Yhn hl) ?_;rintro _ rfl;refine rx ?_;rw[prep_prep]at he;exact q_roundK (f',at_+k+skipF false (S.drop (at_+k)),acc++[⟨0,at_,0,b::T'⟩],v') Yhr ⟨rfl,rfl,hat,by simp only;omega,by simp only[List.length_append,List.length_singleton];omega,he,by simpa[tkC]using hov,fun q hq=>by
    rcases hbv q hq with h|h
    .exact hfr q h
    .have h1:=((hf.trans0 (hf14)).trans0 hg1).size;omega,((hf.trans0 (hf14)).trans0 hg1).trans hfv (fun q hq=>.inr (hfr q hq))⟩ Yhw
 by_cases hc2:clsB b=2
 .have hc3:¬clsB b=3:=by omega
  rw[if_neg hc1,if_pos hc2,if_neg hc3,decide_eq_false hc3,Bool.false_and,Bool.or_false,decide_eq_true (show clsB b<=2 by omega),Bool.true_and,hTl]at he;refine rx ?_;rw[show((clsB b:Nat):Int)-1=1 by omega]
  ((with_reducible apply s_storeB);exact rfl;(conv=>lhs;whnf);exact rfl;exact hb3;exact rfl)
  intro u4 hb4 hf5 hs5;have hf14:Fr [] u u4:=hf13.trans hf5 (fun x hx=>.inr Yjx);by_cases hbig:16<k
  .rw [if_pos (decide_eq_true hbig)]at he;exact Yck
  .rw [if_neg (by simpa using hbig)]at he;refine rx ?_;refine s_buildS [iV 1,iV at_,zI,.string (bst (b::T'))] rfl rfl rfl rfl (fun z1 ho1 hg1 hs1=>?_);refine rx ?_;refine s_append (hown.tr0 ((hf14).trans0 hg1)) rfl ho1.src rfl rfl Yhu Yhv Yhn (fun v' z2 hov hfv hbv _=>?_);refine rx ?_;refine s_cE (skipP S (at_+k) z2 Yhn hl) ?_;rintro _ rfl;refine rx ?_;rw[prep_prep]at he;exact q_roundK (f',at_+k+skipF false (S.drop (at_+k)),acc++[⟨1,at_,0,b::T'⟩],v') Yhr ⟨rfl,rfl,hat,by simp only;omega,by simp only[List.length_append,List.length_singleton];omega,he,by simpa[tkC]using hov,fun q hq=>by
    rcases hbv q hq with h|h
    .exact hfr q h
    .have h1:=((hf.trans0 (hf14)).trans0 hg1).size;omega,((hf.trans0 (hf14)).trans0 hg1).trans hfv (fun q hq=>.inr (hfr q hq))⟩ Yhw
 by_cases hc3:clsB b=3
 .rw [if_neg hc1,if_neg hc2,if_pos hc3,if_pos hc3,decide_eq_true hc3,Bool.true_and,decide_eq_false (show¬clsB b<=2 by omega),Bool.false_and,Bool.false_or]at he;have hdg:=hd3 hc3;obtain⟨hv0,hv1⟩:=valF_range hdg;refine rx ?_;rw[show((clsB b:Nat):Int)-1=2 by omega]
  ((with_reducible apply s_storeB);exact rfl;(conv=>lhs;whnf);exact rfl;exact hb3;exact rfl)
  intro u4 hb4 hf5 hs5;have hf14:Fr [] u u4:=hf13.trans hf5 (fun x hx=>.inr Yjx);refine rx ?_;refine s_cE (valueP (b::T') u4 hdg Yhn) ?_;rintro _ rfl;generalize valF (b::T')=vv at he hv0 hv1 ⊢;refine rx ?_
  ((with_reducible apply s_storeB);exact rfl;(conv=>lhs;whnf);exact rfl;exact hb4;exact rfl)
  intro u5 hb5 hf6 hs6;have hf15:Fr [] u u5:=hf14.trans hf6 (fun x hx=>.inr Yjx);by_cases hbig:1099511627776<vv
  .rw [if_pos (decide_eq_true hbig)]at he;refine Yfc ?_;refine⟨_,_,_,rfl,hf.trans0 (hf15),?_⟩;rw[he];exact⟨rfl,rfl⟩
  .rw [if_neg (by simpa using hbig)]at he;refine rx ?_;refine s_buildS [iV 2,iV at_,iV vv,.string (bst (b::T'))] rfl rfl rfl rfl (fun z1 ho1 hg1 hs1=>?_);refine rx ?_;refine s_append (hown.tr0 ((hf15).trans0 hg1)) rfl ho1.src rfl rfl Yhu Yhv Yhn (fun v' z2 hov hfv hbv _=>?_);refine rx ?_;refine s_cE (skipP S (at_+k) z2 Yhn hl) ?_;rintro _ rfl;refine rx ?_;rw[prep_prep]at he;exact q_roundK (f',at_+k+skipF false (S.drop (at_+k)),acc++[⟨2,at_,vv,b::T'⟩],v') Yhr ⟨rfl,rfl,hat,by simp only;omega,by simp only[List.length_append,List.length_singleton];omega,he,by simpa[tkC]using hov,fun q hq=>by
    rcases hbv q hq with h|h
    .exact hfr q h
    .have h1:=((hf.trans0 (hf15)).trans0 hg1).size;omega,((hf.trans0 (hf15)).trans0 hg1).trans hfv (fun q hq=>.inr (hfr q hq))⟩ Yhw
 rw[if_neg hc1,if_neg hc2,if_neg hc3,if_neg hc3,decide_eq_false hc3,Bool.false_and,Bool.or_false]at he;by_cases hc0:clsB b=0
 .rw [decide_eq_true (show clsB b<=2 by omega),Bool.true_and,hTl]at he;by_cases hbig:16<k
  .rw [if_pos (decide_eq_true hbig)]at he;refine Yfc ?_;refine⟨_,_,_,rfl,hf.trans0 (hf13),?_⟩;rw[he];exact⟨rfl,rfl⟩
  .rw [if_neg (by simpa using hbig)]at he;exact Yr
 .rw [decide_eq_false (show¬clsB b<=2 by omega),Bool.false_and,if_neg Yhs]at he;exact Yr
end
section
variable{n:Int}{T r:List Tk}{bd i p:Nat}{w w':World}
attribute [local irreducible] Code.wp wpList Exit.then Exit.inBlock bodyPost A Calls execOp Addr.add
def PS(bd:Nat)(w:World)(p:Nat)(n:Int)(r:List Tk):Prop:=∃(S:Bs) (T:List Tk) (ao:Option Addr) (c i:Nat),Blk w p [.string (bst S),.slice ao T.length c,iV i,.bool false] 103/\Src w (.slice ao T.length c) T.length (T.flatMap tkC)/\Off (.slice ao T.length c) (T.flatMap tkC) [p]/\r=T.drop i/\i<=T.length/\(S.length:Int)=n/\(T.length<=1000000/\∀t∈T,0<=t.n/\t.n<=1099511627777)/\p<bd/\bd<=w.heap.size/\(∀ad,ao=some ad->ad.block<bd)
theorem PS.tr{Z:List Nat}(h:PS bd w p n r)(hf:Fr Z w w')(hZ:∀k∈Z,bd<=k):PS bd w' p n r:=by
 obtain⟨S,T,ao,c,i,hb,hs,ho,h1,h2,h3,h4,h5,h6,h7⟩:=h;refine⟨S,T,ao,c,i,hb.tr hf (fun h=>by have:=hZ p h;omega),hs.tr hf (fun ad n c e _ hm=>?_),ho,h1,h2,h3,h4,h5,Nat.le_trans h6 hf.size,h7⟩;simp only[Value.slice.injEq]at e;have:=h7 ad e.1;have:=hZ _ hm;omega
theorem PS.tr0(h:PS bd w p n r)(hf:Fr [] w w'):PS bd w' p n r:=h.tr hf Yhs
theorem PS.lt(h:PS bd w p n r):p<bd:=by
 obtain⟨S,T,ao,c,i,hb,hs,ho,h1,h2,h3,h4,h5,h6,h7⟩:=h;exact h5
theorem PS.num(h:PS bd w p n r):∀t∈r,0<=t.n/\t.n<=1099511627777:=by
 obtain⟨S,T,ao,c,i,hb,hs,ho,rfl,h2,h3,h4,h5,h6,h7⟩:=h;exact fun t ht=>h4.2 t (List.mem_of_mem_drop ht)
theorem PS.le(h:PS bd w p n r):bd<=w.heap.size:=by
 obtain⟨S,T,ao,c,i,hb,hs,ho,h1,h2,h3,h4,h5,h6,h7⟩:=h;exact h6
theorem tkC_get{j:Nat}(hi:i<T.length)(hj:j<4):(T.flatMap tkC)[i*4+j]?=(tkC T[i])[j]?:=by
 induction T generalizing i with
 |nil=>simp at hi
 |cons t T ih=>
  rw[List.flatMap_cons];cases i with
  |zero=>rw[List.getElem?_append_left (by simp[tkC];omega)];simp
  |succ i=>
   rw[List.getElem?_append_right (by simp[tkC];omega)];have:(i+1)*4+j-(tkC t).length=i*4+j:=by simp[tkC];omega
   rw[this,ih Yjf];rfl
theorem tok_at{ao:Option Addr}{c:Nat}(hs:Src w (.slice ao T.length c) T.length (T.flatMap tkC))(hi:i<T.length):∃ad,ao=some ad/\Cells w (ad.add (i*4)) (tkC T[i]):=by
 obtain⟨ad,rfl,_⟩:=src_at (j:=i*4+0) (u:=iV T[i].kind) hs (by rw[tkC_get hi Yhn];rfl);refine⟨ad,rfl,fun j u hj=>?_⟩;have hj4:j<4:=by
  have:=(List.getElem?_eq_some_iff.1 hj).1;simpa[tkC]using this
 rw[add_add];exact src_cell hs (by rw[tkC_get hi hj4];exact hj)
theorem isC(t:Bs)(p:Nat)(n:Int)(r:List Tk)(w:World)(h:PS bd w p n r):
 Calls prog 113 #[.pointer (some ⟨p,0,none⟩),.string (bst t)] w fun e w'=>e=.returned (.bool (isT t r))/\Fr [] w w':=by
 obtain⟨S,T,ao,c,i,hb,hs,ho,rfl,hi,hn,hT,hpb,hbw,hab⟩:=h;refine enter func113 rfl ntmps113 rfl ?_;refine Yfs ?_;have hS:Fr [] w w.drew:=Fr.drew _ _;refine d_z4 0 1 2 3 hS ?_;refine d_z4 4 5 6 7 hS ?_;refine d_z4 8 9 10 11 hS ?_;refine d_z2 12 13 hS ?_;refine d_z 14 hS ?_;by_cases hlt:i<T.length
 .obtain ⟨ad,rfl,hcl⟩:=tok_at hs hlt;refine d_z4 15 16 17 18 hS ?_;refine d_z4 19 20 21 22 hS ?_;refine d_z2 23 24 hS ?_;refine d_z 25 hS ?_;obtain⟨q,hq⟩:∃q,decide (bst T[i].text=bst t)=q:=⟨_,rfl⟩;refine d_ty 26 hS ?_ (hrun:=by(intro u hu;exact(r_indexAddr rfl rfl rfl Yhn rfl)));refine d_z2 27 28 hS ?_;refine d_z 29 hS ?_;refine d_ty 30 hS ?_ (hrun:=by(intro u hu;exact(r_eqlE (p:=q) rfl rfl hq)));refine d_z 31 hS ?_;refine d_one (i:=32) rfl Yhp ?_;refine rx ?_;refine q_held hS ?_;refine Yfx ?_;refine Yeo ?_;refine⟨?_,hS⟩;rw[List.drop_eq_getElem_cons hlt];simp only[isT];rw[<-hq]
  congr 2
  rw[Bool.eq_iff_iff];simp[bst_inj]
 . (refine d_z4 15 16 17 18 hS ?_;refine d_z4 19 20 21 22 hS ?_;refine d_z4 23 24 25 26 hS ?_;refine d_z4 27 28 29 30 hS ?_;refine d_z 31 hS ?_)
   refine d_one (i:=32) rfl Yhp ?_;refine rx ?_;refine q_held hS ?_;refine Yfx ?_;refine Yeo ?_;refine⟨?_,hS⟩;rw[List.drop_eq_nil_of_le Yhn];rfl
def nextP(b:Bool)(r:List Tk):List Tk:=if b then r.tail else r
theorem pSkip(t:Bs)(p:Nat)(n:Int)(r:List Tk)(w:World)(h:PS bd w p n r):
 Calls prog 60 #[.pointer (some ⟨p,0,none⟩),.string (bst t)] w fun e w'=>e=.returned (.bool (isT t r))/\PS bd w' p n (nextP (isT t r) r)/\Fr [p] w w':=by
 refine enter func60 rfl ntmps60 rfl ?_;refine rx ?_;refine s_cE (isC t p n r w h) ?_;rintro w1 hf1;have h1:=h.tr0 hf1;have hf1p:Fr [p] w w1:=hf1.mono Yhs;cases hq:isT t r with
 |false=>
  refine Yeo ?_;exact⟨rfl,h1,hf1p⟩
 |true=>
  obtain⟨S,T,ao,c,i,hb,hs,ho,rfl,hi,hn,hT,hpb,hbw,hab⟩:=h1;have hlt:i<T.length:=by
   rcases Nat.lt_or_ge i T.length with h|h
   .exact h
   .rw [List.drop_eq_nil_of_le h]at hq;cases hq
  refine rx ?_
  ((with_reducible apply s_storeB);exact rfl;(conv=>lhs;whnf);exact rfl;exact hb;exact rfl)
  intro w2 hb2 hf2 hs2;refine Yeo ?_;exact⟨rfl,⟨S,T,ao,c,i+1,hb2,hs.tr hf2 ho,ho,by simp[nextP],by omega,hn,hT,hpb,Nat.le_trans hbw hf2.size,hab⟩,hf1p.trans hf2 (fun x hx=>.inl hx)⟩
theorem pTake(t:Bs)(p:Nat)(n:Int)(r:List Tk)(w:World)(h:PS bd w p n r)(ht:isT t r=true):
 Calls prog 63 #[.pointer (some ⟨p,0,none⟩),.string (bst t)] w fun e w'=>e=.returned (.tuple #[])/\PS bd w' p n r.tail/\Fr [p] w w':=by
 refine enter func63 rfl ntmps63 rfl ?_;refine rx ?_;refine s_cE (isC t p n r w h) ?_;rintro w1 hf1;have h1:=h.tr0 hf1;have hf1p:Fr [p] w w1:=hf1.mono Yhs;rw[ht];obtain⟨S,T,ao,c,i,hb,hs,ho,rfl,hi,hn,hT,hpb,hbw,hab⟩:=h1;have hlt:i<T.length:=by
  rcases Nat.lt_or_ge i T.length with h|h
  .exact h
  .rw [List.drop_eq_nil_of_le h]at ht;cases ht
 refine rx ?_
 ((with_reducible apply s_storeB);exact rfl;(conv=>lhs;whnf);exact rfl;exact hb;exact rfl)
 intro w2 hb2 hf2 hs2;refine rx ?_;refine end0 rfl ?_;exact⟨rfl,⟨S,T,ao,c,i+1,hb2,hs.tr hf2 ho,ho,by simp,by omega,hn,hT,hpb,Nat.le_trans hbw hf2.size,hab⟩,hf1p.trans hf2 (fun x hx=>.inl hx)⟩
end
section
attribute [local irreducible] Code.wp wpList Exit.then Exit.inBlock bodyPost A Calls execOp Addr.add
theorem inC(v:Value)(l:List Bs)(s:Bs)(w:World)(hs:Src w v l.length (l.map fun t=>.string (bst t)))(hl:l.length<=1000):
 Calls prog 203 #[v,.string (bst s)] w fun e w'=>e=.returned (.bool (l.contains s))/\w=w':=by
 obtain⟨ao,c,rfl,hc,_⟩:=id hs;refine enter func203 rfl ntmps203 rfl ?_;refine rx ?_;refine c_loopK 6 [5] (σ:=Nat) (fun i g u=>g 5=iV i/\i<=l.length/\(l.drop i).contains s=l.contains s/\w=u) (fun i=>l.length-i) 0 ⟨rfl,by omega,by simp,rfl⟩ ?_;rintro i g u ⟨h5,hi,he,rfl⟩;rw[eq_upd h5];by_cases hlt:i<l.length
 case neg=>
  refine Yeo ?_;rw[<-he,List.drop_eq_nil_of_le Yhn];exact⟨rfl,rfl⟩
 obtain⟨ad,rfl,hcell⟩:=src_at (j:=i) (u:=.string (bst l[i])) hs (by simp[hlt]);rw[List.drop_eq_getElem_cons hlt,List.contains_cons]at he;refine rx ?_;rw[Nat.mul_one];refine Ymx ?_;refine rx ?_;refine s_eqlE rfl rfl (fun h=>?_) (fun h=>?_)
 .have hb:(s==l[i])=true:=by rw[beq_iff_eq];exact(bst_inj.1 h).symm
  rw[hb]at he;refine Yeo ?_;exact⟨by rw[<-he];rfl,rfl⟩
 .have hb:(s==l[i])=false:=by
   rw[beq_eq_false_iff_ne];exact fun e=>h (by rw[e])
  rw[hb,Bool.false_or]at he;refine rx ?_;exact q_roundK (i+1) Yhr ⟨rfl,by omega,he,rfl⟩ Yhn
set_option maxRecDepth 4000 in
theorem reservedC(w:World):Calls prog 204 #[] w fun e w'=>∃v,e=.returned v/\Own w' 9 1 v resv.length (resv.map fun t=>.string (bst t))/\Fr [] w w':=by
 refine enter func204 rfl ntmps204 rfl ?_;refine rx ?_;refine s_buildS (resv.map fun t=>.string (bst t)) rfl rfl rfl rfl (fun u ho hf hs=>?_);exact Ybe
theorem pAt(p:Nat)(n:Int)(r:List Tk)(w:World){bd:Nat}(h:PS bd w p n r):
 Calls prog 61 #[.pointer (some ⟨p,0,none⟩)] w fun e w'=>e=.returned (iV (atT n r))/\Fr [] w w':=by
 obtain⟨S,T,ao,c,i,hb,hs,ho,rfl,hi,hn,hT,hpb,hbw,hab⟩:=h;refine enter func61 rfl ntmps61 rfl ?_;refine Yfs ?_;have hS:Fr [] w w.drew:=Fr.drew _ _;by_cases hlt:i<T.length
 . (refine d_z4 0 1 2 3 hS ?_;refine d_z4 4 5 6 7 hS ?_;refine d_z2 8 9 hS ?_)
   refine Yfx ?_;have hb1:=hb.tr0 hS;obtain⟨ad,rfl,hcl⟩:=tok_at (hs.tr0 hS) hlt;refine rx ?_;refine d_begin (fun z=>Fr [] w.drew z) Yhp rfl ?_;have hS2:Fr [] w.drew w.drew.drew:=Fr.drew _ _;refine d_z4 0 1 2 3 hS2 ?_;refine d_z4 4 5 6 7 hS2 ?_;refine d_tx 8 hS2 ?_ (hrun:=by(intro u hu;exact(r_indexAddr rfl rfl rfl Yhn rfl)));refine d_z2 9 10 hS2 ?_;refine d_one (i:=11) rfl Yhp ?_;refine rx ?_;refine q_held hS2 ?_;refine Yfx ?_;refine Yeo ?_;rw[List.drop_eq_getElem_cons hlt];exact⟨rfl,hS.trans0 hS2⟩
 . (refine d_z4 0 1 2 3 hS ?_;refine d_z4 4 5 6 7 hS ?_;refine d_z2 8 9 hS ?_)
   refine Yfx ?_;have hb1:=hb.tr0 hS;have hsz:=bst_size S;refine Yeo ?_;rw[List.drop_eq_nil_of_le Yhn];refine⟨?_,hS⟩;simp only[atT];rw[hsz,hn]
end
section
variable{bd:Nat}
attribute [local irreducible] Code.wp wpList Exit.then Exit.inBlock bodyPost A Calls execOp Addr.add
theorem pKind(k:Nat)(p:Nat)(n:Int)(r:List Tk)(w:World)(h:PS bd w p n r):
 Calls prog 114 #[.pointer (some ⟨p,0,none⟩),iV k] w fun e w'=>e=.returned (.bool (kindT k r))/\Fr [] w w':=by
 obtain⟨S,T,ao,c,i,hb,hs,ho,rfl,hi,hn,hT,hpb,hbw,hab⟩:=h;refine enter func114 rfl ntmps114 rfl ?_;refine Yfs ?_;have hS:Fr [] w w.drew:=Fr.drew _ _;refine d_z4 0 1 2 3 hS ?_;refine d_z4 4 5 6 7 hS ?_;refine d_z4 8 9 10 11 hS ?_;refine d_z2 12 13 hS ?_;refine d_z 14 hS ?_;by_cases hlt:i<T.length
 case neg=>
  refine d_z4 15 16 17 18 hS ?_;refine d_z4 19 20 21 22 hS ?_;refine d_z4 23 24 25 26 hS ?_;refine d_z4 27 28 29 30 hS ?_;refine d_z4 31 32 33 34 hS ?_;refine d_z4 35 36 37 38 hS ?_;refine d_z4 39 40 41 42 hS ?_;refine d_z4 43 44 45 46 hS ?_;refine d_z 47 hS ?_;refine d_one (i:=48) rfl Yhp ?_;refine rx ?_;refine q_held hS ?_;refine Yfx ?_;refine Yeo ?_;rw[List.drop_eq_nil_of_le Yhn];exact⟨rfl,hS⟩
 obtain⟨ad,rfl,hcl⟩:=tok_at hs hlt;rw[List.drop_eq_getElem_cons hlt];simp only[kindT];refine d_z4 15 16 17 18 hS ?_;refine d_z4 19 20 21 22 hS ?_;refine d_z2 23 24 hS ?_;refine d_z 25 hS ?_;refine d_ty 26 hS ?_ (hrun:=by(intro u hu;exact(r_indexAddr rfl rfl rfl Yhn rfl)));refine d_z2 27 28 hS ?_;refine d_z 29 hS ?_;by_cases hk:T[i].kind=k
 case neg=>
  refine d_ty 30 hS ?_ (hrun:=by(intro u hu;exact(r_eql (p:=false) rfl rfl (decide_eq_false Yhn))));refine d_z4 31 32 33 34 hS ?_;refine d_z4 35 36 37 38 hS ?_;refine d_z4 39 40 41 42 hS ?_;refine d_z4 43 44 45 46 hS ?_;refine d_z 47 hS ?_;refine d_one (i:=48) rfl Yhp ?_;refine rx ?_;refine q_held hS ?_;refine Yfx ?_;refine Yeo ?_;rw[show(T[i].kind==k)=false by simpa using hk];exact⟨rfl,hS⟩
 refine d_ty 30 hS ?_ (hrun:=by(intro u hu;exact(r_eql (p:=true) rfl rfl (decide_eq_true Yhn))));refine d_z2 31 32 hS ?_;refine d_z4 34 35 36 37 hS ?_;refine d_z4 38 39 40 41 hS ?_;refine d_ty 42 hS ?_ (hrun:=by(intro u hu;exact(r_indexAddr rfl rfl rfl Yhn rfl)));refine d_z2 43 44 hS ?_;refine d_one (i:=33) rfl Yhp ?_;refine g_yes rfl ?_;refine s_c1 (reservedC _) ?_;rintro v u1 ⟨hown,hf1⟩;have hS1:=hS.trans0 hf1;refine wpList_nil (q_held hS1 ?_);refine d_one (i:=45) rfl Yhp ?_;refine g_yes rfl ?_;refine s_cE (inC v resv T[i].text _ hown.src Yhy) ?_;rintro _ rfl;refine wpList_nil (q_held hS1 ?_);refine d_z2 46 47 hS1 ?_;refine d_one (i:=48) rfl Yhp ?_;refine rx ?_;refine q_held hS1 ?_;refine Yfx ?_;refine Yeo ?_;rw[show(T[i].kind==k)=true by simpa using hk];exact⟨rfl,hS1⟩
theorem pToken(k:Nat)(p:Nat)(n:Int)(t:Tk)(r:List Tk)(w:World)(h:PS bd w p n (t::r))(hk:kindT k (t::r)=true):
 Calls prog 62 #[.pointer (some ⟨p,0,none⟩),iV k] w fun e w'=>e=.returned (.agg (tkC t).toArray)/\PS bd w' p n r/\Fr [p] w w':=by
 refine enter func62 rfl ntmps62 rfl ?_;refine rx ?_;refine s_allocN (l:=[zI,zI,zI,zT]) rfl (fun u1 q hqe hb1 hf1 hs1=>?_);refine rx ?_;refine s_cE (pKind k p n (t::r) u1 (h.tr0 hf1)) ?_;rintro u2 hf2;rw[hk];obtain⟨S,T,ao,c,i,hb0,hs0,ho,hd,hi,hn,hT,hpb,hbw,hab⟩:=h;have hlt:i<T.length:=by
  rcases Nat.lt_or_ge i T.length with h|h
  .exact h
  .rw [List.drop_eq_nil_of_le h]at hd;cases hd
 rw[List.drop_eq_getElem_cons hlt,List.cons.injEq]at hd;obtain⟨rfl,rfl⟩:=hd;have hb:=(hb0.tr0 hf1).tr0 hf2;have hs:=(hs0.tr0 hf1).tr0 hf2;have hb12:=hb1.tr0 hf2;have hqp:q≠p:=by
  have:=hb0.lt;omega
 obtain⟨ad,rfl,hcl0⟩:=tok_at hs0 hlt;have hadq:ad.block≠q:=by
  have h1:=World.block_lt_of_cell? w _ (hcl0 0 _ rfl);rw[add_block,add_block]at h1;omega
 refine rx ?_
 ((with_reducible apply s_storeB);exact rfl;(conv=>lhs;whnf);exact rfl;exact hb;exact rfl)
 intro u3 hb3 hf3 hs3;have hbq:=hb12.tr hf3 (by simpa using hqp);have hs':=hs.tr hf3 ho;obtain⟨ad',had,hcl⟩:=tok_at hs' hlt;simp only[Option.some.injEq]at had;subst had;refine rx ?_;refine d_begin (fun z=>Fr [q] u3 z) Yhp rfl ?_;have hS:Fr [q] u3 u3.drew:=Fr.drew _ _;refine d_z2 0 1 hS ?_;refine d_z 2 hS ?_;refine d_tx 3 hS ?_ (hrun:=by(intro u hu;exact(r_load rfl (Blk.cell (hb3.tr hu (by simpa using hqp.symm)) rfl))));refine d_z2 4 5 hS ?_;refine d_z 6 hS ?_;refine d_tx 7 hS ?_ (hrun:=by(intro u hu;exact(r_load rfl (Blk.cell (hb3.tr hu (by simpa using hqp.symm)) rfl))));refine d_z 8 hS ?_;refine d_tx 9 hS ?_ (hrun:=by(intro u hu;exact(r_indexAddr (j:=i) rfl rfl Yhn Yhn rfl)));refine d_tx 10 hS ?_ (hrun:=by(intro u hu;exact(r_loadC rfl (hcl.tr hu (by simpa[add_block]using hadq)) Yik)));refine d_one (i:=11) rfl Yhp ?_;refine s_storeAggB (cs:=tkC T[i]) rfl rfl (hbq.tr0 (Fr.drew _ _)) (by simp[tkC,Value.oneCell']) rfl rfl (fun u4 hb4 hf4 hs4=>?_);have hS4:Fr [q] u3 u4:=hS.trans hf4 (fun x hx=>.inl hx);refine wpList_nil (q_held hS4 ?_);refine Yfx ?_;refine rx ?_;have hf14:Fr [p] w u4:=(((hf1.trans0 hf2).mono (T:=[p]) Yhs).trans hf3 (fun x hx=>.inl hx)).trans hS4 (fun x hx=>.inr (by rw[List.mem_singleton.1 hx,hqe];exact Nat.le_refl _));exact retc rfl rfl (AggT.load _ (tkC T[i]) rfl (fun j x hx=>by rw[add_lit];exact hb4.cell (by simpa using hx))) ⟨rfl,⟨S,T,some ad,c,i+1,hb3.tr hS4 (by simpa using hqp.symm),hs'.tr hS4 (fun ad' n c e _=>by
  simp only[Value.slice.injEq,Option.some.injEq]at e;rw[<-e.1];simpa using hadq),ho,rfl,by omega,hn,hT,hpb,Nat.le_trans hbw hf14.size,hab⟩,hf14⟩
end
end Go.Proofs.YtmlpcmjmniobdaaGreat
