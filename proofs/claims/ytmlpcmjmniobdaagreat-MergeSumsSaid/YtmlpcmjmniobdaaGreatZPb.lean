/-
 The reference's lexer and parser as functions:tokens,and what is read from them where nothing is wrong.
-/
import Derived.Test.YtmlpcmjmniobdaaGreatZK2
set_option linter.all false
namespace Go.Rf
open Go.RowKit
inductive Dt
 |c (v:Value)
 |l (rows:List (List Dt))
inductive DR (w:World) (S:List Nat):Dt->Value->Prop
 |c {v:Value}:v.oneCell'=true->DR w S (.c v) v
 |l {rows:List (List Dt)} {sl:Value} (k:Nat) (ys:List Value):rows.length<=1000000000000->(∀r∈rows,r.length=k)->ys.length=rows.length*k->Src w sl rows.length ys->Off sl ys S->
  (∀i j (hi:i<rows.length) (hj:j<rows[i].length) (hq:i*k+j<ys.length),DR w S rows[i][j] ys[i*k+j])->DR w S (.l rows) sl
inductive RD (w:World) (S:List Nat):List Dt->List Value->Prop
 |nil:RD w S [] []
 |cons {d:Dt} {v:Value} {ds:List Dt} {vs:List Value}:DR w S d v->RD w S ds vs->RD w S (d::ds) (v::vs)
section
variable{w w':World}{S T:List Nat}{d:Dt}{v:Value}{ds:List Dt}{vs:List Value}
theorem DR.tr(h:DR w S d v)(hf:Fr S w w'):DR w' S d v:=by
 induction h with
 |c h=>exact .c h
 |l k ys h0 h1 h2 h3 h4 _ ih=>exact .l k ys h0 h1 h2 (h3.tr hf h4) h4 ih
theorem DR.mono(h:DR w S d v)(hT:∀b∈T,b∈S\/w.heap.size<=b):DR w T d v:=by
 induction h with
 |c h=>exact .c h
 |l k ys h0 h1 h2 h3 h4 _ ih=>exact .l k ys h0 h1 h2 h3 (Off.mono h3 h4 hT) ih
theorem DR.old(h:DR w S d v)(hf:Fr T w w')(hT:∀b∈T,b∈S\/w.heap.size<=b):DR w' S d v:=by
 have h1:DR w (S++T) d v:=h.mono Ykc;exact(h1.tr (hf.mono (fun b hb=>.inl Yii))).mono (fun b hb=>.inl Yii)
theorem DR.tr0(h:DR w S d v)(hf:Fr [] w w'):DR w' S d v:=h.old hf Yhs
theorem DR.one(h:DR w S d v):v.oneCell'=true:=by
 cases h with
 |c h=>exact h
 |l k ys h0 h1 h2 h3 h4 _=>obtain⟨ao,c,rfl,_⟩:=h3;rfl
theorem DR.cell{x v:Value}(h:DR w S (.c x) v):v=x:=by cases h;rfl
theorem DR.slice{rows:List (List Dt)}(h:DR w S (.l rows) v):∃ao c,v=.slice ao rows.length c/\rows.length<=c:=by
 cases h with
 |l k ys h0 h1 h2 h3 h4 _=>obtain⟨ao,c,rfl,h,_⟩:=h3;exact⟨ao,c,rfl,h⟩
theorem DR.bound{rows:List (List Dt)}(h:DR w S (.l rows) v):rows.length<=1000000000000:=by
 cases h with
 |l k ys h0 h1 h2 h3 h4 _=>exact h0
theorem DR.nil:DR w S (.l []) (zS):=.l 0 [] Yhs Yhs rfl (Src.nil w) (fun _ _ _ e=>by cases e) (fun i j h=>by simp at h)
theorem RD.tr(h:RD w S ds vs)(hf:Fr S w w'):RD w' S ds vs:=by
 induction h with
 |nil=>exact .nil
 |cons h1 _ ih=>exact .cons (h1.tr hf) ih
theorem RD.mono(h:RD w S ds vs)(hT:∀b∈T,b∈S\/w.heap.size<=b):RD w T ds vs:=by
 induction h with
 |nil=>exact .nil
 |cons h1 _ ih=>exact .cons (h1.mono hT) ih
theorem RD.len(h:RD w S ds vs):vs.length=ds.length:=by
 induction h with
 |nil=>rfl
 |cons h1 _ ih=>simp[ih]
theorem RD.one(h:RD w S ds vs):∀u∈vs,u.oneCell'=true:=by
 induction h with
 |nil=>intro u hu;simp at hu
 |cons h1 _ ih=>
  intro u hu;rcases List.mem_cons.1 hu with rfl|hu
  .exact h1.one
  .exact ih u hu
theorem RD.old(h:RD w S ds vs)(hf:Fr T w w')(hT:∀b∈T,b∈S\/w.heap.size<=b):RD w' S ds vs:=by
 induction h with
 |nil=>exact .nil
 |cons h1 _ ih=>exact .cons (h1.old hf hT) ih
theorem RD.tr0(h:RD w S ds vs)(hf:Fr [] w w'):RD w' S ds vs:=h.old hf Yhs
theorem RD.inv(h:RD w S (d::ds) vs):∃v vs',vs=v::vs'/\DR w S d v/\RD w S ds vs':=by
 cases h with
 |cons h1 h2=>exact⟨_,_,rfl,h1,h2⟩
theorem RD.inv0(h:RD w S [] vs):vs=[]:=by cases h;rfl
theorem RD.invC{x:Value}(h:RD w S (.c x::ds) vs):∃vs',vs=x::vs'/\RD w S ds vs':=by
 obtain⟨v,vs',rfl,h1,h2⟩:=h.inv;rw[h1.cell];exact⟨vs',rfl,h2⟩
theorem RD.get(h:RD w S ds vs):∀{j:Nat} (hj:j<ds.length) (hj':j<vs.length),DR w S ds[j] vs[j]:=by
 induction h with
 |nil=>intro j hj;simp at hj
 |cons h1 _ ih=>
  intro j hj hj';cases j with
  |zero=>exact h1
  |succ j=>exact ih (by simpa using hj) (by simpa using hj')
theorem RD.ofGet:∀{ds:List Dt} {vs:List Value},vs.length=ds.length->(∀j (hj:j<ds.length) (hj':j<vs.length),DR w S ds[j] vs[j])->RD w S ds vs
 |[],[],_,_=>.nil
 |[],v::vs,h,_=>by simp at h
 |d::ds,[],h,_=>by simp at h
 |d::ds,v::vs,h,hg=>.cons (hg 0 Yhs Yhs) (RD.ofGet Yil (fun j hj hj'=>hg (j+1) (by simpa using hj) (by simpa using hj')))
theorem RD.app{ds':List Dt}{vs':List Value}(h:RD w S ds vs)(h':RD w S ds' vs'):RD w S (ds++ds') (vs++vs'):=by
 induction h with
 |nil=>exact h'
 |cons h1 _ ih=>exact .cons h1 ih
theorem RD.split:∀{ds ds':List Dt} {vs:List Value},RD w S (ds++ds') vs->∃a b,vs=a++b/\RD w S ds a/\RD w S ds' b
 |[],ds',vs,h=>⟨[],vs,rfl,.nil,h⟩
 |d::ds,ds',vs,h=>by
  obtain⟨v,vs',rfl,h1,h2⟩:=RD.inv h;obtain⟨a,b,rfl,h3,h4⟩:=RD.split h2;exact⟨v::a,b,rfl,.cons h1 h3,h4⟩
end
/-! ### typed rows -/
def TR{α:Type}(f:α->List Dt):World->List Nat->α->List Value->Prop:=fun w S x cs=>RD w S (f x) cs
section
variable{α:Type}{f:α->List Dt}{k:Nat}{w w':World}{S T:List Nat}{l:List α}{sl:Value}
theorem rws_get{R:List Dt->List Value->Prop}:∀(rows:List (List Dt)) (ys:List Value),ys.length=rows.length*k->(∀i (hi:i<rows.length),R rows[i] ((ys.drop (i*k)).take k))->Rws R rows ys
 |[],ys,h,_=>by
  have:ys=[]:=List.eq_nil_of_length_eq_zero Yil;subst this;exact .nil
 |r::rows,ys,h,hg=>by
  have h1:R r (ys.take k):=by
   have:=hg 0 Yhs;rw[Nat.zero_mul,List.drop_zero]at this;exact this
  have h2:=rws_get rows (ys.drop k) (by rw[List.length_drop,h,List.length_cons,Nat.succ_mul];omega) (fun i hi=>by
   have:=hg (i+1) Yjf;rw[List.drop_drop,show k+i*k=(i+1)*k by rw[Nat.succ_mul];omega];simpa using this)
  have:=Rws.cons h1 h2
  rwa [List.take_append_drop]at this
theorem rws_map{β:Type}{R:β->List Value->Prop}{g:α->β}:∀{l:List α} {ys:List Value},Rws R (l.map g) ys↔Rws (fun x cs=>R (g x) cs) l ys
 |[],ys=>by
  constructor
  .intro h;cases h;exact .nil
  .intro h;cases h;exact .nil
 |x::l,ys=>by
  constructor
  .intro h;cases h with
   |cons h1 h2=>exact .cons h1 (rws_map.1 h2)
  .intro h;cases h with
   |cons h1 h2=>exact .cons h1 (rws_map.2 h2)
theorem DR.toSl{rows:List (List Dt)}(h:DR w S (.l rows) sl):Sl w S (RD w S) rows sl:=by
 cases h with
 |l k ys h0 h1 h2 h3 h4 h5=>
  refine⟨ys,h3,h4,rws_get (k:=k) rows ys h2 (fun i hi=>?_)⟩;have hr:=h1 rows[i] (List.getElem_mem hi);have hle:i*k+k<=ys.length:=by rw[h2];calc i*k+k=(i+1)*k:=by rw[Nat.succ_mul]
   _<=rows.length*k:=Nat.mul_le_mul_right k Yhn
  refine RD.ofGet (by rw[List.length_take,List.length_drop];omega) (fun j hj hj'=>?_);rw[List.getElem_take,List.getElem_drop];exact h5 i j hi hj Yhn
theorem DR.ofSl{rows:List (List Dt)}(h0:rows.length<=1000000000000)(hk:∀r∈rows,r.length=k)(h:Sl w S (RD w S) rows sl):DR w S (.l rows) sl:=by
 obtain⟨ys,h1,h2,h3⟩:=h;have hlen:ys.length=rows.length*k:=by
  clear h1 h2 h0
  induction h3 with
  |nil=>simp
  |cons h4 _ ih=>
   rw[List.length_append,ih (fun r hr=>hk r (by simp[hr])),RD.len h4,hk _ Yhs,List.length_cons,Nat.succ_mul];omega
 refine .l k ys h0 hk hlen h1 h2 (fun i j hi hj hq=>?_);clear h1 h2 h0 hlen
 induction h3 generalizing i with
 |nil=>simp at hi
 | @cons r cs rows ys h4 h5 ih=>
  have hr:cs.length=k:=by rw[RD.len h4];exact hk _ Yhs
  cases i with
  |zero=>
   simp only[List.getElem_cons_zero]at hj ⊢;have hj':j<cs.length:=by rw[hr,<-hk r Yhs];exact hj
   simp only[Nat.zero_mul,Nat.zero_add];rw[List.getElem_append_left hj'];exact h4.get hj hj'
  |succ i=>
   simp only[List.getElem_cons_succ]at hj ⊢;have hge:cs.length<=(i+1)*k+j:=by rw[Nat.succ_mul];omega
   rw[List.getElem_append_right hge];have e:(i+1)*k+j-cs.length=i*k+j:=by rw[Nat.succ_mul];omega
   simp only[e];exact ih (fun r hr=>hk r (by simp[hr])) i Yjf hj _
theorem DR.typed(h:DR w S (.l (l.map f)) sl):Sl w S (TR f w S) l sl:=by
 obtain⟨ys,h1,h2,h3⟩:=h.toSl;rw[List.length_map]at h1;exact⟨ys,h1,h2,(rws_map (g:=f) (R:=RD w S)).1 h3⟩
theorem DR.ofTyped(hk:∀x,(f x).length=k)(h0:l.length<=1000000000000)(h:Sl w S (TR f w S) l sl):DR w S (.l (l.map f)) sl:=by
 obtain⟨ys,h1,h2,h3⟩:=h;exact DR.ofSl (k:=k) (by rw[List.length_map];exact h0) (fun r hr=>by obtain⟨x,_,rfl⟩:=List.mem_map.1 hr;exact hk x) ⟨ys,by rw[List.length_map];exact h1,h2,(rws_map (g:=f) (R:=RD w S)).2 h3⟩
theorem DR.at{ao:Option Addr}{m c:Nat}(hk:∀x,(f x).length=k)(h:DR w S (.l (l.map f)) (.slice ao m c)){i:Nat}(hi:i<l.length):∃ad cs,ao=some ad/\RD w S (f l[i]) cs/\Cells w (ad.add (i*k)) cs:=
 Sl.at h.typed (fun x cs h=>by rw[RD.len h,hk]) hi
end
end Go.Rf
namespace Go.Proofs.YtmlpcmjmniobdaaGreat
open Go.Proofs.Tryz
open Go.Rf Go.RowKit
attribute [local irreducible] Code.wp wpList Exit.then Exit.inBlock bodyPost A Calls execOp Addr.add
structure Bq where
 decl:ByteArray
 at_:Int
 arm:Int
def bqV(b:Bq):List Value:=[.string b.decl,iV b.at_,iV b.arm]
def encB1(b:Bq):List Int:=raw (sb b.decl)++(iv b.at_++iv b.arm)
def encB(l:List Bq):List Int:=iv l.length++l.flatMap encB1
def OkB(b:Bq):Prop:=b.decl.size<=1000/\InI64 b.at_/\InI64 b.arm
theorem raw_len(s:ByteArray)(h:s.size<=1000):(raw (sb s)).length<=1010:=by
 have:=uv_len (sb s).length (by rw[sb_len];omega);unfold raw;rw[List.length_append,sb_len]at*;omega
theorem encB1_len{b:Bq}(h:OkB b):(encB1 b).length<=1030:=by
 have h1:=raw_len b.decl h.1;have h2:=iv_len h.2.1.1 h.2.1.2;have h3:=iv_len h.2.2.1 h.2.2.2;unfold encB1;simp only[List.length_append];omega
theorem encBs_len:∀(l:List Bq),(∀b∈l,OkB b)->(l.flatMap encB1).length<=1030*l.length
 |[],_=>by simp
 |b::l,h=>by
  have h1:=encB1_len (h b Yhs);have h2:=encBs_len l (fun x hx=>h x (by simp[hx]));simp only[List.flatMap_cons,List.length_append,List.length_cons];omega
theorem encB_len{l:List Bq}(h:∀b∈l,OkB b)(hl:l.length<=1000):(encB l).length<=2000000:=by
 have h1:=encBs_len l h;have h2:=iv_len (n:=(l.length:Int)) Yhn Yhn;unfold encB;rw[List.length_append];omega
theorem encB_bys(l:List Bq):Bys (encB l):=by
 unfold encB;refine(iv_bys _).append fun x hx=>?_
 obtain⟨b,_,hb⟩:=List.mem_flatMap.1 hx;have sb_bys:Bys (sb b.decl):=by
  intro y hy;simp only[sb,List.mem_map]at hy;obtain⟨c,_,rfl⟩:=hy;have:=c.toNat_lt;omega
 exact((raw_bys sb_bys).append ((iv_bys _).append (iv_bys _))) x hb
theorem bqs_len(l:List Bq):(l.flatMap bqV).length=l.length*3:=by
 induction l with
 |nil=>rfl
 |cons b l ih=>rw[List.flatMap_cons,List.length_append,ih,List.length_cons];simp[bqV];omega
theorem bqs_at:∀(l:List Bq) (i:Nat) (h:i<l.length),((l.flatMap bqV).drop (i*3)).take 3=bqV l[i]
 |b::l,0,_=>by simp[bqV]
 |b::l,i+1,h=>by
  have h':i<l.length:=by simpa using h
  rw[List.flatMap_cons,show(i+1)*3=(bqV b).length+i*3 by simp[bqV];omega,<-List.drop_drop,List.drop_left,bqs_at l i h'];rfl
theorem bqs_one(l:List Bq):∀u∈l.flatMap bqV,u.oneCell'=true:=by
 intro u hu;obtain⟨b,_,h⟩:=List.mem_flatMap.1 hu;simp only[bqV,List.mem_cons,List.not_mem_nil,or_false]at h;rcases h with rfl|rfl|rfl<;>rfl
theorem bqs_cells{w:World}{ao:Option Addr}{c:Nat}{l:List Bq}(h:Src w (.slice ao l.length c) l.length (l.flatMap bqV)){i:Nat}(hi:i<l.length):∃ad,ao=some ad/\Cells w (ad.add (i*3)) (bqV l[i]):=by
 obtain⟨ad,rfl,_⟩:=src_at (j:=i*3) (u:=(l.flatMap bqV)[i*3]'(by rw[bqs_len];omega)) h (List.getElem?_eq_getElem _);exact⟨ad,rfl,bqs_at l i hi▸(Cells.ofSrc h).sub (i*3) 3⟩
theorem encBC(x:Value)(l:List Bq)(w:World)(hx:Src w x l.length (l.flatMap bqV))(hl:l.length<=1000)(hok:∀b∈l,OkB b):
 Calls prog 14 #[x] w fun e w'=>∃v',e=.returned v'/\Own w' 5 1 v' (encB l).length ((encB l).map (.int .u8))/\Fr [] w w':=by
 obtain⟨ao,c,rfl,hc,_⟩:=id hx;refine enter func14 rfl ntmps14 rfl ?_;refine rx ?_;refine s_allocN (l:=[zS]) rfl (fun w1 p hp hb1 hf1 hs1=>?_);have hw1:IsW w1 p (zS) []:=⟨hb1,Own.nil _ _ _⟩;refine rx ?_;refine s_cE (wInt p _ [] l.length w1 Yhn Yhn hw1 Yhs) ?_;rintro w2 ⟨v2,hw2,hf2,hk2⟩;rw[List.nil_append]at hw2;have hin:=iv_len (n:=(l.length:Int)) Yhn Yhn;refine rx ?_;refine c_loop (σ:=Nat×Value) (fun s g u=>g 3=.pointer (some ⟨p,0,none⟩)/\g 9=.slice ao l.length c/\g 10=iV l.length/\g 11=iV s.1/\s.1<=l.length/\IsW u p s.2 (iv l.length++(l.take s.1).flatMap encB1)/\Fr [p] w1 u/\∀k∈blks s.2,w1.heap.size<=k)
  (fun s=>l.length-s.1) (0,v2) ⟨rfl,rfl,rfl,rfl,Nat.zero_le _,by simpa using hw2,hf2.mono (by simp[blks,Value.ownBlock]),fun k hk=>by rcases hk2 k hk with h|h;simp[blks,Value.ownBlock]at h;exact h⟩ ?_
 rintro⟨i,v⟩ g u ⟨h3,h9,h10,h11,hi,hwu,hF,hkb⟩;simp only at h3 h9 h10 h11 hi hwu hF hkb;rw[eq_upd h3,eq_upd h9,eq_upd h10,eq_upd h11];have hl1:=encBs_len (l.take i) (fun b hb=>hok b (List.mem_of_mem_take hb));rw[List.length_take]at hl1;have hFw:Fr [] w u:=hf1.trans hF Yht;have hsu:=hFw.size;refine rx ?_;refine s_lss rfl rfl (fun hlt=>?_) (fun hge=>?_)
 case refine_2=>
  have:i=l.length:=by omega
  subst this;rw[List.take_length]at hwu;have hq:=encB_len hok hl;refine rx ?_;refine s_c1 (wDone p v (encB l) u hwu Yhn) ?_;rintro v4 w4 ⟨ho4,hf4,_⟩;refine Yeo ?_;exact⟨v4,rfl,ho4,hFw.trans0 hf4⟩
 have hil:i<l.length:=by omega
 obtain⟨ad,rfl,hcell⟩:=bqs_cells (hx.tr0 hFw) hil;obtain⟨o1,o2,o3⟩:=hok _ (List.getElem_mem hil);refine rx ?_;refine s_allocN (l:=[.string .empty,zI,zI]) rfl (fun u1 q hq hq1 hfu1 hsu1=>?_);have hwlt:=hwu.1.lt;have hw3:IsW u1 p v _:=⟨hwu.1.tr0 hfu1,hwu.2.tr0 hfu1⟩;have hvb:=hwu.2.lt;refine rx ?_;refine s_storeAggB (cs:=bqV l[i]) rfl rfl hq1 (fun c hc=>bqs_one l c (List.mem_flatMap.2 ⟨_,List.getElem_mem hil,hc⟩)) rfl rfl (fun u2 hq2 hfu2 hsu2=>?_);have hw3:IsW u2 p v _:=⟨hw3.1.tr hfu2 Yht,hw3.2.tr hfu2 (fun k hk=>by have:=hvb k hk;simp;omega)⟩;have hF2:Fr [p] w1 u2:=(hF.trans0 hfu1).trans hfu2 (fun x hx=>.inr (by simp at hx;have:=hF.size;omega));have hq2:Blk u2 q [.string l[i].decl,iV l[i].at_,iV l[i].arm] 56:=hq2;have hne:∀k∈blks v,k≠q:=fun k hk=>by have:=hvb k hk;omega
 refine rx ?_;refine s_cE (wText p v _ l[i].decl u2 hw3 Yim Yhn) ?_;rintro u3 ⟨v3,hw4,hf3,hk3⟩;have hq3:=hq2.tr hf3 (by simp only[List.mem_cons,not_or];exact⟨by omega,fun hm=>hne q hm rfl⟩);have hne3:∀k∈blks v3,k≠q:=fun k hk=>by
  rcases hk3 k hk with h|h
  .exact hne k h
  .have:=hq2.lt;omega
 have hr1:=raw_len _ o1;refine rx ?_;refine s_cE (wInt p v3 _ l[i].at_ u3 o2.1 o2.2 hw4 Yim) ?_;rintro u4 ⟨v4,hw5,hf4,hk4⟩;have hq4:=hq3.tr hf4 (by simp only[List.mem_cons,not_or];exact⟨by omega,fun hm=>hne3 q hm rfl⟩);have hr2:=iv_len o2.1 o2.2;refine rx ?_;refine s_cE (wInt p v4 _ l[i].arm u4 o3.1 o3.2 hw5 Yim) ?_;rintro u5 ⟨v5,hw6,hf5,hk5⟩;refine rx ?_;have hkA:∀k∈blks v3,w1.heap.size<=k:=fun k hk=>by
  rcases hk3 k hk with h|h
  .exact hkb k h
  .have:=hF2.size;omega
 have hF3:Fr [p] w1 u3:=hF2.trans hf3 (fun x hx=>by
  rcases List.mem_cons.1 hx with rfl|hx
  .exact .inl Yhs
  .exact .inr (hkb x hx))
 have hkB:∀k∈blks v4,w1.heap.size<=k:=fun k hk=>by
  rcases hk4 k hk with h|h
  .exact hkA k h
  .have:=hF3.size;omega
 have hF4:Fr [p] w1 u4:=hF3.trans hf4 (fun x hx=>by
  rcases List.mem_cons.1 hx with rfl|hx
  .exact .inl Yhs
  .exact .inr (hkA x hx))
 refine q_round (i+1,v5) ⟨rfl,rfl,rfl,rfl,hil,?_,hF4.trans hf5 (fun x hx=>?_),fun k hk=>?_⟩ Yhw
 .simp only;rw[List.take_succ_eq_append_getElem hil,List.flatMap_append];simp only[List.flatMap_cons,List.flatMap_nil,List.append_nil,encB1,<-List.append_assoc]at hw6 ⊢;exact hw6
 .rcases List.mem_cons.1 hx with rfl|hx
  .exact .inl Yhs
  .exact .inr (hkB x hx)
 .rcases hk5 k hk with h|h
  .exact hkB k h
  .have:=hF4.size;omega
theorem refEncBC(x:Value)(l:List Bq)(w:World)(hx:Src w x l.length (l.flatMap bqV))(hl:l.length<=1000)(hok:∀b∈l,OkB b):
 Calls prog 17 #[x] w fun e w'=>∃v',e=.returned v'/\Out w w' v' (encB l):=by
 obtain⟨ao,c,rfl,hc,_⟩:=id hx;refine enter func17 rfl ntmps17 rfl ?_;refine rx ?_;refine s_c1 (refInt l.length w ⟨by omega,by omega⟩) ?_;rintro v1 w1 ho1;have hin:=iv_len (n:=(l.length:Int)) Yhn Yhn;refine rx ?_;refine c_loop (σ:=Nat×Value) (fun s g u=>g 0=.slice ao l.length c/\g 3=s.2/\g 4=iV s.1/\s.1<=l.length/\Out w u s.2 (iv l.length++(l.take s.1).flatMap encB1)) (fun s=>l.length-s.1) (0,v1) ⟨rfl,rfl,rfl,Nat.zero_le _,by simpa using ho1⟩ ?_;rintro⟨i,v⟩ g u ⟨h0,h3,h4,hi,hO⟩;simp only at h0 h3 h4 hi hO;rw[eq_upd h0,eq_upd h3,eq_upd h4];have hl1:=encBs_len (l.take i) (fun b hb=>hok b (List.mem_of_mem_take hb));rw[List.length_take]at hl1;refine rx ?_;refine s_lss rfl rfl (fun hlt=>?_) (fun hge=>?_)
 case refine_2=>
  have:i=l.length:=by omega
  subst this;rw[List.take_length]at hO;refine Yeo ?_;exact⟨v,rfl,hO⟩
 have hil:i<l.length:=by omega
 obtain⟨ad,rfl,hcell⟩:=bqs_cells (hx.tr0 hO.2.1) hil;have hadw:=hx.lt (by rw[bqs_len];omega);obtain⟨o1,o2,o3⟩:=hok _ (List.getElem_mem hil);have hcell':Cells u (ad.add (i*3)) [.string l[i].decl,iV l[i].at_,iV l[i].arm]:=hcell;have hr1:=raw_len _ o1;have hr2:=iv_len o2.1 o2.2;have hr3:=iv_len o3.1 o3.2;refine rx ?_;refine s_fromStr rfl (fun cb w2 hcb hsrc2 hf2=>?_);have hsb:(l[i].decl.data.toList.map fun b=>Value.int .u8 b.toNat)=(sb l[i].decl).map (.int .u8):=by simp[sb]
 rw[hsb]at hsrc2;have hszb:=sb_len l[i].decl;refine s_c1 (refRaw _ (sb l[i].decl) w2 (by rw[hszb];exact hsrc2) Yhn) ?_;rintro v3 w3 ho3;have hf3:=hf2.trans0 ho3.2.1;refine s_append (hO.1.tr0 hf3) rfl ho3.1.src rfl Yhs (ints_one _ _) Ynf Yim (fun v4 w4 ho4 hf4 hk4 _=>?_);have hO4:=hO.app hf3 ho4 hf4 hk4;refine rx ?_;have hbO:∀b∈blks v,b≠ad.block:=fun b hb=>by have:=hO.2.2 b hb;omega
 have hbO4:∀b∈blks v4,b≠ad.block:=fun b hb=>by have:=hO4.2.2 b hb;omega
 have hab:(ad.add (i*3)).block=ad.block:=add_block _ _;have hc4:Cells w4 (ad.add (i*3)) [.string l[i].decl,iV l[i].at_,iV l[i].arm]:=(hcell'.tr0 hf3).tr hf4 (by rw[hab];exact fun h=>hbO _ h rfl);refine d_begin (fun z=>Cells z (ad.add (i*3)) [.string l[i].decl,iV l[i].at_,iV l[i].arm]) Yhp rfl ?_;have hS:Cells w4.drew (ad.add (i*3)) [.string l[i].decl,iV l[i].at_,iV l[i].arm]:=hc4.tr0 (Fr.drew _ _);refine d_z4 0 1 2 3 hS ?_;refine d_z4 4 5 8 9 hS ?_;refine d_z2 10 11 hS ?_;refine d_z 12 hS ?_;refine d_one (i:=6) rfl Yhp ?_;refine s_c1 (refInt _ w4.drew o2) ?_;rintro v5 w5 ho5;have hS5:=hS.tr0 ho5.2.1;refine wpList_nil (q_held hS5 ?_);refine d_one (i:=7) rfl Yhp ?_;have hf5:Fr [] w4 w5:=(Fr.drew _ _).trans0 ho5.2.1;refine s_append (hO4.1.tr0 hf5) rfl ho5.1.src rfl Yhs (ints_one _ _) Ynf Yim (fun v6 w6 ho6 hf6 hk6 _=>?_);have hO6:=hO4.app hf5 ho6 hf6 hk6;have hbO6:∀b∈blks v6,b≠ad.block:=fun b hb=>by have:=hO6.2.2 b hb;omega
 have hS6:=hS5.tr hf6 (by rw[hab];exact fun h=>hbO4 _ h rfl);refine wpList_nil (q_held hS6 ?_);refine d_one (i:=13) rfl Yhp ?_;refine s_c1 (refInt _ w6 o3) ?_;rintro v7 w7 ho7;have hS7:=hS6.tr0 ho7.2.1;refine wpList_nil (q_held hS7 ?_);refine d_one (i:=14) rfl Yhp ?_;refine s_append (hO6.1.tr0 ho7.2.1) rfl ho7.1.src rfl Yhs (ints_one _ _) Ynf Yim (fun v8 w8 ho8 hf8 hk8 _=>?_);have hO8:=hO6.app ho7.2.1 ho8 hf8 hk8;have hS8:=hS7.tr hf8 (by rw[hab];exact fun h=>hbO6 _ h rfl);refine wpList_nil (q_held hS8 ?_);refine d_one (i:=15) rfl Yhp ?_;refine rx ?_;refine q_held hS8 ?_;refine Yfx ?_;refine rx ?_;refine q_round (i+1,v8) ⟨rfl,rfl,rfl,hil,?_⟩ Yhw;simp only;rw[List.take_succ_eq_append_getElem hil,List.flatMap_append];simp only[List.flatMap_cons,List.flatMap_nil,List.append_nil,encB1,<-List.append_assoc]at hO8 ⊢;exact hO8
end Go.Proofs.YtmlpcmjmniobdaaGreat
namespace Go.Rf
open Go.RowKit
section
structure Ty where
 kind:Int
 name:ByteArray
 kids:List Ty
structure Ex where
 kind:Int
 name:ByteArray
 n:Int
 names:List ByteArray
 binds:List (List ByteArray)
 kids:List Ex
 at_:Int
structure Gn where
 kind:Int
 name:ByteArray
 ws:List Int
 args:List Ex
 kids:List Gn
 at_:Int
structure Pm where
 name:ByteArray
 type:Ty
structure Ct where
 name:ByteArray
 args:List Ty
structure Ck where
 name:ByteArray
 expr:Ex
structure Cl where
 cls:ByteArray
 num:Int
 den:Int
structure Dw where
 name:ByteArray
 type:Ty
 gen:Gn
 ref:Bool
structure Cm where
 name:ByteArray
 draws:List Dw
 pre:Ex
 next:Ex
 post:Ex
structure Ac where
 shared:Ex
 loc:Ex
structure Op where
 name:ByteArray
 params:List Pm
 acts:List Ac
structure De where
 kind:Int
 name:ByteArray
 at_:Int
 ctors:List Ct
 params:List Pm
 type:Ty
 body:Ex
 depth:Int
 gen:Gn
 draws:List Dw
 checks:List Ck
 classes:List Ck
 claims:List Cl
 state:Ty
 init:Ex
 cmds:List Cm
 ops:List Op
 recov:Ex
def ty0:Ty:=⟨0,.empty,[]⟩
def ex0:Ex:=⟨0,.empty,0,[],[],[],0⟩
def gn0:Gn:=⟨0,.empty,[],[],[],0⟩
def de0:De:=⟨0,.empty,0,[],[],ty0,ex0,0,gn0,[],[],[],[],ty0,ex0,[],[],ex0⟩
/-! ### as data -/
def di(n:Int):Dt:=.c (iV n)
def ds(s:ByteArray):Dt:=.c (.string s)
def db(b:Bool):Dt:=.c (.bool b)
def strR(s:ByteArray):List Dt:=[ds s]
def strs(l:List ByteArray):Dt:=.l (l.map strR)
def strsR(l:List ByteArray):List Dt:=[strs l]
def intR(n:Int):List Dt:=[di n]
mutual
def tyC:Ty->List Dt
 |⟨k,n,ks⟩=>[di k,ds n,.l (tyCs ks)]
def tyCs:List Ty->List (List Dt)
 |[]=>[]
 |t::l=>tyC t::tyCs l
end
mutual
def exC:Ex->List Dt
 |⟨k,nm,n,ns,bs,ks,a⟩=>[di k,ds nm,di n,strs ns,.l (bs.map strsR),.l (exCs ks),di a]
def exCs:List Ex->List (List Dt)
 |[]=>[]
 |t::l=>exC t::exCs l
end
mutual
def gnC:Gn->List Dt
 |⟨k,nm,ws,as_,ks,a⟩=>[di k,ds nm,.l (ws.map intR),.l (as_.map exC),.l (gnCs ks),di a]
def gnCs:List Gn->List (List Dt)
 |[]=>[]
 |t::l=>gnC t::gnCs l
end
theorem tyCs_map:∀l:List Ty,tyCs l=l.map tyC
 |[]=>rfl
 |t::l=>by rw[tyCs,tyCs_map l];rfl
theorem exCs_map:∀l:List Ex,exCs l=l.map exC
 |[]=>rfl
 |t::l=>by rw[exCs,exCs_map l];rfl
theorem gnCs_map:∀l:List Gn,gnCs l=l.map gnC
 |[]=>rfl
 |t::l=>by rw[gnCs,gnCs_map l];rfl
theorem tyC_eq(t:Ty):tyC t=[di t.kind,ds t.name,.l (t.kids.map tyC)]:=by cases t;rw[tyC,tyCs_map]
theorem exC_eq(e:Ex):exC e=[di e.kind,ds e.name,di e.n,strs e.names,.l (e.binds.map strsR),.l (e.kids.map exC),di e.at_]:=by cases e;rw[exC,exCs_map]
theorem gnC_eq(g:Gn):gnC g=[di g.kind,ds g.name,.l (g.ws.map intR),.l (g.args.map exC),.l (g.kids.map gnC),di g.at_]:=by cases g;rw[gnC,gnCs_map]
def pmC(p:Pm):List Dt:=ds p.name::tyC p.type
def ctC(c:Ct):List Dt:=[ds c.name,.l (c.args.map tyC)]
def ckC(c:Ck):List Dt:=ds c.name::exC c.expr
def clC(c:Cl):List Dt:=[ds c.cls,di c.num,di c.den]
def dwC(d:Dw):List Dt:=ds d.name::(tyC d.type++(gnC d.gen++[db d.ref]))
def cmC(c:Cm):List Dt:=ds c.name::.l (c.draws.map dwC)::(exC c.pre++(exC c.next++exC c.post))
def acC(a:Ac):List Dt:=exC a.shared++exC a.loc
def opC(o:Op):List Dt:=[ds o.name,.l (o.params.map pmC),.l (o.acts.map acC)]
def deC(d:De):List Dt:=di d.kind::ds d.name::di d.at_::.l (d.ctors.map ctC)::.l (d.params.map pmC)::(tyC d.type++(exC d.body++(di d.depth::(gnC d.gen++(.l (d.draws.map dwC)::.l (d.checks.map ckC)::.l (d.classes.map ckC)::.l (d.claims.map clC)::(tyC d.state++(exC d.init++(.l (d.cmds.map cmC)::.l (d.ops.map opC)::exC d.recov))))))))
theorem strR_len(s:ByteArray):(strR s).length=1:=rfl
theorem strsR_len(l:List ByteArray):(strsR l).length=1:=rfl
theorem intR_len(n:Int):(intR n).length=1:=rfl
theorem tyC_len(t:Ty):(tyC t).length=3:=by rw[tyC_eq];rfl
theorem exC_len(e:Ex):(exC e).length=7:=by rw[exC_eq];rfl
theorem gnC_len(g:Gn):(gnC g).length=6:=by rw[gnC_eq];rfl
theorem pmC_len(p:Pm):(pmC p).length=4:=by simp[pmC,tyC_len]
theorem ctC_len(c:Ct):(ctC c).length=2:=rfl
theorem ckC_len(c:Ck):(ckC c).length=8:=by simp[ckC,exC_len]
theorem clC_len(c:Cl):(clC c).length=3:=rfl
theorem dwC_len(d:Dw):(dwC d).length=11:=by simp[dwC,tyC_len,gnC_len]
theorem cmC_len(c:Cm):(cmC c).length=23:=by simp[cmC,exC_len]
theorem acC_len(a:Ac):(acC a).length=14:=by simp[acC,exC_len]
theorem opC_len(o:Op):(opC o).length=3:=rfl
theorem deC_len(d:De):(deC d).length=45:=by simp[deC,exC_len,tyC_len,gnC_len]
/-! ### the cells -/
def tyV(t:Ty)(s:Value):List Value:=[iV t.kind,.string t.name,s]
def exV(e:Ex)(s1 s2 s3:Value):List Value:=[iV e.kind,.string e.name,iV e.n,s1,s2,s3,iV e.at_]
def gnV(g:Gn)(s1 s2 s3:Value):List Value:=[iV g.kind,.string g.name,s1,s2,s3,iV g.at_]
section
variable{w:World}{S:List Nat}{cs:List Value}
theorem RD.c1{x:Value}{ds':List Dt}{vs:List Value}(hx:x.oneCell'=true)(h:RD w S ds' vs):RD w S (.c x::ds') (x::vs):=.cons (.c hx) h
theorem tyR{t:Ty}:RD w S (tyC t) cs↔∃s,cs=tyV t s/\DR w S (.l (t.kids.map tyC)) s:=by
 rw[tyC_eq];constructor
 .intro h;obtain⟨_,rfl,g1⟩:=h.invC;obtain⟨_,rfl,g2⟩:=g1.invC;obtain⟨s,_,rfl,h1,g3⟩:=g2.inv;rw[g3.inv0];exact⟨s,rfl,h1⟩
 .rintro ⟨s,rfl,h⟩;exact .c1 rfl (.c1 rfl (.cons h .nil))
theorem exR{e:Ex}:RD w S (exC e) cs↔∃s1 s2 s3,cs=exV e s1 s2 s3/\DR w S (strs e.names) s1/\DR w S (.l (e.binds.map strsR)) s2/\DR w S (.l (e.kids.map exC)) s3:=by
 rw[exC_eq];constructor
 .intro h;obtain⟨_,rfl,g1⟩:=h.invC;obtain⟨_,rfl,g2⟩:=g1.invC;obtain⟨_,rfl,g3⟩:=g2.invC;obtain⟨s1,_,rfl,h1,g4⟩:=g3.inv;obtain⟨s2,_,rfl,h2,g5⟩:=g4.inv;obtain⟨s3,_,rfl,h3,g6⟩:=g5.inv;obtain⟨_,rfl,g7⟩:=g6.invC;rw[g7.inv0];exact⟨s1,s2,s3,rfl,h1,h2,h3⟩
 .rintro ⟨s1,s2,s3,rfl,h1,h2,h3⟩;exact .c1 rfl (.c1 rfl (.c1 rfl (.cons h1 (.cons h2 (.cons h3 (.c1 rfl .nil))))))
theorem gnR{g:Gn}:RD w S (gnC g) cs↔∃s1 s2 s3,cs=gnV g s1 s2 s3/\DR w S (.l (g.ws.map intR)) s1/\DR w S (.l (g.args.map exC)) s2/\DR w S (.l (g.kids.map gnC)) s3:=by
 rw[gnC_eq];constructor
 .intro h;obtain⟨_,rfl,g1⟩:=h.invC;obtain⟨_,rfl,g2⟩:=g1.invC;obtain⟨s1,_,rfl,h1,g3⟩:=g2.inv;obtain⟨s2,_,rfl,h2,g4⟩:=g3.inv;obtain⟨s3,_,rfl,h3,g5⟩:=g4.inv;obtain⟨_,rfl,g6⟩:=g5.invC;rw[g6.inv0];exact⟨s1,s2,s3,rfl,h1,h2,h3⟩
 .rintro ⟨s1,s2,s3,rfl,h1,h2,h3⟩;exact .c1 rfl (.c1 rfl (.cons h1 (.cons h2 (.cons h3 (.c1 rfl .nil)))))
end
end
abbrev Bs:=List UInt8
def bst(l:Bs):ByteArray:=⟨l.toArray⟩
abbrev zT : Value := .string (bst [])
structure Tk where
 kind:Nat
 at_:Int
 n:Int
 text:Bs
def resv:List Bs:=[[97,110,100],[98,111,111,108],[99,104,101,99,107],[99,108,97,105,109],[99,108,97,115,115],[99,111,109,109,97,110,100],[101,108,115,101],[102,97,108,115,101],[102,117,110],[103,101,110],[105,102],[105,110],[105,110,116],[108,101,116],[108,105,115,116],[109,97,107,101],[109,97,116,99,104],[109,111,100,101,108],[110,101,120,116],[110,111,116],[111,102],[111,110,101],[111,112],[111,114],[112,105,99,107],[112,111,115,116],[112,114,101],[112,114,111,112],[114,101,99,111,118,101,114],[114,101,115,117,108,116],[114,101,116,117,114,110],[115,116,101,112],[115,121,115,116,101,109],[116,104,101,110],[116,114,117,101],[116,121,112,101],[119,104,101,114,101]]
def isT(t:Bs):List Tk->Bool
 |[]=>false
 |k::_=>k.text==t
def takeT(t:Bs)(r:List Tk):Option (List Tk):=if isT t r then some r.tail else none
def kindT(k:Nat):List Tk->Bool
 |[]=>false
 |t::_=>t.kind==k&& !(resv.contains t.text)
def tokT(k:Nat):List Tk->Option (Tk×List Tk)
 |[]=>none
 |t::r=>if kindT k (t::r) then some (t,r) else none
def atT(n:Int):List Tk->Int
 |[]=>n
 |t::_=>t.at_
/-! ### types -/
def pTyp:Nat->List Tk->Option (Ty×List Tk)
 |0,_=>none
 |f+1,r=>
  if isT [105,110,116] r then some (⟨0,bst [],[]⟩,r.tail) else if isT [98,111,111,108] r then some (⟨1,bst [],[]⟩,r.tail)
  else if isT [91] r then
   (pTyp f r.tail).bind fun(t,r1)=>(takeT [93] r1).bind fun r2=>some (⟨2,bst [],[t]⟩,r2)
  else(tokT 1 r).bind fun(t,r1)=>some (⟨3,bst t.text,[]⟩,r1)
/-! ### expressions -/
def opsR:Nat->List Bs
 |1=>[[111,114]]
 |2=>[[97,110,100]]
 |4=>[[61,61],[33,61],[60],[60,61]]
 |5=>[[43],[45]]
 |6=>[[42]]
 |_=>[]
def operT(rank:Nat)(r:List Tk):Option Bs:=(opsR rank).find? fun o=>isT o r
def pNmGo:Nat->List Tk->Option (List Bs×List Tk)
 |0,_=>none
 |f+1,r=>(tokT 0 r).bind fun(t,r1)=>if isT [44] r1 then(pNmGo f r1.tail).bind fun(l,r2)=>some (t.text::l,r2) else some ([t.text],r1)
def pNames(f:Nat)(r:List Tk):Option (List Bs×List Tk):=
 if isT [40] r then(pNmGo f r.tail).bind fun(l,r1)=>(takeT [41] r1).bind fun r2=>some (l,r2) else some ([],r)
mutual
def pExpr(n:Int):Nat->List Tk->Option (Ex×List Tk)
 |0,_=>none
 |f+1,r=>
  if isT [105,102] r then
   (pExpr n f r.tail).bind fun(a,r1)=>(takeT [116,104,101,110] r1).bind fun r2=>(pExpr n f r2).bind fun(b,r3)=>(takeT [101,108,115,101] r3).bind fun r4=>(pExpr n f r4).bind fun(c,r5)=>some (⟨6,bst [],0,[],[],[a,b,c],atT n r⟩,r5)
  else if isT [108,101,116] r then
   (tokT 0 r.tail).bind fun(t,r1)=>(takeT [61] r1).bind fun r2=>(pExpr n f r2).bind fun(a,r3)=>(takeT [105,110] r3).bind fun r4=>(pExpr n f r4).bind fun(b,r5)=>some (⟨7,bst t.text,0,[],[],[a,b],atT n r⟩,r5)
  else if isT [109,97,116,99,104] r then
   (pExpr n f r.tail).bind fun(a,r1)=>(takeT [123] r1).bind fun r2=>(pArms n f r2).bind fun(x,r3)=>(takeT [125] r3).bind fun r4=>some (⟨8,bst [],0,x.map fun y=>bst y.1,x.map fun y=>y.2.1.map bst,a::x.map fun y=>y.2.2,atT n r⟩,r4)
  else pLev1 n f r
def pArms(n:Int):Nat->List Tk->Option (List (Bs×List Bs×Ex)×List Tk)
 |0,_=>none
 |f+1,r=>
  (tokT 1 r).bind fun(t,r1)=>(pNames f r1).bind fun(bs,r2)=>(takeT [45,62] r2).bind fun r3=>(pExpr n f r3).bind fun(e,r4)=>
   if isT [59] r4 then(pArms n f r4.tail).bind fun(l,r5)=>some ((t.text,bs,e)::l,r5) else some ([(t.text,bs,e)],r4)
def pExGo(n:Int):Nat->List Tk->Option (List Ex×List Tk)
 |0,_=>none
 |f+1,r=>(pExpr n f r).bind fun(e,r1)=>if isT [44] r1 then(pExGo n f r1.tail).bind fun(l,r2)=>some (e::l,r2) else some ([e],r1)
def pLev1(n:Int):Nat->List Tk->Option (Ex×List Tk)
 |0,_=>none
 |f+1,r=>(pLev2 n f r).bind fun(e,r1)=>pOps1 n f (atT n r) e r1
def pOps1(n:Int):Nat->Int->Ex->List Tk->Option (Ex×List Tk)
 |0,_,_,_=>none
 |f+1,a,e,r=>match operT 1 r with
  |none=>some (e,r)
  |some o=>(pLev2 n f r.tail).bind fun(b,r1)=>pOps1 n f a ⟨9,bst o,0,[],[],[e,b],a⟩ r1
def pLev2(n:Int):Nat->List Tk->Option (Ex×List Tk)
 |0,_=>none
 |f+1,r=>(pLev3 n f r).bind fun(e,r1)=>pOps2 n f (atT n r) e r1
def pOps2(n:Int):Nat->Int->Ex->List Tk->Option (Ex×List Tk)
 |0,_,_,_=>none
 |f+1,a,e,r=>match operT 2 r with
  |none=>some (e,r)
  |some o=>(pLev3 n f r.tail).bind fun(b,r1)=>pOps2 n f a ⟨9,bst o,0,[],[],[e,b],a⟩ r1
def pLev3(n:Int):Nat->List Tk->Option (Ex×List Tk)
 |0,_=>none
 |f+1,r=>if isT [110,111,116] r then(pLev3 n f r.tail).bind fun(e,r1)=>some (⟨9,bst [110,111,116],0,[],[],[e],atT n r⟩,r1) else pLev4 n f r
def pLev4(n:Int):Nat->List Tk->Option (Ex×List Tk)
 |0,_=>none
 |f+1,r=>(pLev5 n f r).bind fun(e,r1)=>match operT 4 r1 with
  |none=>some (e,r1)
  |some o=>(pLev5 n f r1.tail).bind fun(b,r2)=>some (⟨9,bst o,0,[],[],[e,b],atT n r⟩,r2)
def pLev5(n:Int):Nat->List Tk->Option (Ex×List Tk)
 |0,_=>none
 |f+1,r=>(pLev6 n f r).bind fun(e,r1)=>pOps5 n f (atT n r) e r1
def pOps5(n:Int):Nat->Int->Ex->List Tk->Option (Ex×List Tk)
 |0,_,_,_=>none
 |f+1,a,e,r=>match operT 5 r with
  |none=>some (e,r)
  |some o=>(pLev6 n f r.tail).bind fun(b,r1)=>pOps5 n f a ⟨9,bst o,0,[],[],[e,b],a⟩ r1
def pLev6(n:Int):Nat->List Tk->Option (Ex×List Tk)
 |0,_=>none
 |f+1,r=>(pOpnd n f r).bind fun(e,r1)=>pOps6 n f (atT n r) e r1
def pOps6(n:Int):Nat->Int->Ex->List Tk->Option (Ex×List Tk)
 |0,_,_,_=>none
 |f+1,a,e,r=>match operT 6 r with
  |none=>some (e,r)
  |some o=>(pOpnd n f r.tail).bind fun(b,r1)=>pOps6 n f a ⟨9,bst o,0,[],[],[e,b],a⟩ r1
def pOpnd(n:Int):Nat->List Tk->Option (Ex×List Tk)
 |0,_=>none
 |f+1,r=>
  if isT [45] r then(tokT 2 r.tail).bind fun(t,r1)=>some (⟨0,bst [],-t.n,[],[],[],atT n r⟩,r1)
  else if isT [116,114,117,101] r then some (⟨1,bst [],1,[],[],[],atT n r⟩,r.tail)
  else if isT [102,97,108,115,101] r then some (⟨1,bst [],0,[],[],[],atT n r⟩,r.tail)
  else if isT [40] r then(pExpr n f r.tail).bind fun(e,r1)=>(takeT [41] r1).bind fun r2=>some (e,r2)
  else if isT [91] r then(pExprs n f [93] r.tail).bind fun(l,r1)=>some (⟨5,bst [],0,[],[],l,atT n r⟩,r1)
  else if kindT 2 r then(tokT 2 r).bind fun(t,r1)=>some (⟨0,bst [],t.n,[],[],[],atT n r⟩,r1)
  else if kindT 1 r then(tokT 1 r).bind fun(t,r1)=>
   if isT [40] r1 then(pExprs n f [41] r1.tail).bind fun(l,r2)=>some (⟨4,bst t.text,0,[],[],l,atT n r⟩,r2) else some (⟨4,bst t.text,0,[],[],[],atT n r⟩,r1)
  else(tokT 0 r).bind fun(t,r1)=>
   if isT [40] r1 then(pExprs n f [41] r1.tail).bind fun(l,r2)=>some (⟨3,bst t.text,0,[],[],l,atT n r⟩,r2) else some (⟨2,bst t.text,0,[],[],[],atT n r⟩,r1)
def pExprs(n:Int):Nat->Bs->List Tk->Option (List Ex×List Tk)
 |0,_,_=>none
 |f+1,e,r=>if isT e r then some ([],r.tail) else(pExGo n f r).bind fun(l,r1)=>(takeT e r1).bind fun r2=>some (l,r2)
end
/-! ### generators -/
def pBounds(n:Int)(f:Nat)(r:List Tk):Option (List Ex×List Tk):=
 (pExpr n f r).bind fun(a,r1)=>(takeT [46,46] r1).bind fun r2=>(pExpr n f r2).bind fun(b,r3)=>some ([a,b],r3)
mutual
def pGen(n:Int):Nat->List Tk->Option (Gn×List Tk)
 |0,_=>none
 |f+1,r=>
  if isT [108,101,116] r then
   (tokT 0 r.tail).bind fun(t,r1)=>(takeT [60,45] r1).bind fun r2=>(pGen n f r2).bind fun(a,r3)=>(takeT [105,110] r3).bind fun r4=>(pGen n f r4).bind fun(b,r5)=>some (⟨5,bst t.text,[],[],[a,b],atT n r⟩,r5)
  else(pPart n f r).bind fun(g,r1)=>pWhere n f (atT n r) g r1
def pWhere(n:Int):Nat->Int->Gn->List Tk->Option (Gn×List Tk)
 |0,_,_,_=>none
 |f+1,a,g,r=>if isT [119,104,101,114,101] r then
  (tokT 0 r.tail).bind fun(t,r1)=>(takeT [58] r1).bind fun r2=>(pExpr n f r2).bind fun(e,r3)=>pWhere n f a ⟨6,bst t.text,[],[e],[g],a⟩ r3
  else some (g,r)
def pPart(n:Int):Nat->List Tk->Option (Gn×List Tk)
 |0,_=>none
 |f+1,r=>
  if isT [114,101,116,117,114,110] r then(pExpr n f r.tail).bind fun(e,r1)=>some (⟨0,bst [],[],[e],[],atT n r⟩,r1)
  else if isT [112,105,99,107] r then(pBounds n f r.tail).bind fun(l,r1)=>some (⟨1,bst [],[],l,[],atT n r⟩,r1)
  else if isT [108,105,115,116] r then(pBounds n f r.tail).bind fun(l,r1)=>(takeT [111,102] r1).bind fun r2=>(pPart n f r2).bind fun(g,r3)=>some (⟨3,bst [],[],l,[g],atT n r⟩,r3)
  else if isT [40] r then(pGen n f r.tail).bind fun(g,r1)=>(takeT [41] r1).bind fun r2=>some (g,r2)
  else if isT [111,110,101] r then(takeT [123] r.tail).bind fun r1=>(pOne n f r1).bind fun(l,r2)=>(takeT [125] r2).bind fun r3=>some (⟨2,bst [],l.map fun y=>y.1,[],l.map fun y=>y.2,atT n r⟩,r3)
  else if isT [109,97,107,101] r then(tokT 1 r.tail).bind fun(t,r1)=>(takeT [40] r1).bind fun r2=>
   if isT [41] r2 then some (⟨4,bst t.text,[],[],[],atT n r⟩,r2.tail) else(pMake n f r2).bind fun(l,r3)=>some (⟨4,bst t.text,[],[],l,atT n r⟩,r3)
  else(tokT 0 r).bind fun(t,r1)=>(takeT [40] r1).bind fun r2=>(pExprs n f [41] r2).bind fun(l,r3)=>some (⟨7,bst t.text,[],l,[],atT n r⟩,r3)
def pOne(n:Int):Nat->List Tk->Option (List (Int×Gn)×List Tk)
 |0,_=>none
 |f+1,r=>(tokT 2 r).bind fun(t,r1)=>(takeT [58] r1).bind fun r2=>(pGen n f r2).bind fun(g,r3)=>if isT [59] r3 then(pOne n f r3.tail).bind fun(l,r4)=>some ((t.n,g)::l,r4) else some ([(t.n,g)],r3)
def pMake(n:Int):Nat->List Tk->Option (List Gn×List Tk)
 |0,_=>none
 |f+1,r=>(pGen n f r).bind fun(g,r1)=>if isT [44] r1 then(pMake n f r1.tail).bind fun(l,r2)=>some (g::l,r2) else(takeT [41] r1).bind fun r2=>some ([g],r2)
end
/-! ### declarations -/
def pPmGo:Nat->List Tk->Option (List Pm×List Tk)
 |0,_=>none
 |f+1,r=>(tokT 0 r).bind fun(t,r1)=>(takeT [58] r1).bind fun r2=>(pTyp f r2).bind fun(ty,r3)=>if isT [44] r3 then(pPmGo f r3.tail).bind fun(l,r4)=>some (⟨bst t.text,ty⟩::l,r4) else some ([⟨bst t.text,ty⟩],r3)
def pParams(f:Nat)(r:List Tk):Option (List Pm×List Tk):=
 (takeT [40] r).bind fun r1=>if isT [41] r1 then some ([],r1.tail) else(pPmGo f r1).bind fun(l,r2)=>(takeT [41] r2).bind fun r3=>some (l,r3)
def pDwGo(n:Int)(cmd:Bool):Nat->List Tk->Option (List Dw×List Tk)
 |0,_=>none
 |f+1,r=>(tokT 0 r).bind fun(t,r1)=>(takeT [58] r1).bind fun r2=>(pTyp f r2).bind fun(ty,r3)=>(takeT [60,45] r3).bind fun r4=>
  (if cmd&&isT [114,101,115,117,108,116] r4 then some (⟨bst t.text,ty,gn0,true⟩,r4.tail) else(pGen n f r4).bind fun(g,r5)=>some (⟨bst t.text,ty,g,false⟩,r5)).bind fun((d:Dw),r5)=>
   if isT [44] r5 then(pDwGo n cmd f r5.tail).bind fun(l,r6)=>some (d::l,r6) else some ([d],r5)
def pDraws(n:Int)(cmd:Bool)(f:Nat)(r:List Tk):Option (List Dw×List Tk):=
 (takeT [40] r).bind fun r1=>if isT [41] r1 then some ([],r1.tail) else(pDwGo n cmd f r1).bind fun(l,r2)=>(takeT [41] r2).bind fun r3=>some (l,r3)
def pTyGo:Nat->List Tk->Option (List Ty×List Tk)
 |0,_=>none
 |f+1,r=>(pTyp f r).bind fun(t,r1)=>if isT [44] r1 then(pTyGo f r1.tail).bind fun(l,r2)=>some (t::l,r2) else some ([t],r1)
def pCtors:Nat->List Tk->Option (List Ct×List Tk)
 |0,_=>none
 |f+1,r=>(tokT 1 r).bind fun(t,r1)=>
  (if isT [40] r1 then(pTyGo f r1.tail).bind fun(l,r2)=>(takeT [41] r2).bind fun r3=>some (l,r3) else some ([],r1)).bind fun((l:List Ty),r2)=>
   if isT [124] r2 then(pCtors f r2.tail).bind fun(cs,r3)=>some (⟨bst t.text,l⟩::cs,r3) else some ([⟨bst t.text,l⟩],r2)
def pItGo(n:Int):Nat->List Ck->List Ck->List Cl->List Tk->Option ((List Ck×List Ck×List Cl)×List Tk)
 |0,_,_,_,_=>none
 |f+1,a,b,c,r=>
  if isT [99,108,97,105,109] r then
   (tokT 0 r.tail).bind fun(t,r1)=>(tokT 2 r1).bind fun(p,r2)=>(takeT [47] r2).bind fun r3=>(tokT 2 r3).bind fun(q,r4)=>(takeT [59] r4).bind fun r5=>pItGo n f a b (c++[⟨bst t.text,p.n,q.n⟩]) r5
  else if isT [99,104,101,99,107] r then
   (tokT 0 r.tail).bind fun(t,r1)=>(takeT [58] r1).bind fun r2=>(pExpr n f r2).bind fun(e,r3)=>(takeT [59] r3).bind fun r4=>pItGo n f (a++[⟨bst t.text,e⟩]) b c r4
  else if isT [99,108,97,115,115] r then
   (tokT 0 r.tail).bind fun(t,r1)=>(takeT [58] r1).bind fun r2=>(pExpr n f r2).bind fun(e,r3)=>(takeT [59] r3).bind fun r4=>pItGo n f a (b++[⟨bst t.text,e⟩]) c r4
  else some ((a,b,c),r)
def pItems(n:Int)(f:Nat)(r:List Tk):Option ((List Ck×List Ck×List Cl)×List Tk):=
 (takeT [123] r).bind fun r1=>(pItGo n f [] [] [] r1).bind fun(x,r2)=>(takeT [125] r2).bind fun r3=>some (x,r3)
def pState(n:Int)(f:Nat)(r:List Tk):Option ((Ty×Ex)×List Tk):=
 (takeT [40] r).bind fun r1=>(takeT [115] r1).bind fun r2=>(takeT [58] r2).bind fun r3=>(pTyp f r3).bind fun(t,r4)=>(takeT [61] r4).bind fun r5=>(pExpr n f r5).bind fun(e,r6)=>(takeT [41] r6).bind fun r7=>some ((t,e),r7)
def pCmGo(n:Int):Nat->List Cm->List Tk->Option (List Cm×List Tk)
 |0,_,_=>none
 |f+1,a,r=>if isT [99,111,109,109,97,110,100] r then
  (tokT 0 r.tail).bind fun(t,r1)=>(pDraws n true f r1).bind fun(ds,r2)=>(takeT [112,114,101] r2).bind fun r3=>(pExpr n f r3).bind fun(e1,r4)=>(takeT [110,101,120,116] r4).bind fun r5=>(pExpr n f r5).bind fun(e2,r6)=>(takeT [112,111,115,116] r6).bind fun r7=>(pExpr n f r7).bind fun(e3,r8)=>(takeT [59] r8).bind fun r9=>pCmGo n f (a++[⟨bst t.text,ds,e1,e2,e3⟩]) r9
  else some (a,r)
def pCmds(n:Int)(f:Nat)(r:List Tk):Option (List Cm×List Tk):=
 (takeT [123] r).bind fun r1=>(pCmGo n f [] r1).bind fun(x,r2)=>(takeT [125] r2).bind fun r3=>some (x,r3)
def pAcGo(n:Int):Nat->List Ac->List Tk->Option (List Ac×List Tk)
 |0,_,_=>none
 |f+1,a,r=>if isT [115,116,101,112] r then
  (pExpr n f r.tail).bind fun(e1,r1)=>(takeT [44] r1).bind fun r2=>(pExpr n f r2).bind fun(e2,r3)=>(takeT [59] r3).bind fun r4=>pAcGo n f (a++[⟨e1,e2⟩]) r4
  else some (a,r)
def pOpGo(n:Int):Nat->List Op->List Tk->Option (List Op×List Tk)
 |0,_,_=>none
 |f+1,a,r=>if isT [111,112] r then
  (tokT 0 r.tail).bind fun(t,r1)=>(pParams f r1).bind fun(ps,r2)=>(takeT [123] r2).bind fun r3=>(pAcGo n f [] r3).bind fun(as_,r4)=>(takeT [125] r4).bind fun r5=>pOpGo n f (a++[⟨bst t.text,ps,as_⟩]) r5
  else some (a,r)
def pOps(n:Int)(f:Nat)(r:List Tk):Option (List Op×List Tk):=
 (takeT [123] r).bind fun r1=>(pOpGo n f [] r1).bind fun(x,r2)=>(takeT [125] r2).bind fun r3=>some (x,r3)
def wrds:List Bs:=[[116,121,112,101],[102,117,110],[103,101,110],[112,114,111,112],[109,111,100,101,108],[115,121,115,116,101,109]]
def wrdT(r:List Tk):Option Nat:=wrds.findIdx? fun o=>isT o r
def pDecl(n:Int)(f:Nat)(r:List Tk):Option (De×List Tk):=
 (wrdT r).bind fun k=>(tokT (if k=0 then 1 else 0) r.tail).bind fun(t,r1)=>
  let d:De:={de0 with kind:=(k:Int),name:=bst t.text,at_:=atT n r.tail}
  if k=0 then(takeT [61] r1).bind fun r2=>(pCtors f r2).bind fun(cs,r3)=>(takeT [59] r3).bind fun r4=>some ({d with ctors:=cs},r4)
  else if k=1 then(pParams f r1).bind fun(ps,r2)=>(takeT [58] r2).bind fun r3=>(pTyp f r3).bind fun(ty,r4)=>(takeT [61] r4).bind fun r5=>(pExpr n f r5).bind fun(e,r6)=>(takeT [59] r6).bind fun r7=>some ({d with params:=ps,type:=ty,body:=e},r7)
  else if k=2 then(pParams f r1).bind fun(ps,r2)=>(takeT [58] r2).bind fun r3=>(pTyp f r3).bind fun(ty,r4)=>
   (if isT [100,101,112,116,104] r4 then(tokT 2 r4.tail).bind fun(q,r5)=>some (q.n,r5) else some (0,r4)).bind fun((dp:Int),r5)=>(takeT [61] r5).bind fun r6=>(pGen n f r6).bind fun(g,r7)=>(takeT [59] r7).bind fun r8=>some ({d with params:=ps,type:=ty,depth:=dp,gen:=g},r8)
  else if k=3 then(pDraws n false f r1).bind fun(ds,r2)=>(pItems n f r2).bind fun(x,r3)=>some ({d with draws:=ds,checks:=x.1,classes:=x.2.1,claims:=x.2.2},r3)
  else if k=4 then(pState n f r1).bind fun(x,r2)=>(pCmds n f r2).bind fun(cs,r3)=>some ({d with state:=x.1,init:=x.2,cmds:=cs},r3)
  else(pState n f r1).bind fun(x,r2)=>(takeT [114,101,99,111,118,101,114] r2).bind fun r3=>(pExpr n f r3).bind fun(e,r4)=>(pOps n f r4).bind fun(os,r5)=>some ({d with state:=x.1,init:=x.2,recov:=e,ops:=os},r5)
def pMod(n:Int)(F:Nat):Nat->List Tk->Option (List De)
 |0,_=>none
 |_+1,[]=>some []
 |f+1,t::r=>(pDecl n F (t::r)).bind fun(d,r1)=>(pMod n F f r1).bind fun ds=>some (d::ds)
end Go.Rf
