/-
 The pieces of the generated modules' texts as items;each declaration with finitely many forms is read.
-/
import Derived.Test.YtmlpcmjmniobdaaGreatZPb
set_option linter.all false
namespace Go.Rf
open Go.RowKit
section
variable{rest t:Bs}
def clsN(c:Nat):Nat:=if c=32\/c=9\/c=10 then 0 else if c=95 then 4 else if c=35 then 5 else if 97<=c/\c<=122 then 1 else if 65<=c/\c<=90 then 2 else if 48<=c/\c<=57 then 3 else 6
def clsB(c:UInt8):Nat:=clsN c.toNat
def skipF:Bool->Bs->Nat
 |_,[]=>0
 |cm,b::r=>
  if(!(if b.toNat=10 then false else if b.toNat=35 then true else cm)&&clsB b != 0)=true then 0 else 1+skipF (if b.toNat=10 then false else if b.toNat=35 then true else cm) r
def spanF(p:Nat->Bool):Bs->Nat
 |[]=>0
 |b::r=>if p (clsB b) then 1+spanF p r else 0
def p1(k:Nat):Bool:=k==1||(k==3||k==4)
def p2(k:Nat):Bool:=decide (1<=k)&&decide (k<=4)
def p3(k:Nat):Bool:=k==3
def syms:List Bs:=[[45,62],[60,45],[60,61],[61,61],[33,61],[46,46],[40],[41],[91],[93],[123],[125],[44],[59],[58],[61],[60],[43],[45],[42],[47],[124]]
def symF(x:Bs):Nat:=match syms.find? (fun s=>s.isPrefixOf x)with
 |some s=>s.length
 |none=>0
def endF:Bs->Nat
 |[]=>0
 |b::r=>if clsB b=1 then 1+spanF p1 r else if clsB b=2 then 1+spanF p2 r else if clsB b=3 then 1+spanF p3 r else symF ((b::r).take 2)
def valF(t:Bs):Int:=t.foldl (fun n b=>min (10*n+((b.toNat:Int)-48)) 1099511627777) 0
def mkTk(a:Int)(t:Bs):Tk:=match t with
 |[]=>⟨3,a,0,[]⟩
 |b::_=>⟨if clsB b=1 then 0 else if clsB b=2 then 1 else if clsB b=3 then 2 else 3,a,if clsB b=3 then valF t else 0,t⟩
def bigT(t:Bs):Bool:=match t with
 |[]=>false
 |b::_=>(decide (clsB b<=2)&&decide (16<t.length))||(decide (clsB b=3)&&decide (1099511627776<valF t))
def lexGo:Nat->Int->Bs->Except (Int×Int) (List Tk)
 |0,a,_=>.error (a,2)
 |f+1,a,r=>if r.isEmpty then .ok [] else
  let k:=endF r
  if k=0 then .error (a,2) else if bigT (r.take k) then .error (a,4) else
  match lexGo f (a+k+skipF false (r.drop k)) ((r.drop k).drop (skipF false (r.drop k)))with
  |.ok l=>.ok (mkTk a (r.take k)::l)
  |.error e=>.error e
def lexF(s:Bs):Except (Int×Int) (List Tk):=if 8192<s.length then .error (0,4) else lexGo (s.length+1) (skipF false s) (s.drop (skipF false s))
/-! ### texts made of items -/
inductive It
 |bl (b:UInt8)
 |tk (t:Bs)
def rnd:List It->Bs
 |[]=>[]
 |.bl b::r=>b::rnd r
 |.tk t::r=>t++rnd r
def tksI:Int->List It->List Tk
 |_,[]=>[]
 |a,.bl _::r=>tksI (a+1) r
 |a,.tk t::r=>mkTk a t::tksI (a+t.length) r
def headI(nx:Option UInt8):List It->Option UInt8
 |[]=>nx
 |.bl b::_=>some b
 |.tk []::_=>none
 |.tk (b::_)::_=>some b
def okT(t:Bs)(nx:Option UInt8):Bool:=match t with
 |[]=>false
 |b::_=>clsB b != 0&&(clsB b != 5&&(!(bigT t)&&(match nx with
  |none=>endF t==t.length
  |some c=>endF (t++[c])==t.length)))
def okI(nx:Option UInt8):List It->Bool
 |[]=>true
 |.bl b::r=>clsB b==0&&okI nx r
 |.tk t::r=>okT t (headI nx r)&&okI nx r
theorem rnd_app(a b:List It):rnd (a++b)=rnd a++rnd b:=by
 induction a with
 |nil=>rfl
 |cons x a ih=>cases x<;>simp[rnd,ih]
theorem tksI_app(p:Int)(a b:List It):tksI p (a++b)=tksI p a++tksI (p+(rnd a).length) b:=by
 induction a generalizing p with
 |nil=>simp[tksI,rnd]
 |cons x a ih=>
  cases x with
  |bl c=>simp only[List.cons_append,tksI,rnd,List.length_cons];rw[ih];congr 2;omega
  |tk t=>simp only[List.cons_append,tksI,rnd,List.length_append];rw[ih];congr 3;omega
theorem headI_app(nx:Option UInt8)(a b:List It):headI nx (a++b)=headI (headI nx b) a:=by
 cases a with
 |nil=>rfl
 |cons x a=>
  rcases x with c|t
  .rfl
  .cases t<;>rfl
theorem okI_app(nx:Option UInt8)(a b:List It):okI nx (a++b)=(okI (headI nx b) a&&okI nx b):=by
 induction a with
 |nil=>rfl
 |cons x a ih=>
  cases x with
  |bl c=>simp only[List.cons_append,okI,ih,Bool.and_assoc]
  |tk t=>simp only[List.cons_append,okI,ih,headI_app,Bool.and_assoc]
theorem spanF_app(p:Nat->Bool):∀(t:Bs) (c:UInt8) (r:Bs),spanF p (t++[c])=t.length->spanF p (t++c::r)=t.length
 |[],c,r,h=>by
  simp only[List.nil_append,spanF,List.length_nil]at h ⊢
  split at h
  .omega
  .rename_i hc;rw[if_neg hc]
 |b::t,c,r,h=>by
  simp only[List.cons_append,spanF,List.length_cons]at h ⊢
  split at h
  .rename_i hb;rw[if_pos hb,spanF_app p t c r Yhn];omega
  .omega
theorem endF_app{c:UInt8}{r:Bs}(ht:t≠[])(h:endF (t++[c])=t.length):endF (t++c::r)=t.length:=by
 cases t with
 |nil=>exact absurd rfl ht
 |cons b t=>
  simp only[List.cons_append,endF,List.length_cons]at h ⊢
  split at h
  .rename_i h1;rw[if_pos h1,spanF_app p1 t c r Yhn];omega
  .rename_i h1;rw[if_neg h1]
   split at h
   .rename_i h2;rw[if_pos h2,spanF_app p2 t c r Yhn];omega
   .rename_i h2;rw[if_neg h2]
    split at h
    .rename_i h3;rw[if_pos h3,spanF_app p3 t c r Yhn];omega
    .rename_i h3;rw[if_neg h3];have e:(b::(t++c::r)).take 2=(b::(t++[c])).take 2:=by cases t<;>rfl
     rw[e];exact h
theorem endF_of{nx:Option UInt8}(h:okT t nx=true)(hr:rest.head?=nx):endF (t++rest)=t.length:=by
 unfold okT at h
 split at h
 .cases h
 .rename_i b r;simp only[Bool.and_eq_true]at h;obtain⟨_,_,_,h⟩:=h;cases rest with
  |nil=>
   simp only[List.head?_nil]at hr;subst hr;simp only[beq_iff_eq]at h;rw[List.append_nil];exact h
  |cons c rest=>
   simp only[List.head?_cons]at hr;subst hr;simp only[beq_iff_eq]at h;exact endF_app Yhs h
theorem rnd_head{nx:Option UInt8}{a:List It}(h:okI nx a=true):(rnd a++nx.toList).head?=headI nx a:=by
 cases a with
 |nil=>cases nx<;>rfl
 |cons x a=>
  cases x with
  |bl c=>rfl
  |tk t=>
   cases t with
   |nil=>simp[okI,okT]at h
   |cons b t=>rfl
theorem skip_tok{nx:Option UInt8}(h:okT t nx=true):skipF false (t++rest)=0:=by
 cases t with
 |nil=>simp[okT]at h
 |cons b t=>
  simp only[okT,Bool.and_eq_true,bne_iff_ne]at h;have h35:¬b.toNat=35:=fun e=>h.2.1 (by unfold clsB;rw[e];rfl)
  have h10:¬b.toNat=10:=fun e=>h.1 (by unfold clsB;rw[e];rfl)
  simp only[List.cons_append,skipF];rw[if_neg h10,if_neg h35];simp[h.1]
def dropB:List It->List It
 |.bl _::r=>dropB r
 |l=>l
def blN:List It->Nat
 |.bl _::r=>1+blN r
 |_=>0
theorem blN_skip:∀{a:List It},okI none a=true->skipF false (rnd a)=blN a/\(rnd a).drop (blN a)=rnd (dropB a)/\okI none (dropB a)=true/\∀p:Int,tksI p a=tksI (p+blN a) (dropB a)
 |[],_=>⟨rfl,rfl,rfl,fun p=>rfl⟩
 |.bl b::r,h=>by
  simp only[okI,Bool.and_eq_true,beq_iff_eq]at h;obtain⟨h1,h2,h3,h4⟩:=blN_skip h.2;have hc:clsB b=0:=h.1;have h35:¬b.toNat=35:=fun e=>by unfold clsB at hc;rw[e]at hc;revert hc;decide
  have hx:(if b.toNat=10 then false else if b.toNat=35 then true else false)=false:=by rw[if_neg h35];split<;>rfl
  refine⟨?_,?_,h3,fun p=>?_⟩
  .simp only[rnd,skipF,blN,hx,h1];simp[hc]
  .simp only[rnd,blN,dropB];rw[Nat.add_comm,List.drop_succ_cons,h2]
  .simp only[tksI,blN,dropB];rw[h4];congr 1;omega
 |.tk t::r,h=>by
  simp only[okI,Bool.and_eq_true]at h;exact⟨skip_tok h.1,rfl,by simp only[dropB,okI,Bool.and_eq_true];exact h,fun p=>by simp[blN,dropB]⟩
theorem blN_drop:∀r:List It,blN (dropB r)=0
 |[]=>rfl
 |.bl b::r=>blN_drop r
 |.tk t::r=>rfl
theorem lexGo_items:∀(f:Nat) (a:List It) (p:Int),okI none a=true->blN a=0->(rnd a).length<f->lexGo f p (rnd a)=.ok (tksI p a)
 |0,a,p,_,_,h=>by omega
 |f+1,[],p,_,_,_=>by simp[lexGo,rnd,tksI]
 |f+1,.bl b::r,p,_,hb,_=>by simp[blN]at hb
 |f+1,.tk t::r,p,h,_,hl=>by
  simp only[okI,Bool.and_eq_true]at h;have hne:t≠[]:=fun e=>by rw[e]at h;simp[okT]at h
  have hh:=rnd_head h.2;simp only[Option.toList_none,List.append_nil]at hh;have he:=endF_of (rest:=rnd r) h.1 hh;have htl:0<t.length:=List.length_pos_iff.2 hne;have hbig:bigT t=false:=by
   have:=h.1;unfold okT at this
   split at this
   .cases this
   .simp only[Bool.and_eq_true,Bool.not_eq_true']at this;exact this.2.2.1
  obtain⟨h1,h2,h3,h4⟩:=blN_skip h.2;simp only[rnd,List.length_append]at hl;have hrne:(t++rnd r).isEmpty=false:=by cases t with
   |nil=>exact absurd rfl hne
   |cons b t=>rfl
  have hb0:=blN_drop r;have hlen:(rnd (dropB r)).length<=(rnd r).length:=by rw[<-h2,List.length_drop];omega
  have ih:=lexGo_items f (dropB r) (p+t.length+blN r) h3 hb0 Yhn;have er:rnd (.tk t::r)=t++rnd r:=rfl;rw[er,lexGo,if_neg (by rw[hrne];simp),he];simp only;rw[if_neg Yhn,List.take_left,List.drop_left,hbig,h1,h2,ih];simp only[Bool.false_eq_true,if_false,tksI];rw[h4]
theorem lexF_items{a:List It}(h:okI none a=true)(hl:(rnd a).length<=8192):lexF (rnd a)=.ok (tksI 0 a):=by
 unfold lexF;rw[if_neg Yhn];obtain⟨h1,h2,h3,h4⟩:=blN_skip h;have hb0:=blN_drop a;have hlen:(rnd (dropB a)).length<=(rnd a).length:=by rw[<-h2,List.length_drop];omega
 rw[h1,h2,lexGo_items _ _ _ h3 hb0 Yhn,h4];simp
end
section
variable{l:List Ex}
mutual
def tyD:Ty->Nat
 |⟨_,_,ks⟩=>tyDs ks+1
def tyDs:List Ty->Nat
 |[]=>0
 |t::l=>max (tyD t) (tyDs l)
end
mutual
def exD:Ex->Nat
 |⟨_,_,_,_,_,ks,_⟩=>exDs ks+1
def exDs:List Ex->Nat
 |[]=>0
 |t::l=>max (exD t) (exDs l)
end
mutual
def gnD:Gn->Nat
 |⟨_,_,_,as_,ks,_⟩=>max (gnDs ks) (exDs as_)+1
def gnDs:List Gn->Nat
 |[]=>0
 |t::l=>max (gnD t) (gnDs l)
end
def ltN(n m:Nat):Bool:=Nat.blt n m
def limE1(k:Int)(n:Nat)(bs:List (List ByteArray)):Bool:=
 if k=3\/k=4 then ltN 16 n else if k=5 then ltN 256 n else if k=8 then ltN 16 (n-1)||bs.any (fun b=>ltN 16 b.length) else false
mutual
def limE:Ex->Bool
 |⟨k,_,_,_,bs,ks,_⟩=>limE1 k ks.length bs||limEs ks
def limEs:List Ex->Bool
 |[]=>false
 |t::l=>limE t||limEs l
end
def limG1(k:Int)(n a w:Nat):Bool:=if k=2 then ltN 16 n||ltN 16 w else if k=4 then ltN 16 n else if k=7 then ltN 16 a else false
mutual
def limG:Gn->Bool
 |⟨k,_,ws,as_,ks,_⟩=>limG1 k ks.length as_.length ws.length||(limEs as_||limGs ks)
def limGs:List Gn->Bool
 |[]=>false
 |t::l=>limG t||limGs l
end
def limT(t:Ty):Bool:=ltN 32 (tyD t)
def limRoot(e:Ex):Bool:=ltN 32 (exD e)||limE e
def limWhole(g:Gn):Bool:=ltN 32 (gnD g)||limG g
def limPs(l:List Pm):Bool:=ltN 16 l.length||l.any (fun p=>limT p.type)
def limDs(l:List Dw):Bool:=ltN 16 l.length||l.any (fun d=>limT d.type||(!d.ref&&limWhole d.gen))
def limCk(l:List Ck):Bool:=ltN 16 l.length||l.any (fun c=>limRoot c.expr)
def limCm(c:Cm):Bool:=limDs c.draws||(limRoot c.pre||(limRoot c.next||limRoot c.post))
def limOp(o:Op):Bool:=limPs o.params||(ltN 16 o.acts.length||o.acts.any (fun a=>limRoot a.shared||limRoot a.loc))
def limD(d:De):Bool:=
 if d.kind=0 then ltN 16 d.ctors.length||d.ctors.any (fun c=>ltN 16 c.args.length||c.args.any limT)
 else if d.kind=1 then limPs d.params||(limT d.type||limRoot d.body)
 else if d.kind=2 then limPs d.params||(limT d.type||limWhole d.gen)
 else if d.kind=3 then limDs d.draws||(limCk d.checks||(limCk d.classes||ltN 16 d.claims.length))
 else if d.kind=4 then limT d.state||(limRoot d.init||(ltN 16 d.cmds.length||d.cmds.any limCm))
 else if d.kind=5 then limT d.state||(limRoot d.init||(limRoot d.recov||(ltN 16 d.ops.length||d.ops.any limOp)))
 else false
def limM(l:List De):Bool:=ltN 64 l.length||l.any limD
theorem exDs_le{m:Nat}(h:∀e∈l,exD e<=m):exDs l<=m:=by
 induction l with
 |nil=>simp[exDs]
 |cons e l ih=>simp only[exDs];exact Nat.max_le.2 ⟨h e Yhs,ih (fun x hx=>h x (by simp[hx]))⟩
theorem limEs_of(h:∀e∈l,limE e=false):limEs l=false:=by
 induction l with
 |nil=>rfl
 |cons e l ih=>simp only[limEs,h e Yhs,Bool.false_or];exact ih (fun x hx=>h x (by simp[hx]))
end
def noneSuch:Bs:=[110,111,110,101,32,115,117,99,104]
def badN(l:Bs):Bool:=(l==noneSuch)||ltN 60 l.length
def SegP(k:Int)(its:List It):Prop:=(∀nx,okI nx its=true)/\∀(p n:Int) (rest:List Tk),∃d:De,d.kind=k/\limD d=false/\badN d.name.data.toList=false/\pDecl n 200 (tksI p its++rest)=some (d,rest)
def sumD(x:De×List Tk):Int×Bool×Bool×List Tk:=(x.1.kind,limD x.1,badN x.1.name.data.toList,x.2)
theorem segOf{k:Int}{its:List It}(h1:∀nx,okI nx its=true)(h:∀(p n:Int) (rest:List Tk),(pDecl n 200 (tksI p its++rest)).map sumD=some (k,false,false,rest)):SegP k its:=by
 refine⟨h1,fun p n rest=>?_⟩;have:=h p n rest;cases hd:pDecl n 200 (tksI p its++rest)with
 |none=>rw[hd]at this;cases this
 |some x=>
  rw[hd]at this;obtain⟨d,r⟩:=x;simp only[Option.map_some,Option.some.injEq,sumD,Prod.mk.injEq]at this;obtain⟨h1,h2,h3,h4⟩:=this;exact⟨d,h1,h2,h3,by rw[h4]⟩
def c_Color0:List It:=[.tk [116,121,112,101],.bl 32,.tk [67,111,108,111,114],.bl 32,.tk [61],.bl 32,.tk [82,101,100],.bl 32,.tk [124],.bl 32,.tk [71,114,101,101,110],.bl 32,.tk [124],.bl 32,.tk [66,108,117,101],.tk [40],.tk [105,110,116],.tk [41],.tk [59],.bl 10]
theorem s_Color:SegP 0 (c_Color0):=by
 exact Ybw
def c_Tree0:List It:=[.tk [116,121,112,101],.bl 32,.tk [84,114,101,101],.bl 32,.tk [61],.bl 32,.tk [76,101,97,102],.bl 32,.tk [124],.bl 32,.tk [70,111,114,107],.tk [40],.tk [84,114,101,101],.tk [44],.bl 32,.tk [105,110,116],.tk [44],.bl 32,.tk [84,114,101,101],.tk [41],.tk [59],.bl 10]
theorem s_Tree:SegP 0 (c_Tree0):=by
 exact Ybw
def c_depth0:List It:=[.tk [102,117,110],.bl 32,.tk [100,101,112,116,104],.tk [40],.tk [116],.tk [58],.bl 32,.tk [84,114,101,101],.tk [41],.tk [58],.bl 32,.tk [105,110,116],.bl 32,.tk [61],.bl 32,.tk [109,97,116,99,104],.bl 32,.tk [116],.bl 32,.tk [123],.bl 32,.tk [76,101,97,102],.bl 32,.tk [45,62],.bl 32,.tk [48],.tk [59],.bl 32,.tk [70,111,114,107],.tk [40],.tk [97],.tk [44],.bl 32,.tk [120],.tk [44],.bl 32,.tk [98],.tk [41],.bl 32,.tk [45,62],.bl 32,.tk [49],.bl 32,.tk [43],.bl 32,.tk [109,97,120],.tk [40],.tk [100,101,112,116,104],.tk [40],.tk [97],.tk [41],.tk [44],.bl 32,.tk [100,101,112,116,104],.tk [40],.tk [98],.tk [41],.tk [41],.bl 32,.tk [125],.tk [59],.bl 10]
theorem s_depth:SegP 1 (c_depth0):=by
 exact Ybw
def c_sum0:List It:=[.tk [102,117,110],.bl 32,.tk [115,117,109],.tk [40],.tk [116],.tk [58],.bl 32,.tk [84,114,101,101],.tk [41],.tk [58],.bl 32,.tk [105,110,116],.bl 32,.tk [61],.bl 32,.tk [109,97,116,99,104],.bl 32,.tk [116],.bl 32,.tk [123],.bl 32,.tk [76,101,97,102],.bl 32,.tk [45,62],.bl 32]
def o_sum1:List (List It):=[[.tk [48]],[.tk [49]]]
def c_sum2:List It:=[.tk [59],.bl 32,.tk [70,111,114,107],.tk [40],.tk [97],.tk [44],.bl 32,.tk [120],.tk [44],.bl 32,.tk [98],.tk [41],.bl 32,.tk [45,62],.bl 32,.tk [115,117,109],.tk [40],.tk [97],.tk [41],.bl 32,.tk [43],.bl 32,.tk [120],.bl 32,.tk [43],.bl 32,.tk [115,117,109],.tk [40],.tk [98],.tk [41],.bl 32,.tk [125],.tk [59],.bl 10]
theorem s_sum(x1:List It)(h1:x1∈o_sum1):SegP 1 (c_sum0++(x1++c_sum2)):=by
 simp only[o_sum1,List.mem_cons,List.not_mem_nil,or_false]at h1;exact Ydg
def c_score0:List It:=[.tk [102,117,110],.bl 32,.tk [115,99,111,114,101],.tk [40],.tk [99],.tk [58],.bl 32,.tk [67,111,108,111,114],.tk [41],.tk [58],.bl 32,.tk [105,110,116],.bl 32,.tk [61],.bl 32,.tk [109,97,116,99,104],.bl 32,.tk [99],.bl 32,.tk [123],.bl 32,.tk [66,108,117,101],.tk [40],.tk [110],.tk [41],.bl 32,.tk [45,62],.bl 32,.tk [110],.bl 32,.tk [43],.bl 32]
def o_score1:List (List It):=[[.tk [48]],[.tk [49]],[.tk [50]]]
def c_score2:List It:=[.tk [59],.bl 32,.tk [82,101,100],.bl 32,.tk [45,62],.bl 32]
def o_score3:List (List It):=[[.tk [48]],[.tk [49]],[.tk [50]],[.tk [51]]]
def c_score4:List It:=[.tk [59],.bl 32,.tk [71,114,101,101,110],.bl 32,.tk [45,62],.bl 32]
def o_score5:List (List It):=[[.tk [48]],[.tk [49]],[.tk [50]],[.tk [51]]]
def c_score6:List It:=[.bl 32,.tk [125],.tk [59],.bl 10]
theorem s_score(x1:List It)(h1:x1∈o_score1)(x3:List It)(h3:x3∈o_score3)(x5:List It)(h5:x5∈o_score5):SegP 1 (c_score0++(x1++(c_score2++(x3++(c_score4++(x5++c_score6)))))):=by
 simp only[o_score1,List.mem_cons,List.not_mem_nil,or_false]at h1;rcases h1 with rfl|rfl|rfl
 all_goals (simp only[o_score3,List.mem_cons,List.not_mem_nil,or_false]at h3;rcases h3 with rfl|rfl|rfl|rfl)
 all_goals (simp only[o_score5,List.mem_cons,List.not_mem_nil,or_false]at h5;rcases h5 with rfl|rfl|rfl|rfl)
 all_goals exact segOf (fun nx=>by kernel_rfl) (fun p n rest=>by kernel_rfl)
def c_f0:List It:=[.tk [102,117,110],.bl 32,.tk [102],.tk [40],.tk [120],.tk [58],.bl 32,.tk [105,110,116],.tk [44],.bl 32,.tk [121],.tk [58],.bl 32,.tk [105,110,116],.tk [41],.tk [58],.bl 32,.tk [105,110,116],.bl 32,.tk [61],.bl 32]
def c_f2:List It:=[.tk [59],.bl 10]
def c_ok0:List It:=[.tk [102,117,110],.bl 32,.tk [111,107],.tk [40],.tk [120],.tk [58],.bl 32,.tk [105,110,116],.tk [41],.tk [58],.bl 32,.tk [98,111,111,108],.bl 32,.tk [61],.bl 32]
def c_ok2:List It:=[.tk [59],.bl 10]
def c_num0:List It:=[.tk [103,101,110],.bl 32,.tk [110,117,109],.tk [40],.tk [110],.tk [58],.bl 32,.tk [105,110,116],.tk [41],.tk [58],.bl 32,.tk [105,110,116],.bl 32,.tk [61],.bl 32,.tk [111,110,101],.bl 32,.tk [123],.bl 32]
def o_num1:List (List It):=[[.tk [49]],[.tk [50]],[.tk [51]]]
def c_num2:List It:=[.tk [58],.bl 32,.tk [112,105,99,107],.bl 32,.tk [48],.tk [46,46],.tk [110],.tk [59],.bl 32,.tk [49],.tk [58],.bl 32,.tk [114,101,116,117,114,110],.bl 32]
def o_num3:List (List It):=[[.tk [48]],[.tk [49]],[.tk [50]],[.tk [51]]]
def c_num4:List It:=[.tk [59],.bl 32,.tk [49],.tk [58],.bl 32,.tk [112,105,99,107],.bl 32,.tk [48],.tk [46,46],.tk [110],.bl 32,.tk [119,104,101,114,101],.bl 32,.tk [120],.tk [58],.bl 32,.tk [111,107],.tk [40],.tk [120],.tk [41],.bl 32,.tk [111,114],.bl 32,.tk [120],.bl 32,.tk [61,61],.bl 32,.tk [48],.bl 32,.tk [125],.tk [59],.bl 10]
theorem s_num(x1:List It)(h1:x1∈o_num1)(x3:List It)(h3:x3∈o_num3):SegP 2 (c_num0++(x1++(c_num2++(x3++c_num4)))):=by
 simp only[o_num1,List.mem_cons,List.not_mem_nil,or_false]at h1;rcases h1 with rfl|rfl|rfl
 all_goals (simp only[o_num3,List.mem_cons,List.not_mem_nil,or_false]at h3;rcases h3 with rfl|rfl|rfl|rfl)
 all_goals exact segOf (fun nx=>by kernel_rfl) (fun p n rest=>by kernel_rfl)
def c_color0:List It:=[.tk [103,101,110],.bl 32,.tk [99,111,108,111,114],.tk [40],.tk [41],.tk [58],.bl 32,.tk [67,111,108,111,114],.bl 32,.tk [61],.bl 32,.tk [111,110,101],.bl 32,.tk [123],.bl 32,.tk [49],.tk [58],.bl 32,.tk [109,97,107,101],.bl 32,.tk [82,101,100],.tk [40],.tk [41],.tk [59],.bl 32]
def o_color1:List (List It):=[[.tk [49]],[.tk [50]]]
def c_color2:List It:=[.tk [58],.bl 32,.tk [109,97,107,101],.bl 32,.tk [71,114,101,101,110],.tk [40],.tk [41],.tk [59],.bl 32,.tk [49],.tk [58],.bl 32,.tk [109,97,107,101],.bl 32,.tk [66,108,117,101],.tk [40],.tk [110,117,109],.tk [40]]
def o_color3:List (List It):=[[.tk [48]],[.tk [49]],[.tk [50]]]
def c_color4:List It:=[.tk [41],.tk [41],.bl 32,.tk [125],.tk [59],.bl 10]
theorem s_color(x1:List It)(h1:x1∈o_color1)(x3:List It)(h3:x3∈o_color3):SegP 2 (c_color0++(x1++(c_color2++(x3++c_color4)))):=by
 simp only[o_color1,List.mem_cons,List.not_mem_nil,or_false]at h1;rcases h1 with rfl|rfl
 all_goals (simp only[o_color3,List.mem_cons,List.not_mem_nil,or_false]at h3;rcases h3 with rfl|rfl|rfl)
 all_goals exact segOf (fun nx=>by kernel_rfl) (fun p n rest=>by kernel_rfl)
def c_tree0:List It:=[.tk [103,101,110],.bl 32,.tk [116,114,101,101],.tk [40],.tk [110],.tk [58],.bl 32,.tk [105,110,116],.tk [41],.tk [58],.bl 32,.tk [84,114,101,101],.bl 32,.tk [100,101,112,116,104],.bl 32]
def o_tree1:List (List It):=[[.tk [49]],[.tk [50]],[.tk [51]]]
def c_tree2:List It:=[.bl 32,.tk [61],.bl 32,.tk [111,110,101],.bl 32,.tk [123],.bl 32,.tk [50],.tk [58],.bl 32,.tk [109,97,107,101],.bl 32,.tk [76,101,97,102],.tk [40],.tk [41],.tk [59],.bl 32,.tk [49],.tk [58],.bl 32,.tk [109,97,107,101],.bl 32,.tk [70,111,114,107],.tk [40],.tk [116,114,101,101],.tk [40],.tk [110],.tk [41],.tk [44],.bl 32,.tk [112,105,99,107],.bl 32,.tk [48],.tk [46,46],.tk [110],.tk [44],.bl 32,.tk [116,114,101,101],.tk [40],.tk [110],.tk [41],.tk [41],.bl 32,.tk [125],.tk [59],.bl 10]
theorem s_tree(x1:List It)(h1:x1∈o_tree1):SegP 2 (c_tree0++(x1++c_tree2)):=by
 simp only[o_tree1,List.mem_cons,List.not_mem_nil,or_false]at h1;exact Ydc
def c_nums0:List It:=[.tk [103,101,110],.bl 32,.tk [110,117,109,115],.tk [40],.tk [41],.tk [58],.bl 32,.tk [91],.tk [105,110,116],.tk [93],.bl 32,.tk [61],.bl 32,.tk [108,105,115,116],.bl 32]
def o_nums1:List (List It):=[[.tk [48]],[.tk [49]]]
def c_nums2:List It:=[.tk [46,46],.tk [50],.bl 32,.tk [111,102],.bl 32,.tk [110,117,109],.tk [40]]
def o_nums3:List (List It):=[[.tk [48]],[.tk [49]],[.tk [50]]]
def c_nums4:List It:=[.tk [41],.tk [59],.bl 10]
theorem s_nums(x1:List It)(h1:x1∈o_nums1)(x3:List It)(h3:x3∈o_nums3):SegP 2 (c_nums0++(x1++(c_nums2++(x3++c_nums4)))):=by
 simp only[o_nums1,List.mem_cons,List.not_mem_nil,or_false]at h1;rcases h1 with rfl|rfl
 all_goals (simp only[o_nums3,List.mem_cons,List.not_mem_nil,or_false]at h3;rcases h3 with rfl|rfl|rfl)
 all_goals exact segOf (fun nx=>by kernel_rfl) (fun p n rest=>by kernel_rfl)
def c_pair0:List It:=[.tk [103,101,110],.bl 32,.tk [112,97,105,114],.tk [40],.tk [41],.tk [58],.bl 32,.tk [91],.tk [105,110,116],.tk [93],.bl 32,.tk [61],.bl 32,.tk [108,101,116],.bl 32,.tk [97],.bl 32,.tk [60,45],.bl 32,.tk [112,105,99,107],.bl 32,.tk [48],.tk [46,46],.tk [50],.bl 32,.tk [105,110],.bl 32,.tk [108,101,116],.bl 32,.tk [98],.bl 32,.tk [60,45],.bl 32,.tk [112,105,99,107],.bl 32,.tk [97],.tk [46,46]]
def o_pair1:List (List It):=[[.tk [50]],[.tk [51]]]
def c_pair2:List It:=[.bl 32,.tk [105,110],.bl 32,.tk [114,101,116,117,114,110],.bl 32,.tk [91],.tk [97],.tk [44],.bl 32,.tk [98],.tk [93],.tk [59],.bl 10]
theorem s_pair(x1:List It)(h1:x1∈o_pair1):SegP 2 (c_pair0++(x1++c_pair2)):=by
 simp only[o_pair1,List.mem_cons,List.not_mem_nil,or_false]at h1;exact Ydg
def c_small0:List It:=[.tk [112,114,111,112],.bl 32,.tk [115,109,97,108,108],.tk [40],.tk [116],.tk [58],.bl 32,.tk [84,114,101,101],.bl 32,.tk [60,45],.bl 32,.tk [116,114,101,101],.tk [40],.tk [49],.tk [41],.tk [44],.bl 32,.tk [110],.tk [58],.bl 32,.tk [105,110,116],.bl 32,.tk [60,45],.bl 32,.tk [110,117,109],.tk [40],.tk [50],.tk [41],.tk [41],.bl 32,.tk [123],.bl 32,.tk [99,104,101,99,107],.bl 32,.tk [108,111,119],.tk [58],.bl 32,.tk [100,101,112,116,104],.tk [40],.tk [116],.tk [41],.bl 32,.tk [60,61],.bl 32,.tk [110],.bl 32,.tk [43],.bl 32]
def o_small1:List (List It):=[[.tk [48]],[.tk [49]],[.tk [50]]]
def c_small2:List It:=[.tk [59],.bl 32,.tk [99,104,101,99,107],.bl 32,.tk [116,111,116,97,108],.tk [58],.bl 32,.tk [115,117,109],.tk [40],.tk [116],.tk [41],.bl 32,.tk [60,61],.bl 32]
def o_small3:List (List It):=[[.tk [48]],[.tk [49]],[.tk [50]],[.tk [51]],[.tk [52]]]
def c_small4:List It:=[.tk [59],.bl 32,.tk [99,108,97,115,115],.bl 32,.tk [100,101,101,112],.tk [58],.bl 32,.tk [50],.bl 32,.tk [60,61],.bl 32,.tk [100,101,112,116,104],.tk [40],.tk [116],.tk [41],.tk [59],.bl 32,.tk [99,108,97,115,115],.bl 32,.tk [111,100,100],.tk [58],.bl 32,.tk [110],.bl 32,.tk [61,61],.bl 32,.tk [49],.tk [59],.bl 32,.tk [99,108,97,105,109],.bl 32,.tk [100,101,101,112],.bl 32,.tk [49],.tk [47],.tk [52],.tk [59],.bl 32,.tk [125],.bl 10]
theorem s_small(x1:List It)(h1:x1∈o_small1)(x3:List It)(h3:x3∈o_small3):SegP 3 (c_small0++(x1++(c_small2++(x3++c_small4)))):=by
 simp only[o_small1,List.mem_cons,List.not_mem_nil,or_false]at h1;rcases h1 with rfl|rfl|rfl
 all_goals (simp only[o_small3,List.mem_cons,List.not_mem_nil,or_false]at h3;rcases h3 with rfl|rfl|rfl|rfl|rfl)
 all_goals exact segOf (fun nx=>by kernel_rfl) (fun p n rest=>by kernel_rfl)
def c_lists0:List It:=[.tk [112,114,111,112],.bl 32,.tk [108,105,115,116,115],.tk [40],.tk [118],.tk [58],.bl 32,.tk [91],.tk [105,110,116],.tk [93],.bl 32,.tk [60,45],.bl 32,.tk [110,117,109,115],.tk [40],.tk [41],.tk [41],.bl 32,.tk [123],.bl 32,.tk [99,104,101,99,107],.bl 32,.tk [98,111,117,110,100],.tk [58],.bl 32,.tk [115,105,122,101],.tk [40],.tk [118],.tk [41],.bl 32,.tk [60],.bl 32]
def o_lists1:List (List It):=[[.tk [50]],[.tk [51]]]
def c_lists2:List It:=[.bl 32,.tk [111,114],.bl 32,.tk [102],.tk [40],.tk [97,116],.tk [40],.tk [118],.tk [44],.bl 32,.tk [48],.tk [41],.tk [44],.bl 32,.tk [115,105,122,101],.tk [40],.tk [118],.tk [41],.tk [41],.bl 32,.tk [60],.bl 32]
def o_lists3:List (List It):=[[.tk [48]],[.tk [49]],[.tk [50]],[.tk [51]],[.tk [52]],[.tk [53]],[.tk [54]],[.tk [55]],[.tk [56]],[.tk [57]]]
def c_lists4:List It:=[.tk [59],.bl 32,.tk [99,108,97,115,115],.bl 32,.tk [101,109,112,116,121],.tk [58],.bl 32,.tk [115,105,122,101],.tk [40],.tk [118],.tk [41],.bl 32,.tk [61,61],.bl 32,.tk [48],.tk [59],.bl 32,.tk [99,108,97,105,109],.bl 32,.tk [101,109,112,116,121],.bl 32,.tk [49],.tk [47],.tk [53],.tk [59],.bl 32,.tk [125],.bl 10]
theorem s_lists(x1:List It)(h1:x1∈o_lists1)(x3:List It)(h3:x3∈o_lists3):SegP 3 (c_lists0++(x1++(c_lists2++(x3++c_lists4)))):=by
 simp only[o_lists1,List.mem_cons,List.not_mem_nil,or_false]at h1;rcases h1 with rfl|rfl
 all_goals (simp only[o_lists3,List.mem_cons,List.not_mem_nil,or_false]at h3;rcases h3 with rfl|rfl|rfl|rfl|rfl|rfl|rfl|rfl|rfl|rfl)
 all_goals exact segOf (fun nx=>by kernel_rfl) (fun p n rest=>by kernel_rfl)
def c_colors0:List It:=[.tk [112,114,111,112],.bl 32,.tk [99,111,108,111,114,115],.tk [40],.tk [99],.tk [58],.bl 32,.tk [67,111,108,111,114],.bl 32,.tk [60,45],.bl 32,.tk [99,111,108,111,114],.tk [40],.tk [41],.tk [44],.bl 32,.tk [120],.tk [58],.bl 32,.tk [105,110,116],.bl 32,.tk [60,45],.bl 32,.tk [112,105,99,107],.bl 32,.tk [48],.tk [46,46],.tk [51],.tk [41],.bl 32,.tk [123],.bl 32,.tk [99,104,101,99,107],.bl 32,.tk [102,105,114,115,116],.tk [58],.bl 32]
def c_colors2:List It:=[.tk [59],.bl 32,.tk [99,108,97,115,115],.bl 32,.tk [114,101,100],.tk [58],.bl 32,.tk [99],.bl 32,.tk [61,61],.bl 32,.tk [82,101,100],.tk [59],.bl 32,.tk [125],.bl 10]
def c_pairs0:List It:=[.tk [112,114,111,112],.bl 32,.tk [112,97,105,114,115],.tk [40],.tk [112],.tk [58],.bl 32,.tk [91],.tk [105,110,116],.tk [93],.bl 32,.tk [60,45],.bl 32,.tk [112,97,105,114],.tk [40],.tk [41],.tk [44],.bl 32,.tk [113],.tk [58],.bl 32,.tk [105,110,116],.bl 32,.tk [60,45],.bl 32,.tk [112,105,99,107],.bl 32,.tk [48],.tk [46,46],.tk [51],.tk [41],.bl 32,.tk [123],.bl 32,.tk [99,104,101,99,107],.bl 32,.tk [111,114,100,101,114],.tk [58],.bl 32,.tk [97,116],.tk [40],.tk [112],.tk [44],.bl 32,.tk [48],.tk [41],.bl 32,.tk [60,61],.bl 32,.tk [97,116],.tk [40],.tk [112],.tk [44],.bl 32,.tk [49],.tk [41],.tk [59],.bl 32,.tk [99,104,101,99,107],.bl 32,.tk [108,101,115,115],.tk [58],.bl 32,.tk [113],.bl 32,.tk [60],.bl 32]
def o_pairs1:List (List It):=[[.tk [49]],[.tk [50]],[.tk [51]],[.tk [52]]]
def c_pairs2:List It:=[.tk [59],.bl 32,.tk [99,108,97,115,115],.bl 32,.tk [115,97,109,101],.tk [58],.bl 32,.tk [97,116],.tk [40],.tk [112],.tk [44],.bl 32,.tk [48],.tk [41],.bl 32,.tk [61,61],.bl 32,.tk [113],.tk [59],.bl 32,.tk [125],.bl 10]
theorem s_pairs(x1:List It)(h1:x1∈o_pairs1):SegP 3 (c_pairs0++(x1++c_pairs2)):=by
 simp only[o_pairs1,List.mem_cons,List.not_mem_nil,or_false]at h1;rcases h1 with rfl|rfl|rfl|rfl
 all_goals exact segOf (fun nx=>by kernel_rfl) (fun p n rest=>by kernel_rfl)
def c_flaky0:List It:=[.tk [112,114,111,112],.bl 32,.tk [102,108,97,107,121],.tk [40],.tk [120],.tk [58],.bl 32,.tk [105,110,116],.bl 32,.tk [60,45],.bl 32,.tk [112,105,99,107],.bl 32,.tk [48],.tk [46,46],.tk [51],.tk [41],.bl 32,.tk [123],.bl 32,.tk [99,104,101,99,107],.bl 32,.tk [99,111,105,110],.tk [58],.bl 32,.tk [120],.bl 32,.tk [60],.bl 32,.tk [50],.bl 32,.tk [111,114],.bl 32,.tk [102,108,105,112],.tk [40]]
def o_flaky1:List (List It):=[[.tk [49]],[.tk [50]],[.tk [51]]]
def c_flaky2:List It:=[.tk [41],.bl 32,.tk [61,61],.bl 32,.tk [48],.tk [59],.bl 32,.tk [125],.bl 10]
theorem s_flaky(x1:List It)(h1:x1∈o_flaky1):SegP 3 (c_flaky0++(x1++c_flaky2)):=by
 simp only[o_flaky1,List.mem_cons,List.not_mem_nil,or_false]at h1;exact Ydc
def c_queue0:List It:=[.tk [109,111,100,101,108],.bl 32,.tk [113,117,101,117,101],.tk [40],.tk [115],.tk [58],.bl 32,.tk [91],.tk [105,110,116],.tk [93],.bl 32,.tk [61],.bl 32,.tk [91],.tk [93],.tk [41],.bl 32,.tk [123],.bl 32,.tk [99,111,109,109,97,110,100],.bl 32,.tk [112,117,116],.tk [40],.tk [120],.tk [58],.bl 32,.tk [105,110,116],.bl 32,.tk [60,45],.bl 32,.tk [112,105,99,107],.bl 32,.tk [48],.tk [46,46],.tk [50],.tk [41],.bl 32,.tk [112,114,101],.bl 32,.tk [115,105,122,101],.tk [40],.tk [115],.tk [41],.bl 32,.tk [60],.bl 32,.tk [50],.bl 32,.tk [110,101,120,116],.bl 32,.tk [112,117,115,104],.tk [40],.tk [115],.tk [44],.bl 32,.tk [120],.tk [41],.bl 32,.tk [112,111,115,116],.bl 32,.tk [114],.bl 32,.tk [61,61],.bl 32,.tk [48],.tk [59],.bl 32,.tk [99,111,109,109,97,110,100],.bl 32,.tk [103,101,116],.tk [40],.tk [41],.bl 32,.tk [112,114,101],.bl 32,.tk [48],.bl 32,.tk [60],.bl 32,.tk [115,105,122,101],.tk [40],.tk [115],.tk [41],.bl 32,.tk [110,101,120,116],.bl 32,.tk [100,114,111,112],.tk [40],.tk [115],.tk [44],.bl 32,.tk [49],.tk [41],.bl 32,.tk [112,111,115,116],.bl 32,.tk [114],.bl 32,.tk [61,61],.bl 32,.tk [97,116],.tk [40],.tk [115],.tk [44],.bl 32,.tk [48],.tk [41],.tk [59],.bl 32,.tk [125],.bl 10]
theorem s_queue:SegP 4 (c_queue0):=by
 exact Ybw
def c_ring0:List It:=[.tk [115,121,115,116,101,109],.bl 32,.tk [114,105,110,103],.tk [40],.tk [115],.tk [58],.bl 32,.tk [91],.tk [105,110,116],.tk [93],.bl 32,.tk [61],.bl 32,.tk [91],.tk [93],.tk [41],.bl 32,.tk [114,101,99,111,118,101,114],.bl 32,.tk [91],.tk [93],.bl 32,.tk [123],.bl 32,.tk [111,112],.bl 32,.tk [112,117,116],.tk [40],.tk [120],.tk [58],.bl 32,.tk [105,110,116],.tk [41],.bl 32,.tk [123],.bl 32]
def o_ring1:List (List It):=[[.tk [115,116,101,112],.bl 32,.tk [112,117,115,104],.tk [40],.tk [115],.tk [44],.bl 32,.tk [120],.tk [41],.tk [44],.bl 32,.tk [48],.tk [59]],[.tk [115,116,101,112],.bl 32,.tk [115],.tk [44],.bl 32,.tk [115,105,122,101],.tk [40],.tk [115],.tk [41],.tk [59],.bl 32,.tk [115,116,101,112],.bl 32,.tk [112,117,115,104],.tk [40],.tk [115],.tk [44],.bl 32,.tk [120],.tk [41],.tk [44],.bl 32,.tk [105,102],.bl 32,.tk [108],.bl 32,.tk [60],.bl 32,.tk [50],.bl 32,.tk [116,104,101,110],.bl 32,.tk [48],.bl 32,.tk [101,108,115,101],.bl 32,.tk [49],.tk [59]]]
def c_ring2:List It:=[.bl 32,.tk [125],.bl 32,.tk [111,112],.bl 32,.tk [103,101,116],.tk [40],.tk [41],.bl 32,.tk [123],.bl 32]
def o_ring3:List (List It):=[[.tk [115,116,101,112],.bl 32,.tk [100,114,111,112],.tk [40],.tk [115],.tk [44],.bl 32,.tk [49],.tk [41],.tk [44],.bl 32,.tk [97,116],.tk [40],.tk [115],.tk [44],.bl 32,.tk [48],.tk [41],.tk [59]],[.tk [115,116,101,112],.bl 32,.tk [116,97,107,101],.tk [40],.tk [115],.tk [44],.bl 32,.tk [115,105,122,101],.tk [40],.tk [115],.tk [41],.bl 32,.tk [45],.bl 32,.tk [49],.tk [41],.tk [44],.bl 32,.tk [97,116],.tk [40],.tk [115],.tk [44],.bl 32,.tk [115,105,122,101],.tk [40],.tk [115],.tk [41],.bl 32,.tk [45],.bl 32,.tk [49],.tk [41],.tk [59]],[.tk [115,116,101,112],.bl 32,.tk [115],.tk [44],.bl 32,.tk [97,116],.tk [40],.tk [115],.tk [44],.bl 32,.tk [48],.tk [41],.tk [59],.bl 32,.tk [115,116,101,112],.bl 32,.tk [100,114,111,112],.tk [40],.tk [115],.tk [44],.bl 32,.tk [49],.tk [41],.tk [44],.bl 32,.tk [108],.tk [59]]]
def c_ring4:List It:=[.bl 32,.tk [125],.bl 32,.tk [125],.bl 10]
theorem s_ring(x1:List It)(h1:x1∈o_ring1)(x3:List It)(h3:x3∈o_ring3):SegP 5 (c_ring0++(x1++(c_ring2++(x3++c_ring4)))):=by
 simp only[o_ring1,List.mem_cons,List.not_mem_nil,or_false]at h1;rcases h1 with rfl|rfl
 all_goals (simp only[o_ring3,List.mem_cons,List.not_mem_nil,or_false]at h3;rcases h3 with rfl|rfl|rfl)
 all_goals exact segOf (fun nx=>by kernel_rfl) (fun p n rest=>by kernel_rfl)
def c_counter0:List It:=[.tk [109,111,100,101,108],.bl 32,.tk [99,111,117,110,116,101,114],.tk [40],.tk [115],.tk [58],.bl 32,.tk [105,110,116],.bl 32,.tk [61],.bl 32,.tk [48],.tk [41],.bl 32,.tk [123],.bl 32,.tk [99,111,109,109,97,110,100],.bl 32,.tk [105,110,99],.tk [40],.tk [41],.bl 32,.tk [112,114,101],.bl 32,.tk [115],.bl 32,.tk [60],.bl 32,.tk [52],.bl 32,.tk [110,101,120,116],.bl 32,.tk [115],.bl 32,.tk [43],.bl 32,.tk [49],.bl 32,.tk [112,111,115,116],.bl 32,.tk [114],.bl 32,.tk [61,61],.bl 32,.tk [115],.bl 32,.tk [43],.bl 32,.tk [49],.tk [59],.bl 32,.tk [99,111,109,109,97,110,100],.bl 32,.tk [114,101,97,100],.tk [40],.tk [41],.bl 32,.tk [112,114,101],.bl 32,.tk [116,114,117,101],.bl 32,.tk [110,101,120,116],.bl 32,.tk [115],.bl 32,.tk [112,111,115,116],.bl 32,.tk [114],.bl 32,.tk [61,61],.bl 32,.tk [115],.tk [59],.bl 32,.tk [99,111,109,109,97,110,100],.bl 32,.tk [97,100,100],.tk [40],.tk [121],.tk [58],.bl 32,.tk [105,110,116],.bl 32,.tk [60,45],.bl 32,.tk [114,101,115,117,108,116],.tk [44],.bl 32,.tk [122],.tk [58],.bl 32,.tk [105,110,116],.bl 32,.tk [60,45],.bl 32,.tk [112,105,99,107],.bl 32,.tk [48],.tk [46,46],.tk [49],.tk [41],.bl 32,.tk [112,114,101],.bl 32,.tk [121],.bl 32,.tk [60],.bl 32,.tk [51],.bl 32,.tk [110,101,120,116],.bl 32,.tk [115],.bl 32,.tk [43],.bl 32,.tk [121],.bl 32,.tk [43],.bl 32,.tk [122],.bl 32,.tk [112,111,115,116],.bl 32,.tk [114],.bl 32,.tk [61,61],.bl 32,.tk [115],.bl 32,.tk [43],.bl 32,.tk [121],.bl 32,.tk [43],.bl 32,.tk [122],.tk [59],.bl 32,.tk [125],.bl 10]
theorem s_counter:SegP 4 (c_counter0):=by
 exact Ybw
def c_cell0:List It:=[.tk [115,121,115,116,101,109],.bl 32,.tk [99,101,108,108],.tk [40],.tk [115],.tk [58],.bl 32,.tk [105,110,116],.bl 32,.tk [61],.bl 32,.tk [48],.tk [41],.bl 32,.tk [114,101,99,111,118,101,114],.bl 32]
def o_cell1:List (List It):=[[.tk [48]],[.tk [115]]]
def c_cell2:List It:=[.bl 32,.tk [123],.bl 32,.tk [111,112],.bl 32,.tk [105,110,99],.tk [40],.tk [41],.bl 32,.tk [123],.bl 32]
def o_cell3:List (List It):=[[.tk [115,116,101,112],.bl 32,.tk [115],.bl 32,.tk [43],.bl 32,.tk [49],.tk [44],.bl 32,.tk [115],.bl 32,.tk [43],.bl 32,.tk [49],.tk [59]],[.tk [115,116,101,112],.bl 32,.tk [115],.tk [44],.bl 32,.tk [115],.tk [59],.bl 32,.tk [115,116,101,112],.bl 32,.tk [108],.bl 32,.tk [43],.bl 32,.tk [49],.tk [44],.bl 32,.tk [108],.bl 32,.tk [43],.bl 32,.tk [49],.tk [59]],[.tk [115,116,101,112],.bl 32,.tk [115],.tk [44],.bl 32,.tk [115],.tk [59],.bl 32,.tk [115,116,101,112],.bl 32,.tk [115],.bl 32,.tk [43],.bl 32,.tk [49],.tk [44],.bl 32,.tk [115],.bl 32,.tk [43],.bl 32,.tk [49],.tk [59]],[.tk [115,116,101,112],.bl 32,.tk [115],.bl 32,.tk [43],.bl 32,.tk [49],.tk [44],.bl 32,.tk [105,102],.bl 32,.tk [102,108,105,112],.tk [40],.tk [53],.tk [41],.bl 32,.tk [60],.bl 32,.tk [52],.bl 32,.tk [116,104,101,110],.bl 32,.tk [115],.bl 32,.tk [43],.bl 32,.tk [49],.bl 32,.tk [101,108,115,101],.bl 32,.tk [115],.tk [59]]]
def c_cell4:List It:=[.bl 32,.tk [125],.bl 32,.tk [111,112],.bl 32,.tk [114,101,97,100],.tk [40],.tk [41],.bl 32,.tk [123],.bl 32,.tk [115,116,101,112],.bl 32,.tk [115],.tk [44],.bl 32,.tk [115],.tk [59],.bl 32,.tk [125],.bl 32,.tk [111,112],.bl 32,.tk [97,100,100],.tk [40],.tk [121],.tk [58],.bl 32,.tk [105,110,116],.tk [44],.bl 32,.tk [122],.tk [58],.bl 32,.tk [105,110,116],.tk [41],.bl 32,.tk [123],.bl 32,.tk [115,116,101,112],.bl 32,.tk [115],.bl 32,.tk [43],.bl 32,.tk [121],.bl 32,.tk [43],.bl 32,.tk [122],.tk [44],.bl 32,.tk [115],.bl 32,.tk [43],.bl 32,.tk [121],.bl 32,.tk [43],.bl 32,.tk [122],.tk [59],.bl 32,.tk [125],.bl 32,.tk [125],.bl 10]
theorem s_cell(x1:List It)(h1:x1∈o_cell1)(x3:List It)(h3:x3∈o_cell3):SegP 5 (c_cell0++(x1++(c_cell2++(x3++c_cell4)))):=by
 simp only[o_cell1,List.mem_cons,List.not_mem_nil,or_false]at h1;rcases h1 with rfl|rfl
 all_goals (simp only[o_cell3,List.mem_cons,List.not_mem_nil,or_false]at h3;rcases h3 with rfl|rfl|rfl|rfl)
 all_goals exact segOf (fun nx=>by kernel_rfl) (fun p n rest=>by kernel_rfl)
def c_colorsB:List It:=[.tk [40],.tk [99],.tk [58],.bl 32,.tk [67,111,108,111,114],.bl 32,.tk [60,45],.bl 32,.tk [99,111,108,111,114],.tk [40],.tk [41],.tk [44],.bl 32,.tk [120],.tk [58],.bl 32,.tk [105,110,116],.bl 32,.tk [60,45],.bl 32,.tk [112,105,99,107],.bl 32,.tk [48],.tk [46,46],.tk [51],.tk [41]]
end Go.Rf
