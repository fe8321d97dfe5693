/-
 The reference's parser:the state of a model or a system,the items of a property.
-/
import Derived.Test.YtggmccicdhnkgaaGreatZQu
set_option linter.all false
namespace Go.Proofs.YtggmccicdhnkgaaGreat
open Go.Proofs.Tryz
open Go.Rf Go.RowKit
attribute [local irreducible] Code.wp wpList Exit.then Exit.inBlock bodyPost A Calls execOp Addr.add
set_option maxHeartbeats 8000000 in
theorem pCtorsC(f:Nat)(hf:f<=1000000):PL 121 [] (fun _=>pCtors f) (fun l=>l.map ctC):=by
 intro bd p n r0 w l r1 hP2 h2
 have hbd:bd<=w.heap.size:=hP2.le
 have hpw:p<w.heap.size:=Nat.lt_of_lt_of_le hP2.lt hbd
 have hF2:Fr [p] w w:=Fr.refl _ _
 simp only at h2
 refine enter func121 rfl ntmps121 rfl ?_
 refine rx ?_
 refine c_loopK 5 [3,4] (σ:=Nat×List Ct×List Tk×Bool) (fun s g u=>∃v,g 3=v/\g 4=.bool s.2.2.2/\s.1<=f/\LI bd p n w (rg w) 219 2 ctC pCtors l r1 s.1 s.2.1 s.2.2.1 s.2.2.2 u v) (fun s=>2*s.1+s.2.2.2.toNat) (f,[],r0,true) ⟨_,rfl,rfl,Nat.le_refl _,hP2,hF2,.nil,by simp only[List.length_nil];omega,fun _=>⟨l,h2,rfl⟩,fun h=>by cases h⟩ ?_
 clear hP2 hF2
 rintro⟨f',acc,r,b⟩ g w3 ⟨v,h4,h5,hff,hP3,hF3,hL,hlen,ht,hfl⟩
 simp only at hff hP3 hF3 hL hlen ht hfl
 rw[eq_upd h4,eq_upd h5]
 have hs3:=hF3.size
 obtain⟨S0,T0,ao0,c0,i0,hb0,_⟩:=id hP3
 cases b with
 |false=>
  obtain⟨rfl,rfl⟩:=hfl rfl
  refine Yei ?_
  have hd:=LS.dr hL (k:=2) ctC_len Yhd
  exact⟨_,rfl,hd,hP3,hF3⟩
 |true=>
 obtain⟨l',hgo,hacc⟩:=ht rfl
 cases f' with
 |zero=>simp[pCtors]at hgo
 |succ f'=>
 simp only[pCtors]at hgo
 obtain⟨⟨t,r3⟩,h6,hgo⟩:=bind_some hgo
 obtain⟨⟨args,r4⟩,h7,hgo⟩:=bind_some hgo
 simp only at hgo
 refine rx ?_
 refine s_cE (cTok hP3 h6) ?_;rintro w4 ⟨hP4,hf4⟩;have hF4:=hF3.trans hf4 Yhc;have hs4:=hf4.size
 have hL:=LS.keep hL hf4 Yhx
 refine Yer ?_
 refine s_build [.string (bst t.text),zS] rfl ?_
 refine s_var (l:=[zT,zS]) (cs:=[.string (bst t.text),zS]) rfl rfl rfl Yhk rfl (fun v=>rfl) (fun w5 a hqa hba hf5 hs5=>?_);have hP5:=hP4.tr0 hf5;have hF5:=hF4.trans0 hf5
 have hL:=(hL.mono (Y:=a::rg w) (in_cons Yhd)).tr0 hf5
 have haX:a∈a::rg w:=by simp
 have hpX:p∈a::rg w:=by simp[rg_mem];omega
 have hXw:∀b,b<w.heap.size->b∈a::rg w:=fun b hb=>by simp[rg_mem];omega
 have hXs:∀b∈a::rg w,b<w5.heap.size:=fun b hb=>by
  rcases List.mem_cons.1 hb with rfl|hb
  .exact hba.lt
  .have:=rg_mem.1 hb;omega
 refine rx ?_
 refine s_cE (pSkip [40] p n _ _ hP5) ?_;rintro w6 ⟨hP6,hf6⟩;have hF6:=hF5.trans hf6 Yhc;have hs6:=hf6.size
 have hba:=hba.tr hf6 Yhe
 have hL:=hL.keep hf6 (one_in hpX)
 cases h8:isT [40] r3 with
 |false=>
  simp only[h8,nextP,Bool.false_eq_true,if_false,Option.some.injEq,Prod.mk.injEq]at h7 hP6
  obtain⟨rfl,rfl⟩:=h7
  refine rx ?_
  have hdr:RD w6 ((a::rg w)++blks v) (ctC ⟨bst t.text,[]⟩) [.string (bst t.text),zS]:=.cons (.c rfl) (.cons .nil .nil)
  refine s_pushL hL ctC_len rfl rfl rfl hdr (fun b hb=>.inl (List.mem_append.2 hb.symm)) rfl rfl rfl Yhl Yhd (fun b hb=>Nat.lt_of_lt_of_le (hXs b hb) Yhd) (fun v' w7 hL' hf7 hk7=>?_);have hge7:=LS.ge hL (w0:=w) Yib;have hP7:=hP6.tr hf7 (fun k hk=>Nat.le_trans hbd (hge7 k hk));have hF7:=hF6.trans hf7 (fun k hk=>.inr (hge7 k hk));have hs7:=hf7.size
  refine rx ?_
  refine s_cE (pSkip [124] p n _ _ hP7) ?_;rintro w8 ⟨hP8,hf8⟩;have hF8:=hF7.trans hf8 Yhc;have hs8:=hf8.size
  have hL':=(hL'.keep hf8 (one_in hpX)).mono (Y:=rg w) (fun b hb=>.inl Yhy)
  refine rx ?_
  obtain⟨e1,e2⟩:=li_end (go:=pCtors) hgo hacc
  exact q_roundK (f',acc++[⟨bst t.text,[]⟩],nextP (isT [124] r3) r3,isT [124] r3) Yhb ⟨_,rfl,rfl,by simp only;omega,hP8,hF8,hL',by simp only[List.length_append,List.length_cons,List.length_nil];omega,e1,e2⟩ (by cases isT [124] r3<;>simp<;>omega)
 |true=>
  simp only[h8,nextP,if_true]at h7 hP6
  obtain⟨⟨args',r5⟩,h9,h7⟩:=bind_some h7
  obtain⟨r6,h10,h7⟩:=bind_some h7
  simp only[Option.some.injEq,Prod.mk.injEq]at h7
  obtain⟨rfl,rfl⟩:=h7
  have hL3:L3 (a::rg w) w6 219 90 90 2 3 1 ctC tyC (fun _:Unit=>intR 0) acc [] [] v (zS) (zS):=⟨hL.mono (fun b hb=>.inl Yjv),LS.nil,LS.nil⟩
  refine rx ?_
  refine c_loopK 7 [6] (σ:=Nat×List Ty×List Tk×Bool) (fun s g u=>g 6=.bool s.2.2.2/\PS bd u p n s.2.2.1/\Fr [p] w u/\w6.heap.size<=u.heap.size/\s.2.1.length+s.1<=1000000/\(s.2.2.2=true->∃l',pTyGo s.1 s.2.2.1=some (l',r5)/\s.2.1++l'=args')/\(s.2.2.2=false->s.2.1=args'/\s.2.2.1=r5)/\∃v2,Blk u a [.string (bst t.text),v2] 219/\L3 (a::rg w) u 219 90 90 2 3 1 ctC tyC (fun _:Unit=>intR 0) acc s.2.1 [] v v2 (zS)) (fun s=>2*s.1+s.2.2.2.toNat) (f',[],r3.tail,true) ⟨rfl,hP6,hF6,Nat.le_refl _,by simp only[List.length_nil];omega,fun _=>⟨args',h9,rfl⟩,fun h=>Yik,_,hba,hL3⟩ ?_
  clear hP3 hP4 hP5 hP6 hF3 hF4 hF5 hF6 hba hL3 hL
  rintro⟨f2,acc2,r7,b⟩ g w7 ⟨h11,hP7,hF7,hs7,hlen2,ht2,hfl2,v2,hba,hL3⟩
  simp only at hP7 hF7 hlen2 ht2 hfl2 hL3
  rw[eq_upd h11]
  obtain⟨S0,T0,ao0,c0,i0,hb0,_⟩:=id hP7
  obtain⟨ao2,c2,rfl⟩:=hL3.2.1.slice
  have hsz:∀b∈a::rg w,b<w7.heap.size:=fun b hb=>Nat.lt_of_lt_of_le (hXs b hb) Yhd
  cases b with
  |false=>
   obtain⟨rfl,rfl⟩:=hfl2 rfl
   refine rx ?_
   refine s_cE (cTake hP7 h10) ?_;rintro w8 ⟨hP8,hf8⟩;have hF8:=hF7.trans hf8 Yhc;have hs8:=hf8.size
   have hba:=hba.tr hf8 Yhe
   have hL3:=hL3.keep hf8 (one_in hpX)
   have hL:=hL3.1.mono (Y:=a::rg w) (fun b hb=>.inl (List.mem_append_left _ hb))
   have hda:=hL3.2.1.dr (k:=3) tyC_len Yhd
   have hdr:RD w8 ((a::rg w)++blks v) (ctC ⟨bst t.text,acc2⟩) [.string (bst t.text),.slice ao2 acc2.length c2]:=.cons (.c rfl) (.cons (hda.mono (fun b hb=>.inl (by simp at hb ⊢;rcases hb with h|h|h<;>simp[h]))) .nil)
   refine rx ?_
   refine s_pushL hL ctC_len rfl rfl rfl hdr (fun b hb=>.inl (List.mem_append.2 hb.symm)) rfl rfl rfl Yhl Yhd (fun b hb=>Nat.lt_of_lt_of_le (hXs b hb) Yhd) (fun v' w9 hL' hf9 hk9=>?_);have hge9:=LS.ge hL (w0:=w) Yib;have hP9:=hP8.tr hf9 (fun k hk=>Nat.le_trans hbd (hge9 k hk));have hF9:=hF8.trans hf9 (fun k hk=>.inr (hge9 k hk));have hs9:=hf9.size
   refine rx ?_
   refine s_cE (pSkip [124] p n _ _ hP9) ?_;rintro w10 ⟨hP10,hf10⟩;have hF10:=hF9.trans hf10 Yhc;have hs10:=hf10.size
   have hL':=(hL'.keep hf10 (one_in hpX)).mono (Y:=rg w) (fun b hb=>.inl Yhy)
   refine rx ?_
   obtain⟨e1,e2⟩:=li_end (go:=pCtors) hgo hacc
   exact q_roundK (f',acc++[⟨bst t.text,acc2⟩],nextP (isT [124] r6) r6,isT [124] r6) Yhb ⟨_,rfl,rfl,by simp only;omega,hP10,hF10,hL',by simp only[List.length_append,List.length_cons,List.length_nil];omega,e1,e2⟩ (by cases isT [124] r6<;>simp<;>omega)
  |true=>
  obtain⟨l2,hgo2,hacc2⟩:=ht2 rfl
  cases f2 with
  |zero=>simp[pTyGo]at hgo2
  |succ f2=>
  simp only[pTyGo]at hgo2
  obtain⟨⟨ty,r8⟩,h12,hgo2⟩:=bind_some hgo2
  refine rx ?_
  ((refine u_begin 7 (fun z=>True/\Blk z a [.string (bst t.text),.slice ao2 acc2.length c2] 219) Yhf rfl ?_);obtain⟨w8,hw8⟩:=exq w7.drew;rw[<-hw8];have hf8:Fr [] w7 w8:=hw8▸Fr.drew _ _;have hP8:=hP7.tr0 hf8;have hF8:=hF7.trans0 hf8;have hs8:=hf8.size)
  have hba:=hba.tr hf8 Yhe
  have hL3:=hL3.keep hf8 Yhi
  ((refine u_tx 0 (And.intro trivial hba) ?_);(refine u_tx 1 (And.intro trivial hba) ?_);(refine u_tx 2 (And.intro trivial hba) ?_))
  refine Ygg ?_
  have hz:=hL3.sz2 (fun b hb=>Nat.lt_of_lt_of_le (hsz b hb) Yhd)
  have hz1:=hL3.2.1.lt
  refine s_c1 ((pTypC f2) bd p n _ _ _ _ hP8 h12) ?_;rintro cs w9 ⟨hd,hP9,hf9⟩;have hF9:=hF8.trans hf9 Yhc;have hs9:=hf9.size
  have hl:cs.length=3:=by rw[hd.len,tyC_len]
  have hba:=hba.tr hf9 Yhe
  have hL3:=hL3.keep hf9 (one_in hpX)
  refine Yev ?_
  refine s_rows1 rfl hl rfl (fun w10 k5 hk5 ho hf10 hs10=>?_)
  have hP10:=hP9.tr0 hf10;have hF10:=hF9.trans0 hf10
  have hba:=hba.tr hf10 Yhe
  have hL3:=hL3.keep hf10 Yhi
  have hd:=hd.tr0 hf10
  refine Yex ?_
  refine s_appL hL3.2.1 tyC_len rfl rfl ho.src hd (fun b hb=>.inl (rg_mem.2 (hb.elim (hz1 b) (hz b)))) Yhl Yhd (hL3.sz2 (fun b hb=>Nat.lt_of_lt_of_le (hsz b hb) Yhd)) (fun v' w11 hL' hf11 hk11=>?_);have hge11:=LS.ge hL3.2.1 (w0:=w) (fun b hb=>List.mem_append_left _ (hXw b hb));have hP11:=hP10.tr hf11 (fun k hk=>Nat.le_trans hbd (hge11 k hk));have hF11:=hF10.trans hf11 (fun k hk=>.inr (hge11 k hk));have hs11:=hf11.size
  have hba:=hba.tr hf11 (fun h=>hL3.2.1.2 _ h (List.mem_append_left _ haX))
  have hL3:=hL3.put2 hL' hf11 hk11
  have h1c:=hL'.1.one
  refine Ygh ?_
  ((refine u_tx 6 (And.intro trivial hba) ?_))
  refine Ygc ?_
  ((with_reducible apply s_storeB);exact rfl;(conv=>lhs;whnf);exact h1c;exact hba;exact rfl)
  intro w12 hba hf12 hs12
  replace hba:Blk w12 a [.string (bst t.text),v'] 219:=hba
  have hP12:=hP11.tr hf12 Yhj;have hF12:=hF11.trans hf12 (fun x hx=>.inr Yhg)
  have hL3:=hL3.keep hf12 (one_in haX)
  refine Yeo ?_
  refine s_cE (pSkip [44] p n _ _ hP12) ?_;rintro w13 ⟨hP13,hf13⟩;have hF13:=hF12.trans hf13 Yhc;have hs13:=hf13.size
  have hba:=hba.tr hf13 Yhe
  have hL3:=hL3.keep hf13 (one_in hpX)
  refine rx ?_
  obtain⟨z1,z2⟩:=li_end (go:=pTyGo) hgo2 hacc2
  exact q_roundK (f2,acc2++[ty],nextP (isT [44] r8) r8,isT [44] r8) Yhh ⟨rfl,hP13,hF13,by omega,by simp only[List.length_append,List.length_cons,List.length_nil];omega,z1,z2,_,hba,hL3⟩ (by cases isT [44] r8<;>simp<;>omega)
end Go.Proofs.YtggmccicdhnkgaaGreat
namespace Go.Proofs.YtggmccicdhnkgaaGreat
open Go.Proofs.Tryz
open Go.Rf Go.RowKit
variable{r:List Tk}{w:World}
attribute [local irreducible] Code.wp wpList Exit.then Exit.inBlock bodyPost A Calls execOp Addr.add
set_option maxHeartbeats 8000000 in
theorem pStateC(f:Nat)(hf:f<=1000000)(kd:Int)(nm:ByteArray)(at_:Int)(bd p:Nat)(n:Int)(r:List Tk)(w:World)(x:Ty×Ex)(r':List Tk)(z:Nat)(hP0:PS bd w p n r)(hg:pState n f r=some (x,r'))(hbz:Blk w z [iV kd,.string nm,iV at_,zS,zS,zI,zT,zS,zI,zT,zI,zS,zS,zS,zI,zI,zI,zT,zS,zS,zS,zI,zS,zS,zS,zS,zI,zT,zS,zI,zT,zI,zS,zS,zS,zI,zS,zS,zI,zT,zI,zS,zS,zS,zI] 105)(hzb:bd<=z):
 Calls prog 128 #[.pointer (some ⟨p,0,none⟩),.pointer (some ⟨z,0,none⟩)] w fun e w'=>e=.returned (.tuple #[])/\(∃aoS cS aoIa cIa aoIb cIb aoIc cIc,Blk w' z [iV kd,.string nm,iV at_,zS,zS,zI,zT,zS,zI,zT,zI,zS,zS,zS,zI,zI,zI,zT,zS,zS,zS,zI,zS,zS,zS,zS,iV x.1.kind,.string x.1.name,.slice aoS (x.1.kids.map tyC).length cS,iV x.2.kind,.string x.2.name,iV x.2.n,.slice aoIa (x.2.names.map strR).length cIa,.slice aoIb (x.2.binds.map strsR).length cIb,.slice aoIc (x.2.kids.map exC).length cIc,iV x.2.at_,zS,zS,zI,zT,zI,zS,zS,zS,zI] 105/\RD w' (rg w) (tyC x.1) [iV x.1.kind,.string x.1.name,.slice aoS (x.1.kids.map tyC).length cS]/\RD w' (rg w) (exC x.2) [iV x.2.kind,.string x.2.name,iV x.2.n,.slice aoIa (x.2.names.map strR).length cIa,.slice aoIb (x.2.binds.map strsR).length cIb,.slice aoIc (x.2.kids.map exC).length cIc,iV x.2.at_])/\PS bd w' p n r'/\Fr [p,z] w w':=by
 have hbd:bd<=w.heap.size:=hP0.le
 have hpb:p<bd:=hP0.lt
 have hpw:p<w.heap.size:=Nat.lt_of_lt_of_le hP0.lt hbd
 have hzw:z<w.heap.size:=hbz.lt
 have hF0:Fr [p,z] w w:=Fr.refl _ _
 simp only[pState]at hg
 obtain⟨r1,h1,hg⟩:=bind_some hg
 obtain⟨r2,h2,hg⟩:=bind_some hg
 obtain⟨r3,h3,hg⟩:=bind_some hg
 obtain⟨⟨ty,r4⟩,h4,hg⟩:=bind_some hg
 obtain⟨r5,h5,hg⟩:=bind_some hg
 obtain⟨⟨e,r6⟩,h6,hg⟩:=bind_some hg
 obtain⟨r7,h7,hg⟩:=bind_some hg
 simp only[Option.some.injEq,Prod.mk.injEq]at hg
 obtain⟨rfl,rfl⟩:=hg
 refine enter func128 rfl ntmps128 rfl ?_
 refine rx ?_
 refine s_cE (cTake hP0 h1) ?_;rintro w1 ⟨hP1,hf1⟩;have hF1:=hF0.trans hf1 Yhc;have hs1:=hf1.size
 have hbz:=hbz.tr hf1 Yhe
 refine rx ?_
 refine s_cE (cTake hP1 h2) ?_;rintro w2 ⟨hP2,hf2⟩;have hF2:=hF1.trans hf2 Yhc;have hs2:=hf2.size
 have hbz:=hbz.tr hf2 Yhe
 refine rx ?_
 refine s_cE (cTake hP2 h3) ?_;rintro w3 ⟨hP3,hf3⟩;have hF3:=hF2.trans hf3 Yhc;have hs3:=hf3.size
 have hbz:=hbz.tr hf3 Yhe
 refine rx ?_
 refine s_c1 ((pTypC f) bd p n _ _ _ _ hP3 h4) ?_;rintro cs w4 ⟨hd,hP4,hf4⟩;have hF4:=hF3.trans hf4 Yhc;have hs4:=hf4.size
 have hbz:=hbz.tr hf4 Yhe
 obtain⟨sS,rfl,hskS⟩:=tyR.1 hd
 obtain⟨aoS,cS,rfl,_⟩:=hskS.slice
 refine rx ?_
 refine s_storeSubB (cs:=[iV ty.kind,.string ty.name,.slice aoS (ty.kids.map tyC).length cS]) rfl rfl hbz Yhk Yhi rfl (fun w5 hbz hf5 hs5=>?_)
 replace hbz:Blk w5 z [iV kd,.string nm,iV at_,zS,zS,zI,zT,zS,zI,zT,zI,zS,zS,zS,zI,zI,zI,zT,zS,zS,zS,zI,zS,zS,zS,zS,iV ty.kind,.string ty.name,.slice aoS (ty.kids.map tyC).length cS,zI,zT,zI,zS,zS,zS,zI,zS,zS,zI,zT,zI,zS,zS,zS,zI] 105:=hbz
 have hP5:=hP4.tr hf5 Yhj
 have hF5:=hF4.trans hf5 (fun x hx=>.inl Yie)
 have hd:=hd.old hf5 (in_rg Yhd)
 refine rx ?_
 refine s_cE (cTake hP5 h5) ?_;rintro w6 ⟨hP6,hf6⟩;have hF6:=hF5.trans hf6 Yhc;have hs6:=hf6.size
 have hbz:=hbz.tr hf6 Yhe
 have hd:=hd.old hf6 (in_rg Yhd)
 refine rx ?_
 refine s_c1 ((exI f hf).expr bd p n _ _ _ _ hP6 h6) ?_;rintro cs2 w7 ⟨hd2,hP7,hf7⟩;have hF7:=hF6.trans hf7 Yhc;have hs7:=hf7.size
 have hbz:=hbz.tr hf7 Yhe
 have hd:=hd.old hf7 (in_rg Yhd)
 obtain⟨sIa,sIb,sIc,rfl,hkIa,hkIb,hkIc⟩:=exR.1 hd2
 obtain⟨aoIa,cIa,rfl,_⟩:=DR.slice (rows:=_) hkIa
 obtain⟨aoIb,cIb,rfl,_⟩:=hkIb.slice
 obtain⟨aoIc,cIc,rfl,_⟩:=hkIc.slice
 refine rx ?_
 refine s_storeSubB (cs:=[iV e.kind,.string e.name,iV e.n,.slice aoIa (e.names.map strR).length cIa,.slice aoIb (e.binds.map strsR).length cIb,.slice aoIc (e.kids.map exC).length cIc,iV e.at_]) rfl rfl hbz Yhk Yhi rfl (fun w8 hbz hf8 hs8=>?_)
 replace hbz:Blk w8 z [iV kd,.string nm,iV at_,zS,zS,zI,zT,zS,zI,zT,zI,zS,zS,zS,zI,zI,zI,zT,zS,zS,zS,zI,zS,zS,zS,zS,iV ty.kind,.string ty.name,.slice aoS (ty.kids.map tyC).length cS,iV e.kind,.string e.name,iV e.n,.slice aoIa (e.names.map strR).length cIa,.slice aoIb (e.binds.map strsR).length cIb,.slice aoIc (e.kids.map exC).length cIc,iV e.at_,zS,zS,zI,zT,zI,zS,zS,zS,zI] 105:=hbz
 have hP8:=hP7.tr hf8 Yhj
 have hF8:=hF7.trans hf8 (fun x hx=>.inl Yie)
 have hd:=hd.old hf8 (in_rg Yhd)
 have hd2:=hd2.old hf8 (in_rg Yhd)
 refine rx ?_
 refine s_cE (cTake hP8 h7) ?_;rintro w9 ⟨hP9,hf9⟩;have hF9:=hF8.trans hf9 Yhc;have hs9:=hf9.size
 have hbz:=hbz.tr hf9 Yhe
 have hd:=hd.old hf9 (in_rg Yhd)
 have hd2:=hd2.old hf9 (in_rg Yhd)
 refine rx ?_
 exact end0 rfl ⟨rfl,⟨_,_,_,_,_,_,_,_,hbz,hd.down Yhd,hd2.down Yhd⟩,hP9,hF9⟩
theorem isT_ne{a b:Bs}(h:isT a r=true)(hab:(a==b)=false):isT b r=false:=by
 cases r with
 |nil=>rfl
 |cons k r=>
  simp only[isT]at h ⊢
  rw[beq_iff_eq]at h
  rw[h]
  exact hab
theorem PS.inc{bd:Nat}{w':World}{p:Nat}{n:Int}{S:Bs}{T:List Tk}{ao:Option Addr}{c i:Nat}(hb:Blk w p [.string (bst S),.slice ao T.length c,iV i,.bool false] 161)(h:Src w (.slice ao T.length c) T.length (T.flatMap tkC)/\Off (.slice ao T.length c) (T.flatMap tkC) [p]/\r=T.drop i/\i<=T.length/\(S.length:Int)=n/\(T.length<=1000000/\∀t∈T,0<=t.n/\t.n<=1099511627777)/\p<bd/\bd<=w.heap.size/\(∀ad,ao=some ad->ad.block<bd))(hr:r≠[])
 (hb':Blk w' p [.string (bst S),.slice ao T.length c,iV ((i:Int)+1),.bool false] 161) (hf:Fr [p] w w'):PS bd w' p n r.tail:=by
 obtain⟨hs,ho,rfl,hi,hn,hT,hpb,hbw,hab⟩:=h
 have hlt:i<T.length:=by
  rcases Nat.lt_or_ge i T.length with h|h
  .exact h
  .exact absurd (List.drop_eq_nil_of_le h) hr
 exact⟨S,T,ao,c,i+1,hb',hs.tr hf ho,ho,by simp,by omega,hn,hT,hpb,Nat.le_trans hbw hf.size,hab⟩
theorem _root_.Go.Rf.L3.mono{α β γ:Type}{X Y:List Nat}{e1 e2 e3 k1 k2 k3:Nat}{C1:α->List Dt}{C2:β->List Dt}{C3:γ->List Dt}{l1:List α}{l2:List β}{l3:List γ}{v1 v2 v3:Value}(h:L3 X w e1 e2 e3 k1 k2 k3 C1 C2 C3 l1 l2 l3 v1 v2 v3)(hY:∀b∈Y,b∈X\/w.heap.size<=b):L3 Y w e1 e2 e3 k1 k2 k3 C1 C2 C3 l1 l2 l3 v1 v2 v3:=
 have a:∀Z:List Nat,∀b∈Y++Z,b∈X++Z\/w.heap.size<=b:=fun Z b hb=>(List.mem_append.1 hb).elim (fun h=>(hY b h).imp (List.mem_append_left _) id) (fun h=>.inl (List.mem_append_right _ h))
 ⟨h.1.mono (a _),h.2.1.mono (a _),h.2.2.mono (a _)⟩
set_option maxHeartbeats 16000000 in
theorem pItemsC(f:Nat)(hf:f<=1000000)(nm:ByteArray)(at_:Int)(dv:Value)(bd p:Nat)(n:Int)(r:List Tk)(w:World)(x:List Ck×List Ck×List Cl)(r':List Tk)(z:Nat)(hP0:PS bd w p n r)(hg:pItems n f r=some (x,r'))(hbz:Blk w z [iV 3,.string nm,iV at_,zS,zS,zI,zT,zS,zI,zT,zI,zS,zS,zS,zI,zI,zI,zT,zS,zS,zS,zI,dv,zS,zS,zS,zI,zT,zS,zI,zT,zI,zS,zS,zS,zI,zS,zS,zI,zT,zI,zS,zS,zS,zI] 105)(hzb:bd<=z):
 Calls prog 127 #[.pointer (some ⟨p,0,none⟩),.pointer (some ⟨z,0,none⟩)] w fun e w'=>e=.returned (.tuple #[])/\(∃v1 v2 v3,Blk w' z [iV 3,.string nm,iV at_,zS,zS,zI,zT,zS,zI,zT,zI,zS,zS,zS,zI,zI,zI,zT,zS,zS,zS,zI,dv,v1,v2,v3,zI,zT,zS,zI,zT,zI,zS,zS,zS,zI,zS,zS,zI,zT,zI,zS,zS,zS,zI] 105/\DR w' (rg w) (.l (x.1.map ckC)) v1/\DR w' (rg w) (.l (x.2.1.map ckC)) v2/\DR w' (rg w) (.l (x.2.2.map clC)) v3)/\PS bd w' p n r'/\Fr [p,z] w w':=by
 have hbd:bd<=w.heap.size:=hP0.le
 have hpb:p<bd:=hP0.lt
 have hpw:p<w.heap.size:=Nat.lt_of_lt_of_le hP0.lt hbd
 have hzw:z<w.heap.size:=hbz.lt
 have hF0:Fr [p,z] w w:=Fr.refl _ _
 simp only[pItems]at hg
 obtain⟨r1,h1,hg⟩:=bind_some hg
 obtain⟨⟨⟨A,B,C⟩,r2⟩,h2,hg⟩:=bind_some hg
 obtain⟨r3,h3,hg⟩:=bind_some hg
 simp only[Option.some.injEq,Prod.mk.injEq]at hg
 obtain⟨rfl,rfl⟩:=hg
 refine enter func127 rfl ntmps127 rfl ?_
 refine rx ?_
 refine s_cE (cTake hP0 h1) ?_;rintro w1 ⟨hP1,hf1⟩;have hF1:=hF0.trans hf1 Yhc;have hs1:=hf1.size
 have hbz:=hbz.tr hf1 Yhe
 refine rx ?_
 have hL0:L3 (rg w) w1 132 132 236 8 8 3 ckC ckC clC [] [] [] (zS) (zS) (zS):=⟨LS.nil,LS.nil,LS.nil⟩
 refine c_loopK 4 [] (σ:=Nat×List Ck×List Ck×List Cl×List Tk) (fun s g u=>PS bd u p n s.2.2.2.2/\Fr [p,z] w u/\w1.heap.size<=u.heap.size/\s.2.1.length+s.1<=1000000/\s.2.2.1.length+s.1<=1000000/\s.2.2.2.1.length+s.1<=1000000/\s.1<=f/\pItGo n s.1 s.2.1 s.2.2.1 s.2.2.2.1 s.2.2.2.2=some ((A,B,C),r2)/\∃v1 v2 v3,Blk u z [iV 3,.string nm,iV at_,zS,zS,zI,zT,zS,zI,zT,zI,zS,zS,zS,zI,zI,zI,zT,zS,zS,zS,zI,dv,v1,v2,v3,zI,zT,zS,zI,zT,zI,zS,zS,zS,zI,zS,zS,zI,zT,zI,zS,zS,zS,zI] 105/\L3 (rg w) u 132 132 236 8 8 3 ckC ckC clC s.2.1 s.2.2.1 s.2.2.2.1 v1 v2 v3) (fun s=>s.1) (f,[],[],[],r1) ⟨hP1,hF1,Nat.le_refl _,by simpa using hf,by simpa using hf,by simpa using hf,Nat.le_refl _,h2,_,_,_,hbz,hL0⟩ ?_
 clear hP0 hP1 hF0 hF1 hbz hL0
 rintro⟨f',a,b,c',r4⟩ g w2 ⟨hP2,hF2,hs2,hla,hlb,hlc,hff,hit,v1,v2,v3,hbz,hL3⟩
 simp only at hP2 hF2 hla hlb hlc hff hit hL3
 have hpr:∀b∈[p],b∈rg w\/0<=b:=fun b hb=>.inr (Nat.zero_le _)
 have hpX:p∈rg w:=rg_mem.2 hpw
 cases f' with
 |zero=>simp[pItGo]at hit
 |succ f'=>
 simp only[pItGo]at hit
 refine rx ?_
 cases hcl:isT [99,108,97,105,109] r4 with
 |true=>
  have e1:isT [99,104,101,99,107] r4=false:=isT_ne hcl rfl
  have e2:isT [99,108,97,115,115] r4=false:=isT_ne hcl rfl
  simp only[hcl,if_true]at hit
  obtain⟨⟨t,r5⟩,g1,hit⟩:=bind_some hit
  obtain⟨⟨p1,r6⟩,g2,hit⟩:=bind_some hit
  obtain⟨r7,g3,hit⟩:=bind_some hit
  obtain⟨⟨q1,r8⟩,g4,hit⟩:=bind_some hit
  obtain⟨r9,g5,hit⟩:=bind_some hit
  refine s_cE (isC [99,104,101,99,107] p n _ _ hP2) ?_
  rintro w3 hf3
  have hP3:=hP2.tr0 hf3;have hF3:=hF2.trans0 hf3
  have hs3:=hf3.size
  have hbz:=hbz.tr hf3 Yhe
  have hL3:=hL3.keep hf3 Yhi
  rw[e1]
  refine rx ?_
  refine s_cE (isC [99,108,97,115,115] p n _ _ hP3) ?_
  rintro w4 hf4
  have hP4:=hP3.tr0 hf4;have hF4:=hF3.trans0 hf4
  have hs4:=hf4.size
  have hbz:=hbz.tr hf4 Yhe
  have hL3:=hL3.keep hf4 Yhi
  rw[e2]
  refine rx ?_
  refine s_cE (isC [99,108,97,105,109] p n _ _ hP4) ?_
  rintro w5 hf5
  have hP5:=hP4.tr0 hf5;have hF5:=hF4.trans0 hf5
  have hs5:=hf5.size
  have hbz:=hbz.tr hf5 Yhe
  have hL3:=hL3.keep hf5 Yhi
  rw[hcl]
  refine rx ?_
  refine s_cE (pSkip [99,108,97,105,109] p n _ _ hP5) ?_;rintro w6 ⟨hP6,hf6⟩;have hF6:=hF5.trans hf6 Yhc;have hs6:=hf6.size
  have hbz:=hbz.tr hf6 Yhe
  have hL3:=hL3.keep hf6 (one_in hpX)
  simp only[hcl,nextP,if_true]at hP6
  refine rx ?_
  rw[hcl]
  refine rx ?_
  refine s_cE (cTok hP6 g1) ?_;rintro w7 ⟨hP7,hf7⟩;have hF7:=hF6.trans hf7 Yhc;have hs7:=hf7.size
  have hbz:=hbz.tr hf7 Yhe
  have hL3:=hL3.keep hf7 (one_in hpX)
  refine Yer ?_
  refine s_cE (cTok hP7 g2) ?_;rintro w8 ⟨hP8,hf8⟩;have hF8:=hF7.trans hf8 Yhc;have hs8:=hf8.size
  have hbz:=hbz.tr hf8 Yhe
  have hL3:=hL3.keep hf8 (one_in hpX)
  refine s_fieldV (l:=tkC p1) rfl rfl ?_
  refine rx ?_
  refine s_build [.string (bst t.text),iV p1.n,zI] rfl ?_
  refine s_var (l:=[zT,zI,zI]) (cs:=[.string (bst t.text),iV p1.n,zI]) rfl rfl rfl Yhk rfl (fun v=>rfl) (fun w9 c hqc hbc hf9 hs9=>?_);have hP9:=hP8.tr0 hf9;have hF9:=hF8.trans0 hf9
  have hbz:=hbz.tr hf9 Yhe
  have hL3:=(hL3.mono (Y:=c::rg w) (in_cons Yhd)).keep hf9 Yhi
  have hcX:c∈c::rg w:=by simp
  have hpX:p∈c::rg w:=List.mem_cons_of_mem _ hpX
  have hXw:∀b,b<w.heap.size->b∈c::rg w:=fun b hb=>List.mem_cons_of_mem _ (rg_mem.2 hb)
  have hXs:∀b∈c::rg w,b<w9.heap.size:=fun b hb=>by
   rcases List.mem_cons.1 hb with rfl|hb
   .exact hbc.lt
   .have:=rg_mem.1 hb;omega
  refine rx ?_
  refine s_cE (cTake hP9 g3) ?_;rintro w10 ⟨hP10,hf10⟩;have hF10:=hF9.trans hf10 Yhc;have hs10:=hf10.size
  have hbz:=hbz.tr hf10 Yhe
  have hbc:=hbc.tr hf10 Yhe
  have hL3:=hL3.keep hf10 (one_in hpX)
  refine rx ?_
  refine s_cE (cTok hP10 g4) ?_;rintro w11 ⟨hP11,hf11⟩;have hF11:=hF10.trans hf11 Yhc;have hs11:=hf11.size
  have hbz:=hbz.tr hf11 Yhe
  have hbc:=hbc.tr hf11 Yhe
  have hL3:=hL3.keep hf11 (one_in hpX)
  refine s_fieldV (l:=tkC q1) rfl rfl ?_
  refine rx ?_
  ((with_reducible apply s_storeB);exact rfl;(conv=>lhs;whnf);exact rfl;exact hbc;exact rfl)
  intro w12 hbc hf12 hs12
  replace hbc:Blk w12 c [.string (bst t.text),iV p1.n,iV q1.n] 236:=hbc
  have hP12:=hP11.tr hf12 Yhj;have hF12:=hF11.trans hf12 (fun x hx=>.inr Yhg)
  have hbz:=hbz.tr hf12 Yhe
  have hL3:=hL3.keep hf12 (one_in hcX)
  refine rx ?_
  have hz1:=hL3.2.2.lt
  have hz:=hL3.sz3 (fun b hb=>Nat.lt_of_lt_of_le (hXs b hb) Yhd)
  have hdr:RD w12 (rg w12) (clC ⟨bst t.text,p1.n,q1.n⟩) [.string (bst t.text),iV p1.n,iV q1.n]:=.cons (.c rfl) (.cons (.c rfl) (.cons (.c rfl) .nil))
  obtain⟨ao3,k3,rfl⟩:=hL3.2.2.slice
  ((refine u_begin 10 (fun y=>Blk y c [.string (bst t.text),iV p1.n,iV q1.n] 236/\Blk y z [iV 3,.string nm,iV at_,zS,zS,zI,zT,zS,zI,zT,zI,zS,zS,zS,zI,zI,zI,zT,zS,zS,zS,zI,dv,v1,v2,.slice ao3 c'.length k3,zI,zT,zS,zI,zT,zI,zS,zS,zS,zI,zS,zS,zI,zT,zI,zS,zS,zS,zI] 105) Yhf rfl ?_);obtain⟨w13,hw13⟩:=exq w12.drew;rw[<-hw13];have hf13:Fr [] w12 w13:=hw13▸Fr.drew _ _;have hP13:=hP12.tr0 hf13;have hF13:=hF12.trans0 hf13;have hs13:=hf13.size)
  have hbz:=hbz.tr hf13 Yhe
  have hbc:=hbc.tr hf13 Yhe
  have hL3:=hL3.keep hf13 Yhi
  have hdr:=hdr.tr0 hf13
  ((refine u_tx 0 (And.intro hbc hbz) ?_);(refine u_tx 1 (And.intro hbc hbz) ?_);(refine u_tx 2 (And.intro hbc hbz) ?_);(refine u_tx 3 (And.intro hbc hbz) ?_);(refine u_tx 4 (And.intro hbc hbz) ?_))
  refine u_tx 5 (And.intro hbc hbz) ?_ (hrun:=Yii)
  refine u_one (i:=6) rfl Yhf ?_
  refine s_rows1 rfl rfl rfl (fun w14 k5 hk5 ho hf14 hs14=>?_)
  have hP14:=hP13.tr0 hf14;have hF14:=hF13.trans0 hf14
  have hbz:=hbz.tr hf14 Yhe
  have hbc:=hbc.tr hf14 Yhe
  have hL3:=hL3.keep hf14 Yhi
  have hdr:=hdr.tr0 hf14
  refine Yez ?_
  refine s_appL hL3.2.2 clC_len rfl rfl ho.src hdr (fun b hb=>.inl (rg_mem.2 (hb.elim (hz1 b) (hz b)))) Yhl Yhd (hL3.sz3 (fun b hb=>Nat.lt_of_lt_of_le (hXs b hb) Yhd)) (fun v' w15 hL' hf15 hk15=>?_);have hge15:=LS.ge hL3.2.2 (w0:=w) (fun b hb=>List.mem_append_left _ (hXw b hb));have hP15:=hP14.tr hf15 (fun k hk=>Nat.le_trans hbd (hge15 k hk));have hF15:=hF14.trans hf15 (fun k hk=>.inr (hge15 k hk));have hs15:=hf15.size
  have hbz:=hbz.tr hf15 (fun h=>hL3.2.2.2 _ h (List.mem_append_left _ (hXw z hzw)))
  have hbc:=hbc.tr hf15 (fun h=>hL3.2.2.2 _ h (List.mem_append_left _ hcX))
  have hL3:=hL3.put3 hL' hf15 hk15
  have h1c:=hL'.1.one
  refine Yet ?_
  ((refine u_tx 9 (And.intro hbc hbz) ?_))
  refine Yge ?_
  ((with_reducible apply s_storeB);exact rfl;(conv=>lhs;whnf);exact h1c;exact hbz;exact rfl)
  intro w16 hbz hf16 hs16
  replace hbz:Blk w16 z [iV 3,.string nm,iV at_,zS,zS,zI,zT,zS,zI,zT,zI,zS,zS,zS,zI,zI,zI,zT,zS,zS,zS,zI,dv,v1,v2,v',zI,zT,zS,zI,zT,zI,zS,zS,zS,zI,zS,zS,zI,zT,zI,zS,zS,zS,zI] 105:=hbz
  have hP16:=hP15.tr hf16 Yhj
  have hF16:=hF15.trans hf16 (fun x hx=>.inl Yie)
  have hL3:=hL3.keep hf16 (one_in (hXw z hzw))
  refine Yeo ?_
  refine s_cE (cTake hP16 g5) ?_;rintro w17 ⟨hP17,hf17⟩;have hF17:=hF16.trans hf17 Yhc;have hs17:=hf17.size
  have hbz:=hbz.tr hf17 Yhe
  have hL3:=(hL3.keep hf17 (one_in hpX)).mono (Y:=rg w) (fun b hb=>.inl Yhy)
  refine rx ?_
  exact q_roundK (f',a,b,c'++[⟨bst t.text,p1.n,q1.n⟩],r9) Yhb ⟨hP17,hF17,by omega,by(simp only[List.length_append,List.length_cons,List.length_nil]<;>omega),by(simp only[List.length_append,List.length_cons,List.length_nil]<;>omega),by(simp only[List.length_append,List.length_cons,List.length_nil]<;>omega),by simp only;omega,hit,v1,v2,_,hbz,hL3⟩ Yhm
 |false=>
 cases hck:isT [99,104,101,99,107] r4 with
 |true=>
  simp only[hcl,hck,Bool.false_eq_true,if_false,if_true]at hit
  obtain⟨⟨t,r5⟩,g1,hit⟩:=bind_some hit
  obtain⟨r6,g2,hit⟩:=bind_some hit
  obtain⟨⟨e,r7⟩,g3,hit⟩:=bind_some hit
  obtain⟨r8,g4,hit⟩:=bind_some hit
  have hne:r4≠[]:=by rintro rfl;simp[isT]at hck
  refine s_cE (isC [99,104,101,99,107] p n _ _ hP2) ?_
  rintro w3 hf3
  have hP3:=hP2.tr0 hf3;have hF3:=hF2.trans0 hf3
  have hs3:=hf3.size
  have hbz:=hbz.tr hf3 Yhe
  have hL3:=hL3.keep hf3 Yhi
  rw[hck]
  refine rx ?_
  refine s_cE (pSkip [99,108,97,105,109] p n _ _ hP3) ?_;rintro w4 ⟨hP4,hf4⟩;have hF4:=hF3.trans hf4 Yhc;have hs4:=hf4.size
  have hbz:=hbz.tr hf4 Yhe
  have hL3:=hL3.keep hf4 (one_in hpX)
  simp only[hcl,nextP,Bool.false_eq_true,if_false]at hP4
  refine rx ?_
  rw[hcl]
  refine rx ?_
  refine s_cE (isC [99,104,101,99,107] p n _ _ hP4) ?_
  rintro w5 hf5
  have hP5:=hP4.tr0 hf5;have hF5:=hF4.trans0 hf5
  have hs5:=hf5.size
  have hbz:=hbz.tr hf5 Yhe
  have hL3:=hL3.keep hf5 Yhi
  rw[hck]
  obtain⟨S1,T1,ao1,k1,i1,hb1,hT1⟩:=id hP5
  have hi1:=hT1.2.2.2.1
  have hi2:=hT1.2.2.2.2.2.1.1
  refine rx ?_
  ((with_reducible apply s_storeB);exact rfl;(conv=>lhs;whnf);exact rfl;exact hb1;exact rfl)
  intro w6 hb2 hf6 hs6
  have hP6:=PS.inc hb1 hT1 hne hb2 hf6
  have hF6:=hF5.trans hf6 (fun x hx=>.inl Yie)
  have hbz:=hbz.tr hf6 Yhe
  have hL3:=hL3.keep hf6 (one_in hpX)
  refine rx ?_
  refine s_cE (cTok hP6 g1) ?_;rintro w7 ⟨hP7,hf7⟩;have hF7:=hF6.trans hf7 Yhc;have hs7:=hf7.size
  have hbz:=hbz.tr hf7 Yhe
  have hL3:=hL3.keep hf7 (one_in hpX)
  refine Yer ?_
  refine s_build [.string (bst t.text),zI,zT,zI,zS,zS,zS,zI] rfl ?_
  refine s_var (l:=[zT,zI,zT,zI,zS,zS,zS,zI]) (cs:=[.string (bst t.text),zI,zT,zI,zS,zS,zS,zI]) rfl rfl rfl Yhk rfl (fun v=>rfl) (fun w8 c hqc hbc hf8 hs8=>?_);have hP8:=hP7.tr0 hf8;have hF8:=hF7.trans0 hf8
  have hbz:=hbz.tr hf8 Yhe
  have hL3:=(hL3.mono (Y:=c::rg w) (in_cons Yhd)).keep hf8 Yhi
  have hcX:c∈c::rg w:=by simp
  have hpX:p∈c::rg w:=List.mem_cons_of_mem _ hpX
  have hXw:∀b,b<w.heap.size->b∈c::rg w:=fun b hb=>List.mem_cons_of_mem _ (rg_mem.2 hb)
  have hXs:∀b∈c::rg w,b<w8.heap.size:=fun b hb=>by
   rcases List.mem_cons.1 hb with rfl|hb
   .exact hbc.lt
   .have:=rg_mem.1 hb;omega
  refine rx ?_
  refine s_cE (cTake hP8 g2) ?_;rintro w9 ⟨hP9,hf9⟩;have hF9:=hF8.trans hf9 Yhc;have hs9:=hf9.size
  have hbz:=hbz.tr hf9 Yhe
  have hbc:=hbc.tr hf9 Yhe
  have hL3:=hL3.keep hf9 (one_in hpX)
  refine rx ?_
  have hz1:=hL3.1.lt
  have hz:=hL3.sz1 (fun b hb=>Nat.lt_of_lt_of_le (hXs b hb) Yhd)
  refine s_c1 ((exI f' Yhd).expr bd p n _ _ _ _ hP9 g3) ?_;rintro cs w10 ⟨hd,hP10,hf10⟩;have hF10:=hF9.trans hf10 Yhc;have hs10:=hf10.size
  have hbz:=hbz.tr hf10 Yhe
  have hbc:=hbc.tr hf10 Yhe
  have hL3:=hL3.keep hf10 (one_in hpX)
  obtain⟨sEa,sEb,sEc,rfl,hkEa,hkEb,hkEc⟩:=exR.1 hd
  obtain⟨aoEa,cEa,rfl,_⟩:=DR.slice (rows:=_) hkEa
  obtain⟨aoEb,cEb,rfl,_⟩:=hkEb.slice
  obtain⟨aoEc,cEc,rfl,_⟩:=hkEc.slice
  refine rx ?_
  refine s_storeSubB (cs:=[iV e.kind,.string e.name,iV e.n,.slice aoEa (e.names.map strR).length cEa,.slice aoEb (e.binds.map strsR).length cEb,.slice aoEc (e.kids.map exC).length cEc,iV e.at_]) rfl rfl hbc Yhk Yhi rfl (fun w11 hbc hf11 hs11=>?_)
  replace hbc:Blk w11 c [.string (bst t.text),iV e.kind,.string e.name,iV e.n,.slice aoEa (e.names.map strR).length cEa,.slice aoEb (e.binds.map strsR).length cEb,.slice aoEc (e.kids.map exC).length cEc,iV e.at_] 132:=hbc
  have hP11:=hP10.tr hf11 Yhj;have hF11:=hF10.trans hf11 (fun x hx=>.inr Yhg)
  have hbz:=hbz.tr hf11 Yhe
  have hL3:=hL3.keep hf11 (one_in hcX)
  have hd:=hd.old hf11 (in_rg Yhd)
  have hdr:RD w11 (rg w9) (ckC ⟨bst t.text,e⟩) [.string (bst t.text),iV e.kind,.string e.name,iV e.n,.slice aoEa (e.names.map strR).length cEa,.slice aoEb (e.binds.map strsR).length cEb,.slice aoEc (e.kids.map exC).length cEc,iV e.at_]:=.cons (.c rfl) hd
  obtain⟨ao3,k3,rfl⟩:=hL3.1.slice
  refine rx ?_
  ((refine u_begin 10 (fun y=>Blk y c [.string (bst t.text),iV e.kind,.string e.name,iV e.n,.slice aoEa (e.names.map strR).length cEa,.slice aoEb (e.binds.map strsR).length cEb,.slice aoEc (e.kids.map exC).length cEc,iV e.at_] 132/\Blk y z [iV 3,.string nm,iV at_,zS,zS,zI,zT,zS,zI,zT,zI,zS,zS,zS,zI,zI,zI,zT,zS,zS,zS,zI,dv,.slice ao3 a.length k3,v2,v3,zI,zT,zS,zI,zT,zI,zS,zS,zS,zI,zS,zS,zI,zT,zI,zS,zS,zS,zI] 105) Yhf rfl ?_);obtain⟨w12,hw12⟩:=exq w11.drew;rw[<-hw12];have hf12:Fr [] w11 w12:=hw12▸Fr.drew _ _;have hP12:=hP11.tr0 hf12;have hF12:=hF11.trans0 hf12;have hs12:=hf12.size)
  have hbz:=hbz.tr hf12 Yhe
  have hbc:=hbc.tr hf12 Yhe
  have hL3:=hL3.keep hf12 Yhi
  have hdr:=hdr.tr0 hf12
  ((refine u_tx 0 (And.intro hbc hbz) ?_);(refine u_tx 1 (And.intro hbc hbz) ?_);(refine u_tx 2 (And.intro hbc hbz) ?_);(refine u_tx 3 (And.intro hbc hbz) ?_);(refine u_tx 4 (And.intro hbc hbz) ?_))
  refine u_tx 5 (And.intro hbc hbz) ?_ (hrun:=Yii)
  refine u_one (i:=6) rfl Yhf ?_
  refine s_rows1 rfl rfl rfl (fun w13 k5 hk5 ho hf13 hs13=>?_)
  have hP13:=hP12.tr0 hf13;have hF13:=hF12.trans0 hf13
  have hbz:=hbz.tr hf13 Yhe
  have hbc:=hbc.tr hf13 Yhe
  have hL3:=hL3.keep hf13 Yhi
  have hdr:=hdr.tr0 hf13
  refine Yez ?_
  refine s_appL hL3.1 ckC_len rfl rfl ho.src hdr (fun b hb=>.inl (rg_mem.2 (hb.elim (hz1 b) (hz b)))) Yhl Yhd (hL3.sz1 (fun b hb=>Nat.lt_of_lt_of_le (hXs b hb) Yhd)) (fun v' w14 hL' hf14 hk14=>?_);have hge14:=LS.ge hL3.1 (w0:=w) (fun b hb=>List.mem_append_left _ (hXw b hb));have hP14:=hP13.tr hf14 (fun k hk=>Nat.le_trans hbd (hge14 k hk));have hF14:=hF13.trans hf14 (fun k hk=>.inr (hge14 k hk));have hs14:=hf14.size
  have hbz:=hbz.tr hf14 (fun h=>hL3.1.2 _ h (List.mem_append_left _ (hXw z hzw)))
  have hbc:=hbc.tr hf14 (fun h=>hL3.1.2 _ h (List.mem_append_left _ hcX))
  have hL3:=hL3.put1 hL' hf14 hk14
  have h1c:=hL'.1.one
  refine Yet ?_
  ((refine u_tx 9 (And.intro hbc hbz) ?_))
  refine Yge ?_
  ((with_reducible apply s_storeB);exact rfl;(conv=>lhs;whnf);exact h1c;exact hbz;exact rfl)
  intro w15 hbz hf15 hs15
  replace hbz:Blk w15 z [iV 3,.string nm,iV at_,zS,zS,zI,zT,zS,zI,zT,zI,zS,zS,zS,zI,zI,zI,zT,zS,zS,zS,zI,dv,v',v2,v3,zI,zT,zS,zI,zT,zI,zS,zS,zS,zI,zS,zS,zI,zT,zI,zS,zS,zS,zI] 105:=hbz
  have hP15:=hP14.tr hf15 Yhj
  have hF15:=hF14.trans hf15 (fun x hx=>.inl Yie)
  have hL3:=hL3.keep hf15 (one_in (hXw z hzw))
  refine Yeo ?_
  refine s_cE (cTake hP15 g4) ?_;rintro w16 ⟨hP16,hf16⟩;have hF16:=hF15.trans hf16 Yhc;have hs16:=hf16.size
  have hbz:=hbz.tr hf16 Yhe
  have hL3:=(hL3.keep hf16 (one_in hpX)).mono (Y:=rg w) (fun b hb=>.inl Yhy)
  refine rx ?_
  exact q_roundK (f',a++[⟨bst t.text,e⟩],b,c',r8) Yhb ⟨hP16,hF16,by omega,by(simp only[List.length_append,List.length_cons,List.length_nil]<;>omega),by(simp only[List.length_append,List.length_cons,List.length_nil]<;>omega),by(simp only[List.length_append,List.length_cons,List.length_nil]<;>omega),by simp only;omega,hit,_,v2,v3,hbz,hL3⟩ Yhm
 |false=>
 cases hcs:isT [99,108,97,115,115] r4 with
 |true=>
  simp only[hcl,hck,hcs,Bool.false_eq_true,if_false,if_true]at hit
  obtain⟨⟨t,r5⟩,g1,hit⟩:=bind_some hit
  obtain⟨r6,g2,hit⟩:=bind_some hit
  obtain⟨⟨e,r7⟩,g3,hit⟩:=bind_some hit
  obtain⟨r8,g4,hit⟩:=bind_some hit
  have hne:r4≠[]:=by rintro rfl;simp[isT]at hcs
  refine s_cE (isC [99,104,101,99,107] p n _ _ hP2) ?_
  rintro w3 hf3
  have hP3:=hP2.tr0 hf3;have hF3:=hF2.trans0 hf3
  have hs3:=hf3.size
  have hbz:=hbz.tr hf3 Yhe
  have hL3:=hL3.keep hf3 Yhi
  rw[hck]
  refine rx ?_
  refine s_cE (isC [99,108,97,115,115] p n _ _ hP3) ?_
  rintro w4 hf4
  have hP4:=hP3.tr0 hf4;have hF4:=hF3.trans0 hf4
  have hs4:=hf4.size
  have hbz:=hbz.tr hf4 Yhe
  have hL3:=hL3.keep hf4 Yhi
  rw[hcs]
  refine rx ?_
  refine s_cE (pSkip [99,108,97,105,109] p n _ _ hP4) ?_;rintro w5 ⟨hP5,hf5⟩;have hF5:=hF4.trans hf5 Yhc;have hs5:=hf5.size
  have hbz:=hbz.tr hf5 Yhe
  have hL3:=hL3.keep hf5 (one_in hpX)
  simp only[hcl,nextP,Bool.false_eq_true,if_false]at hP5
  refine rx ?_
  rw[hcl]
  refine rx ?_
  refine s_cE (isC [99,104,101,99,107] p n _ _ hP5) ?_
  rintro w6 hf6
  have hP6:=hP5.tr0 hf6;have hF6:=hF5.trans0 hf6
  have hs6:=hf6.size
  have hbz:=hbz.tr hf6 Yhe
  have hL3:=hL3.keep hf6 Yhi
  rw[hck]
  obtain⟨S1,T1,ao1,k1,i1,hb1,hT1⟩:=id hP6
  have hi1:=hT1.2.2.2.1
  have hi2:=hT1.2.2.2.2.2.1.1
  refine rx ?_
  ((with_reducible apply s_storeB);exact rfl;(conv=>lhs;whnf);exact rfl;exact hb1;exact rfl)
  intro w7 hb2 hf7 hs7
  have hP7:=PS.inc hb1 hT1 hne hb2 hf7
  have hF7:=hF6.trans hf7 (fun x hx=>.inl Yie)
  have hbz:=hbz.tr hf7 Yhe
  have hL3:=hL3.keep hf7 (one_in hpX)
  refine rx ?_
  refine s_cE (cTok hP7 g1) ?_;rintro w8 ⟨hP8,hf8⟩;have hF8:=hF7.trans hf8 Yhc;have hs8:=hf8.size
  have hbz:=hbz.tr hf8 Yhe
  have hL3:=hL3.keep hf8 (one_in hpX)
  refine Yer ?_
  refine s_build [.string (bst t.text),zI,zT,zI,zS,zS,zS,zI] rfl ?_
  refine s_var (l:=[zT,zI,zT,zI,zS,zS,zS,zI]) (cs:=[.string (bst t.text),zI,zT,zI,zS,zS,zS,zI]) rfl rfl rfl Yhk rfl (fun v=>rfl) (fun w9 c hqc hbc hf9 hs9=>?_);have hP9:=hP8.tr0 hf9;have hF9:=hF8.trans0 hf9
  have hbz:=hbz.tr hf9 Yhe
  have hL3:=(hL3.mono (Y:=c::rg w) (in_cons Yhd)).keep hf9 Yhi
  have hcX:c∈c::rg w:=by simp
  have hpX:p∈c::rg w:=List.mem_cons_of_mem _ hpX
  have hXw:∀b,b<w.heap.size->b∈c::rg w:=fun b hb=>List.mem_cons_of_mem _ (rg_mem.2 hb)
  have hXs:∀b∈c::rg w,b<w9.heap.size:=fun b hb=>by
   rcases List.mem_cons.1 hb with rfl|hb
   .exact hbc.lt
   .have:=rg_mem.1 hb;omega
  refine rx ?_
  refine s_cE (cTake hP9 g2) ?_;rintro w10 ⟨hP10,hf10⟩;have hF10:=hF9.trans hf10 Yhc;have hs10:=hf10.size
  have hbz:=hbz.tr hf10 Yhe
  have hbc:=hbc.tr hf10 Yhe
  have hL3:=hL3.keep hf10 (one_in hpX)
  refine rx ?_
  have hz1:=hL3.2.1.lt
  have hz:=hL3.sz2 (fun b hb=>Nat.lt_of_lt_of_le (hXs b hb) Yhd)
  refine s_c1 ((exI f' Yhd).expr bd p n _ _ _ _ hP10 g3) ?_;rintro cs w11 ⟨hd,hP11,hf11⟩;have hF11:=hF10.trans hf11 Yhc;have hs11:=hf11.size
  have hbz:=hbz.tr hf11 Yhe
  have hbc:=hbc.tr hf11 Yhe
  have hL3:=hL3.keep hf11 (one_in hpX)
  obtain⟨sEa,sEb,sEc,rfl,hkEa,hkEb,hkEc⟩:=exR.1 hd
  obtain⟨aoEa,cEa,rfl,_⟩:=DR.slice (rows:=_) hkEa
  obtain⟨aoEb,cEb,rfl,_⟩:=hkEb.slice
  obtain⟨aoEc,cEc,rfl,_⟩:=hkEc.slice
  refine rx ?_
  refine s_storeSubB (cs:=[iV e.kind,.string e.name,iV e.n,.slice aoEa (e.names.map strR).length cEa,.slice aoEb (e.binds.map strsR).length cEb,.slice aoEc (e.kids.map exC).length cEc,iV e.at_]) rfl rfl hbc Yhk Yhi rfl (fun w12 hbc hf12 hs12=>?_)
  replace hbc:Blk w12 c [.string (bst t.text),iV e.kind,.string e.name,iV e.n,.slice aoEa (e.names.map strR).length cEa,.slice aoEb (e.binds.map strsR).length cEb,.slice aoEc (e.kids.map exC).length cEc,iV e.at_] 132:=hbc
  have hP12:=hP11.tr hf12 Yhj;have hF12:=hF11.trans hf12 (fun x hx=>.inr Yhg)
  have hbz:=hbz.tr hf12 Yhe
  have hL3:=hL3.keep hf12 (one_in hcX)
  have hd:=hd.old hf12 (in_rg Yhd)
  have hdr:RD w12 (rg w10) (ckC ⟨bst t.text,e⟩) [.string (bst t.text),iV e.kind,.string e.name,iV e.n,.slice aoEa (e.names.map strR).length cEa,.slice aoEb (e.binds.map strsR).length cEb,.slice aoEc (e.kids.map exC).length cEc,iV e.at_]:=.cons (.c rfl) hd
  obtain⟨ao3,k3,rfl⟩:=hL3.2.1.slice
  refine rx ?_
  ((refine u_begin 10 (fun y=>Blk y c [.string (bst t.text),iV e.kind,.string e.name,iV e.n,.slice aoEa (e.names.map strR).length cEa,.slice aoEb (e.binds.map strsR).length cEb,.slice aoEc (e.kids.map exC).length cEc,iV e.at_] 132/\Blk y z [iV 3,.string nm,iV at_,zS,zS,zI,zT,zS,zI,zT,zI,zS,zS,zS,zI,zI,zI,zT,zS,zS,zS,zI,dv,v1,.slice ao3 b.length k3,v3,zI,zT,zS,zI,zT,zI,zS,zS,zS,zI,zS,zS,zI,zT,zI,zS,zS,zS,zI] 105) Yhf rfl ?_);obtain⟨w13,hw13⟩:=exq w12.drew;rw[<-hw13];have hf13:Fr [] w12 w13:=hw13▸Fr.drew _ _;have hP13:=hP12.tr0 hf13;have hF13:=hF12.trans0 hf13;have hs13:=hf13.size)
  have hbz:=hbz.tr hf13 Yhe
  have hbc:=hbc.tr hf13 Yhe
  have hL3:=hL3.keep hf13 Yhi
  have hdr:=hdr.tr0 hf13
  ((refine u_tx 0 (And.intro hbc hbz) ?_);(refine u_tx 1 (And.intro hbc hbz) ?_);(refine u_tx 2 (And.intro hbc hbz) ?_);(refine u_tx 3 (And.intro hbc hbz) ?_);(refine u_tx 4 (And.intro hbc hbz) ?_))
  refine u_tx 5 (And.intro hbc hbz) ?_ (hrun:=Yii)
  refine u_one (i:=6) rfl Yhf ?_
  refine s_rows1 rfl rfl rfl (fun w14 k5 hk5 ho hf14 hs14=>?_)
  have hP14:=hP13.tr0 hf14;have hF14:=hF13.trans0 hf14
  have hbz:=hbz.tr hf14 Yhe
  have hbc:=hbc.tr hf14 Yhe
  have hL3:=hL3.keep hf14 Yhi
  have hdr:=hdr.tr0 hf14
  refine Yez ?_
  refine s_appL hL3.2.1 ckC_len rfl rfl ho.src hdr (fun b hb=>.inl (rg_mem.2 (hb.elim (hz1 b) (hz b)))) Yhl Yhd (hL3.sz2 (fun b hb=>Nat.lt_of_lt_of_le (hXs b hb) Yhd)) (fun v' w15 hL' hf15 hk15=>?_);have hge15:=LS.ge hL3.2.1 (w0:=w) (fun b hb=>List.mem_append_left _ (hXw b hb));have hP15:=hP14.tr hf15 (fun k hk=>Nat.le_trans hbd (hge15 k hk));have hF15:=hF14.trans hf15 (fun k hk=>.inr (hge15 k hk));have hs15:=hf15.size
  have hbz:=hbz.tr hf15 (fun h=>hL3.2.1.2 _ h (List.mem_append_left _ (hXw z hzw)))
  have hbc:=hbc.tr hf15 (fun h=>hL3.2.1.2 _ h (List.mem_append_left _ hcX))
  have hL3:=hL3.put2 hL' hf15 hk15
  have h1c:=hL'.1.one
  refine Yet ?_
  ((refine u_tx 9 (And.intro hbc hbz) ?_))
  refine Yge ?_
  ((with_reducible apply s_storeB);exact rfl;(conv=>lhs;whnf);exact h1c;exact hbz;exact rfl)
  intro w16 hbz hf16 hs16
  replace hbz:Blk w16 z [iV 3,.string nm,iV at_,zS,zS,zI,zT,zS,zI,zT,zI,zS,zS,zS,zI,zI,zI,zT,zS,zS,zS,zI,dv,v1,v',v3,zI,zT,zS,zI,zT,zI,zS,zS,zS,zI,zS,zS,zI,zT,zI,zS,zS,zS,zI] 105:=hbz
  have hP16:=hP15.tr hf16 Yhj
  have hF16:=hF15.trans hf16 (fun x hx=>.inl Yie)
  have hL3:=hL3.keep hf16 (one_in (hXw z hzw))
  refine Yeo ?_
  refine s_cE (cTake hP16 g4) ?_;rintro w17 ⟨hP17,hf17⟩;have hF17:=hF16.trans hf17 Yhc;have hs17:=hf17.size
  have hbz:=hbz.tr hf17 Yhe
  have hL3:=(hL3.keep hf17 (one_in hpX)).mono (Y:=rg w) (fun b hb=>.inl Yhy)
  refine rx ?_
  exact q_roundK (f',a,b++[⟨bst t.text,e⟩],c',r8) Yhb ⟨hP17,hF17,by omega,by(simp only[List.length_append,List.length_cons,List.length_nil]<;>omega),by(simp only[List.length_append,List.length_cons,List.length_nil]<;>omega),by(simp only[List.length_append,List.length_cons,List.length_nil]<;>omega),by simp only;omega,hit,v1,_,v3,hbz,hL3⟩ Yhm
 |false=>
  simp only[hcl,hck,hcs,Bool.false_eq_true,if_false,Option.some.injEq,Prod.mk.injEq]at hit
  obtain⟨⟨rfl,rfl,rfl⟩,rfl⟩:=hit
  refine s_cE (isC [99,104,101,99,107] p n _ _ hP2) ?_
  rintro w3 hf3
  have hP3:=hP2.tr0 hf3;have hF3:=hF2.trans0 hf3
  have hs3:=hf3.size
  have hbz:=hbz.tr hf3 Yhe
  have hL3:=hL3.keep hf3 Yhi
  rw[hck]
  refine rx ?_
  refine s_cE (isC [99,108,97,115,115] p n _ _ hP3) ?_
  rintro w4 hf4
  have hP4:=hP3.tr0 hf4;have hF4:=hF3.trans0 hf4
  have hs4:=hf4.size
  have hbz:=hbz.tr hf4 Yhe
  have hL3:=hL3.keep hf4 Yhi
  rw[hcs]
  refine rx ?_
  refine s_cE (isC [99,108,97,105,109] p n _ _ hP4) ?_
  rintro w5 hf5
  have hP5:=hP4.tr0 hf5;have hF5:=hF4.trans0 hf5
  have hs5:=hf5.size
  have hbz:=hbz.tr hf5 Yhe
  have hL3:=hL3.keep hf5 Yhi
  rw[hcl]
  refine rx ?_
  refine s_cE (cTake hP5 h3) ?_;rintro w6 ⟨hP6,hf6⟩;have hF6:=hF5.trans hf6 Yhc;have hs6:=hf6.size
  have hbz:=hbz.tr hf6 Yhe
  have hL3:=hL3.keep hf6 (one_in hpX)
  refine rx ?_
  exact end0 rfl ⟨rfl,⟨_,_,_,hbz,(hL3.1.mono (fun b hb=>.inl (List.mem_append_left _ hb))).dr ckC_len Yhd,(hL3.2.1.mono (fun b hb=>.inl (List.mem_append_left _ hb))).dr ckC_len Yhd,(hL3.2.2.mono (fun b hb=>.inl (List.mem_append_left _ hb))).dr clC_len Yhd⟩,hP6,hF6⟩
end Go.Proofs.YtggmccicdhnkgaaGreat
