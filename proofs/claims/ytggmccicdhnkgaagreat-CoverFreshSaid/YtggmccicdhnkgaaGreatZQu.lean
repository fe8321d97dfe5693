/-
 The reference's parser:parameters,draws,constructors.
-/
import Derived.Test.YtggmccicdhnkgaaGreatZQs
set_option linter.all false
namespace Go.Proofs.YtggmccicdhnkgaaGreat
open Go.Proofs.Tryz
open Go.Rf Go.RowKit
attribute [local irreducible] Code.wp wpList Exit.then Exit.inBlock bodyPost A Calls execOp Addr.add
theorem mk_end{n:Int}{f:Nat}{x:Gn}{acc l l':List Gn}{b:Bool}{r3 r1:List Tk}(hgo:(if b=true then(pMake n f r3.tail).bind fun y=>some (x::y.1,y.2) else(takeT [41] r3).bind fun r2=>some ([x],r2))=some (l',r1))(hacc:acc++l'=l):
 (b=true->∃l',pMake n f r3.tail=some (l',r1)/\(acc++[x])++l'=l)/\(b=false->acc++[x]=l/\takeT [41] r3=some r1):=by
 cases b with
 |true=>
  refine⟨fun _=>?_,fun h=>by cases h⟩
  rw[if_pos rfl]at hgo
  obtain⟨⟨l2,r4⟩,h1,h2⟩:=bind_some hgo
  simp only[Option.some.injEq,Prod.mk.injEq]at h2
  obtain⟨rfl,rfl⟩:=h2
  exact⟨l2,h1,by rw[<-hacc];simp⟩
 |false=>
  refine⟨fun h=>Yik,fun _=>?_⟩
  rw[if_neg Yhi]at hgo
  obtain⟨r4,h1,h2⟩:=bind_some hgo
  simp only[Option.some.injEq,Prod.mk.injEq]at h2
  obtain⟨rfl,rfl⟩:=h2
  exact⟨hacc,h1⟩
abbrev Wg:=Int×Gn
set_option maxHeartbeats 16000000 in
theorem pPartC(f:Nat)(hf:f<=1000000)(ihg:∀f'≤f,PC 124 [] (fun n=>pGen n f') gnC)(ihp:PC 164 [] (fun n=>pPart n f) gnC):PC 164 [] (fun n=>pPart n (f+1)) gnC:=by
 intro bd p n r w x r' hP hg
 simp only[pPart]at hg
 have ihe:=(exI f hf).expr
 refine enter func164 rfl ntmps164 rfl ?_
 refine rx ?_
 refine s_allocN (l:=[zI,zT,zS,zS,zS,zI]) rfl (fun w0 q hqq hbq hf0 hs0=>?_);have hP0:=hP.tr0 hf0;have hF0:Fr [p] w w0:=hf0.mono Yhi;have hbd:bd<=w.heap.size:=hP.le;have hpw:p<w.heap.size:=Nat.lt_of_lt_of_le hP.lt hbd
 refine rx ?_
 refine s_cE (pAt p n _ _ hP0) ?_;rintro w1 hf1;have hP1:=hP0.tr0 hf1;have hF1:=hF0.trans0 hf1;have hs1:=hf1.size
 have hbq:=hbq.tr hf1 Yhe
 refine rx ?_
 refine s_cE (pSkip [114,101,116,117,114,110] p n _ _ hP1) ?_;rintro w2 ⟨hP2,hf2⟩;have hF2:=hF1.trans hf2 Yhc;have hs2:=hf2.size
 have hbq:=hbq.tr hf2 Yhe
 cases h1:isT [114,101,116,117,114,110] r with
 |true=>
  simp only[h1,nextP,if_true]at hg hP2
  obtain⟨⟨e,r1⟩,h2,hg⟩:=bind_some hg
  simp only[Option.some.injEq,Prod.mk.injEq]at hg
  obtain⟨rfl,rfl⟩:=hg
  refine rx ?_
  refine s_c1 (ihe bd p n _ _ _ _ hP2 h2) ?_;rintro cs w3 ⟨hd,hP3,hf3⟩;have hF3:=hF2.trans hf3 Yhc;have hs3:=hf3.size
  have hbq:=hbq.tr hf3 Yhe
  have hl:cs.length=7:=by rw[hd.len,exC_len]
  refine s_rows1 rfl hl rfl (fun w4 k hk ho hf4 hs4=>?_)
  have hP4:=hP3.tr0 hf4;have hF4:=hF3.trans0 hf4
  have hbq:=hbq.tr hf4 Yhe
  have hd:=RD.keep hd hf4 Yhe
  refine rx ?_
  refine s_build [zI,zT,zS,.slice (some ⟨k,0,none⟩) 1 1,zS,iV (atT n r)] rfl ?_
  refine rx ?_
  refine s_storeAggB (cs:=[zI,zT,zS,.slice (some ⟨k,0,none⟩) 1 1,zS,iV (atT n r)]) rfl rfl hbq Yhk rfl rfl (fun u hu hfu hsu=>?_);refine rx ?_;exact retB rfl rfl hu rfl (outC (w0:=w0) hqq Yhd Yhd Yhd hP4 hF4 hfu (gnR.2 ⟨_,_,_,rfl,.nil,drOne ho (hd.down Yhd) Yiy,.nil⟩))
 |false=>
 simp only[h1,nextP,Bool.false_eq_true,if_false]at hg hP2
 refine rx ?_
 refine s_cE (pSkip [112,105,99,107] p n _ _ hP2) ?_;rintro w3 ⟨hP3,hf3⟩;have hF3:=hF2.trans hf3 Yhc;have hs3:=hf3.size
 have hbq:=hbq.tr hf3 Yhe
 cases h2:isT [112,105,99,107] r with
 |true=>
  simp only[h2,nextP,if_true]at hg hP3
  obtain⟨⟨l,r1⟩,h3,hg⟩:=bind_some hg
  simp only[Option.some.injEq,Prod.mk.injEq]at hg
  obtain⟨rfl,rfl⟩:=hg
  refine rx ?_
  refine s_call ((pBoundsC f ihe) bd p n _ _ _ _ hP3 h3) rfl ?_;rintro _ w4 ⟨_,rfl,hd,hP4,hf4⟩;obtain⟨ao1,c1,rfl,hc1⟩:=DR.slice hd;refine⟨_,rfl,?_⟩;have hF4:=hF3.trans hf4 Yhc;have hs4:=hf4.size
  have hbq:=hbq.tr hf4 Yhe
  refine rx ?_
  refine s_build [iV 1,zT,zS,.slice ao1 (l.map exC).length c1,zS,iV (atT n r)] rfl ?_
  refine rx ?_
  refine s_storeAggB (cs:=[iV 1,zT,zS,.slice ao1 (l.map exC).length c1,zS,iV (atT n r)]) rfl rfl hbq Yhk rfl rfl (fun u hu hfu hsu=>?_);refine rx ?_;exact retB rfl rfl hu rfl (outC (w0:=w0) hqq Yhd Yhd Yhd hP4 hF4 hfu (gnR.2 ⟨_,_,_,rfl,.nil,hd.down Yhd,.nil⟩))
 |false=>
 simp only[h2,nextP,Bool.false_eq_true,if_false]at hg hP3
 refine rx ?_
 refine s_cE (pSkip [108,105,115,116] p n _ _ hP3) ?_;rintro w4 ⟨hP4,hf4⟩;have hF4:=hF3.trans hf4 Yhc;have hs4:=hf4.size
 have hbq:=hbq.tr hf4 Yhe
 cases h3:isT [108,105,115,116] r with
 |true=>
  simp only[h3,nextP,if_true]at hg hP4
  obtain⟨⟨l,r1⟩,h4,hg⟩:=bind_some hg
  obtain⟨r2,h5,hg⟩:=bind_some hg
  obtain⟨⟨g1,r3⟩,h6,hg⟩:=bind_some hg
  simp only[Option.some.injEq,Prod.mk.injEq]at hg
  obtain⟨rfl,rfl⟩:=hg
  refine rx ?_
  refine s_call ((pBoundsC f ihe) bd p n _ _ _ _ hP4 h4) rfl ?_;rintro _ w5 ⟨_,rfl,hd,hP5,hf5⟩;obtain⟨ao1,c1,rfl,hc1⟩:=DR.slice hd;refine⟨_,rfl,?_⟩;have hF5:=hF4.trans hf5 Yhc;have hs5:=hf5.size
  have hbq:=hbq.tr hf5 Yhe
  refine rx ?_
  refine s_build [iV 3,zT,zS,.slice ao1 (l.map exC).length c1,zS,iV (atT n r)] rfl ?_
  refine s_var (l:=[zI,zT,zS,zS,zS,zI]) (cs:=[iV 3,zT,zS,.slice ao1 (l.map exC).length c1,zS,iV (atT n r)]) rfl rfl rfl Yhk rfl (fun v=>rfl) (fun w6 a hqa hba hf6 hs6=>?_);have hP6:=hP5.tr0 hf6;have hF6:=hF5.trans0 hf6
  have hbq:=hbq.tr hf6 Yhe
  have hd:=hd.tell (Y:=a::rg w4) (in_cons Yhd) hf6
  have hpX:p∈a::rg w4:=by simp[rg_mem];omega
  refine rx ?_
  refine s_cE (cTake hP6 h5) ?_;rintro w7 ⟨hP7,hf7⟩;have hF7:=hF6.trans hf7 Yhc;have hs7:=hf7.size
  have hbq:=hbq.tr hf7 Yhe
  have hba:=hba.tr hf7 Yhe
  have hd:=hd.old hf7 (one_in hpX)
  refine rx ?_
  refine s_c1 (ihp bd p n _ _ _ _ hP7 h6) ?_;rintro cs w8 ⟨hd2,hP8,hf8⟩;have hF8:=hF7.trans hf8 Yhc;have hs8:=hf8.size
  have hbq:=hbq.tr hf8 Yhe
  have hba:=hba.tr hf8 Yhe
  have hd:=hd.old hf8 (one_in hpX)
  have hl:cs.length=6:=by rw[hd2.len,gnC_len]
  refine s_rows1 rfl hl rfl (fun w9 k hk ho hf9 hs9=>?_)
  have hP9:=hP8.tr0 hf9;have hF9:=hF8.trans0 hf9
  have hbq:=hbq.tr hf9 Yhe
  have hba:=hba.tr hf9 Yhe
  have hd:=hd.tr0 hf9
  have hd2:=hd2.tr0 hf9
  have hk2:DR w9 (a::rg w0) (.l [gnC g1]) (.slice (some ⟨k,0,none⟩) 1 1):=drOwn ho (.one (hd2.mono (fun b hb=>.inl Yih))) (by simp[gnC_len]) Yhi Yhw
  refine rx ?_
  ((with_reducible apply s_storeB);exact rfl;(conv=>lhs;whnf);exact rfl;exact hba;exact rfl)
  intro w10 hba hf10 hs10
  replace hba:Blk w10 a [iV 3,zT,zS,.slice ao1 (l.map exC).length c1,.slice (some ⟨k,0,none⟩) 1 1,iV (atT n r)] 98:=hba
  have hP10:=hP9.tr hf10 Yhj;have hF10:=hF9.trans hf10 (fun x hx=>.inr Yhg)
  have hbq:=hbq.tr hf10 Yhe
  have hd:=hd.old hf10 (one_in Yhi)
  have hk2:=hk2.old hf10 (one_in Yhi)
  refine rx ?_
  refine s_storeAggB (cs:=[iV 3,zT,zS,.slice ao1 (l.map exC).length c1,.slice (some ⟨k,0,none⟩) 1 1,iV (atT n r)]) rfl rfl hbq Yhk rfl rfl (fun u hu hfu hsu=>?_);refine rx ?_;exact retB rfl rfl hu rfl (outC (w0:=w0) hqq Yhd Yhd Yhd hP10 hF10 hfu (gnR.2 ⟨_,_,_,rfl,.nil,hd.mono (fun b hb=>.inl Yih),hk2.mono (fun b hb=>.inl Yhy)⟩))
 |false=>
 simp only[h3,nextP,Bool.false_eq_true,if_false]at hg hP4
 refine rx ?_
 refine s_cE (pSkip [40] p n _ _ hP4) ?_;rintro w5 ⟨hP5,hf5⟩;have hF5:=hF4.trans hf5 Yhc;have hs5:=hf5.size
 have hbq:=hbq.tr hf5 Yhe
 cases h4:isT [40] r with
 |true=>
  simp only[h4,nextP,if_true]at hg hP5
  obtain⟨⟨e,r1⟩,h6,hg⟩:=bind_some hg
  obtain⟨r2,h7,hg⟩:=bind_some hg
  simp only[Option.some.injEq,Prod.mk.injEq]at hg
  obtain⟨rfl,rfl⟩:=hg
  refine rx ?_
  refine s_c1 ((ihg f (Nat.le_refl _)) bd p n _ _ _ _ hP5 h6) ?_;rintro cs w6 ⟨hd,hP6,hf6⟩;have hF6:=hF5.trans hf6 Yhc;have hs6:=hf6.size
  have hbq:=hbq.tr hf6 Yhe
  have hl:cs.length=6:=by rw[hd.len,gnC_len]
  refine s_var (l:=[zI,zT,zS,zS,zS,zI]) (cs:=cs) rfl rfl hl hd.one rfl (fun v=>rfl) (fun w7 a hqa hba hf7 hs7=>?_);have hP7:=hP6.tr0 hf7;have hF7:=hF6.trans0 hf7
  have hbq:=hbq.tr hf7 Yhe
  have hd:=RD.keep hd hf7 Yhe
  refine rx ?_
  refine s_cE (cTake hP7 h7) ?_;rintro w8 ⟨hP8,hf8⟩;have hF8:=hF7.trans hf8 Yhc;have hs8:=hf8.size
  have hbq:=hbq.tr hf8 Yhe
  have hba:=hba.tr hf8 Yhe
  have hd:=RD.keep hd hf8 Yhe
  refine rx ?_
  refine s_loadAggB rfl hba hl ?_
  refine s_storeAggB (cs:=cs) rfl rfl hbq hd.one rfl hl (fun u hu hfu hsu=>?_);refine rx ?_;exact retB rfl rfl hu hl (outC (w0:=w0) hqq Yhd Yhd Yhd hP8 hF8 hfu (hd.down Yhd))
 |false=>
 simp only[h4,nextP,Bool.false_eq_true,if_false]at hg hP5
 refine rx ?_
 refine s_build [iV 2,zT,zS,zS,zS,iV (atT n r)] rfl ?_
 refine s_var (l:=[zI,zT,zS,zS,zS,zI]) (cs:=[iV 2,zT,zS,zS,zS,iV (atT n r)]) rfl rfl rfl Yhk rfl (fun v=>rfl) (fun w6 a hqa hba hf6 hs6=>?_);have hP6:=hP5.tr0 hf6;have hF6:=hF5.trans0 hf6
 have hbq:=hbq.tr hf6 Yhe
 have hpX:p∈a::rg w0:=by simp[rg_mem];omega
 have haX:a∈a::rg w0:=by simp
 have hqX:q∈a::rg w0:=by simp[rg_mem];omega
 have hXw:∀b,b<w.heap.size->b∈a::rg w0:=fun b hb=>by simp[rg_mem];omega
 have haq:q<w0.heap.size:=by omega
 have hsz0:∀b∈a::rg w0,b<w6.heap.size:=fun b hb=>by
  rcases List.mem_cons.1 hb with rfl|hb
  .exact hba.lt
  .have:=rg_mem.1 hb;omega
 refine rx ?_
 refine s_cE (pSkip [111,110,101] p n _ _ hP6) ?_;rintro w7 ⟨hP7,hf7⟩;have hF7:=hF6.trans hf7 Yhc;have hs7:=hf7.size
 have hbq:=hbq.tr hf7 Yhe
 have hba:=hba.tr hf7 Yhe
 cases h5:isT [111,110,101] r with
 |true=>
  simp only[h5,nextP,if_true]at hg hP7
  obtain⟨r1,h6,hg⟩:=bind_some hg
  obtain⟨⟨l,r2⟩,h7,hg⟩:=bind_some hg
  obtain⟨r3,h8,hg⟩:=bind_some hg
  simp only[Option.some.injEq,Prod.mk.injEq]at hg
  obtain⟨rfl,rfl⟩:=hg
  refine rx ?_
  refine s_cE (cTake hP7 h6) ?_;rintro w8 ⟨hP8,hf8⟩;have hF8:=hF7.trans hf8 Yhc;have hs8:=hf8.size
  have hbq:=hbq.tr hf8 Yhe
  have hba:=hba.tr hf8 Yhe
  refine rx ?_
  refine c_loopK 9 [7] (σ:=Nat×List Wg×List Tk×Bool) (fun s g u=>g 7=.bool s.2.2.2/\s.1<=f/\PS bd u p n s.2.2.1/\Fr [p] w u/\w8.heap.size<=u.heap.size/\s.2.1.length+s.1<=1000000/\(s.2.2.2=true->∃l',pOne n s.1 s.2.2.1=some (l',r2)/\s.2.1++l'=l)/\(s.2.2.2=false->s.2.1=l/\s.2.2.1=r2)/\Blk u q [zI,zT,zS,zS,zS,zI] 98/\∃v1 v2,Blk u a [iV 2,zT,v1,zS,v2,iV (atT n r)] 98/\L3 (a::rg w0) u 3 98 3 1 6 1 (fun y:Wg=>intR y.1) (fun y:Wg=>gnC y.2) (fun _:Unit=>intR 0) s.2.1 s.2.1 [] v1 v2 (zS)) (fun s=>2*s.1+s.2.2.2.toNat) (f,[],r1,true) ⟨rfl,Nat.le_refl _,hP8,hF8,Nat.le_refl _,by simpa using hf,fun _=>⟨l,h7,rfl⟩,fun h=>Yik,hbq,_,_,hba,LS.nil,LS.nil,LS.nil⟩ ?_
  clear hP hP0 hP1 hP2 hP3 hP4 hP5 hP6 hP7 hP8 hF0 hF1 hF2 hF3 hF4 hF5 hF6 hF7 hF8 hba hbq
  rintro⟨f',acc,r5,b⟩ g w9 ⟨h9,hff,hP9,hF9,hs9,hlen,ht,hfl,hbq,v1,v2,hba,hL3⟩
  simp only at hff hP9 hF9 hlen ht hfl hL3
  rw[eq_upd h9]
  obtain⟨S0,T0,ao0,c0,i0,hb0,_⟩:=id hP9
  have hsz:∀b∈a::rg w0,b<w9.heap.size:=fun b hb=>Nat.lt_of_lt_of_le (hsz0 b hb) Yhd
  cases b with
  |false=>
   obtain⟨rfl,rfl⟩:=hfl rfl
   obtain⟨ao1,c1,rfl⟩:=hL3.1.slice
   obtain⟨ao2,c2,rfl⟩:=hL3.2.1.slice
   refine rx ?_
   refine s_cE (cTake hP9 h8) ?_;rintro w10 ⟨hP10,hf10⟩;have hF10:=hF9.trans hf10 Yhc;have hs10:=hf10.size
   have hbq:=hbq.tr hf10 Yhe
   have hba:=hba.tr hf10 Yhe
   have hL3:=hL3.keep hf10 (one_in hpX)
   refine rx ?_
   have hd:RD w10 (rg w0) (gnC ⟨2,bst [],acc.map fun y=>y.1,[],acc.map fun y=>y.2,atT n r⟩) _:=gnR.2 ⟨_,_,_,rfl,by
    have:=(hL3.1.dr (k:=1) (fun _=>rfl) Yhd).mono (T:=rg w0) (fun b hb=>.inl Yhy)
    simpa[Function.comp_def]using this,.nil,by
    have:=(hL3.2.1.dr (k:=6) (fun _=>gnC_len _) Yhd).mono (T:=rg w0) (fun b hb=>.inl Yhy)
    simpa[Function.comp_def]using this⟩
   simp only[gnV]at hd
   refine s_storeAggB (cs:=[iV 2,zT,.slice ao1 acc.length c1,zS,.slice ao2 acc.length c2,iV (atT n r)]) rfl rfl hbq Yhk rfl rfl (fun u hu hfu hsu=>?_);refine rx ?_;exact retB rfl rfl hu rfl (outC (w0:=w0) hqq Yhd Yhd Yhd hP10 hF10 hfu hd)
  |true=>
  obtain⟨l',hgo,hacc⟩:=ht rfl
  cases f' with
  |zero=>simp[pOne]at hgo
  |succ f'=>
  simp only[pOne]at hgo
  obtain⟨⟨t,r6⟩,h10,hgo⟩:=bind_some hgo
  obtain⟨r7,h11,hgo⟩:=bind_some hgo
  obtain⟨⟨e,r8⟩,h12,hgo⟩:=bind_some hgo
  obtain⟨ao1,c1,rfl⟩:=hL3.1.slice
  refine rx ?_
  ((refine u_begin 8 (fun z=>True/\Blk z a [iV 2,zT,.slice ao1 acc.length c1,zS,v2,iV (atT n r)] 98) Yhf rfl ?_);obtain⟨w10,hw10⟩:=exq w9.drew;rw[<-hw10];have hf10:Fr [] w9 w10:=hw10▸Fr.drew _ _;have hP10:=hP9.tr0 hf10;have hF10:=hF9.trans0 hf10;have hs10:=hf10.size)
  have hbq:=hbq.tr hf10 Yhe
  have hba:=hba.tr hf10 Yhe
  have hL3:=hL3.keep hf10 Yhi
  ((refine u_tx 0 (And.intro trivial hba) ?_);(refine u_tx 1 (And.intro trivial hba) ?_);(refine u_tx 2 (And.intro trivial hba) ?_))
  refine Ygg ?_
  refine s_cE (cTok hP10 h10) ?_;rintro w11 ⟨hP11,hf11⟩;have hF11:=hF10.trans hf11 Yhc;have hs11:=hf11.size
  have hbq:=hbq.tr hf11 Yhe
  have hba:=hba.tr hf11 Yhe
  have hL3:=hL3.keep hf11 (one_in hpX)
  refine Ygh ?_
  refine u_tx 4 (And.intro trivial hba) ?_ (hrun:=(by intro u hu;exact(r_fieldV (l:=tkC t) rfl rfl)))
  refine Ygb ?_
  refine s_build1 rfl rfl (fun w12 ho hf12 hs12=>?_)
  have hP12:=hP11.tr0 hf12;have hF12:=hF11.trans0 hf12
  have hbq:=hbq.tr hf12 Yhe
  have hba:=hba.tr hf12 Yhe
  have hL3:=hL3.keep hf12 Yhi
  refine Yfk ?_
  refine s_appL hL3.1 (fun _=>rfl) rfl rfl ho.src (a:=(t.n,e)) (.cons (.c rfl) .nil) (fun b hb=>.inl (List.mem_append.2 hb)) Yhl Yhd (hL3.sz1 (fun b hb=>Nat.lt_of_lt_of_le (hsz b hb) Yhd)) (fun v' w13 hL' hf13 hk13=>?_);have hge13:=LS.ge hL3.1 (w0:=w) (fun b hb=>List.mem_append_left _ (hXw b hb));have hP13:=hP12.tr hf13 (fun k hk=>Nat.le_trans hbd (hge13 k hk));have hF13:=hF12.trans hf13 (fun k hk=>.inr (hge13 k hk));have hs13:=hf13.size
  have hba:=hba.tr hf13 (fun h=>hL3.1.2 _ h (List.mem_append_left _ haX))
  have hbq:=hbq.tr hf13 (fun h=>hL3.1.2 _ h (List.mem_append_left _ hqX))
  have hL3:=hL3.put1 hL' hf13 hk13
  have h1c:=hL'.1.one
  refine Ygh ?_
  ((refine u_tx 7 (And.intro trivial hba) ?_))
  refine Ygd ?_
  ((with_reducible apply s_storeB);exact rfl;(conv=>lhs;whnf);exact h1c;exact hba;exact rfl)
  intro w14 hba hf14 hs14
  replace hba:Blk w14 a [iV 2,zT,v',zS,v2,iV (atT n r)] 98:=hba
  have hP14:=hP13.tr hf14 Yhj;have hF14:=hF13.trans hf14 (fun x hx=>.inr Yhg)
  have hbq:=hbq.tr hf14 Yhe
  have hL3:=hL3.keep hf14 (one_in haX)
  refine Yeo ?_
  clear h1c
  obtain⟨v1,hv1⟩:=exq v'
  rw[<-hv1]at hba hL3
  clear hL' hv1
  refine s_cE (cTake hP14 h11) ?_;rintro w15 ⟨hP15,hf15⟩;have hF15:=hF14.trans hf15 Yhc;have hs15:=hf15.size
  have hbq:=hbq.tr hf15 Yhe
  have hba:=hba.tr hf15 Yhe
  have hL3:=hL3.keep hf15 (one_in hpX)
  refine rx ?_
  obtain⟨ao2,c2,rfl⟩:=hL3.2.1.slice
  ((refine u_begin 7 (fun z=>True/\Blk z a [iV 2,zT,v1,zS,.slice ao2 acc.length c2,iV (atT n r)] 98) Yhf rfl ?_);obtain⟨w16,hw16⟩:=exq w15.drew;rw[<-hw16];have hf16:Fr [] w15 w16:=hw16▸Fr.drew _ _;have hP16:=hP15.tr0 hf16;have hF16:=hF15.trans0 hf16;have hs16:=hf16.size)
  have hbq:=hbq.tr hf16 Yhe
  have hba:=hba.tr hf16 Yhe
  have hL3:=hL3.keep hf16 Yhi
  ((refine u_tx 0 (And.intro trivial hba) ?_);(refine u_tx 1 (And.intro trivial hba) ?_);(refine u_tx 2 (And.intro trivial hba) ?_))
  refine Ygg ?_
  have hz:=hL3.sz2 (fun b hb=>Nat.lt_of_lt_of_le (hsz b hb) Yhd)
  have hz1:=hL3.2.1.lt
  refine s_c1 ((ihg f' Yhd) bd p n _ _ _ _ hP16 h12) ?_;rintro cs w17 ⟨hd,hP17,hf17⟩;have hF17:=hF16.trans hf17 Yhc;have hs17:=hf17.size
  have hl:cs.length=6:=by rw[hd.len,gnC_len]
  have hbq:=hbq.tr hf17 Yhe
  have hba:=hba.tr hf17 Yhe
  have hL3:=hL3.keep hf17 (one_in hpX)
  refine Yev ?_
  refine s_rows1 rfl hl rfl (fun w18 k5 hk5 ho hf18 hs18=>?_)
  have hP18:=hP17.tr0 hf18;have hF18:=hF17.trans0 hf18
  have hbq:=hbq.tr hf18 Yhe
  have hba:=hba.tr hf18 Yhe
  have hL3:=hL3.keep hf18 Yhi
  have hd:=hd.tr0 hf18
  refine Yex ?_
  refine s_appL hL3.2.1 (fun _=>gnC_len _) rfl rfl ho.src (a:=(t.n,e)) hd (fun b hb=>.inl (rg_mem.2 (hb.elim (hz1 b) (hz b)))) Yhl Yhd (hL3.sz2 (fun b hb=>Nat.lt_of_lt_of_le (hsz b hb) Yhd)) (fun v' w19 hL' hf19 hk19=>?_);have hge19:=LS.ge hL3.2.1 (w0:=w) (fun b hb=>List.mem_append_left _ (hXw b hb));have hP19:=hP18.tr hf19 (fun k hk=>Nat.le_trans hbd (hge19 k hk));have hF19:=hF18.trans hf19 (fun k hk=>.inr (hge19 k hk));have hs19:=hf19.size
  have hba:=hba.tr hf19 (fun h=>hL3.2.1.2 _ h (List.mem_append_left _ haX))
  have hbq:=hbq.tr hf19 (fun h=>hL3.2.1.2 _ h (List.mem_append_left _ hqX))
  have hL3:=hL3.put2 hL' hf19 hk19
  have h1c:=hL'.1.one
  refine Ygh ?_
  ((refine u_tx 6 (And.intro trivial hba) ?_))
  refine Ygc ?_
  ((with_reducible apply s_storeB);exact rfl;(conv=>lhs;whnf);exact h1c;exact hba;exact rfl)
  intro w20 hba hf20 hs20
  replace hba:Blk w20 a [iV 2,zT,v1,zS,v',iV (atT n r)] 98:=hba
  have hP20:=hP19.tr hf20 Yhj;have hF20:=hF19.trans hf20 (fun x hx=>.inr Yhg)
  have hbq:=hbq.tr hf20 Yhe
  have hL3:=hL3.keep hf20 (one_in haX)
  refine Yeo ?_
  clear h1c
  obtain⟨v2,hv2⟩:=exq v'
  rw[<-hv2]at hba hL3
  clear hL' hv2
  refine s_cE (pSkip [59] p n _ _ hP20) ?_;rintro w21 ⟨hP21,hf21⟩;have hF21:=hF20.trans hf21 Yhc;have hs21:=hf21.size
  have hbq:=hbq.tr hf21 Yhe
  have hba:=hba.tr hf21 Yhe
  have hL3:=hL3.keep hf21 (one_in hpX)
  refine rx ?_
  obtain⟨z1,z2⟩:=li_end (go:=pOne n) hgo hacc
  exact q_roundK (f',acc++[(t.n,e)],nextP (isT [59] r8) r8,isT [59] r8) Yhh ⟨rfl,by simp only;omega,hP21,hF21,by omega,by simp only[List.length_append,List.length_cons,List.length_nil];omega,z1,z2,hbq,_,_,hba,hL3⟩ (by cases isT [59] r8<;>simp<;>omega)
 |false=>
 simp only[h5,nextP,Bool.false_eq_true,if_false]at hg hP7
 refine rx ?_
 refine s_cE (pSkip [109,97,107,101] p n _ _ hP7) ?_;rintro w8 ⟨hP8,hf8⟩;have hF8:=hF7.trans hf8 Yhc;have hs8:=hf8.size
 have hbq:=hbq.tr hf8 Yhe
 have hba:=hba.tr hf8 Yhe
 cases h6:isT [109,97,107,101] r with
 |true=>
  simp only[h6,nextP,if_true]at hg hP8
  obtain⟨⟨t,r1⟩,h7,hg⟩:=bind_some hg
  obtain⟨r2,h8,hg⟩:=bind_some hg
  simp only at hg
  refine rx ?_
  ((with_reducible apply s_storeB);exact rfl;(conv=>lhs;whnf);exact rfl;exact hba;exact rfl)
  intro w9 hba hf9 hs9
  replace hba:Blk w9 a [iV 4,zT,zS,zS,zS,iV (atT n r)] 98:=hba
  have hP9:=hP8.tr hf9 Yhj;have hF9:=hF8.trans hf9 (fun x hx=>.inr Yhg)
  have hbq:=hbq.tr hf9 Yhe
  refine rx ?_
  refine s_cE (cTok hP9 h7) ?_;rintro w10 ⟨hP10,hf10⟩;have hF10:=hF9.trans hf10 Yhc;have hs10:=hf10.size
  have hbq:=hbq.tr hf10 Yhe
  have hba:=hba.tr hf10 Yhe
  refine Yer ?_
  ((with_reducible apply s_storeB);exact rfl;(conv=>lhs;whnf);exact rfl;exact hba;exact rfl)
  intro w11 hba hf11 hs11
  replace hba:Blk w11 a [iV 4,.string (bst t.text),zS,zS,zS,iV (atT n r)] 98:=hba
  have hP11:=hP10.tr hf11 Yhj;have hF11:=hF10.trans hf11 (fun x hx=>.inr Yhg)
  have hbq:=hbq.tr hf11 Yhe
  refine rx ?_
  refine s_cE (cTake hP11 h8) ?_;rintro w12 ⟨hP12,hf12⟩;have hF12:=hF11.trans hf12 Yhc;have hs12:=hf12.size
  have hbq:=hbq.tr hf12 Yhe
  have hba:=hba.tr hf12 Yhe
  refine rx ?_
  refine s_cE (pSkip [41] p n _ _ hP12) ?_;rintro w13 ⟨hP13,hf13⟩;have hF13:=hF12.trans hf13 Yhc;have hs13:=hf13.size
  have hbq:=hbq.tr hf13 Yhe
  have hba:=hba.tr hf13 Yhe
  have hmk:∃l,x=⟨4,bst t.text,[],[],l,atT n r⟩/\(isT [41] r2=true->l=[]/\r'=r2.tail)/\(isT [41] r2=false->pMake n f r2=some (l,r')):=by
   cases h9:isT [41] r2 with
   |true=>
    simp only[h9,if_true,Option.some.injEq,Prod.mk.injEq]at hg
    exact⟨[],hg.1.symm,fun _=>⟨rfl,hg.2.symm⟩,fun h=>by cases h⟩
   |false=>
    simp only[h9,Bool.false_eq_true,if_false]at hg
    obtain⟨⟨l,r3⟩,h10,hg⟩:=bind_some hg
    simp only[Option.some.injEq,Prod.mk.injEq]at hg
    obtain⟨rfl,rfl⟩:=hg
    exact⟨l,rfl,fun h=>Yik,fun _=>h10⟩
  obtain⟨l,rfl,hm1,hm2⟩:=hmk
  clear hg
  refine rx ?_
  refine c_loopK 9 [8] (σ:=Nat×List Gn×List Tk×Bool) (fun s g u=>g 8=.bool s.2.2.2/\s.1<=f/\PS bd u p n s.2.2.1/\Fr [p] w u/\w13.heap.size<=u.heap.size/\s.2.1.length+s.1<=1000000/\(s.2.2.2=true->∃l',pMake n s.1 s.2.2.1=some (l',r')/\s.2.1++l'=l)/\(s.2.2.2=false->s.2.1=l/\s.2.2.1=r')/\Blk u q [zI,zT,zS,zS,zS,zI] 98/\∃v,Blk u a [iV 4,.string (bst t.text),zS,zS,v,iV (atT n r)] 98/\LS (a::rg w0) u 98 6 gnC s.2.1 v) (fun s=>2*s.1+s.2.2.2.toNat) (f,[],nextP (isT [41] r2) r2,!(isT [41] r2)) ⟨by cases isT [41] r2<;>rfl,Nat.le_refl _,hP13,hF13,Nat.le_refl _,by simpa using hf,fun h=>(by
   have h9:isT [41] r2=false:=by simpa using h
   simp only[h9,nextP,Bool.false_eq_true,if_false]
   exact⟨l,hm2 h9,rfl⟩),fun h=>(by
   have h9:isT [41] r2=true:=by simpa using h
   simp only[h9,nextP,if_true]
   exact⟨(hm1 h9).1.symm,(hm1 h9).2.symm⟩),hbq,_,hba,LS.nil⟩ ?_
  clear hP hP0 hP1 hP2 hP3 hP4 hP5 hP6 hP7 hP8 hF0 hF1 hF2 hF3 hF4 hF5 hF6 hF7 hF8 hP9 hP10 hP11 hP12 hP13 hF9 hF10 hF11 hF12 hF13 hba hbq
  rintro⟨f',acc,r5,b⟩ g w14 ⟨h9,hff,hP14,hF14,hs14,hlen,ht,hfl,hbq,v,hba,hL3⟩
  simp only at hff hP14 hF14 hlen ht hfl hL3
  rw[eq_upd h9]
  obtain⟨S0,T0,ao0,c0,i0,hb0,_⟩:=id hP14
  have hsz:∀b∈a::rg w0,b<w14.heap.size:=fun b hb=>Nat.lt_of_lt_of_le (hsz0 b hb) Yhd
  obtain⟨ao1,c1,rfl⟩:=hL3.slice
  cases b with
  |false=>
   obtain⟨rfl,rfl⟩:=hfl rfl
   refine rx ?_
   have hd:RD w14 (rg w0) (gnC ⟨4,bst t.text,[],[],acc,atT n r⟩) _:=gnR.2 ⟨_,_,_,rfl,.nil,.nil,(hL3.dr (k:=6) (fun _=>gnC_len _) Yhd).mono (T:=rg w0) (fun b hb=>.inl Yhy)⟩
   simp only[gnV]at hd
   refine s_storeAggB (cs:=[iV 4,.string (bst t.text),zS,zS,.slice ao1 acc.length c1,iV (atT n r)]) rfl rfl hbq Yhk rfl rfl (fun u hu hfu hsu=>?_);refine rx ?_;exact retB rfl rfl hu rfl (outC (w0:=w0) hqq Yhd Yhd Yhd hP14 hF14 hfu hd)
  |true=>
  obtain⟨l',hgo,hacc⟩:=ht rfl
  cases f' with
  |zero=>simp[pMake]at hgo
  |succ f'=>
  simp only[pMake]at hgo
  obtain⟨⟨e,r8⟩,h12,hgo⟩:=bind_some hgo
  refine rx ?_
  ((refine u_begin 7 (fun z=>True/\Blk z a [iV 4,.string (bst t.text),zS,zS,.slice ao1 acc.length c1,iV (atT n r)] 98) Yhf rfl ?_);obtain⟨w15,hw15⟩:=exq w14.drew;rw[<-hw15];have hf15:Fr [] w14 w15:=hw15▸Fr.drew _ _;have hP15:=hP14.tr0 hf15;have hF15:=hF14.trans0 hf15;have hs15:=hf15.size)
  have hbq:=hbq.tr hf15 Yhe
  have hba:=hba.tr hf15 Yhe
  have hL3:=hL3.keep hf15 Yhi
  ((refine u_tx 0 (And.intro trivial hba) ?_);(refine u_tx 1 (And.intro trivial hba) ?_);(refine u_tx 2 (And.intro trivial hba) ?_))
  refine Ygg ?_
  have hz:=(fun(b:Nat) (hb:b∈a::rg w0)=>Nat.lt_of_lt_of_le (hsz b hb) (show w14.heap.size<=w15.heap.size by omega))
  have hz1:=hL3.lt
  refine s_c1 ((ihg f' Yhd) bd p n _ _ _ _ hP15 h12) ?_;rintro cs w16 ⟨hd,hP16,hf16⟩;have hF16:=hF15.trans hf16 Yhc;have hs16:=hf16.size
  have hl:cs.length=6:=by rw[hd.len,gnC_len]
  have hbq:=hbq.tr hf16 Yhe
  have hba:=hba.tr hf16 Yhe
  have hL3:=hL3.keep hf16 (one_in hpX)
  refine Yev ?_
  refine s_rows1 rfl hl rfl (fun w17 k5 hk5 ho hf17 hs17=>?_)
  have hP17:=hP16.tr0 hf17;have hF17:=hF16.trans0 hf17
  have hbq:=hbq.tr hf17 Yhe
  have hba:=hba.tr hf17 Yhe
  have hL3:=hL3.keep hf17 Yhi
  have hd:=hd.tr0 hf17
  refine Yex ?_
  refine s_appL hL3 gnC_len rfl rfl ho.src (a:=e) hd (fun b hb=>.inl (rg_mem.2 (hb.elim (hz1 b) (hz b)))) Yhl Yhd (fun b hb=>Nat.lt_of_lt_of_le (hsz b hb) Yhd) (fun v' w18 hL' hf18 hk18=>?_);have hge18:=LS.ge hL3 (w0:=w) hXw;have hP18:=hP17.tr hf18 (fun k hk=>Nat.le_trans hbd (hge18 k hk));have hF18:=hF17.trans hf18 (fun k hk=>.inr (hge18 k hk));have hs18:=hf18.size
  have hba:=hba.tr hf18 (fun h=>hL3.2 _ h haX)
  have hbq:=hbq.tr hf18 (fun h=>hL3.2 _ h hqX)
  have hL3:=hL'
  have h1c:=hL'.1.one
  refine Ygh ?_
  ((refine u_tx 6 (And.intro trivial hba) ?_))
  refine Ygc ?_
  ((with_reducible apply s_storeB);exact rfl;(conv=>lhs;whnf);exact h1c;exact hba;exact rfl)
  intro w19 hba hf19 hs19
  replace hba:Blk w19 a [iV 4,.string (bst t.text),zS,zS,v',iV (atT n r)] 98:=hba
  have hP19:=hP18.tr hf19 Yhj;have hF19:=hF18.trans hf19 (fun x hx=>.inr Yhg)
  have hbq:=hbq.tr hf19 Yhe
  have hL3:=hL3.keep hf19 (one_in haX)
  refine Yeo ?_
  refine s_cE (pSkip [44] p n _ _ hP19) ?_;rintro w20 ⟨hP20,hf20⟩;have hF20:=hF19.trans hf20 Yhc;have hs20:=hf20.size
  have hbq:=hbq.tr hf20 Yhe
  have hba:=hba.tr hf20 Yhe
  have hL3:=hL3.keep hf20 (one_in hpX)
  obtain⟨z1,z2⟩:=mk_end hgo hacc
  cases h13:isT [44] r8 with
  |true=>
   simp only[h13,nextP,if_true]at hP20
   refine rx ?_
   exact q_roundK (f',acc++[e],r8.tail,true) Yhh ⟨rfl,by simp only;omega,hP20,hF20,by omega,by simp only[List.length_append,List.length_cons,List.length_nil];omega,fun _=>z1 h13,fun h=>Yik,hbq,_,hba,hL3⟩ Yhe
  |false=>
   simp only[h13,nextP,Bool.false_eq_true,if_false]at hP20
   obtain⟨z3,z4⟩:=z2 h13
   refine rx ?_
   refine s_cE (cTake hP20 z4) ?_;rintro w21 ⟨hP21,hf21⟩;have hF21:=hF20.trans hf21 Yhc;have hs21:=hf21.size
   have hbq:=hbq.tr hf21 Yhe
   have hba:=hba.tr hf21 Yhe
   have hL3:=hL3.keep hf21 (one_in hpX)
   refine rx ?_
   exact q_roundK (f',acc++[e],r',false) Yhh ⟨rfl,by simp only;omega,hP21,hF21,by omega,by simp only[List.length_append,List.length_cons,List.length_nil];omega,fun h=>Yik,fun _=>⟨z3,rfl⟩,hbq,_,hba,hL3⟩ Yhe
 |false=>
 simp only[h6,nextP,Bool.false_eq_true,if_false]at hg hP8
 obtain⟨⟨t,r1⟩,h7,hg⟩:=bind_some hg
 obtain⟨r2,h8,hg⟩:=bind_some hg
 obtain⟨⟨l,r3⟩,h9,hg⟩:=bind_some hg
 simp only[Option.some.injEq,Prod.mk.injEq]at hg
 obtain⟨rfl,rfl⟩:=hg
 refine rx ?_
 ((with_reducible apply s_storeB);exact rfl;(conv=>lhs;whnf);exact rfl;exact hba;exact rfl)
 intro w9 hba hf9 hs9
 replace hba:Blk w9 a [iV 7,zT,zS,zS,zS,iV (atT n r)] 98:=hba
 have hP9:=hP8.tr hf9 Yhj;have hF9:=hF8.trans hf9 (fun x hx=>.inr Yhg)
 have hbq:=hbq.tr hf9 Yhe
 refine rx ?_
 refine s_cE (cTok hP9 h7) ?_;rintro w10 ⟨hP10,hf10⟩;have hF10:=hF9.trans hf10 Yhc;have hs10:=hf10.size
 have hbq:=hbq.tr hf10 Yhe
 have hba:=hba.tr hf10 Yhe
 refine Yer ?_
 ((with_reducible apply s_storeB);exact rfl;(conv=>lhs;whnf);exact rfl;exact hba;exact rfl)
 intro w11 hba hf11 hs11
 replace hba:Blk w11 a [iV 7,.string (bst t.text),zS,zS,zS,iV (atT n r)] 98:=hba
 have hP11:=hP10.tr hf11 Yhj;have hF11:=hF10.trans hf11 (fun x hx=>.inr Yhg)
 have hbq:=hbq.tr hf11 Yhe
 refine rx ?_
 refine s_cE (cTake hP11 h8) ?_;rintro w12 ⟨hP12,hf12⟩;have hF12:=hF11.trans hf12 Yhc;have hs12:=hf12.size
 have hbq:=hbq.tr hf12 Yhe
 have hba:=hba.tr hf12 Yhe
 refine rx ?_
 refine s_call (((exI f hf).exprs [41]) bd p n _ _ _ _ hP12 h9) rfl ?_;rintro _ w13 ⟨_,rfl,hd,hP13,hf13⟩;obtain⟨ao1,c1,rfl,hc1⟩:=DR.slice hd;refine⟨_,rfl,?_⟩;have hF13:=hF12.trans hf13 Yhc;have hs13:=hf13.size
 have hbq:=hbq.tr hf13 Yhe
 have hba:=hba.tr hf13 Yhe
 refine rx ?_
 ((with_reducible apply s_storeB);exact rfl;(conv=>lhs;whnf);exact rfl;exact hba;exact rfl)
 intro w14 hba hf14 hs14
 replace hba:Blk w14 a [iV 7,.string (bst t.text),zS,.slice ao1 (l.map exC).length c1,zS,iV (atT n r)] 98:=hba
 have hP14:=hP13.tr hf14 Yhj;have hF14:=hF13.trans hf14 (fun x hx=>.inr Yhg)
 have hbq:=hbq.tr hf14 Yhe
 have hd:=hd.old hf14 (in_rg Yhd)
 refine rx ?_
 refine s_storeAggB (cs:=[iV 7,.string (bst t.text),zS,.slice ao1 (l.map exC).length c1,zS,iV (atT n r)]) rfl rfl hbq Yhk rfl rfl (fun u hu hfu hsu=>?_);refine rx ?_;exact retB rfl rfl hu rfl (outC (w0:=w0) hqq Yhd Yhd Yhd hP14 hF14 hfu (gnR.2 ⟨_,_,_,rfl,.nil,hd.down Yhd,.nil⟩))
end Go.Proofs.YtggmccicdhnkgaaGreat
namespace Go.Proofs.YtggmccicdhnkgaaGreat
open Go.Proofs.Tryz
open Go.Rf Go.RowKit
attribute [local irreducible] Code.wp wpList Exit.then Exit.inBlock bodyPost A Calls execOp Addr.add
theorem genI:∀f,f<=1000000->PC 124 [] (fun n=>pGen n f) gnC/\PC 164 [] (fun n=>pPart n f) gnC:=by
 intro f
 induction f using Nat.strongRecOn with
 |_ f ih=>
  intro hf
  cases f with
  |zero=>exact⟨fun bd p n r w x r' hP hg=>by simp[pGen]at hg,fun bd p n r w x r' hP hg=>by simp[pPart]at hg⟩
  |succ f=>
   have h:=ih f Yhd Yhd
   exact⟨pGenC f Yhd h.1 h.2,pPartC f Yhd (fun f' h'=>(ih f' Yhd Yhd).1) h.2⟩
set_option maxHeartbeats 8000000 in
theorem pParamsC(f:Nat)(hf:f<=1000000):PL 122 [] (fun _=>pParams f) (fun l=>l.map pmC):=by
 intro bd p n r w x r' hP0 hg
 have hbd:bd<=w.heap.size:=hP0.le
 have hpw:p<w.heap.size:=Nat.lt_of_lt_of_le hP0.lt hbd
 have hF0:Fr [p] w w:=Fr.refl _ _
 refine enter func122 rfl ntmps122 rfl ?_
 refine rx ?_
 simp only[pParams]at hg
 obtain⟨r0,h0,hg⟩:=bind_some hg
 refine s_cE (cTake hP0 h0) ?_;rintro w1 ⟨hP1,hf1⟩;have hF1:=hF0.trans hf1 Yhc;have hs1:=hf1.size
 refine rx ?_
 refine s_cE (pSkip [41] p n _ _ hP1) ?_;rintro w2 ⟨hP2,hf2⟩;have hF2:=hF1.trans hf2 Yhc;have hs2:=hf2.size
 cases h1:isT [41] r0 with
 |true=>
  simp only[h1,nextP,if_true]at hg hP2
  simp only[Option.some.injEq,Prod.mk.injEq]at hg
  obtain⟨rfl,rfl⟩:=hg
  refine Yei ?_
  exact⟨_,rfl,.nil,hP2,hF2⟩
 |false=>
 simp only[h1,nextP,Bool.false_eq_true,if_false]at hg hP2
 obtain⟨⟨l,r1⟩,h2,hg⟩:=bind_some hg
 obtain⟨r2,h3,hg⟩:=bind_some hg
 simp only[Option.some.injEq,Prod.mk.injEq]at hg
 obtain⟨rfl,rfl⟩:=hg
 refine rx ?_
 refine c_loopK 5 [3,4] (σ:=Nat×List Pm×List Tk×Bool) (fun s g u=>∃v,g 3=v/\g 4=.bool s.2.2.2/\s.1<=f/\LI bd p n w (rg w) 223 4 pmC (pPmGo) l r1 s.1 s.2.1 s.2.2.1 s.2.2.2 u v) (fun s=>2*s.1+s.2.2.2.toNat) (f,[],r0,true) ⟨_,rfl,rfl,Nat.le_refl _,hP2,hF2,.nil,by simp only[List.length_nil];omega,fun _=>⟨l,h2,rfl⟩,fun h=>by cases h⟩ ?_
 rintro⟨f',acc,r,b⟩ g w3 ⟨v,h4,h5,hff,hP3,hF3,hL,hlen,ht,hfl⟩
 simp only at hff hP3 hF3 hL hlen ht hfl
 rw[eq_upd h4,eq_upd h5]
 have hs3:=hF3.size
 obtain⟨S0,T0,ao0,c0,i0,hb0,_⟩:=id hP3
 cases b with
 |false=>
  obtain⟨rfl,rfl⟩:=hfl rfl
  refine rx ?_
  refine s_cE (cTake hP3 h3) ?_;rintro w4 ⟨hP4,hf4⟩;have hF4:=hF3.trans hf4 Yhc;have hs4:=hf4.size
  have hL:=LS.keep hL hf4 Yhx
  refine Yei ?_
  have hd:=LS.dr hL (k:=4) pmC_len Yhd
  exact⟨_,rfl,hd,hP4,hF4⟩
 |true=>
 obtain⟨l',hgo,hacc⟩:=ht rfl
 cases f' with
 |zero=>simp[pPmGo]at hgo
 |succ f'=>
 simp only[pPmGo]at hgo
 obtain⟨⟨t,r3⟩,h6,hgo⟩:=bind_some hgo
 obtain⟨r4,h7,hgo⟩:=bind_some hgo
 obtain⟨⟨ty,r5⟩,h8,hgo⟩:=bind_some hgo
 have hlt:=hL.lt
 refine rx ?_
 refine s_cE (cTok hP3 h6) ?_;rintro w4 ⟨hP4,hf4⟩;have hF4:=hF3.trans hf4 Yhc;have hs4:=hf4.size
 have hL:=LS.keep hL hf4 Yhx
 refine Yer ?_
 refine s_cE (cTake hP4 h7) ?_;rintro w5 ⟨hP5,hf5⟩;have hF5:=hF4.trans hf5 Yhc;have hs5:=hf5.size
 have hL:=LS.keep hL hf5 Yhx
 refine rx ?_
 refine s_c1 ((pTypC f') bd p n _ _ _ _ hP5 h8) ?_;rintro cs w6 ⟨hd,hP6,hf6⟩;have hF6:=hF5.trans hf6 Yhc;have hs6:=hf6.size
 have hL:=LS.keep hL hf6 Yhx
 obtain⟨s,rfl,hds⟩:=tyR.1 hd
 obtain⟨ao,c,rfl,_⟩:=hds.slice
 refine s_build [.string (bst t.text),iV ty.kind,.string ty.name,.slice ao (ty.kids.map tyC).length c] rfl ?_
 have hd:RD w6 (rg w5) (pmC ⟨bst t.text,ty⟩) [.string (bst t.text),iV ty.kind,.string ty.name,.slice ao (ty.kids.map tyC).length c]:=.cons (.c rfl) hd
 refine s_pushL hL pmC_len rfl rfl rfl hd (fun b hb=>.inl (rg_mem.2 (hb.elim (fun h=>by have:=hlt b h;omega) (fun h=>by have:=rg_mem.1 h;omega)))) rfl rfl rfl Yhl Yhd Yjg (fun v' w7 hL' hf7 hk7=>?_);have hge7:=LS.ge hL (w0:=w) Yib;have hP7:=hP6.tr hf7 (fun k hk=>Nat.le_trans hbd (hge7 k hk));have hF7:=hF6.trans hf7 (fun k hk=>.inr (hge7 k hk));have hs7:=hf7.size
 refine rx ?_
 refine s_cE (pSkip [44] p n _ _ hP7) ?_;rintro w8 ⟨hP8,hf8⟩;have hF8:=hF7.trans hf8 Yhc;have hs8:=hf8.size
 have hL':=LS.keep hL' hf8 Yhx
 refine rx ?_
 obtain⟨e1,e2⟩:=li_end (go:=pPmGo) hgo hacc
 exact q_roundK (f',acc++[⟨bst t.text,ty⟩],nextP (isT [44] r5) r5,isT [44] r5) Yhh ⟨_,rfl,rfl,by simp only;omega,hP8,hF8,hL',by simp only[List.length_append,List.length_cons,List.length_nil];omega,e1,e2⟩ (by cases isT [44] r5<;>simp<;>omega)
set_option maxHeartbeats 8000000 in
theorem pDrawsC(cmd:Bool)(f:Nat)(hf:f<=1000000):PL 126 [.bool cmd] (fun n=>pDraws n cmd f) (fun l=>l.map dwC):=by
 intro bd p n r w x r' hP0 hg
 have hbd:bd<=w.heap.size:=hP0.le
 have hpw:p<w.heap.size:=Nat.lt_of_lt_of_le hP0.lt hbd
 have hF0:Fr [p] w w:=Fr.refl _ _
 refine enter func126 rfl ntmps126 rfl ?_
 refine rx ?_
 simp only[pDraws]at hg
 obtain⟨r0,h0,hg⟩:=bind_some hg
 refine s_cE (cTake hP0 h0) ?_;rintro w1 ⟨hP1,hf1⟩;have hF1:=hF0.trans hf1 Yhc;have hs1:=hf1.size
 refine rx ?_
 refine s_cE (pSkip [41] p n _ _ hP1) ?_;rintro w2 ⟨hP2,hf2⟩;have hF2:=hF1.trans hf2 Yhc;have hs2:=hf2.size
 cases h1:isT [41] r0 with
 |true=>
  simp only[h1,nextP,if_true]at hg hP2
  simp only[Option.some.injEq,Prod.mk.injEq]at hg
  obtain⟨rfl,rfl⟩:=hg
  refine Yei ?_
  exact⟨_,rfl,.nil,hP2,hF2⟩
 |false=>
 simp only[h1,nextP,Bool.false_eq_true,if_false]at hg hP2
 obtain⟨⟨l,r1⟩,h2,hg⟩:=bind_some hg
 obtain⟨r2,h3,hg⟩:=bind_some hg
 simp only[Option.some.injEq,Prod.mk.injEq]at hg
 obtain⟨rfl,rfl⟩:=hg
 refine rx ?_
 refine c_loopK 7 [5,6] (σ:=Nat×List Dw×List Tk×Bool) (fun s g u=>∃v,g 5=v/\g 6=.bool s.2.2.2/\s.1<=f/\LI bd p n w (rg w) 230 11 dwC (pDwGo n cmd) l r1 s.1 s.2.1 s.2.2.1 s.2.2.2 u v) (fun s=>2*s.1+s.2.2.2.toNat) (f,[],r0,true) ⟨_,rfl,rfl,Nat.le_refl _,hP2,hF2,.nil,by simp only[List.length_nil];omega,fun _=>⟨l,h2,rfl⟩,fun h=>by cases h⟩ ?_
 rintro⟨f',acc,r,b⟩ g w3 ⟨v,h4,h5,hff,hP3,hF3,hL,hlen,ht,hfl⟩
 simp only at hff hP3 hF3 hL hlen ht hfl
 rw[eq_upd h4,eq_upd h5]
 have hs3:=hF3.size
 obtain⟨S0,T0,ao0,c0,i0,hb0,_⟩:=id hP3
 cases b with
 |false=>
  obtain⟨rfl,rfl⟩:=hfl rfl
  refine rx ?_
  refine s_cE (cTake hP3 h3) ?_;rintro w4 ⟨hP4,hf4⟩;have hF4:=hF3.trans hf4 Yhc;have hs4:=hf4.size
  have hL:=LS.keep hL hf4 Yhx
  refine Yei ?_
  have hd:=LS.dr hL (k:=11) dwC_len Yhd
  exact⟨_,rfl,hd,hP4,hF4⟩
 |true=>
 obtain⟨l',hgo,hacc⟩:=ht rfl
 cases f' with
 |zero=>simp[pDwGo]at hgo
 |succ f'=>
 simp only[pDwGo]at hgo
 obtain⟨⟨t,r3⟩,h6,hgo⟩:=bind_some hgo
 obtain⟨r4,h7,hgo⟩:=bind_some hgo
 obtain⟨⟨ty,r5⟩,h8,hgo⟩:=bind_some hgo
 obtain⟨r6,h9,hgo⟩:=bind_some hgo
 obtain⟨⟨dw,r7⟩,h10,hgo⟩:=bind_some hgo
 simp only at hgo
 have hlt:=hL.lt
 refine rx ?_
 refine s_cE (cTok hP3 h6) ?_;rintro w4 ⟨hP4,hf4⟩;have hF4:=hF3.trans hf4 Yhc;have hs4:=hf4.size
 have hL:=LS.keep hL hf4 Yhx
 refine Yer ?_
 refine s_build [.string (bst t.text),zI,zT,zS,zI,zT,zS,zS,zS,zI,.bool false] rfl ?_
 refine s_var (l:=[zT,zI,zT,zS,zI,zT,zS,zS,zS,zI,.bool false]) (cs:=[.string (bst t.text),zI,zT,zS,zI,zT,zS,zS,zS,zI,.bool false]) rfl rfl rfl Yhk rfl (fun v=>rfl) (fun w5 a hqa hba hf5 hs5=>?_);have hP5:=hP4.tr0 hf5;have hF5:=hF4.trans0 hf5
 have hL:=(hL.mono (Y:=a::rg w) (in_cons Yhd)).tr0 hf5
 have haX:a∈a::rg w:=by simp
 have hpX:p∈a::rg w:=by simp[rg_mem];omega
 have hXw:∀b,b<w.heap.size->b∈a::rg w:=fun b hb=>by simp[rg_mem];omega
 have hXs:∀b∈a::rg w,b<w5.heap.size:=fun b hb=>by
  rcases List.mem_cons.1 hb with rfl|hb
  .exact hba.lt
  .have:=rg_mem.1 hb;omega
 refine rx ?_
 refine s_cE (cTake hP5 h7) ?_;rintro w6 ⟨hP6,hf6⟩;have hF6:=hF5.trans hf6 Yhc;have hs6:=hf6.size
 have hba:=hba.tr hf6 Yhe
 have hL:=hL.keep hf6 (one_in hpX)
 refine rx ?_
 refine s_c1 ((pTypC f') bd p n _ _ _ _ hP6 h8) ?_;rintro cs w7 ⟨hd,hP7,hf7⟩;have hF7:=hF6.trans hf7 Yhc;have hs7:=hf7.size
 have hba:=hba.tr hf7 Yhe
 have hL:=hL.keep hf7 (one_in hpX)
 obtain⟨s,rfl,hds⟩:=tyR.1 hd
 obtain⟨ao,c,rfl,_⟩:=hds.slice
 refine rx ?_
 refine s_storeSubB (cs:=[iV ty.kind,.string ty.name,.slice ao (ty.kids.map tyC).length c]) rfl rfl hba Yhk Yhi rfl (fun w8 hba hf8 hs8=>?_)
 replace hba:Blk w8 a [.string (bst t.text),iV ty.kind,.string ty.name,.slice ao (ty.kids.map tyC).length c,zI,zT,zS,zS,zS,zI,.bool false] 230:=hba
 have hP8:=hP7.tr hf8 Yhj;have hF8:=hF7.trans hf8 (fun x hx=>.inr Yhg)
 have hL:=hL.keep hf8 (one_in haX)
 have hd:=hd.old hf8 (in_rg Yhd)
 refine rx ?_
 refine s_cE (cTake hP8 h9) ?_;rintro w9 ⟨hP9,hf9⟩;have hF9:=hF8.trans hf9 Yhc;have hs9:=hf9.size
 have hba:=hba.tr hf9 Yhe
 have hL:=hL.keep hf9 (one_in hpX)
 have hd:=hd.old hf9 (in_rg Yhd)
 refine rx ?_
 cases cmd with
 |false=>
  simp only[Bool.false_and,Bool.false_eq_true,if_false]at h10
  refine rx ?_
  obtain⟨⟨g1,r8⟩,h12,h10⟩:=bind_some h10
  simp only[Option.some.injEq,Prod.mk.injEq]at h10
  obtain⟨rfl,rfl⟩:=h10
  refine s_c1 ((genI f' Yhd).1 bd p n _ _ _ _ hP9 h12) ?_;rintro cs2 w10 ⟨hd2,hP10,hf10⟩;have hF10:=hF9.trans hf10 Yhc;have hs10:=hf10.size
  have hba:=hba.tr hf10 Yhe
  have hL:=hL.keep hf10 (one_in hpX)
  have hd:=hd.old hf10 (in_rg Yhd)
  obtain⟨s1,s2,s3,rfl,hd3,hd4,hd5⟩:=gnR.1 hd2
  obtain⟨ao1,c1,rfl,_⟩:=hd3.slice
  obtain⟨ao2,c2,rfl,_⟩:=hd4.slice
  obtain⟨ao3,c3,rfl,_⟩:=hd5.slice
  refine rx ?_
  refine s_storeSubB (cs:=[iV g1.kind,.string g1.name,.slice ao1 (g1.ws.map intR).length c1,.slice ao2 (g1.args.map exC).length c2,.slice ao3 (g1.kids.map gnC).length c3,iV g1.at_]) rfl rfl hba Yhk Yhi rfl (fun w11 hba hf11 hs11=>?_)
  replace hba:Blk w11 a [.string (bst t.text),iV ty.kind,.string ty.name,.slice ao (ty.kids.map tyC).length c,iV g1.kind,.string g1.name,.slice ao1 (g1.ws.map intR).length c1,.slice ao2 (g1.args.map exC).length c2,.slice ao3 (g1.kids.map gnC).length c3,iV g1.at_,.bool false] 230:=hba
  have hP11:=hP10.tr hf11 Yhj;have hF11:=hF10.trans hf11 (fun x hx=>.inr Yhg)
  have hL:=hL.keep hf11 (one_in haX)
  have hd:=hd.old hf11 (in_rg Yhd)
  have hd2:=hd2.old hf11 (in_rg Yhd)
  have hdr:RD w11 (rg w6) (dwC ⟨bst t.text,ty,g1,false⟩) [.string (bst t.text),iV ty.kind,.string ty.name,.slice ao (ty.kids.map tyC).length c,iV g1.kind,.string g1.name,.slice ao1 (g1.ws.map intR).length c1,.slice ao2 (g1.args.map exC).length c2,.slice ao3 (g1.kids.map gnC).length c3,iV g1.at_,.bool false]:=.cons (.c rfl) (hd.app ((hd2.mono (fun b hb=>.inl Yih)).app (.cons (.c rfl) .nil)))
  refine rx ?_
  refine s_pushL hL dwC_len rfl rfl rfl hdr (fun b hb=>.inl (rg_mem.2 (hb.elim (fun h=>Nat.lt_of_lt_of_le (hlt b h) Yhd) (fun h=>Nat.lt_of_lt_of_le (hXs b h) Yhd)))) rfl rfl rfl Yhl Yhd (fun b hb=>Nat.lt_of_lt_of_le (hXs b hb) Yhd) (fun v' w12 hL' hf12 hk12=>?_);have hge12:=LS.ge hL (w0:=w) Yib;have hP12:=hP11.tr hf12 (fun k hk=>Nat.le_trans hbd (hge12 k hk));have hF12:=hF11.trans hf12 (fun k hk=>.inr (hge12 k hk));have hs12:=hf12.size
  refine rx ?_
  refine s_cE (pSkip [44] p n _ _ hP12) ?_;rintro w13 ⟨hP13,hf13⟩;have hF13:=hF12.trans hf13 Yhc;have hs13:=hf13.size
  have hL':=(hL'.keep hf13 (one_in hpX)).mono (Y:=rg w) (fun b hb=>.inl Yhy)
  refine rx ?_
  obtain⟨e1,e2⟩:=li_end (go:=pDwGo n _) hgo hacc
  exact q_roundK (f',acc++[⟨bst t.text,ty,g1,false⟩],nextP (isT [44] r8) r8,isT [44] r8) Yhh ⟨_,rfl,rfl,by simp only;omega,hP13,hF13,hL',by simp only[List.length_append,List.length_cons,List.length_nil];omega,e1,e2⟩ (by cases isT [44] r8<;>simp<;>omega)
 |true=>
 refine rx ?_
 refine s_cE (pSkip [114,101,115,117,108,116] p n _ _ hP9) ?_;rintro w10 ⟨hP10,hf10⟩;have hF10:=hF9.trans hf10 Yhc;have hs10:=hf10.size
 have hba:=hba.tr hf10 Yhe
 have hL:=hL.keep hf10 (one_in hpX)
 have hd:=hd.old hf10 (in_rg Yhd)
 cases h11:isT [114,101,115,117,108,116] r6 with
 |true=>
  simp only[h11,nextP,Bool.and_self,if_true,Option.some.injEq,Prod.mk.injEq]at h10 hP10
  obtain⟨rfl,rfl⟩:=h10
  refine rx ?_
  ((with_reducible apply s_storeB);exact rfl;(conv=>lhs;whnf);exact rfl;exact hba;exact rfl)
  intro w11 hba hf11 hs11
  replace hba:Blk w11 a [.string (bst t.text),iV ty.kind,.string ty.name,.slice ao (ty.kids.map tyC).length c,zI,zT,zS,zS,zS,zI,.bool true] 230:=hba
  have hP11:=hP10.tr hf11 Yhj;have hF11:=hF10.trans hf11 (fun x hx=>.inr Yhg)
  have hL:=hL.keep hf11 (one_in haX)
  have hd:=hd.old hf11 (in_rg Yhd)
  have hg0:RD w11 (rg w6) (gnC gn0) [zI,zT,zS,zS,zS,zI]:=gnR.2 ⟨_,_,_,rfl,.nil,.nil,.nil⟩
  have hdr:RD w11 (rg w6) (dwC ⟨bst t.text,ty,gn0,true⟩) [.string (bst t.text),iV ty.kind,.string ty.name,.slice ao (ty.kids.map tyC).length c,zI,zT,zS,zS,zS,zI,.bool true]:=.cons (.c rfl) (hd.app (hg0.app (.cons (.c rfl) .nil)))
  refine rx ?_
  refine s_pushL hL dwC_len rfl rfl rfl hdr (fun b hb=>.inl (rg_mem.2 (hb.elim (fun h=>Nat.lt_of_lt_of_le (hlt b h) Yhd) (fun h=>Nat.lt_of_lt_of_le (hXs b h) Yhd)))) rfl rfl rfl Yhl Yhd (fun b hb=>Nat.lt_of_lt_of_le (hXs b hb) Yhd) (fun v' w12 hL' hf12 hk12=>?_);have hge12:=LS.ge hL (w0:=w) Yib;have hP12:=hP11.tr hf12 (fun k hk=>Nat.le_trans hbd (hge12 k hk));have hF12:=hF11.trans hf12 (fun k hk=>.inr (hge12 k hk));have hs12:=hf12.size
  refine rx ?_
  refine s_cE (pSkip [44] p n _ _ hP12) ?_;rintro w13 ⟨hP13,hf13⟩;have hF13:=hF12.trans hf13 Yhc;have hs13:=hf13.size
  have hL':=(hL'.keep hf13 (one_in hpX)).mono (Y:=rg w) (fun b hb=>.inl Yhy)
  refine rx ?_
  obtain⟨e1,e2⟩:=li_end (go:=pDwGo n _) hgo hacc
  exact q_roundK (f',acc++[⟨bst t.text,ty,gn0,true⟩],nextP (isT [44] r6.tail) r6.tail,isT [44] r6.tail) Yhh ⟨_,rfl,rfl,by simp only;omega,hP13,hF13,hL',by simp only[List.length_append,List.length_cons,List.length_nil];omega,e1,e2⟩ (by cases isT [44] r6.tail<;>simp<;>omega)
 |false=>
  simp only[h11,nextP,Bool.true_and,Bool.false_eq_true,if_false]at h10 hP10
  refine rx ?_
  obtain⟨⟨g1,r8⟩,h12,h10⟩:=bind_some h10
  simp only[Option.some.injEq,Prod.mk.injEq]at h10
  obtain⟨rfl,rfl⟩:=h10
  refine s_c1 ((genI f' Yhd).1 bd p n _ _ _ _ hP10 h12) ?_;rintro cs2 w11 ⟨hd2,hP11,hf11⟩;have hF11:=hF10.trans hf11 Yhc;have hs11:=hf11.size
  have hba:=hba.tr hf11 Yhe
  have hL:=hL.keep hf11 (one_in hpX)
  have hd:=hd.old hf11 (in_rg Yhd)
  obtain⟨s1,s2,s3,rfl,hd3,hd4,hd5⟩:=gnR.1 hd2
  obtain⟨ao1,c1,rfl,_⟩:=hd3.slice
  obtain⟨ao2,c2,rfl,_⟩:=hd4.slice
  obtain⟨ao3,c3,rfl,_⟩:=hd5.slice
  refine rx ?_
  refine s_storeSubB (cs:=[iV g1.kind,.string g1.name,.slice ao1 (g1.ws.map intR).length c1,.slice ao2 (g1.args.map exC).length c2,.slice ao3 (g1.kids.map gnC).length c3,iV g1.at_]) rfl rfl hba Yhk Yhi rfl (fun w12 hba hf12 hs12=>?_)
  replace hba:Blk w12 a [.string (bst t.text),iV ty.kind,.string ty.name,.slice ao (ty.kids.map tyC).length c,iV g1.kind,.string g1.name,.slice ao1 (g1.ws.map intR).length c1,.slice ao2 (g1.args.map exC).length c2,.slice ao3 (g1.kids.map gnC).length c3,iV g1.at_,.bool false] 230:=hba
  have hP12:=hP11.tr hf12 Yhj;have hF12:=hF11.trans hf12 (fun x hx=>.inr Yhg)
  have hL:=hL.keep hf12 (one_in haX)
  have hd:=hd.old hf12 (in_rg Yhd)
  have hd2:=hd2.old hf12 (in_rg Yhd)
  have hdr:RD w12 (rg w6) (dwC ⟨bst t.text,ty,g1,false⟩) [.string (bst t.text),iV ty.kind,.string ty.name,.slice ao (ty.kids.map tyC).length c,iV g1.kind,.string g1.name,.slice ao1 (g1.ws.map intR).length c1,.slice ao2 (g1.args.map exC).length c2,.slice ao3 (g1.kids.map gnC).length c3,iV g1.at_,.bool false]:=.cons (.c rfl) (hd.app ((hd2.mono (fun b hb=>.inl Yih)).app (.cons (.c rfl) .nil)))
  refine rx ?_
  refine s_pushL hL dwC_len rfl rfl rfl hdr (fun b hb=>.inl (rg_mem.2 (hb.elim (fun h=>Nat.lt_of_lt_of_le (hlt b h) Yhd) (fun h=>Nat.lt_of_lt_of_le (hXs b h) Yhd)))) rfl rfl rfl Yhl Yhd (fun b hb=>Nat.lt_of_lt_of_le (hXs b hb) Yhd) (fun v' w13 hL' hf13 hk13=>?_);have hge13:=LS.ge hL (w0:=w) Yib;have hP13:=hP12.tr hf13 (fun k hk=>Nat.le_trans hbd (hge13 k hk));have hF13:=hF12.trans hf13 (fun k hk=>.inr (hge13 k hk));have hs13:=hf13.size
  refine rx ?_
  refine s_cE (pSkip [44] p n _ _ hP13) ?_;rintro w14 ⟨hP14,hf14⟩;have hF14:=hF13.trans hf14 Yhc;have hs14:=hf14.size
  have hL':=(hL'.keep hf14 (one_in hpX)).mono (Y:=rg w) (fun b hb=>.inl Yhy)
  refine rx ?_
  obtain⟨e1,e2⟩:=li_end (go:=pDwGo n _) hgo hacc
  exact q_roundK (f',acc++[⟨bst t.text,ty,g1,false⟩],nextP (isT [44] r8) r8,isT [44] r8) Yhh ⟨_,rfl,rfl,by simp only;omega,hP14,hF14,hL',by simp only[List.length_append,List.length_cons,List.length_nil];omega,e1,e2⟩ (by cases isT [44] r8<;>simp<;>omega)
end Go.Proofs.YtggmccicdhnkgaaGreat
