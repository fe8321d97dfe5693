/-
 The reference's parser:the operations of a system.
-/
import Derived.Test.YtggmccicdhnkgaaGreatZQw
set_option linter.all false
namespace Go.Proofs.YtggmccicdhnkgaaGreat
open Go.Proofs.Tryz
open Go.Rf Go.RowKit
attribute [local irreducible] Code.wp wpList Exit.then Exit.inBlock bodyPost A Calls execOp Addr.add
theorem _root_.Go.Rf.DR.other{v1 v1':Value}{X Y:List Nat}{w w':World}{d:Dt}{v:Value}(h:DR w X d v)(hf:Fr (blks v1) w w')(h1:∀b∈blks v1,b∈X)(hk:∀b∈blks v1',b∈blks v1\/w.heap.size<=b)(hY:∀b∈Y,b∈X\/b∈blks v1'):DR w' Y d v:=
 ((h.mono (T:=X++blks v1') (fun b hb=>(List.mem_append.1 hb).elim .inl (fun h'=>(hk b h').elim (fun h=>.inl (h1 b h)) .inr))).old hf (fun b hb=>.inl (by simp[h1 b hb]))).mono (fun b hb=>.inl (by have:=hY b hb;simp[this]))
set_option maxHeartbeats 16000000 in
theorem pCmdsC(f:Nat)(hf:f<=1000000)(z0 z1 z2 z3 z4 z5 z6 z7 z8 z9 z10 z11 z12 z13 z14 z15 z16 z17 z18 z19 z20 z21 z22 z23 z24 z25 z26 z27 z28 z29 z30 z31 z32 z33 z34 z35 z37 z38 z39 z40 z41 z42 z43 z44:Value)(bd p:Nat)(n:Int)(r:List Tk)(w:World)(x:List Cm)(r':List Tk)(z:Nat)(hP0:PS bd w p n r)(hg:pCmds n f r=some (x,r'))(hbz:Blk w z [z0,z1,z2,z3,z4,z5,z6,z7,z8,z9,z10,z11,z12,z13,z14,z15,z16,z17,z18,z19,z20,z21,z22,z23,z24,z25,z26,z27,z28,z29,z30,z31,z32,z33,z34,z35,zS,z37,z38,z39,z40,z41,z42,z43,z44] 105)(hzb:bd<=z):
 Calls prog 129 #[.pointer (some ⟨p,0,none⟩),.pointer (some ⟨z,0,none⟩)] w fun e w'=>e=.returned (.tuple #[])/\(∃v,Blk w' z [z0,z1,z2,z3,z4,z5,z6,z7,z8,z9,z10,z11,z12,z13,z14,z15,z16,z17,z18,z19,z20,z21,z22,z23,z24,z25,z26,z27,z28,z29,z30,z31,z32,z33,z34,z35,v,z37,z38,z39,z40,z41,z42,z43,z44] 105/\DR w' (rg w) (.l (x.map cmC)) v)/\PS bd w' p n r'/\Fr [p,z] w w':=by
 have hbd:bd<=w.heap.size:=hP0.le
 have hpb:p<bd:=hP0.lt
 have hpw:p<w.heap.size:=Nat.lt_of_lt_of_le hP0.lt hbd
 have hzw:z<w.heap.size:=hbz.lt
 have hF0:Fr [p,z] w w:=Fr.refl _ _
 simp only[pCmds]at hg
 obtain⟨r1,h1,hg⟩:=bind_some hg
 obtain⟨⟨A,r2⟩,h2,hg⟩:=bind_some hg
 obtain⟨r3,h3,hg⟩:=bind_some hg
 simp only[Option.some.injEq,Prod.mk.injEq]at hg
 obtain⟨rfl,rfl⟩:=hg
 refine enter func129 rfl ntmps129 rfl ?_
 refine rx ?_
 refine s_cE (cTake hP0 h1) ?_;rintro w1 ⟨hP1,hf1⟩;have hF1:=hF0.trans hf1 Yhc;have hs1:=hf1.size
 have hbz:=hbz.tr hf1 Yhe
 refine rx ?_
 refine c_loopK 4 [] (σ:=Nat×List Cm×List Tk) (fun s g u=>PS bd u p n s.2.2/\Fr [p,z] w u/\w1.heap.size<=u.heap.size/\s.2.1.length+s.1<=1000000/\s.1<=f/\pCmGo n s.1 s.2.1 s.2.2=some (A,r2)/\∃v,Blk u z [z0,z1,z2,z3,z4,z5,z6,z7,z8,z9,z10,z11,z12,z13,z14,z15,z16,z17,z18,z19,z20,z21,z22,z23,z24,z25,z26,z27,z28,z29,z30,z31,z32,z33,z34,z35,v,z37,z38,z39,z40,z41,z42,z43,z44] 105/\LS (rg w) u 176 23 cmC s.2.1 v) (fun s=>s.1) (f,[],r1) ⟨hP1,hF1,Nat.le_refl _,by simpa using hf,Nat.le_refl _,h2,_,hbz,LS.nil⟩ ?_
 clear hP0 hP1 hF0 hF1 hbz
 rintro⟨f',a,r4⟩ g w2 ⟨hP2,hF2,hs2,hla,hff,hit,v,hbz,hL⟩
 simp only at hP2 hF2 hla hff hit hL
 have hpX:p∈rg w:=rg_mem.2 hpw
 cases f' with
 |zero=>simp[pCmGo]at hit
 |succ f'=>
 simp only[pCmGo]at hit
 refine rx ?_
 cases hc:isT [99,111,109,109,97,110,100] r4 with
 |false=>
  simp only[hc,Bool.false_eq_true,if_false,Option.some.injEq,Prod.mk.injEq]at hit
  obtain⟨rfl,rfl⟩:=hit
  refine s_cE (pSkip [99,111,109,109,97,110,100] p n _ _ hP2) ?_;rintro w3 ⟨hP3,hf3⟩;have hF3:=hF2.trans hf3 Yhc;have hs3:=hf3.size
  simp only[hc,nextP,Bool.false_eq_true,if_false]at hP3
  have hbz:=hbz.tr hf3 Yhe
  have hL:=hL.keep hf3 (one_in hpX)
  refine rx ?_
  rw[hc]
  refine rx ?_
  refine s_cE (cTake hP3 h3) ?_;rintro w4 ⟨hP4,hf4⟩;have hF4:=hF3.trans hf4 Yhc;have hs4:=hf4.size
  have hbz:=hbz.tr hf4 Yhe
  have hL:=hL.keep hf4 (one_in hpX)
  refine rx ?_
  exact end0 rfl ⟨rfl,⟨_,hbz,hL.dr cmC_len Yhd⟩,hP4,hF4⟩
 |true=>
  simp only[hc,if_true]at hit
  obtain⟨⟨t,r5⟩,g1,hit⟩:=bind_some hit
  obtain⟨⟨ds,r6⟩,g2,hit⟩:=bind_some hit
  obtain⟨r7,g3,hit⟩:=bind_some hit
  obtain⟨⟨e1,r8⟩,g4,hit⟩:=bind_some hit
  obtain⟨r9,g5,hit⟩:=bind_some hit
  obtain⟨⟨e2,r10⟩,g6,hit⟩:=bind_some hit
  obtain⟨r11,g7,hit⟩:=bind_some hit
  obtain⟨⟨e3,r12⟩,g8,hit⟩:=bind_some hit
  obtain⟨r13,g9,hit⟩:=bind_some hit
  refine s_cE (pSkip [99,111,109,109,97,110,100] p n _ _ hP2) ?_;rintro w3 ⟨hP3,hf3⟩;have hF3:=hF2.trans hf3 Yhc;have hs3:=hf3.size
  simp only[hc,nextP,if_true]at hP3
  have hbz:=hbz.tr hf3 Yhe
  have hL:=hL.keep hf3 (one_in hpX)
  refine rx ?_
  rw[hc]
  refine rx ?_
  refine s_cE (cTok hP3 g1) ?_;rintro w4 ⟨hP4,hf4⟩;have hF4:=hF3.trans hf4 Yhc;have hs4:=hf4.size
  have hbz:=hbz.tr hf4 Yhe
  have hL:=hL.keep hf4 (one_in hpX)
  refine Yer ?_
  refine s_build [.string (bst t.text),zS,zI,zT,zI,zS,zS,zS,zI,zI,zT,zI,zS,zS,zS,zI,zI,zT,zI,zS,zS,zS,zI] rfl ?_
  refine s_var (l:=[zT,zS,zI,zT,zI,zS,zS,zS,zI,zI,zT,zI,zS,zS,zS,zI,zI,zT,zI,zS,zS,zS,zI]) (cs:=[.string (bst t.text),zS,zI,zT,zI,zS,zS,zS,zI,zI,zT,zI,zS,zS,zS,zI,zI,zT,zI,zS,zS,zS,zI]) rfl rfl rfl Yhk rfl (fun v=>rfl) (fun w5 c hqc hbc hf5 hs5=>?_);have hP5:=hP4.tr0 hf5;have hF5:=hF4.trans0 hf5
  have hbz:=hbz.tr hf5 Yhe
  have hL:=(hL.mono (Y:=c::rg w) (in_cons Yhd)).tr0 hf5
  have hcX:c∈c::rg w:=by simp
  have hpX:p∈c::rg w:=List.mem_cons_of_mem _ hpX
  have hXw:∀b,b<w.heap.size->b∈c::rg w:=fun b hb=>List.mem_cons_of_mem _ (rg_mem.2 hb)
  have hXs:∀b∈c::rg w,b<w5.heap.size:=fun b hb=>by
   rcases List.mem_cons.1 hb with rfl|hb
   .exact hbc.lt
   .have:=rg_mem.1 hb;omega
  have hz1:=hL.lt
  have hz:∀b∈c::rg w,b<w5.heap.size:=hXs
  refine rx ?_
  refine s_call ((pDrawsC true f' Yhd) bd p n _ _ _ _ hP5 g2) rfl ?_;rintro _ w6 ⟨_,rfl,hd,hP6,hf6⟩;obtain⟨aoD,cD,rfl,hcD⟩:=DR.slice hd;refine⟨_,rfl,?_⟩;have hF6:=hF5.trans hf6 Yhc;have hs6:=hf6.size
  have hbz:=hbz.tr hf6 Yhe
  have hbc:=hbc.tr hf6 Yhe
  have hL:=hL.keep hf6 (one_in hpX)
  refine rx ?_
  ((with_reducible apply s_storeB);exact rfl;(conv=>lhs;whnf);exact rfl;exact hbc;exact rfl)
  intro w7 hbc hf7 hs7
  replace hbc:Blk w7 c [.string (bst t.text),.slice aoD (ds.map dwC).length cD,zI,zT,zI,zS,zS,zS,zI,zI,zT,zI,zS,zS,zS,zI,zI,zT,zI,zS,zS,zS,zI] 176:=hbc
  have hP7:=hP6.tr hf7 Yhj;have hF7:=hF6.trans hf7 (fun x hx=>.inr Yhg)
  have hbz:=hbz.tr hf7 Yhe
  have hL:=hL.keep hf7 (one_in hcX)
  have hd:=hd.old hf7 (in_rg Yhd)
  refine rx ?_
  refine s_cE (cTake hP7 g3) ?_;rintro w8 ⟨hP8,hf8⟩;have hF8:=hF7.trans hf8 Yhc;have hs8:=hf8.size
  have hbz:=hbz.tr hf8 Yhe
  have hbc:=hbc.tr hf8 Yhe
  have hL:=hL.keep hf8 (one_in hpX)
  have hd:=hd.old hf8 (in_rg Yhd)
  refine rx ?_
  refine s_c1 ((exI f' Yhd).expr bd p n _ _ _ _ hP8 g4) ?_;rintro csE w9 ⟨hdE,hP9,hf9⟩;have hF9:=hF8.trans hf9 Yhc;have hs9:=hf9.size
  have hbz:=hbz.tr hf9 Yhe
  have hbc:=hbc.tr hf9 Yhe
  have hL:=hL.keep hf9 (one_in hpX)
  have hd:=hd.old hf9 (in_rg Yhd)
  obtain⟨sEa,sEb,sEc,rfl,hkEa,hkEb,hkEc⟩:=exR.1 hdE
  obtain⟨aoEa,cEa,rfl,_⟩:=DR.slice (rows:=_) hkEa
  obtain⟨aoEb,cEb,rfl,_⟩:=hkEb.slice
  obtain⟨aoEc,cEc,rfl,_⟩:=hkEc.slice
  refine rx ?_
  refine s_storeSubB (cs:=[iV e1.kind,.string e1.name,iV e1.n,.slice aoEa (e1.names.map strR).length cEa,.slice aoEb (e1.binds.map strsR).length cEb,.slice aoEc (e1.kids.map exC).length cEc,iV e1.at_]) rfl rfl hbc Yhk Yhi rfl (fun w10 hbc hf10 hs10=>?_)
  replace hbc:Blk w10 c [.string (bst t.text),.slice aoD (ds.map dwC).length cD,iV e1.kind,.string e1.name,iV e1.n,.slice aoEa (e1.names.map strR).length cEa,.slice aoEb (e1.binds.map strsR).length cEb,.slice aoEc (e1.kids.map exC).length cEc,iV e1.at_,zI,zT,zI,zS,zS,zS,zI,zI,zT,zI,zS,zS,zS,zI] 176:=hbc
  have hP10:=hP9.tr hf10 Yhj;have hF10:=hF9.trans hf10 (fun x hx=>.inr Yhg)
  have hbz:=hbz.tr hf10 Yhe
  have hL:=hL.keep hf10 (one_in hcX)
  have hd:=hd.old hf10 (in_rg Yhd)
  have hdE:=hdE.old hf10 (in_rg Yhd)
  refine rx ?_
  refine s_cE (cTake hP10 g5) ?_;rintro w11 ⟨hP11,hf11⟩;have hF11:=hF10.trans hf11 Yhc;have hs11:=hf11.size
  have hbz:=hbz.tr hf11 Yhe
  have hbc:=hbc.tr hf11 Yhe
  have hL:=hL.keep hf11 (one_in hpX)
  have hd:=hd.old hf11 (in_rg Yhd)
  have hdE:=hdE.old hf11 (in_rg Yhd)
  refine rx ?_
  refine s_c1 ((exI f' Yhd).expr bd p n _ _ _ _ hP11 g6) ?_;rintro csG w12 ⟨hdG,hP12,hf12⟩;have hF12:=hF11.trans hf12 Yhc;have hs12:=hf12.size
  have hbz:=hbz.tr hf12 Yhe
  have hbc:=hbc.tr hf12 Yhe
  have hL:=hL.keep hf12 (one_in hpX)
  have hd:=hd.old hf12 (in_rg Yhd)
  have hdE:=hdE.old hf12 (in_rg Yhd)
  obtain⟨sGa,sGb,sGc,rfl,hkGa,hkGb,hkGc⟩:=exR.1 hdG
  obtain⟨aoGa,cGa,rfl,_⟩:=DR.slice (rows:=_) hkGa
  obtain⟨aoGb,cGb,rfl,_⟩:=hkGb.slice
  obtain⟨aoGc,cGc,rfl,_⟩:=hkGc.slice
  refine rx ?_
  refine s_storeSubB (cs:=[iV e2.kind,.string e2.name,iV e2.n,.slice aoGa (e2.names.map strR).length cGa,.slice aoGb (e2.binds.map strsR).length cGb,.slice aoGc (e2.kids.map exC).length cGc,iV e2.at_]) rfl rfl hbc Yhk Yhi rfl (fun w13 hbc hf13 hs13=>?_)
  replace hbc:Blk w13 c [.string (bst t.text),.slice aoD (ds.map dwC).length cD,iV e1.kind,.string e1.name,iV e1.n,.slice aoEa (e1.names.map strR).length cEa,.slice aoEb (e1.binds.map strsR).length cEb,.slice aoEc (e1.kids.map exC).length cEc,iV e1.at_,iV e2.kind,.string e2.name,iV e2.n,.slice aoGa (e2.names.map strR).length cGa,.slice aoGb (e2.binds.map strsR).length cGb,.slice aoGc (e2.kids.map exC).length cGc,iV e2.at_,zI,zT,zI,zS,zS,zS,zI] 176:=hbc
  have hP13:=hP12.tr hf13 Yhj;have hF13:=hF12.trans hf13 (fun x hx=>.inr Yhg)
  have hbz:=hbz.tr hf13 Yhe
  have hL:=hL.keep hf13 (one_in hcX)
  have hd:=hd.old hf13 (in_rg Yhd)
  have hdE:=hdE.old hf13 (in_rg Yhd)
  have hdG:=hdG.old hf13 (in_rg Yhd)
  refine rx ?_
  refine s_cE (cTake hP13 g7) ?_;rintro w14 ⟨hP14,hf14⟩;have hF14:=hF13.trans hf14 Yhc;have hs14:=hf14.size
  have hbz:=hbz.tr hf14 Yhe
  have hbc:=hbc.tr hf14 Yhe
  have hL:=hL.keep hf14 (one_in hpX)
  have hd:=hd.old hf14 (in_rg Yhd)
  have hdE:=hdE.old hf14 (in_rg Yhd)
  have hdG:=hdG.old hf14 (in_rg Yhd)
  refine rx ?_
  refine s_c1 ((exI f' Yhd).expr bd p n _ _ _ _ hP14 g8) ?_;rintro csH w15 ⟨hdH,hP15,hf15⟩;have hF15:=hF14.trans hf15 Yhc;have hs15:=hf15.size
  have hbz:=hbz.tr hf15 Yhe
  have hbc:=hbc.tr hf15 Yhe
  have hL:=hL.keep hf15 (one_in hpX)
  have hd:=hd.old hf15 (in_rg Yhd)
  have hdE:=hdE.old hf15 (in_rg Yhd)
  have hdG:=hdG.old hf15 (in_rg Yhd)
  obtain⟨sHa,sHb,sHc,rfl,hkHa,hkHb,hkHc⟩:=exR.1 hdH
  obtain⟨aoHa,cHa,rfl,_⟩:=DR.slice (rows:=_) hkHa
  obtain⟨aoHb,cHb,rfl,_⟩:=hkHb.slice
  obtain⟨aoHc,cHc,rfl,_⟩:=hkHc.slice
  refine rx ?_
  refine s_storeSubB (cs:=[iV e3.kind,.string e3.name,iV e3.n,.slice aoHa (e3.names.map strR).length cHa,.slice aoHb (e3.binds.map strsR).length cHb,.slice aoHc (e3.kids.map exC).length cHc,iV e3.at_]) rfl rfl hbc Yhk Yhi rfl (fun w16 hbc hf16 hs16=>?_)
  replace hbc:Blk w16 c [.string (bst t.text),.slice aoD (ds.map dwC).length cD,iV e1.kind,.string e1.name,iV e1.n,.slice aoEa (e1.names.map strR).length cEa,.slice aoEb (e1.binds.map strsR).length cEb,.slice aoEc (e1.kids.map exC).length cEc,iV e1.at_,iV e2.kind,.string e2.name,iV e2.n,.slice aoGa (e2.names.map strR).length cGa,.slice aoGb (e2.binds.map strsR).length cGb,.slice aoGc (e2.kids.map exC).length cGc,iV e2.at_,iV e3.kind,.string e3.name,iV e3.n,.slice aoHa (e3.names.map strR).length cHa,.slice aoHb (e3.binds.map strsR).length cHb,.slice aoHc (e3.kids.map exC).length cHc,iV e3.at_] 176:=hbc
  have hP16:=hP15.tr hf16 Yhj;have hF16:=hF15.trans hf16 (fun x hx=>.inr Yhg)
  have hbz:=hbz.tr hf16 Yhe
  have hL:=hL.keep hf16 (one_in hcX)
  have hd:=hd.old hf16 (in_rg Yhd)
  have hdE:=hdE.old hf16 (in_rg Yhd)
  have hdG:=hdG.old hf16 (in_rg Yhd)
  have hdH:=hdH.old hf16 (in_rg Yhd)
  refine rx ?_
  refine s_cE (cTake hP16 g9) ?_;rintro w17 ⟨hP17,hf17⟩;have hF17:=hF16.trans hf17 Yhc;have hs17:=hf17.size
  have hbz:=hbz.tr hf17 Yhe
  have hbc:=hbc.tr hf17 Yhe
  have hL:=hL.keep hf17 (one_in hpX)
  have hd:=hd.old hf17 (in_rg Yhd)
  have hdE:=hdE.old hf17 (in_rg Yhd)
  have hdG:=hdG.old hf17 (in_rg Yhd)
  have hdH:=hdH.old hf17 (in_rg Yhd)
  have hdr:RD w17 (rg w5) (cmC ⟨bst t.text,ds,e1,e2,e3⟩) [.string (bst t.text),.slice aoD (ds.map dwC).length cD,iV e1.kind,.string e1.name,iV e1.n,.slice aoEa (e1.names.map strR).length cEa,.slice aoEb (e1.binds.map strsR).length cEb,.slice aoEc (e1.kids.map exC).length cEc,iV e1.at_,iV e2.kind,.string e2.name,iV e2.n,.slice aoGa (e2.names.map strR).length cGa,.slice aoGb (e2.binds.map strsR).length cGb,.slice aoGc (e2.kids.map exC).length cGc,iV e2.at_,iV e3.kind,.string e3.name,iV e3.n,.slice aoHa (e3.names.map strR).length cHa,.slice aoHb (e3.binds.map strsR).length cHb,.slice aoHc (e3.kids.map exC).length cHc,iV e3.at_]:=.cons (.c rfl) (.cons hd ((hdE.down Yhd).app ((hdG.down Yhd).app (hdH.down Yhd))))
  obtain⟨ao3,k3,rfl⟩:=hL.slice
  refine rx ?_
  ((refine u_begin 10 (fun y=>Blk y c [.string (bst t.text),.slice aoD (ds.map dwC).length cD,iV e1.kind,.string e1.name,iV e1.n,.slice aoEa (e1.names.map strR).length cEa,.slice aoEb (e1.binds.map strsR).length cEb,.slice aoEc (e1.kids.map exC).length cEc,iV e1.at_,iV e2.kind,.string e2.name,iV e2.n,.slice aoGa (e2.names.map strR).length cGa,.slice aoGb (e2.binds.map strsR).length cGb,.slice aoGc (e2.kids.map exC).length cGc,iV e2.at_,iV e3.kind,.string e3.name,iV e3.n,.slice aoHa (e3.names.map strR).length cHa,.slice aoHb (e3.binds.map strsR).length cHb,.slice aoHc (e3.kids.map exC).length cHc,iV e3.at_] 176/\Blk y z [z0,z1,z2,z3,z4,z5,z6,z7,z8,z9,z10,z11,z12,z13,z14,z15,z16,z17,z18,z19,z20,z21,z22,z23,z24,z25,z26,z27,z28,z29,z30,z31,z32,z33,z34,z35,.slice ao3 a.length k3,z37,z38,z39,z40,z41,z42,z43,z44] 105) Yhf rfl ?_);obtain⟨w18,hw18⟩:=exq w17.drew;rw[<-hw18];have hf18:Fr [] w17 w18:=hw18▸Fr.drew _ _;have hP18:=hP17.tr0 hf18;have hF18:=hF17.trans0 hf18;have hs18:=hf18.size)
  have hbz:=hbz.tr hf18 Yhe
  have hbc:=hbc.tr hf18 Yhe
  have hL:=hL.keep hf18 Yhi
  have hdr:=hdr.tr0 hf18
  ((refine u_tx 0 (And.intro hbc hbz) ?_);(refine u_tx 1 (And.intro hbc hbz) ?_);(refine u_tx 2 (And.intro hbc hbz) ?_);(refine u_tx 3 (And.intro hbc hbz) ?_);(refine u_tx 4 (And.intro hbc hbz) ?_))
  refine u_tx 5 (And.intro hbc hbz) ?_ (hrun:=Yii)
  refine u_one (i:=6) rfl Yhf ?_
  refine s_rows1 rfl rfl rfl (fun w19 k5 hk5 ho hf19 hs19=>?_)
  have hP19:=hP18.tr0 hf19;have hF19:=hF18.trans0 hf19
  have hbz:=hbz.tr hf19 Yhe
  have hbc:=hbc.tr hf19 Yhe
  have hL:=hL.keep hf19 Yhi
  have hdr:=hdr.tr0 hf19
  refine Yez ?_
  refine s_appL hL cmC_len rfl rfl ho.src hdr (fun b hb=>.inl (rg_mem.2 (hb.elim (hz1 b) (hz b)))) Yhl Yhd (fun b hb=>Nat.lt_of_lt_of_le (hXs b hb) Yhd) (fun v' w20 hL' hf20 hk20=>?_);have hge20:=LS.ge hL (w0:=w) hXw;have hP20:=hP19.tr hf20 (fun k hk=>Nat.le_trans hbd (hge20 k hk));have hF20:=hF19.trans hf20 (fun k hk=>.inr (hge20 k hk));have hs20:=hf20.size
  have hbz:=hbz.tr hf20 (fun h=>hL.2 _ h (hXw z hzw))
  have hbc:=hbc.tr hf20 (fun h=>hL.2 _ h hcX)
  have h1c:=hL'.1.one
  refine Yet ?_
  ((refine u_tx 9 (And.intro hbc hbz) ?_))
  refine Yge ?_
  ((with_reducible apply s_storeB);exact rfl;(conv=>lhs;whnf);exact h1c;exact hbz;exact rfl)
  intro w21 hbz hf21 hs21
  replace hbz:Blk w21 z [z0,z1,z2,z3,z4,z5,z6,z7,z8,z9,z10,z11,z12,z13,z14,z15,z16,z17,z18,z19,z20,z21,z22,z23,z24,z25,z26,z27,z28,z29,z30,z31,z32,z33,z34,z35,v',z37,z38,z39,z40,z41,z42,z43,z44] 105:=hbz
  have hP21:=hP20.tr hf21 Yhj
  have hF21:=hF20.trans hf21 (fun x hx=>.inl Yie)
  have hL:=(hL'.keep hf21 (one_in (hXw z hzw))).mono (Y:=rg w) (fun b hb=>.inl Yhy)
  refine Yeo ?_
  refine q_roundK (f',a++[⟨bst t.text,ds,e1,e2,e3⟩],r13) Yhb ?_ ?_
  .refine ⟨hP21,hF21,?_,?_,?_,hit,_,hbz,hL⟩
   .omega
   . (simp only[List.length_append,List.length_cons,List.length_nil]<;>omega)
   .simp only;omega
  .simp only;omega
end Go.Proofs.YtggmccicdhnkgaaGreat
namespace Go.Proofs.YtggmccicdhnkgaaGreat
open Go.Proofs.Tryz
open Go.Rf Go.RowKit
attribute [local irreducible] Code.wp wpList Exit.then Exit.inBlock bodyPost A Calls execOp Addr.add
set_option maxHeartbeats 16000000 in
theorem pOpsC(f:Nat)(hf:f<=1000000)(z0 z1 z2 z3 z4 z5 z6 z7 z8 z9 z10 z11 z12 z13 z14 z15 z16 z17 z18 z19 z20 z21 z22 z23 z24 z25 z26 z27 z28 z29 z30 z31 z32 z33 z34 z35 z36 z38 z39 z40 z41 z42 z43 z44:Value)(bd p:Nat)(n:Int)(r:List Tk)(w:World)(x:List Rf.Op)(r':List Tk)(z:Nat)(hP0:PS bd w p n r)(hg:pOps n f r=some (x,r'))(hbz:Blk w z [z0,z1,z2,z3,z4,z5,z6,z7,z8,z9,z10,z11,z12,z13,z14,z15,z16,z17,z18,z19,z20,z21,z22,z23,z24,z25,z26,z27,z28,z29,z30,z31,z32,z33,z34,z35,z36,zS,z38,z39,z40,z41,z42,z43,z44] 105)(hzb:bd<=z):
 Calls prog 130 #[.pointer (some ⟨p,0,none⟩),.pointer (some ⟨z,0,none⟩)] w fun e w'=>e=.returned (.tuple #[])/\(∃v,Blk w' z [z0,z1,z2,z3,z4,z5,z6,z7,z8,z9,z10,z11,z12,z13,z14,z15,z16,z17,z18,z19,z20,z21,z22,z23,z24,z25,z26,z27,z28,z29,z30,z31,z32,z33,z34,z35,z36,v,z38,z39,z40,z41,z42,z43,z44] 105/\DR w' (rg w) (.l (x.map opC)) v)/\PS bd w' p n r'/\Fr [p,z] w w':=by
 have hbd:bd<=w.heap.size:=hP0.le
 have hpb:p<bd:=hP0.lt
 have hpw:p<w.heap.size:=Nat.lt_of_lt_of_le hP0.lt hbd
 have hzw:z<w.heap.size:=hbz.lt
 have hF0:Fr [p,z] w w:=Fr.refl _ _
 simp only[pOps]at hg
 obtain⟨r1,h1,hg⟩:=bind_some hg
 obtain⟨⟨A,r2⟩,h2,hg⟩:=bind_some hg
 obtain⟨r3,h3,hg⟩:=bind_some hg
 simp only[Option.some.injEq,Prod.mk.injEq]at hg
 obtain⟨rfl,rfl⟩:=hg
 refine enter func130 rfl ntmps130 rfl ?_
 refine rx ?_
 refine s_cE (cTake hP0 h1) ?_;rintro w1 ⟨hP1,hf1⟩;have hF1:=hF0.trans hf1 Yhc;have hs1:=hf1.size
 have hbz:=hbz.tr hf1 Yhe
 refine rx ?_
 refine c_loopK 4 [] (σ:=Nat×List Rf.Op×List Tk) (fun s g u=>PS bd u p n s.2.2/\Fr [p,z] w u/\w1.heap.size<=u.heap.size/\s.2.1.length+s.1<=1000000/\s.1<=f/\pOpGo n s.1 s.2.1 s.2.2=some (A,r2)/\∃v,Blk u z [z0,z1,z2,z3,z4,z5,z6,z7,z8,z9,z10,z11,z12,z13,z14,z15,z16,z17,z18,z19,z20,z21,z22,z23,z24,z25,z26,z27,z28,z29,z30,z31,z32,z33,z34,z35,z36,v,z38,z39,z40,z41,z42,z43,z44] 105/\LS (rg w) u 179 3 opC s.2.1 v) (fun s=>s.1) (f,[],r1) ⟨hP1,hF1,Nat.le_refl _,by simpa using hf,Nat.le_refl _,h2,_,hbz,LS.nil⟩ ?_
 clear hP0 hP1 hF0 hF1 hbz
 rintro⟨f',a,r4⟩ g w2 ⟨hP2,hF2,hs2,hla,hff,hit,v,hbz,hL⟩
 simp only at hP2 hF2 hla hff hit hL
 have hpX:p∈rg w:=rg_mem.2 hpw
 cases f' with
 |zero=>simp[pOpGo]at hit
 |succ f'=>
 simp only[pOpGo]at hit
 refine rx ?_
 cases hc:isT [111,112] r4 with
 |false=>
  simp only[hc,Bool.false_eq_true,if_false,Option.some.injEq,Prod.mk.injEq]at hit
  obtain⟨rfl,rfl⟩:=hit
  refine s_cE (pSkip [111,112] p n _ _ hP2) ?_;rintro w3 ⟨hP3,hf3⟩;have hF3:=hF2.trans hf3 Yhc;have hs3:=hf3.size
  simp only[hc,nextP,Bool.false_eq_true,if_false]at hP3
  have hbz:=hbz.tr hf3 Yhe
  have hL:=hL.keep hf3 (one_in hpX)
  refine rx ?_
  rw[hc]
  refine rx ?_
  refine s_cE (cTake hP3 h3) ?_;rintro w4 ⟨hP4,hf4⟩;have hF4:=hF3.trans hf4 Yhc;have hs4:=hf4.size
  have hbz:=hbz.tr hf4 Yhe
  have hL:=hL.keep hf4 (one_in hpX)
  refine rx ?_
  exact end0 rfl ⟨rfl,⟨_,hbz,hL.dr opC_len Yhd⟩,hP4,hF4⟩
 |true=>
  simp only[hc,if_true]at hit
  obtain⟨⟨t,r5⟩,g1,hit⟩:=bind_some hit
  obtain⟨⟨ps,r6⟩,g2,hit⟩:=bind_some hit
  obtain⟨r7,g3,hit⟩:=bind_some hit
  obtain⟨⟨as_,r8⟩,g4,hit⟩:=bind_some hit
  obtain⟨r9,g5,hit⟩:=bind_some hit
  refine s_cE (pSkip [111,112] p n _ _ hP2) ?_;rintro w3 ⟨hP3,hf3⟩;have hF3:=hF2.trans hf3 Yhc;have hs3:=hf3.size
  simp only[hc,nextP,if_true]at hP3
  have hbz:=hbz.tr hf3 Yhe
  have hL:=hL.keep hf3 (one_in hpX)
  refine rx ?_
  rw[hc]
  refine rx ?_
  refine s_cE (cTok hP3 g1) ?_;rintro w4 ⟨hP4,hf4⟩;have hF4:=hF3.trans hf4 Yhc;have hs4:=hf4.size
  have hbz:=hbz.tr hf4 Yhe
  have hL:=hL.keep hf4 (one_in hpX)
  refine Yer ?_
  refine s_build [.string (bst t.text),zS,zS] rfl ?_
  refine s_var (l:=[zT,zS,zS]) (cs:=[.string (bst t.text),zS,zS]) rfl rfl rfl Yhk rfl (fun v=>rfl) (fun w5 c hqc hbc hf5 hs5=>?_);have hP5:=hP4.tr0 hf5;have hF5:=hF4.trans0 hf5
  have hbz:=hbz.tr hf5 Yhe
  have hL:=(hL.mono (Y:=c::rg w) (in_cons Yhd)).tr0 hf5
  have hcX:c∈c::rg w:=by simp
  have hpX:p∈c::rg w:=List.mem_cons_of_mem _ hpX
  have hXw:∀b,b<w.heap.size->b∈c::rg w:=fun b hb=>List.mem_cons_of_mem _ (rg_mem.2 hb)
  have hXs:∀b∈c::rg w,b<w5.heap.size:=fun b hb=>by
   rcases List.mem_cons.1 hb with rfl|hb
   .exact hbc.lt
   .have:=rg_mem.1 hb;omega
  have hz1:=hL.lt
  have hz:∀b∈c::rg w,b<w5.heap.size:=hXs
  refine rx ?_
  refine s_call ((pParamsC f' Yhd) bd p n _ _ _ _ hP5 g2) rfl ?_;rintro _ w6 ⟨_,rfl,hd,hP6,hf6⟩;obtain⟨aoD,cD,rfl,hcD⟩:=DR.slice hd;refine⟨_,rfl,?_⟩;have hF6:=hF5.trans hf6 Yhc;have hs6:=hf6.size
  have hbz:=hbz.tr hf6 Yhe
  have hbc:=hbc.tr hf6 Yhe
  have hL:=hL.keep hf6 (one_in hpX)
  refine rx ?_
  ((with_reducible apply s_storeB);exact rfl;(conv=>lhs;whnf);exact rfl;exact hbc;exact rfl)
  intro w7 hbc hf7 hs7
  replace hbc:Blk w7 c [.string (bst t.text),.slice aoD (ps.map pmC).length cD,zS] 179:=hbc
  have hP7:=hP6.tr hf7 Yhj;have hF7:=hF6.trans hf7 (fun x hx=>.inr Yhg)
  have hbz:=hbz.tr hf7 Yhe
  have hL:=hL.keep hf7 (one_in hcX)
  have hd:=hd.old hf7 (in_rg Yhd)
  refine rx ?_
  refine s_cE (cTake hP7 g3) ?_;rintro w8 ⟨hP8,hf8⟩;have hF8:=hF7.trans hf8 Yhc;have hs8:=hf8.size
  have hbz:=hbz.tr hf8 Yhe
  have hbc:=hbc.tr hf8 Yhe
  have hL:=hL.keep hf8 (one_in hpX)
  have hd:=hd.old hf8 (in_rg Yhd)
  refine rx ?_
  refine c_loopK 5 [] (σ:=Nat×List Ac×List Tk) (fun s g u=>PS bd u p n s.2.2/\Fr [p,z] w u/\w8.heap.size<=u.heap.size/\s.2.1.length+s.1<=1000000/\s.1<=f'/\pAcGo n s.1 s.2.1 s.2.2=some (as_,r8)/\Blk u z [z0,z1,z2,z3,z4,z5,z6,z7,z8,z9,z10,z11,z12,z13,z14,z15,z16,z17,z18,z19,z20,z21,z22,z23,z24,z25,z26,z27,z28,z29,z30,z31,z32,z33,z34,z35,z36,v,z38,z39,z40,z41,z42,z43,z44] 105/\∃v2,Blk u c [.string (bst t.text),.slice aoD (ps.map pmC).length cD,v2] 179/\LS (rg w5) u 181 14 acC s.2.1 v2/\LS ((c::rg w)++blks v2) u 179 3 opC a v/\DR u (rg w5++blks v2) (.l (ps.map pmC)) (.slice aoD (ps.map pmC).length cD)) (fun s=>s.1) (f',[],r7) ⟨hP8,hF8,Nat.le_refl _,by simp only[List.length_nil];omega,Nat.le_refl _,g4,hbz,zS,hbc,LS.nil,hL.mono (fun b hb=>.inl Yjv),hd.mono (fun b hb=>.inl Yjv)⟩ ?_
  clear hP2 hP3 hP4 hP5 hP6 hP7 hP8 hF2 hF3 hF4 hF5 hF6 hF7 hF8 hbz hL hd hbc
  rintro⟨f2,as2,q4⟩ g w9 ⟨hP9,hF9,hs9,hla2,hff2,hit2,hbz,v2,hbc,hL2,hL,hd⟩
  simp only at hP9 hF9 hla2 hff2 hit2 hL2
  have hp5:p∈rg w5:=rg_mem.2 Yhd
  have hc5:c∈rg w5:=rg_mem.2 Yhd
  cases f2 with
  |zero=>simp[pAcGo]at hit2
  |succ f2=>
  simp only[pAcGo]at hit2
  refine rx ?_
  cases hs:isT [115,116,101,112] q4 with
  |false=>
   simp only[hs,Bool.false_eq_true,if_false,Option.some.injEq,Prod.mk.injEq]at hit2
   obtain⟨rfl,rfl⟩:=hit2
   refine s_cE (pSkip [115,116,101,112] p n _ _ hP9) ?_;rintro w10 ⟨hP10,hf10⟩;have hF10:=hF9.trans hf10 Yhc;have hs10:=hf10.size
   simp only[hs,nextP,Bool.false_eq_true,if_false]at hP10
   have hbz:=hbz.tr hf10 Yhe
   have hbc:=hbc.tr hf10 Yhe
   have hL:=hL.keep hf10 (one_in Yjh)
   have hL2:=hL2.keep hf10 (one_in Yiv)
   have hd:=hd.old hf10 (one_in Yiv)
   refine rx ?_
   rw[hs]
   refine rx ?_
   refine s_cE (cTake hP10 g5) ?_;rintro w11 ⟨hP11,hf11⟩;have hF11:=hF10.trans hf11 Yhc;have hs11:=hf11.size
   have hbz:=hbz.tr hf11 Yhe
   have hbc:=hbc.tr hf11 Yhe
   have hL:=hL.keep hf11 (one_in Yjh)
   have hL2:=hL2.keep hf11 (one_in Yiv)
   have hd:=hd.old hf11 (one_in Yiv)
   obtain⟨aoA,cA,rfl⟩:=hL2.slice
   have hL:=hL.mono (Y:=c::rg w) (fun b hb=>.inl (List.mem_append_left _ hb))
   have hd:=hd.mono (T:=rg w5) (fun b hb=>.inl (List.mem_append_left _ hb))
   have hd2:=hL2.dr acC_len Yhd
   have hdr:RD w11 (rg w5) (opC ⟨bst t.text,ps,as2⟩) [.string (bst t.text),.slice aoD (ps.map pmC).length cD,.slice aoA as2.length cA]:=.cons (.c rfl) (.cons hd (.cons hd2 .nil))
   obtain⟨ao3,k3,rfl⟩:=hL.slice
   refine rx ?_
   ((refine u_begin 10 (fun y=>Blk y c [.string (bst t.text),.slice aoD (ps.map pmC).length cD,.slice aoA as2.length cA] 179/\Blk y z [z0,z1,z2,z3,z4,z5,z6,z7,z8,z9,z10,z11,z12,z13,z14,z15,z16,z17,z18,z19,z20,z21,z22,z23,z24,z25,z26,z27,z28,z29,z30,z31,z32,z33,z34,z35,z36,.slice ao3 a.length k3,z38,z39,z40,z41,z42,z43,z44] 105) Yhf rfl ?_);obtain⟨w12,hw12⟩:=exq w11.drew;rw[<-hw12];have hf12:Fr [] w11 w12:=hw12▸Fr.drew _ _;have hP12:=hP11.tr0 hf12;have hF12:=hF11.trans0 hf12;have hs12:=hf12.size)
   have hbz:=hbz.tr hf12 Yhe
   have hbc:=hbc.tr hf12 Yhe
   have hL:=hL.keep hf12 Yhi
   have hdr:=hdr.tr0 hf12
   ((refine u_tx 0 (And.intro hbc hbz) ?_);(refine u_tx 1 (And.intro hbc hbz) ?_);(refine u_tx 2 (And.intro hbc hbz) ?_);(refine u_tx 3 (And.intro hbc hbz) ?_);(refine u_tx 4 (And.intro hbc hbz) ?_))
   refine u_tx 5 (And.intro hbc hbz) ?_ (hrun:=Yii)
   refine u_one (i:=6) rfl Yhf ?_
   refine s_rows1 rfl rfl rfl (fun w13 k5 hk5 ho hf13 hs13=>?_)
   have hP13:=hP12.tr0 hf13;have hF13:=hF12.trans0 hf13
   have hbz:=hbz.tr hf13 Yhe
   have hbc:=hbc.tr hf13 Yhe
   have hL:=hL.keep hf13 Yhi
   have hdr:=hdr.tr0 hf13
   refine Yez ?_
   refine s_appL hL opC_len rfl rfl ho.src hdr (fun b hb=>.inl (rg_mem.2 (hb.elim (hz1 b) (hz b)))) Yhl Yhd (fun b hb=>Nat.lt_of_lt_of_le (hXs b hb) Yhd) (fun v' w14 hL' hf14 hk14=>?_);have hge14:=LS.ge hL (w0:=w) hXw;have hP14:=hP13.tr hf14 (fun k hk=>Nat.le_trans hbd (hge14 k hk));have hF14:=hF13.trans hf14 (fun k hk=>.inr (hge14 k hk));have hs14:=hf14.size
   have hbz:=hbz.tr hf14 (fun h=>hL.2 _ h (hXw z hzw))
   have hbc:=hbc.tr hf14 (fun h=>hL.2 _ h hcX)
   have h1c:=hL'.1.one
   refine Yet ?_
   ((refine u_tx 9 (And.intro hbc hbz) ?_))
   refine Yge ?_
   ((with_reducible apply s_storeB);exact rfl;(conv=>lhs;whnf);exact h1c;exact hbz;exact rfl)
   intro w15 hbz hf15 hs15
   replace hbz:Blk w15 z [z0,z1,z2,z3,z4,z5,z6,z7,z8,z9,z10,z11,z12,z13,z14,z15,z16,z17,z18,z19,z20,z21,z22,z23,z24,z25,z26,z27,z28,z29,z30,z31,z32,z33,z34,z35,z36,v',z38,z39,z40,z41,z42,z43,z44] 105:=hbz
   have hP15:=hP14.tr hf15 Yhj
   have hF15:=hF14.trans hf15 (fun x hx=>.inl Yie)
   have hL:=(hL'.keep hf15 (one_in (hXw z hzw))).mono (Y:=rg w) (fun b hb=>.inl Yhy)
   refine Yeo ?_
   refine q_roundK (f',a++[⟨bst t.text,ps,as2⟩],r9) Yhb ?_ ?_
   .refine ⟨hP15,hF15,?_,?_,?_,hit,_,hbz,hL⟩
    .omega
    . (simp only[List.length_append,List.length_cons,List.length_nil]<;>omega)
    .simp only;omega
   .simp only;omega
  |true=>
   simp only[hs,if_true]at hit2
   obtain⟨⟨e1,q5⟩,k1,hit2⟩:=bind_some hit2
   obtain⟨q6,k2,hit2⟩:=bind_some hit2
   obtain⟨⟨e2,q7⟩,k3,hit2⟩:=bind_some hit2
   obtain⟨q8,k4,hit2⟩:=bind_some hit2
   refine s_cE (pSkip [115,116,101,112] p n _ _ hP9) ?_;rintro w10 ⟨hP10,hf10⟩;have hF10:=hF9.trans hf10 Yhc;have hs10:=hf10.size
   simp only[hs,nextP,if_true]at hP10
   have hbz:=hbz.tr hf10 Yhe
   have hbc:=hbc.tr hf10 Yhe
   have hL:=hL.keep hf10 (one_in Yjh)
   have hL2:=hL2.keep hf10 (one_in Yiv)
   have hd:=hd.old hf10 (one_in Yiv)
   refine rx ?_
   rw[hs]
   refine rx ?_
   have hlt2:=hL2.lt
   refine s_c1 ((exI f2 Yhd).expr bd p n _ _ _ _ hP10 k1) ?_;rintro csE w11 ⟨hdE,hP11,hf11⟩;have hF11:=hF10.trans hf11 Yhc;have hs11:=hf11.size
   have hbz:=hbz.tr hf11 Yhe
   have hbc:=hbc.tr hf11 Yhe
   have hL:=hL.keep hf11 (one_in Yjh)
   have hL2:=hL2.keep hf11 (one_in Yiv)
   have hd:=hd.old hf11 (one_in Yiv)
   obtain⟨sEa,sEb,sEc,rfl,hkEa,hkEb,hkEc⟩:=exR.1 hdE
   obtain⟨aoEa,cEa,rfl,_⟩:=DR.slice (rows:=_) hkEa
   obtain⟨aoEb,cEb,rfl,_⟩:=hkEb.slice
   obtain⟨aoEc,cEc,rfl,_⟩:=hkEc.slice
   refine rx ?_
   refine s_build [iV e1.kind,.string e1.name,iV e1.n,.slice aoEa (e1.names.map strR).length cEa,.slice aoEb (e1.binds.map strsR).length cEb,.slice aoEc (e1.kids.map exC).length cEc,iV e1.at_,zI,zT,zI,zS,zS,zS,zI] rfl ?_
   refine s_var (l:=[zI,zT,zI,zS,zS,zS,zI,zI,zT,zI,zS,zS,zS,zI]) (cs:=[iV e1.kind,.string e1.name,iV e1.n,.slice aoEa (e1.names.map strR).length cEa,.slice aoEb (e1.binds.map strsR).length cEb,.slice aoEc (e1.kids.map exC).length cEc,iV e1.at_,zI,zT,zI,zS,zS,zS,zI]) rfl rfl rfl Yhk rfl (fun v=>rfl) (fun w12 y hqy hby hf12 hs12=>?_);have hP12:=hP11.tr0 hf12;have hF12:=hF11.trans0 hf12
   have hbz:=hbz.tr hf12 Yhe
   have hbc:=hbc.tr hf12 Yhe
   have hL:=(hL.mono (in_cons (a:=y) Yhd)).tr0 hf12
   have hL2:=(hL2.mono (in_cons (a:=y) Yhd)).tr0 hf12
   have hd:=(hd.mono (in_cons (a:=y) Yhd)).tr0 hf12
   have hdE:=(hdE.mono (in_cons (a:=y) Yhd)).tr0 hf12
   refine rx ?_
   refine s_cE (cTake hP12 k2) ?_;rintro w13 ⟨hP13,hf13⟩;have hF13:=hF12.trans hf13 Yhc;have hs13:=hf13.size
   have hby:=hby.tr hf13 Yhe
   have hbz:=hbz.tr hf13 Yhe
   have hbc:=hbc.tr hf13 Yhe
   have hL:=hL.keep hf13 (one_in Yjh)
   have hL2:=hL2.keep hf13 (one_in Yiv)
   have hd:=hd.old hf13 (one_in Yiv)
   have hdE:=hdE.old hf13 (one_in (by simp[rg_mem];omega))
   refine rx ?_
   refine s_c1 ((exI f2 Yhd).expr bd p n _ _ _ _ hP13 k3) ?_;rintro csG w14 ⟨hdG,hP14,hf14⟩;have hF14:=hF13.trans hf14 Yhc;have hs14:=hf14.size
   have hby:=hby.tr hf14 Yhe
   have hbz:=hbz.tr hf14 Yhe
   have hbc:=hbc.tr hf14 Yhe
   have hL:=hL.keep hf14 (one_in Yjh)
   have hL2:=hL2.keep hf14 (one_in Yiv)
   have hd:=hd.old hf14 (one_in Yiv)
   have hdE:=hdE.old hf14 (one_in (by simp[rg_mem];omega))
   obtain⟨sGa,sGb,sGc,rfl,hkGa,hkGb,hkGc⟩:=exR.1 hdG
   obtain⟨aoGa,cGa,rfl,_⟩:=DR.slice (rows:=_) hkGa
   obtain⟨aoGb,cGb,rfl,_⟩:=hkGb.slice
   obtain⟨aoGc,cGc,rfl,_⟩:=hkGc.slice
   refine rx ?_
   refine s_storeSubB (cs:=[iV e2.kind,.string e2.name,iV e2.n,.slice aoGa (e2.names.map strR).length cGa,.slice aoGb (e2.binds.map strsR).length cGb,.slice aoGc (e2.kids.map exC).length cGc,iV e2.at_]) rfl rfl hby Yhk Yhi rfl (fun w15 hby hf15 hs15=>?_)
   replace hby:Blk w15 y [iV e1.kind,.string e1.name,iV e1.n,.slice aoEa (e1.names.map strR).length cEa,.slice aoEb (e1.binds.map strsR).length cEb,.slice aoEc (e1.kids.map exC).length cEc,iV e1.at_,iV e2.kind,.string e2.name,iV e2.n,.slice aoGa (e2.names.map strR).length cGa,.slice aoGb (e2.binds.map strsR).length cGb,.slice aoGc (e2.kids.map exC).length cGc,iV e2.at_] 181:=hby
   have hP15:=hP14.tr hf15 Yhj;have hF15:=hF14.trans hf15 (fun x hx=>.inr Yhg)
   have hbz:=hbz.tr hf15 Yhe
   have hbc:=hbc.tr hf15 Yhe
   have hL:=hL.keep hf15 (one_in Yhi)
   have hL2:=hL2.keep hf15 (one_in Yhi)
   have hd:=hd.old hf15 (one_in Yhi)
   have hdE:=hdE.old hf15 (one_in Yhi)
   have hdG:=hdG.old hf15 (in_rg Yhd)
   refine rx ?_
   refine s_cE (cTake hP15 k4) ?_;rintro w16 ⟨hP16,hf16⟩;have hF16:=hF15.trans hf16 Yhc;have hs16:=hf16.size
   have hby:=hby.tr hf16 Yhe
   have hbz:=hbz.tr hf16 Yhe
   have hbc:=hbc.tr hf16 Yhe
   have hL:=hL.keep hf16 (one_in Yjh)
   have hL2:=hL2.keep hf16 (one_in Yiv)
   have hd:=hd.old hf16 (one_in Yiv)
   have hdE:=hdE.old hf16 (one_in (by simp[rg_mem];omega))
   have hdG:=hdG.old hf16 (in_rg Yhd)
   have hdr:RD w16 (y::rg w10) (acC ⟨e1,e2⟩) [iV e1.kind,.string e1.name,iV e1.n,.slice aoEa (e1.names.map strR).length cEa,.slice aoEb (e1.binds.map strsR).length cEb,.slice aoEc (e1.kids.map exC).length cEc,iV e1.at_,iV e2.kind,.string e2.name,iV e2.n,.slice aoGa (e2.names.map strR).length cGa,.slice aoGb (e2.binds.map strsR).length cGb,.slice aoGc (e2.kids.map exC).length cGc,iV e2.at_]:=hdE.app (hdG.mono (fun b hb=>.inl (rg_mem.2 (by rcases List.mem_cons.1 hb with rfl|hb<;>first|omega|(have:=rg_mem.1 hb;omega)))))
   refine rx ?_
   refine s_pushL hL2 acC_len rfl rfl rfl hdr (fun b hb=>.inl (hb.elim (fun h=>List.mem_cons_of_mem _ (rg_mem.2 (hlt2 b h))) (fun h=>by rcases List.mem_cons.1 h with rfl|h<;>first|(simp;done)|exact List.mem_cons_of_mem _ (rg_mem.2 (by have:=rg_mem.1 h;omega))))) rfl rfl rfl Yhl Yhd (fun b hb=>by rcases List.mem_cons.1 hb with rfl|hb<;>first|omega|(have:=rg_mem.1 hb;omega)) (fun v' w17 hL' hf17 hk17=>?_);have hge17:=LS.ge hL2 (w0:=w) Yib;have hP17:=hP16.tr hf17 (fun k hk=>Nat.le_trans hbd (hge17 k hk));have hF17:=hF16.trans hf17 (fun k hk=>.inr (hge17 k hk));have hs17:=hf17.size
   have hbz:=hbz.tr hf17 (fun h=>hL2.2 _ h (List.mem_cons_of_mem _ (rg_mem.2 Yhd)))
   have hbc:=hbc.tr hf17 (fun h=>hL2.2 _ h (List.mem_cons_of_mem _ hc5))
   have hL:=hL.other (Y:=(c::rg w)++blks v') hf17 Yiw hk17 Yhu
   have hd:=hd.other (Y:=rg w5++blks v') hf17 Yiw hk17 (fun b hb=>by simp at hb ⊢;rcases hb with h|h<;>simp[h])
   have hL2:=hL'.mono (Y:=rg w5) (fun b hb=>.inl Yhy)
   have h1c:=hL2.1.one
   refine rx ?_
   ((with_reducible apply s_storeB);exact rfl;(conv=>lhs;whnf);exact h1c;exact hbc;exact rfl)
   intro w18 hbc hf18 hs18
   replace hbc:Blk w18 c [.string (bst t.text),.slice aoD (ps.map pmC).length cD,v'] 179:=hbc
   have hP18:=hP17.tr hf18 Yhj;have hF18:=hF17.trans hf18 (fun x hx=>.inr Yhg)
   have hbz:=hbz.tr hf18 Yhe
   have hL:=hL.keep hf18 (one_in Yhi)
   have hL2:=hL2.keep hf18 (one_in hc5)
   have hd:=hd.old hf18 (one_in (by simp[hc5]))
   refine rx ?_
   refine q_roundK (f2,as2++[⟨e1,e2⟩],q8) Yhb ?_ ?_
   .refine ⟨hP18,hF18,?_,?_,?_,hit2,hbz,_,hbc,hL2,hL,hd⟩
    .omega
    . (simp only[List.length_append,List.length_cons,List.length_nil]<;>omega)
    .simp only;omega
   .simp only;omega
end Go.Proofs.YtggmccicdhnkgaaGreat
