/-
 The reference's parser:generators.
-/
import Derived.Test.YtmlpcmjmniobdaaGreatZQo
set_option linter.all false
set_option maxHeartbeats 64000000
namespace Go.Proofs.YtmlpcmjmniobdaaGreat
open Go.Proofs.Tryz
open Go.Rf Go.RowKit
attribute [local irreducible] Code.wp wpList Exit.then Exit.inBlock bodyPost A Calls execOp Addr.add
theorem pExprC(f:Nat)(hf:f<=1000000)(ih:∀f'≤f,PC 68 [] (fun n=>pExpr n f') exC)(ihl:PC 117 [iV 1] (fun n=>pLev1 n f) exC):PC 68 [] (fun n=>pExpr n (f+1)) exC:=by
 intro bd p n r w x r' hP hg;simp only[pExpr]at hg;have ihe:=ih f (Nat.le_refl _);refine enter func68 rfl ntmps68 rfl ?_;refine rx ?_;refine s_allocN (l:=[zI,zT,zI,zS,zS,zS,zI]) rfl (fun w0 q hqq hbq hf0 hs0=>?_);have hP0:=hP.tr0 hf0;have hF0:Fr [p] w w0:=hf0.mono Yhs;have hbd:bd<=w.heap.size:=hP.le;have hpw:p<w.heap.size:=Nat.lt_of_lt_of_le hP.lt hbd;refine rx ?_;refine s_cE (pAt p n _ _ hP0) ?_;rintro w1 hf1;have hP1:=hP0.tr0 hf1;have hF1:=hF0.trans0 hf1;have hs1:=hf1.size;have hbq:=hbq.tr hf1 Yho;refine rx ?_;refine s_cE (pSkip [105,102] p n _ _ hP1) ?_;rintro w2 ⟨hP2,hf2⟩;have hF2:=hF1.trans hf2 Yhm;have hs2:=hf2.size;have hbq:=hbq.tr hf2 Yho;cases h1:isT [105,102] r with
 |true=>
  simp only[h1,nextP,if_true]at hg hP2;obtain⟨⟨e1,r1⟩,h2,hg⟩:=bind_some hg;obtain⟨r2,h3,hg⟩:=bind_some hg;obtain⟨⟨e2,r3⟩,h4,hg⟩:=bind_some hg;obtain⟨r4,h5,hg⟩:=bind_some hg;obtain⟨⟨e3,r5⟩,h6,hg⟩:=bind_some hg;simp only[Option.some.injEq,Prod.mk.injEq]at hg;obtain⟨rfl,rfl⟩:=hg;refine rx ?_;refine s_c1 (ihe bd p n _ _ _ _ hP2 h2) ?_;rintro cs1 w3 ⟨hd1,hP3,hf3⟩;have hF3:=hF2.trans hf3 Yhm;have hs3:=hf3.size;have hbq:=hbq.tr hf3 Yho;have hl1:cs1.length=7:=by rw[hd1.len,exC_len]
  refine s_var (l:=[zI,zT,zI,zS,zS,zS,zI]) (cs:=cs1) rfl rfl hl1 hd1.one rfl (fun v=>rfl) (fun w4 a hqa hba hf4 hs4=>?_);have hP4:=hP3.tr0 hf4;have hF4:=hF3.trans0 hf4;have hbq:=hbq.tr hf4 Yho;have hd1:=RD.keep hd1 hf4 Yho;refine rx ?_;refine s_cE (cTake hP4 h3) ?_;rintro w5 ⟨hP5,hf5⟩;have hF5:=hF4.trans hf5 Yhm;have hs5:=hf5.size;have hbq:=hbq.tr hf5 Yho;have hba:=hba.tr hf5 Yho;have hd1:=RD.keep hd1 hf5 Yho;refine rx ?_;refine s_c1 (ihe bd p n _ _ _ _ hP5 h4) ?_;rintro cs2 w6 ⟨hd2,hP6,hf6⟩;have hF6:=hF5.trans hf6 Yhm;have hs6:=hf6.size;have hbq:=hbq.tr hf6 Yho;have hba:=hba.tr hf6 Yho;have hd1:=RD.keep hd1 hf6 Yho;have hl2:cs2.length=7:=by rw[hd2.len,exC_len]
  refine s_var (l:=[zI,zT,zI,zS,zS,zS,zI]) (cs:=cs2) rfl rfl hl2 hd2.one rfl (fun v=>rfl) (fun w7 b hqb hbb hf7 hs7=>?_);have hP7:=hP6.tr0 hf7;have hF7:=hF6.trans0 hf7;have hbq:=hbq.tr hf7 Yho;have hba:=hba.tr hf7 Yho;have hd1:=RD.keep hd1 hf7 Yho;have hd2:=RD.keep hd2 hf7 Yho;refine rx ?_;refine s_cE (cTake hP7 h5) ?_;rintro w8 ⟨hP8,hf8⟩;have hF8:=hF7.trans hf8 Yhm;have hs8:=hf8.size;have hbq:=hbq.tr hf8 Yho;have hba:=hba.tr hf8 Yho;have hbb:=hbb.tr hf8 Yho;have hd1:=RD.keep hd1 hf8 Yho;have hd2:=RD.keep hd2 hf8 Yho;refine rx ?_
  ((refine d_begin (fun z=>Fr [p,q] w8 z) Yhp rfl ?_);obtain⟨w9,hw9⟩:=exq w8.drew;rw[<-hw9];have hf9:Fr [] w8 w9:=hw9▸Fr.drew _ _;have hS9:Fr [p,q] w8 w9:=hf9.mono Yhs;have hP9:=hP8.tr0 hf9;have hF9:=hF8.trans0 hf9;have hs9:=hf9.size)
  refine d_z 0 hS9 ?_;refine d_tx 1 hS9 ?_ (hrun:=by(intro u hu;exact(r_loadC rfl (Cells.ofBlk (hba.tr hu Yho)) hl1)));refine d_tx 2 hS9 ?_ (hrun:=by(intro u hu;exact(r_loadC rfl (Cells.ofBlk (hbb.tr hu Yho)) hl2)));refine d_z 3 hS9 ?_;have hbq:=hbq.tr hf9 Yho;have hd1:=RD.keep hd1 hf9 Yho;have hd2:=RD.keep hd2 hf9 Yho;refine d_one (i:=4) rfl Yhp ?_;refine s_c1 (ihe bd p n _ _ _ _ hP9 h6) ?_;rintro cs3 w10 ⟨hd3,hP10,hf10⟩;have hF10:=hF9.trans hf10 Yhm;have hs10:=hf10.size;have hl3:cs3.length=7:=by rw[hd3.len,exC_len]
  have hbq:=hbq.tr hf10 Yho;have hd1:=RD.keep hd1 hf10 Yho;have hd2:=RD.keep hd2 hf10 Yho;have hS10:=hS9.trans hf10 Yhs;refine wpList_nil (q_held hS10 ?_);refine d_one (i:=5) rfl Yhp ?_;refine s_rows3 rfl rfl rfl hl1 hl2 hl3 rfl (fun w11 k hk ho hf11 hs11=>?_);have hP11:=hP10.tr0 hf11;have hF11:=hF10.trans0 hf11;have hbq:=hbq.tr hf11 Yho;have hd1:=RD.keep hd1 hf11 Yho;have hd2:=RD.keep hd2 hf11 Yho;have hd3:=RD.keep hd3 hf11 Yho;have hS11:=hS10.trans hf11 Yhs;refine wpList_nil (q_held hS11 ?_);refine d_tx 6 hS11 ?_ (v:=.agg ([iV 6,zT,zI,zS,zS,.slice (some ⟨k,0,none⟩) 3 3,iV (atT n r)]).toArray) (hrun:=by(intro u hu;exact r_build ([iV 6,zT,zI,zS,zS,.slice (some ⟨k,0,none⟩) 3 3,iV (atT n r)]) Yik));have hd:RD w11 (rg w0) (exC ⟨6,bst [],0,[],[],[e1,e2,e3],atT n r⟩) [iV 6,zT,zI,zS,zS,.slice (some ⟨k,0,none⟩) 3 3,iV (atT n r)]:=
   exR.2 ⟨_,_,_,rfl,.nil,.nil,drOwn (rows:=[exC e1,exC e2,exC e3]) ho (by rw[List.append_assoc];exact .cons (hd1.down Yhn) (.cons (hd2.down Yhn) (.one (hd3.down Yhn)))) (by simp[exC_len]) Yhs Yig⟩
  refine d_one (i:=7) rfl Yhp ?_;refine s_storeAggB (cs:=[iV 6,zT,zI,zS,zS,.slice (some ⟨k,0,none⟩) 3 3,iV (atT n r)]) rfl rfl hbq Yhu rfl rfl (fun u hu hfu hsu=>?_);refine wpList_nil (q_held (hS11.trans hfu Yhs) ?_);(refine d_done Yhp ?_);refine rx ?_;exact retB rfl rfl hu rfl (outC (w0:=w0) hqq Yhn Yhn Yhn hP11 hF11 hfu hd)
 |false=>
 simp only[h1,nextP,Bool.false_eq_true,if_false]at hg hP2;refine rx ?_;refine s_cE (pSkip [108,101,116] p n _ _ hP2) ?_;rintro w3 ⟨hP3,hf3⟩;have hF3:=hF2.trans hf3 Yhm;have hs3:=hf3.size;have hbq:=hbq.tr hf3 Yho;cases h2:isT [108,101,116] r with
 |true=>
  simp only[h2,nextP,if_true]at hg hP3;obtain⟨⟨t,r1⟩,h3,hg⟩:=bind_some hg;obtain⟨r2,h4,hg⟩:=bind_some hg;obtain⟨⟨e1,r3⟩,h5,hg⟩:=bind_some hg;obtain⟨r4,h6,hg⟩:=bind_some hg;obtain⟨⟨e2,r5⟩,h7,hg⟩:=bind_some hg;simp only[Option.some.injEq,Prod.mk.injEq]at hg;obtain⟨rfl,rfl⟩:=hg;refine rx ?_;refine s_cE (cTok hP3 h3) ?_;rintro w4 ⟨hP4,hf4⟩;have hF4:=hF3.trans hf4 Yhm;have hs4:=hf4.size;have hbq:=hbq.tr hf4 Yho;refine Yex ?_;refine s_cE (cTake hP4 h4) ?_;rintro w5 ⟨hP5,hf5⟩;have hF5:=hF4.trans hf5 Yhm;have hs5:=hf5.size;have hbq:=hbq.tr hf5 Yho;refine rx ?_;refine s_c1 (ihe bd p n _ _ _ _ hP5 h5) ?_;rintro cs1 w6 ⟨hd1,hP6,hf6⟩;have hF6:=hF5.trans hf6 Yhm;have hs6:=hf6.size;have hbq:=hbq.tr hf6 Yho;have hl1:cs1.length=7:=by rw[hd1.len,exC_len]
  refine s_var (l:=[zI,zT,zI,zS,zS,zS,zI]) (cs:=cs1) rfl rfl hl1 hd1.one rfl (fun v=>rfl) (fun w7 a hqa hba hf7 hs7=>?_);have hP7:=hP6.tr0 hf7;have hF7:=hF6.trans0 hf7;have hbq:=hbq.tr hf7 Yho;have hd1:=RD.keep hd1 hf7 Yho;refine rx ?_;refine s_cE (cTake hP7 h6) ?_;rintro w8 ⟨hP8,hf8⟩;have hF8:=hF7.trans hf8 Yhm;have hs8:=hf8.size;have hbq:=hbq.tr hf8 Yho;have hba:=hba.tr hf8 Yho;have hd1:=RD.keep hd1 hf8 Yho;refine rx ?_
  ((refine d_begin (fun z=>Fr [p,q] w8 z) Yhp rfl ?_);obtain⟨w9,hw9⟩:=exq w8.drew;rw[<-hw9];have hf9:Fr [] w8 w9:=hw9▸Fr.drew _ _;have hS9:Fr [p,q] w8 w9:=hf9.mono Yhs;have hP9:=hP8.tr0 hf9;have hF9:=hF8.trans0 hf9;have hs9:=hf9.size)
  refine d_z2 0 1 hS9 ?_;refine d_tx 2 hS9 ?_ (hrun:=by(intro u hu;exact(r_loadC rfl (Cells.ofBlk (hba.tr hu Yho)) hl1)));refine d_z 3 hS9 ?_;have hbq:=hbq.tr hf9 Yho;have hd1:=RD.keep hd1 hf9 Yho;refine d_one (i:=4) rfl Yhp ?_;refine s_c1 (ihe bd p n _ _ _ _ hP9 h7) ?_;rintro cs2 w10 ⟨hd2,hP10,hf10⟩;have hF10:=hF9.trans hf10 Yhm;have hs10:=hf10.size;have hl2:cs2.length=7:=by rw[hd2.len,exC_len]
  have hbq:=hbq.tr hf10 Yho;have hd1:=RD.keep hd1 hf10 Yho;have hS10:=hS9.trans hf10 Yhs;refine wpList_nil (q_held hS10 ?_);refine d_one (i:=5) rfl Yhp ?_;refine s_rows2 rfl rfl hl1 hl2 rfl (fun w11 k hk ho hf11 hs11=>?_);have hP11:=hP10.tr0 hf11;have hF11:=hF10.trans0 hf11;have hbq:=hbq.tr hf11 Yho;have hd1:=RD.keep hd1 hf11 Yho;have hd2:=RD.keep hd2 hf11 Yho;have hS11:=hS10.trans hf11 Yhs;refine wpList_nil (q_held hS11 ?_);refine d_tx 6 hS11 ?_ (v:=.agg ([iV 7,.string (bst t.text),zI,zS,zS,.slice (some ⟨k,0,none⟩) 2 2,iV (atT n r)]).toArray) (hrun:=by(intro u hu;exact r_build ([iV 7,.string (bst t.text),zI,zS,zS,.slice (some ⟨k,0,none⟩) 2 2,iV (atT n r)]) Yik));have hd:RD w11 (rg w0) (exC ⟨7,bst t.text,0,[],[],[e1,e2],atT n r⟩) [iV 7,.string (bst t.text),zI,zS,zS,.slice (some ⟨k,0,none⟩) 2 2,iV (atT n r)]:=
   exR.2 ⟨_,_,_,rfl,.nil,.nil,drOwn (rows:=[exC e1,exC e2]) ho (.cons (hd1.down Yhn) (.one (hd2.down Yhn))) (by simp[exC_len]) Yhs Yig⟩
  refine d_one (i:=7) rfl Yhp ?_;refine s_storeAggB (cs:=[iV 7,.string (bst t.text),zI,zS,zS,.slice (some ⟨k,0,none⟩) 2 2,iV (atT n r)]) rfl rfl hbq Yhu rfl rfl (fun u hu hfu hsu=>?_);refine wpList_nil (q_held (hS11.trans hfu Yhs) ?_);(refine d_done Yhp ?_);refine rx ?_;exact retB rfl rfl hu rfl (outC (w0:=w0) hqq Yhn Yhn Yhn hP11 hF11 hfu hd)
 |false=>
 simp only[h2,nextP,Bool.false_eq_true,if_false]at hg hP3;refine rx ?_;refine s_cE (pSkip [109,97,116,99,104] p n _ _ hP3) ?_;rintro w4 ⟨hP4,hf4⟩;have hF4:=hF3.trans hf4 Yhm;have hs4:=hf4.size;have hbq:=hbq.tr hf4 Yho;cases h3:isT [109,97,116,99,104] r with
 |true=>
  simp only[h3,nextP,if_true]at hg hP4;have h4:pMatchF (atT n r) f n r.tail=some (x,r'):=hg;refine rx ?_;refine s_c1 ((pMatchC (atT n r) f hf ih) bd p n _ _ _ _ hP4 h4) ?_;rintro cs w5 ⟨hd,hP5,hf5⟩;have hF5:=hF4.trans hf5 Yhm;have hs5:=hf5.size;have hbq:=hbq.tr hf5 Yho;have hl:cs.length=7:=by rw[hd.len,exC_len]
  refine s_storeAggB (cs:=cs) rfl rfl hbq hd.one rfl hl (fun u hu hfu hsu=>?_);refine rx ?_;exact retB rfl rfl hu hl (outC (w0:=w0) hqq Yhn Yhn Yhn hP5 hF5 hfu (hd.down Yhn))
 |false=>
 simp only[h3,nextP,Bool.false_eq_true,if_false]at hg hP4;refine rx ?_;refine s_c1 (ihl bd p n _ _ _ _ hP4 hg) ?_;rintro cs w5 ⟨hd,hP5,hf5⟩;have hF5:=hF4.trans hf5 Yhm;have hs5:=hf5.size;have hbq:=hbq.tr hf5 Yho;have hl:cs.length=7:=by rw[hd.len,exC_len]
 refine s_storeAggB (cs:=cs) rfl rfl hbq hd.one rfl hl (fun u hu hfu hsu=>?_);refine rx ?_;exact retB rfl rfl hu hl (outC (w0:=w0) hqq Yhn Yhn Yhn hP5 hF5 hfu (hd.down Yhn))
structure ExI (f:Nat):Prop where
 expr:PC 68 [] (fun n=>pExpr n f) exC
 lev:∀k:Nat,1<=k->k<=7->PC 117 [iV (k:Int)] (fun n=>levF k n f) exC
 opnd:PC 208 [] (fun n=>pOpnd n f) exC
 exprs:∀e,PL 206 [.string (bst e)] (fun n=>pExprs n f e) (fun l=>l.map exC)
theorem exI0:ExI 0 where
 expr:=fun bd p n r w x r' hP hg=>by simp[pExpr]at hg
 lev:=fun k h1 h7 bd p n r w x r' hP hg=>by
  have hk:k=1\/k=2\/k=3\/k=4\/k=5\/k=6\/k=7:=by omega
  rcases hk with rfl|rfl|rfl|rfl|rfl|rfl|rfl<;>simp[levF,pLev1,pLev2,pLev3,pLev4,pLev5,pLev6,pOpnd]at hg
 opnd:=fun bd p n r w x r' hP hg=>by simp[pOpnd]at hg
 exprs:=fun e bd p n r w x r' hP hg=>by simp[pExprs]at hg
theorem exIS(f:Nat)(hf:f+1<=1000000)(ih:∀f'≤f,ExI f'):ExI (f+1):=by
 have ho:=pOpndC f (ih f (Nat.le_refl _)).expr (ih f (Nat.le_refl _)).exprs;refine⟨pExprC f Yhn (fun f' h=>(ih f' h).expr) ((ih f (Nat.le_refl _)).lev 1 Yhn Yhn),fun k h1 h7=>?_,ho,fun e=>pExprsC f hf (fun f' h=>(ih f' Yhn).expr) e⟩;have hk:k=1\/k=2\/k=3\/k=4\/k=5\/k=6\/k=7:=by omega
 rcases hk with rfl|rfl|rfl|rfl|rfl|rfl|rfl
 .exact pLevG 1 Yhn f (fun f' h=>(ih f' h).lev 2 Yhn Yhn)
 .exact pLevG 2 Yhn f (fun f' h=>(ih f' h).lev 3 Yhn Yhn)
 .exact pLev3C f ((ih f (Nat.le_refl _)).lev 3 Yhn Yhn) ((ih f (Nat.le_refl _)).lev 4 Yhn Yhn)
 .exact pLevG4 f ((ih f (Nat.le_refl _)).lev 5 Yhn Yhn)
 .exact pLevG 5 Yhn f (fun f' h=>(ih f' h).lev 6 Yhn Yhn)
 .exact pLevG 6 Yhn f (fun f' h=>(ih f' h).lev 7 Yhn Yhn)
 .exact pLev7C (f+1) ho
theorem exI:∀f,f<=1000000->ExI f:=by
 intro f
 induction f using Nat.strongRecOn with
 |_ f ih=>
  intro hf;cases f with
  |zero=>exact exI0
  |succ f=>exact exIS f hf (fun f' h=>ih f' Yhn Yhn)
theorem pGenC(f:Nat)(hf:f<=1000000)(ihg:PC 67 [] (fun n=>pGen n f) gnC)(ihp:PC 115 [] (fun n=>pPart n f) gnC):PC 67 [] (fun n=>pGen n (f+1)) gnC:=by
 intro bd p n r w x r' hP hg;simp only[pGen]at hg;refine enter func67 rfl ntmps67 rfl ?_;refine rx ?_;refine s_allocN (l:=[zI,zT,zS,zS,zS,zI]) rfl (fun w0 q hqq hbq hf0 hs0=>?_);have hP0:=hP.tr0 hf0;have hF0:Fr [p] w w0:=hf0.mono Yhs;have hbd:bd<=w.heap.size:=hP.le;have hpw:p<w.heap.size:=Nat.lt_of_lt_of_le hP.lt hbd;refine rx ?_;refine s_cE (pAt p n _ _ hP0) ?_;rintro w1 hf1;have hP1:=hP0.tr0 hf1;have hF1:=hF0.trans0 hf1;have hs1:=hf1.size;have hbq:=hbq.tr hf1 Yho;refine rx ?_;refine s_cE (pSkip [108,101,116] p n _ _ hP1) ?_;rintro w2 ⟨hP2,hf2⟩;have hF2:=hF1.trans hf2 Yhm;have hs2:=hf2.size;have hbq:=hbq.tr hf2 Yho;cases h1:isT [108,101,116] r with
 |true=>
  simp only[h1,nextP,if_true]at hg hP2;obtain⟨⟨t,r1⟩,h3,hg⟩:=bind_some hg;obtain⟨r2,h4,hg⟩:=bind_some hg;obtain⟨⟨e1,r3⟩,h5,hg⟩:=bind_some hg;obtain⟨r4,h6,hg⟩:=bind_some hg;obtain⟨⟨e2,r5⟩,h7,hg⟩:=bind_some hg;simp only[Option.some.injEq,Prod.mk.injEq]at hg;obtain⟨rfl,rfl⟩:=hg;refine rx ?_;refine s_cE (cTok hP2 h3) ?_;rintro w4 ⟨hP4,hf4⟩;have hF4:=hF2.trans hf4 Yhm;have hs4:=hf4.size;have hbq:=hbq.tr hf4 Yho;refine Yex ?_;refine s_cE (cTake hP4 h4) ?_;rintro w5 ⟨hP5,hf5⟩;have hF5:=hF4.trans hf5 Yhm;have hs5:=hf5.size;have hbq:=hbq.tr hf5 Yho;refine rx ?_;refine s_c1 (ihg bd p n _ _ _ _ hP5 h5) ?_;rintro cs1 w6 ⟨hd1,hP6,hf6⟩;have hF6:=hF5.trans hf6 Yhm;have hs6:=hf6.size;have hbq:=hbq.tr hf6 Yho;have hl1:cs1.length=6:=by rw[hd1.len,gnC_len]
  refine s_var (l:=[zI,zT,zS,zS,zS,zI]) (cs:=cs1) rfl rfl hl1 hd1.one rfl (fun v=>rfl) (fun w7 a hqa hba hf7 hs7=>?_);have hP7:=hP6.tr0 hf7;have hF7:=hF6.trans0 hf7;have hbq:=hbq.tr hf7 Yho;have hd1:=RD.keep hd1 hf7 Yho;refine rx ?_;refine s_cE (cTake hP7 h6) ?_;rintro w8 ⟨hP8,hf8⟩;have hF8:=hF7.trans hf8 Yhm;have hs8:=hf8.size;have hbq:=hbq.tr hf8 Yho;have hba:=hba.tr hf8 Yho;have hd1:=RD.keep hd1 hf8 Yho;refine rx ?_
  ((refine d_begin (fun z=>Fr [p,q] w8 z) Yhp rfl ?_);obtain⟨w9,hw9⟩:=exq w8.drew;rw[<-hw9];have hf9:Fr [] w8 w9:=hw9▸Fr.drew _ _;have hS9:Fr [p,q] w8 w9:=hf9.mono Yhs;have hP9:=hP8.tr0 hf9;have hF9:=hF8.trans0 hf9;have hs9:=hf9.size)
  refine d_z2 0 1 hS9 ?_;refine d_tx 2 hS9 ?_ (hrun:=by(intro u hu;exact(r_loadC rfl (Cells.ofBlk (hba.tr hu Yho)) hl1)));refine d_z 3 hS9 ?_;have hbq:=hbq.tr hf9 Yho;have hd1:=RD.keep hd1 hf9 Yho;refine d_one (i:=4) rfl Yhp ?_;refine s_c1 (ihg bd p n _ _ _ _ hP9 h7) ?_;rintro cs2 w10 ⟨hd2,hP10,hf10⟩;have hF10:=hF9.trans hf10 Yhm;have hs10:=hf10.size;have hl2:cs2.length=6:=by rw[hd2.len,gnC_len]
  have hbq:=hbq.tr hf10 Yho;have hd1:=RD.keep hd1 hf10 Yho;have hS10:=hS9.trans hf10 Yhs;refine wpList_nil (q_held hS10 ?_);refine d_one (i:=5) rfl Yhp ?_;refine s_rows2 rfl rfl hl1 hl2 rfl (fun w11 k hk ho hf11 hs11=>?_);have hP11:=hP10.tr0 hf11;have hF11:=hF10.trans0 hf11;have hbq:=hbq.tr hf11 Yho;have hd1:=RD.keep hd1 hf11 Yho;have hd2:=RD.keep hd2 hf11 Yho;have hS11:=hS10.trans hf11 Yhs;refine wpList_nil (q_held hS11 ?_);refine d_tx 6 hS11 ?_ (v:=.agg ([iV 5,.string (bst t.text),zS,zS,.slice (some ⟨k,0,none⟩) 2 2,iV (atT n r)]).toArray) (hrun:=by(intro u hu;exact r_build ([iV 5,.string (bst t.text),zS,zS,.slice (some ⟨k,0,none⟩) 2 2,iV (atT n r)]) Yik));have hd:RD w11 (rg w0) (gnC ⟨5,bst t.text,[],[],[e1,e2],atT n r⟩) [iV 5,.string (bst t.text),zS,zS,.slice (some ⟨k,0,none⟩) 2 2,iV (atT n r)]:=
   gnR.2 ⟨_,_,_,rfl,.nil,.nil,drOwn (rows:=[gnC e1,gnC e2]) ho (.cons (hd1.down Yhn) (.one (hd2.down Yhn))) (by simp[gnC_len]) Yhs Yig⟩
  refine d_one (i:=7) rfl Yhp ?_;refine s_storeAggB (cs:=[iV 5,.string (bst t.text),zS,zS,.slice (some ⟨k,0,none⟩) 2 2,iV (atT n r)]) rfl rfl hbq Yhu rfl rfl (fun u hu hfu hsu=>?_);refine wpList_nil (q_held (hS11.trans hfu Yhs) ?_);(refine d_done Yhp ?_);refine rx ?_;exact retB rfl rfl hu rfl (outC (w0:=w0) hqq Yhn Yhn Yhn hP11 hF11 hfu hd)
 |false=>
 simp only[h1,nextP,Bool.false_eq_true,if_false]at hg hP2;obtain⟨⟨g1,r1⟩,h2,hg⟩:=bind_some hg;simp only at hg;refine rx ?_;refine s_c1 (ihp bd p n _ _ _ _ hP2 h2) ?_;rintro cs w3 ⟨hd,hP3,hf3⟩;have hF3:=hF2.trans hf3 Yhm;have hs3:=hf3.size;have hbq:=hbq.tr hf3 Yho;have hl:cs.length=6:=by rw[hd.len,gnC_len]
 refine s_var (l:=[zI,zT,zS,zS,zS,zI]) (cs:=cs) rfl rfl hl hd.one rfl (fun v=>rfl) (fun w4 a hqa hba hf4 hs4=>?_);have hP4:=hP3.tr0 hf4;have hF4:=hF3.trans0 hf4;have hd:=hd.tell (Y:=a::rg w2) (in_cons Yhn) hf4;have hbq:=hbq.tr hf4 Yho;refine rx ?_;refine c_loopK 8 [7] (σ:=Nat×Gn×List Tk) (fun s g u=>s.1<=f/\PS bd u p n s.2.2/\Fr [p] w u/\w4.heap.size<=u.heap.size/\Blk u q [zI,zT,zS,zS,zS,zI] 46/\(∃cs,Blk u a cs 46/\RD u (a::rg w2) (gnC s.2.1) cs)/\pWhere n s.1 (atT n r) s.2.1 s.2.2=some (x,r')) (fun s=>s.1) (f,g1,r1) ⟨Nat.le_refl _,hP4,hF4,Nat.le_refl _,hbq,⟨cs,hba,hd⟩,hg⟩ ?_;clear hP hP0 hP1 hP2 hP3 hP4 hF0 hF1 hF2 hF3 hF4 hd hba hbq hl;rintro⟨f',e,r2⟩ g w5 ⟨hff,hP5,hF5,hs5,hbq,⟨cs,hba,hd⟩,hops⟩;simp only at hff hP5 hF5 hs5 hbq hba hd hops;have hl:cs.length=6:=by rw[hd.len,gnC_len]
 cases f' with
 |zero=>simp[pWhere]at hops
 |succ f'=>
 simp only[pWhere]at hops;have haX:a∈a::rg w2:=by simp
 have hpX:∀b∈[p],b∈a::rg w2\/0<=b:=by simp
 have hpX:p∈a::rg w2:=by simp[rg_mem];omega
 refine rx ?_;refine s_cE (pSkip [119,104,101,114,101] p n _ _ hP5) ?_;rintro w6 ⟨hP6,hf6⟩;have hF6:=hF5.trans hf6 Yhm;have hs6:=hf6.size;have hbq:=hbq.tr hf6 Yho;have hba:=hba.tr hf6 Yho;have hd:=hd.old hf6 (one_in hpX);cases h3:isT [119,104,101,114,101] r2 with
 |false=>
  simp only[h3,nextP,Bool.false_eq_true,if_false,Option.some.injEq,Prod.mk.injEq]at hops hP6;obtain⟨rfl,rfl⟩:=hops;refine rx ?_;refine s_loadAggB rfl hba hl ?_;refine s_storeAggB (cs:=cs) rfl rfl hbq hd.one rfl hl (fun u hu hfu hsu=>?_);refine rx ?_;exact retB rfl rfl hu hl (outC (w0:=w0) hqq Yhn Yhn Yhn hP6 hF6 hfu ((hd.mono (T:=rg w2) (fun b hb=>.inl Yii)).down Yhn))
 |true=>
 simp only[h3,nextP,if_true]at hops hP6;obtain⟨⟨t,r3⟩,h4,hops⟩:=bind_some hops;obtain⟨r4,h5,hops⟩:=bind_some hops;obtain⟨⟨e2,r5⟩,h6,hops⟩:=bind_some hops;simp only at hops;refine rx ?_;refine s_cE (cTok hP6 h4) ?_;rintro w7 ⟨hP7,hf7⟩;have hF7:=hF6.trans hf7 Yhm;have hs7:=hf7.size;have hbq:=hbq.tr hf7 Yho;have hba:=hba.tr hf7 Yho;have hd:=hd.old hf7 (one_in hpX);refine Yex ?_;refine s_cE (cTake hP7 h5) ?_;rintro w8 ⟨hP8,hf8⟩;have hF8:=hF7.trans hf8 Yhm;have hs8:=hf8.size;have hbq:=hbq.tr hf8 Yho;have hba:=hba.tr hf8 Yho;have hd:=hd.old hf8 (one_in hpX);refine rx ?_
 ((refine u_begin 8 (fun z=>True/\Blk z a cs 46) Yhp rfl ?_);obtain⟨w9,hw9⟩:=exq w8.drew;rw[<-hw9];have hf9:Fr [] w8 w9:=hw9▸Fr.drew _ _;have hP9:=hP8.tr0 hf9;have hF9:=hF8.trans0 hf9;have hs9:=hf9.size)
 have hbq:=hbq.tr hf9 Yho;have hba:=hba.tr hf9 Yho;have hd:=hd.tr0 hf9
 ((refine u_tx 0 (And.intro trivial hba) ?_);(refine u_tx 1 (And.intro trivial hba) ?_);(refine u_tx 2 (And.intro trivial hba) ?_))
 refine u_tx 5 (And.intro trivial hba) ?_ (hrun:=(by intro u hu;exact(r_loadC rfl (Cells.ofBlk hu.2) hl)));refine u_two (i:=3) (j:=6) rfl rfl Yhp ?_ ?_
 . (refine s_c1 ((exI f' Yhn).expr bd p n _ _ _ _ hP9 h6) ?_;rintro cs2 w10 ⟨hd2,hP10,hf10⟩;have hF10:=hF9.trans hf10 Yhm;have hs10:=hf10.size)
   have hl2:cs2.length=7:=by rw[hd2.len,exC_len]
   have hbq:=hbq.tr hf10 Yho;have hba:=hba.tr hf10 Yho;have hd:=hd.old hf10 (one_in hpX);refine Ygs ?_;refine u_two (i:=4) (j:=6) rfl rfl Yhp ?_ ?_
   .refine s_rows1 rfl hl2 rfl (fun w11 k4 hk4 ho4 hf11 hs11=>?_);have hP11:=hP10.tr0 hf11;have hF11:=hF10.trans0 hf11;have hbq:=hbq.tr hf11 Yho;have hba:=hba.tr hf11 Yho;have hd:=hd.tr0 hf11;have hd2:=hd2.tr0 hf11;refine Yft ?_;refine s_rows1 rfl hl rfl (fun w12 k6 hk6 ho6 hf12 hs12=>?_);have hP12:=hP11.tr0 hf12;have hF12:=hF11.trans0 hf12;have hbq:=hbq.tr hf12 Yho;have hba:=hba.tr hf12 Yho;have hd:=hd.tr0 hf12;have hd2:=hd2.tr0 hf12;have ho4:=ho4.tr0 hf12;exact Yk
   .refine s_rows1 rfl hl rfl (fun w11 k6 hk6 ho6 hf11 hs11=>?_);have hP11:=hP10.tr0 hf11;have hF11:=hF10.trans0 hf11;have hbq:=hbq.tr hf11 Yho;have hba:=hba.tr hf11 Yho;have hd:=hd.tr0 hf11;have hd2:=hd2.tr0 hf11;exact Ydx
 .refine s_rows1 rfl hl rfl (fun w10 k6 hk6 ho6 hf10 hs10=>?_);have hP10:=hP9.tr0 hf10;have hF10:=hF9.trans0 hf10;have hbq:=hbq.tr hf10 Yho;have hba:=hba.tr hf10 Yho;have hd:=hd.tr0 hf10;refine Ygs ?_;refine Ygr ?_;refine s_c1 ((exI f' Yhn).expr bd p n _ _ _ _ hP10 h6) ?_;rintro cs2 w11 ⟨hd2,hP11,hf11⟩;have hF11:=hF10.trans hf11 Yhm;have hs11:=hf11.size;have hl2:cs2.length=7:=by rw[hd2.len,exC_len]
  have hbq:=hbq.tr hf11 Yho;have hba:=hba.tr hf11 Yho;have hd:=hd.old hf11 (one_in hpX);have ho6:=ho6.tr hf11 Yjo;exact Ydx
end Go.Proofs.YtmlpcmjmniobdaaGreat
