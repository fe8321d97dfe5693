/-
 The reference's parser:generators.
-/
import Derived.Test.YtggmccicdhnkgaaGreatZQm
set_option linter.all false
namespace Go.Proofs.YtggmccicdhnkgaaGreat
open Go.Proofs.Tryz
open Go.Rf Go.RowKit
attribute [local irreducible] Code.wp wpList Exit.then Exit.inBlock bodyPost A Calls execOp Addr.add
theorem Ji0(f:Nat)(ih:PC 210 [] (fun n=>Vj n f) exC):PC 166 [iV 7] (fun n=>Uu 7 n f) exC:=by
 intro bd p n r w x r' hP hg;refine enter func166 rfl ntmps166 rfl ?_;refine rx ?_;refine Jm (l:=[zI,zT,zI,zS,zS,zS,zI]) rfl (fun w0 q hqq hbq hf0 hs0=>?_);have hP0:=hP.tr0 hf0;have hF0:Fr [p] w w0:=hf0.mono Yhs;have hbd:bd<=w.heap.size:=hP.le;have hpw:p<w.heap.size:=Nat.lt_of_lt_of_le hP.lt hbd;refine rx ?_;refine Jg (pAt p n _ _ hP0) ?_;rintro w1 hf1;have hP1:=hP0.tr0 hf1;have hF1:=hF0.Jb hf1;have hs1:=hf1.size;have hbq:=hbq.tr hf1 Yho;refine rx ?_;refine Jl (ih bd p n _ _ _ _ hP1 hg) ?_;rintro cs w2 ⟨hd,hP2,hf2⟩;have hF2:=hF1.trans hf2 Yhm;have hs2:=hf2.size;have hbq:=hbq.tr hf2 Yho;have hl:cs.length=7:=by rw[hd.len,Jq]
 refine Jd (cs:=cs) rfl rfl hbq hd.one rfl hl (fun u hu hfu hsu=>?_);refine rx ?_;exact Qc rfl rfl hu hl (QJ (w0:=w0) hqq Yhn Yhn Yhn hP2 hF2 hfu (hd.down Yhn))
theorem Ji1(f:Nat)(ih3:PC 166 [iV 3] (fun n=>Q7 n f) exC)(ih4:PC 166 [iV 4] (fun n=>Xo n f) exC):PC 166 [iV 3] (fun n=>Q7 n (f+1)) exC:=by
 intro bd p n r w x r' hP hg;simp only[Q7]at hg;refine enter func166 rfl ntmps166 rfl ?_;refine rx ?_;refine Jm (l:=[zI,zT,zI,zS,zS,zS,zI]) rfl (fun w0 q hqq hbq hf0 hs0=>?_);have hP0:=hP.tr0 hf0;have hF0:Fr [p] w w0:=hf0.mono Yhs;have hbd:bd<=w.heap.size:=hP.le;have hpw:p<w.heap.size:=Nat.lt_of_lt_of_le hP.lt hbd;refine rx ?_;refine Jg (pAt p n _ _ hP0) ?_;rintro w1 hf1;have hP1:=hP0.tr0 hf1;have hF1:=hF0.Jb hf1;have hs1:=hf1.size;have hbq:=hbq.tr hf1 Yho;refine rx ?_;refine Jg (J8 [110,111,116] p n _ _ hP1) ?_;rintro w2 ⟨hP2,hf2⟩;have hF2:=hF1.trans hf2 Yhm;have hs2:=hf2.size;have hbq:=hbq.tr hf2 Yho;cases h1:isT [110,111,116] r with
 |true=>
  simp only[h1,Jz,if_true]at hg hP2;obtain⟨⟨e,r1⟩,h2,hg⟩:=bind_some hg;simp only[Option.some.injEq,Prod.mk.injEq]at hg;obtain⟨rfl,rfl⟩:=hg;refine rx ?_;refine Jl (ih3 bd p n _ _ _ _ hP2 h2) ?_;rintro cs w3 ⟨hd,hP3,hf3⟩;have hF3:=hF2.trans hf3 Yhm;have hs3:=hf3.size;have hbq:=hbq.tr hf3 Yho;have hl:cs.length=7:=by rw[hd.len,Jq]
  refine JQ rfl hl rfl (fun w4 k hk ho hf4 hs4=>?_);have hP4:=hP3.tr0 hf4;have hF4:=hF3.Jb hf4;have hbq:=hbq.tr hf4 Yho;have hd:=RD.keep hd hf4 Yho;refine rx ?_;refine JF [iV 9,.string (bst [110,111,116]),zI,zS,zS,.slice (some ⟨k,0,none⟩) 1 1,iV (atT n r)] rfl ?_;have hd4:RD w4 (rg w0) (exC ⟨9,bst [110,111,116],0,[],[],[e],atT n r⟩) [iV 9,.string (bst [110,111,116]),zI,zS,zS,.slice (some ⟨k,0,none⟩) 1 1,iV (atT n r)]:=exR.2 ⟨_,_,_,rfl,.nil,.nil,Jgr ho (hd.down Yhn) Yjo⟩;refine rx ?_;refine Jd (cs:=[iV 9,.string (bst [110,111,116]),zI,zS,zS,.slice (some ⟨k,0,none⟩) 1 1,iV (atT n r)]) rfl rfl hbq Yhu rfl rfl (fun u hu hfu hsu=>?_);refine rx ?_;exact Qc rfl rfl hu rfl (QJ (w0:=w0) hqq Yhn Yhn Yhn hP4 hF4 hfu hd4)
 |false=>
  simp only[h1,Jz,Bool.false_eq_true,if_false]at hg hP2;refine rx ?_;refine Jl (ih4 bd p n _ _ _ _ hP2 hg) ?_;rintro cs w3 ⟨hd,hP3,hf3⟩;have hF3:=hF2.trans hf3 Yhm;have hs3:=hf3.size;have hbq:=hbq.tr hf3 Yho;have hl:cs.length=7:=by rw[hd.len,Jq]
  refine Jd (cs:=cs) rfl rfl hbq hd.one rfl hl (fun u hu hfu hsu=>?_);refine rx ?_;exact Qc rfl rfl hu hl (QJ (w0:=w0) hqq Yhn Yhn Yhn hP3 hF3 hfu (hd.down Yhn))
set_option maxHeartbeats 8000000 in
theorem JiY(f:Nat)(ihe:PC 125 [] (fun n=>J5 n f) exC)(ihl:∀e,PL 208 [.string (bst e)] (fun n=>Q8 n f e) (fun l=>l.map exC)):PC 210 [] (fun n=>Vj n (f+1)) exC:=by
 intro bd p n r w x r' hP hg;simp only[Vj]at hg;refine enter func210 rfl ntmps210 rfl ?_;refine rx ?_;refine Jm (l:=[zI,zT,zI,zS,zS,zS,zI]) rfl (fun w0 q hqq hbq hf0 hs0=>?_);have hP0:=hP.tr0 hf0;have hF0:Fr [p] w w0:=hf0.mono Yhs;have hbd:bd<=w.heap.size:=hP.le;have hpw:p<w.heap.size:=Nat.lt_of_lt_of_le hP.lt hbd;refine rx ?_;refine Jg (pAt p n _ _ hP0) ?_;rintro w1 hf1;have hP1:=hP0.tr0 hf1;have hF1:=hF0.Jb hf1;have hs1:=hf1.size;have hbq:=hbq.tr hf1 Yho;refine rx ?_;refine Jg (J8 [45] p n _ _ hP1) ?_;rintro w2 ⟨hP2,hf2⟩;have hF2:=hF1.trans hf2 Yhm;have hs2:=hf2.size;have hbq:=hbq.tr hf2 Yho;cases h1:isT [45] r with
 |true=>
  simp only[h1,Jz,if_true]at hg hP2;obtain⟨⟨t,r1⟩,h2,hg⟩:=bind_some hg;simp only[Option.some.injEq,Prod.mk.injEq]at hg;obtain⟨rfl,rfl⟩:=hg;refine rx ?_;refine Jg (VF hP2 h2) ?_;rintro w3 ⟨hP3,hf3⟩;have hF3:=hF2.trans hf3 Yhm;have hs3:=hf3.size;have hbq:=hbq.tr hf3 Yho;refine XF (l:=tkC t) rfl rfl ?_;have hnum:=hP2.num t (by rw[(U8 h2).1];simp);refine rx ?_;refine JF [zI,zT,iV (0-t.n),zS,zS,zS,iV (atT n r)] rfl ?_;refine rx ?_;refine Jd (cs:=[zI,zT,iV (0-t.n),zS,zS,zS,iV (atT n r)]) rfl rfl hbq Yhu rfl rfl (fun u hu hfu hsu=>?_);refine rx ?_;exact Qc rfl rfl hu rfl (QJ (w0:=w0) hqq Yhn Yhn Yhn hP3 hF3 hfu (by rw[Int.zero_sub];exact exR.2 ⟨_,_,_,rfl,.nil,.nil,.nil⟩))
 |false=>
 simp only[h1,Jz,Bool.false_eq_true,if_false]at hg hP2;refine rx ?_;refine Jg (J8 [116,114,117,101] p n _ _ hP2) ?_;rintro w3 ⟨hP3,hf3⟩;have hF3:=hF2.trans hf3 Yhm;have hs3:=hf3.size;have hbq:=hbq.tr hf3 Yho;cases h3:isT [116,114,117,101] r with
 |true=>
  simp only[h3,Jz,if_true]at hg hP3;simp only[Option.some.injEq,Prod.mk.injEq]at hg;obtain⟨rfl,rfl⟩:=hg;refine rx ?_;refine JF [iV 1,zT,iV 1,zS,zS,zS,iV (atT n r)] rfl ?_;refine rx ?_;refine Jd (cs:=[iV 1,zT,iV 1,zS,zS,zS,iV (atT n r)]) rfl rfl hbq Yhu rfl rfl (fun u hu hfu hsu=>?_);refine rx ?_;exact Qc rfl rfl hu rfl (QJ (w0:=w0) hqq Yhn Yhn Yhn hP3 hF3 hfu (exR.2 ⟨_,_,_,rfl,.nil,.nil,.nil⟩))
 |false=>
 simp only[h3,Jz,Bool.false_eq_true,if_false]at hg hP3;refine rx ?_;refine Jg (J8 [102,97,108,115,101] p n _ _ hP3) ?_;rintro w4 ⟨hP4,hf4⟩;have hF4:=hF3.trans hf4 Yhm;have hs4:=hf4.size;have hbq:=hbq.tr hf4 Yho;cases h4:isT [102,97,108,115,101] r with
 |true=>
  simp only[h4,Jz,if_true]at hg hP4;simp only[Option.some.injEq,Prod.mk.injEq]at hg;obtain⟨rfl,rfl⟩:=hg;refine rx ?_;refine JF [iV 1,zT,zI,zS,zS,zS,iV (atT n r)] rfl ?_;refine rx ?_;refine Jd (cs:=[iV 1,zT,zI,zS,zS,zS,iV (atT n r)]) rfl rfl hbq Yhu rfl rfl (fun u hu hfu hsu=>?_);refine rx ?_;exact Qc rfl rfl hu rfl (QJ (w0:=w0) hqq Yhn Yhn Yhn hP4 hF4 hfu (exR.2 ⟨_,_,_,rfl,.nil,.nil,.nil⟩))
 |false=>
 simp only[h4,Jz,Bool.false_eq_true,if_false]at hg hP4;refine rx ?_;refine Jg (J8 [40] p n _ _ hP4) ?_;rintro w5 ⟨hP5,hf5⟩;have hF5:=hF4.trans hf5 Yhm;have hs5:=hf5.size;have hbq:=hbq.tr hf5 Yho;cases h5:isT [40] r with
 |true=>
  simp only[h5,Jz,if_true]at hg hP5;obtain⟨⟨e,r1⟩,h6,hg⟩:=bind_some hg;obtain⟨r2,h7,hg⟩:=bind_some hg;simp only[Option.some.injEq,Prod.mk.injEq]at hg;obtain⟨rfl,rfl⟩:=hg;refine rx ?_;refine Jl (ihe bd p n _ _ _ _ hP5 h6) ?_;rintro cs w6 ⟨hd,hP6,hf6⟩;have hF6:=hF5.trans hf6 Yhm;have hs6:=hf6.size;have hbq:=hbq.tr hf6 Yho;have hl:cs.length=7:=by rw[hd.len,Jq]
  refine KR (l:=[zI,zT,zI,zS,zS,zS,zI]) (cs:=cs) rfl rfl hl hd.one rfl (fun v=>rfl) (fun w7 a hqa hba hf7 hs7=>?_);have hP7:=hP6.tr0 hf7;have hF7:=hF6.Jb hf7;have hbq:=hbq.tr hf7 Yho;have hd:=RD.keep hd hf7 Yho;refine rx ?_;refine Jg (JL hP7 h7) ?_;rintro w8 ⟨hP8,hf8⟩;have hF8:=hF7.trans hf8 Yhm;have hs8:=hf8.size;have hbq:=hbq.tr hf8 Yho;have hba:=hba.tr hf8 Yho;have hd:=RD.keep hd hf8 Yho;refine rx ?_;refine KE rfl hba hl ?_;refine Jd (cs:=cs) rfl rfl hbq hd.one rfl hl (fun u hu hfu hsu=>?_);refine rx ?_;exact Qc rfl rfl hu hl (QJ (w0:=w0) hqq Yhn Yhn Yhn hP8 hF8 hfu (hd.down Yhn))
 |false=>
 simp only[h5,Jz,Bool.false_eq_true,if_false]at hg hP5;refine rx ?_;refine Jg (J8 [91] p n _ _ hP5) ?_;rintro w6 ⟨hP6,hf6⟩;have hF6:=hF5.trans hf6 Yhm;have hs6:=hf6.size;have hbq:=hbq.tr hf6 Yho;cases h6:isT [91] r with
 |true=>
  simp only[h6,Jz,if_true]at hg hP6;obtain⟨⟨l,r1⟩,h7,hg⟩:=bind_some hg;simp only[Option.some.injEq,Prod.mk.injEq]at hg;obtain⟨rfl,rfl⟩:=hg;refine rx ?_;refine s_call ((ihl [93]) bd p n _ _ _ _ hP6 h7) rfl ?_;rintro _ w7 ⟨_,rfl,hd,hP7,hf7⟩;obtain⟨ao1,c1,rfl,hc1⟩:=DR.slice hd;refine⟨_,rfl,?_⟩;have hF7:=hF6.trans hf7 Yhm;have hs7:=hf7.size;have hbq:=hbq.tr hf7 Yho;refine rx ?_;refine JF [iV 5,zT,zI,zS,zS,.slice ao1 (l.map exC).length c1,iV (atT n r)] rfl ?_;refine rx ?_;refine Jd (cs:=[iV 5,zT,zI,zS,zS,.slice ao1 (l.map exC).length c1,iV (atT n r)]) rfl rfl hbq Yhu rfl rfl (fun u hu hfu hsu=>?_);refine rx ?_;exact Qc rfl rfl hu rfl (QJ (w0:=w0) hqq Yhn Yhn Yhn hP7 hF7 hfu (exR.2 ⟨_,_,_,rfl,.nil,.nil,hd.down Yhn⟩))
 |false=>
 simp only[h6,Jz,Bool.false_eq_true,if_false]at hg hP6;refine rx ?_;refine Jg (JfQ 2 p n _ _ hP6) ?_;rintro w7 hf7;have hP7:=hP6.tr0 hf7;have hF7:=hF6.Jb hf7;have hs7:=hf7.size;have hbq:=hbq.tr hf7 Yho;cases h7:Bc 2 r with
 |true=>
  simp only[h7,if_true]at hg;obtain⟨⟨t,r1⟩,h8,hg⟩:=bind_some hg;simp only[Option.some.injEq,Prod.mk.injEq]at hg;obtain⟨rfl,rfl⟩:=hg;refine rx ?_;refine Jg (VF hP7 h8) ?_;rintro w8 ⟨hP8,hf8⟩;have hF8:=hF7.trans hf8 Yhm;have hs8:=hf8.size;have hbq:=hbq.tr hf8 Yho;refine Yex ?_;refine JF [zI,zT,iV t.n,zS,zS,zS,iV (atT n r)] rfl ?_;refine rx ?_;refine Jd (cs:=[zI,zT,iV t.n,zS,zS,zS,iV (atT n r)]) rfl rfl hbq Yhu rfl rfl (fun u hu hfu hsu=>?_);refine rx ?_;exact Qc rfl rfl hu rfl (QJ (w0:=w0) hqq Yhn Yhn Yhn hP8 hF8 hfu (exR.2 ⟨_,_,_,rfl,.nil,.nil,.nil⟩))
 |false=>
 simp only[h7,Bool.false_eq_true,if_false]at hg;refine rx ?_;refine Jg (JfQ 1 p n _ _ hP7) ?_;rintro w8 hf8;have hP8:=hP7.tr0 hf8;have hF8:=hF7.Jb hf8;have hs8:=hf8.size;have hbq:=hbq.tr hf8 Yho;cases h8:Bc 1 r with
 |true=>
  simp only[h8,if_true]at hg;obtain⟨⟨t,r1⟩,h9,hg⟩:=bind_some hg;simp only at hg;refine rx ?_;refine Jg (VF hP8 h9) ?_;rintro w9 ⟨hP9,hf9⟩;have hF9:=hF8.trans hf9 Yhm;have hs9:=hf9.size;have hbq:=hbq.tr hf9 Yho;refine Yex ?_;refine JF [iV 4,.string (bst t.text),zI,zS,zS,zS,iV (atT n r)] rfl ?_;refine KR (l:=[zI,zT,zI,zS,zS,zS,zI]) (cs:=[iV 4,.string (bst t.text),zI,zS,zS,zS,iV (atT n r)]) rfl rfl rfl Yhu rfl (fun v=>rfl) (fun w10 a hqa hba hf10 hs10=>?_);have hP10:=hP9.tr0 hf10;have hF10:=hF9.Jb hf10;have hbq:=hbq.tr hf10 Yho;refine rx ?_;refine Jg (J8 [40] p n _ _ hP10) ?_;rintro w11 ⟨hP11,hf11⟩;have hF11:=hF10.trans hf11 Yhm;have hs11:=hf11.size;have hbq:=hbq.tr hf11 Yho;have hba:=hba.tr hf11 Yho;cases h10:isT [40] r1 with
  |true=>
   simp only[h10,Jz,if_true]at hg hP11;obtain⟨⟨l,r2⟩,h11,hg⟩:=bind_some hg;simp only[Option.some.injEq,Prod.mk.injEq]at hg;obtain⟨rfl,rfl⟩:=hg;refine rx ?_;refine s_call ((ihl [41]) bd p n _ _ _ _ hP11 h11) rfl ?_;rintro _ w12 ⟨_,rfl,hd,hP12,hf12⟩;obtain⟨ao1,c1,rfl,hc1⟩:=DR.slice hd;refine⟨_,rfl,?_⟩;have hF12:=hF11.trans hf12 Yhm;have hs12:=hf12.size;have hbq:=hbq.tr hf12 Yho;have hba:=hba.tr hf12 Yho;refine rx ?_
   ((with_reducible apply Ji);exact rfl;(conv=>lhs;whnf);exact rfl;exact hba;exact rfl)
   intro w13 hba hf13 hs13;have hP13:=hP12.tr hf13 Yht;have hF13:=hF12.trans hf13 (fun x hx=>.inr Yhq);have hbq:=hbq.tr hf13 Yho;have hd:=DR.keep hd hf13 Yht;refine rx ?_;refine Jd (cs:=[iV 4,.string (bst t.text),zI,zS,zS,.slice ao1 (l.map exC).length c1,iV (atT n r)]) rfl rfl hbq Yhu rfl rfl (fun u hu hfu hsu=>?_);refine rx ?_;exact Qc rfl rfl hu rfl (QJ (w0:=w0) hqq Yhn Yhn Yhn hP13 hF13 hfu (exR.2 ⟨_,_,_,rfl,.nil,.nil,hd.down Yhn⟩))
  |false=>
   simp only[h10,Jz,Bool.false_eq_true,if_false]at hg hP11;simp only[Option.some.injEq,Prod.mk.injEq]at hg;obtain⟨rfl,rfl⟩:=hg;refine rx ?_;refine Jd (cs:=[iV 4,.string (bst t.text),zI,zS,zS,zS,iV (atT n r)]) rfl rfl hbq Yhu rfl rfl (fun u hu hfu hsu=>?_);refine rx ?_;exact Qc rfl rfl hu rfl (QJ (w0:=w0) hqq Yhn Yhn Yhn hP11 hF11 hfu (exR.2 ⟨_,_,_,rfl,.nil,.nil,.nil⟩))
 |false=>
 simp only[h8,Bool.false_eq_true,if_false]at hg;obtain⟨⟨t,r1⟩,h9,hg⟩:=bind_some hg;simp only at hg;refine rx ?_;refine Jg (VF hP8 h9) ?_;rintro w9 ⟨hP9,hf9⟩;have hF9:=hF8.trans hf9 Yhm;have hs9:=hf9.size;have hbq:=hbq.tr hf9 Yho;refine Yex ?_;refine JF [iV 2,.string (bst t.text),zI,zS,zS,zS,iV (atT n r)] rfl ?_;refine KR (l:=[zI,zT,zI,zS,zS,zS,zI]) (cs:=[iV 2,.string (bst t.text),zI,zS,zS,zS,iV (atT n r)]) rfl rfl rfl Yhu rfl (fun v=>rfl) (fun w10 a hqa hba hf10 hs10=>?_);have hP10:=hP9.tr0 hf10;have hF10:=hF9.Jb hf10;have hbq:=hbq.tr hf10 Yho;refine rx ?_;refine Jg (J8 [40] p n _ _ hP10) ?_;rintro w11 ⟨hP11,hf11⟩;have hF11:=hF10.trans hf11 Yhm;have hs11:=hf11.size;have hbq:=hbq.tr hf11 Yho;have hba:=hba.tr hf11 Yho;cases h10:isT [40] r1 with
 |true=>
  simp only[h10,Jz,if_true]at hg hP11;obtain⟨⟨l,r2⟩,h11,hg⟩:=bind_some hg;simp only[Option.some.injEq,Prod.mk.injEq]at hg;obtain⟨rfl,rfl⟩:=hg;refine rx ?_
  ((with_reducible apply Ji);exact rfl;(conv=>lhs;whnf);exact rfl;exact hba;exact rfl)
  intro w12 hba hf12 hs12;have hP12:=hP11.tr hf12 Yht;have hF12:=hF11.trans hf12 (fun x hx=>.inr Yhq);have hbq:=hbq.tr hf12 Yho;refine rx ?_;refine s_call ((ihl [41]) bd p n _ _ _ _ hP12 h11) rfl ?_;rintro _ w13 ⟨_,rfl,hd,hP13,hf13⟩;obtain⟨ao1,c1,rfl,hc1⟩:=DR.slice hd;refine⟨_,rfl,?_⟩;have hF13:=hF12.trans hf13 Yhm;have hs13:=hf13.size;have hbq:=hbq.tr hf13 Yho;have hba:=hba.tr hf13 Yho;refine rx ?_
  ((with_reducible apply Ji);exact rfl;(conv=>lhs;whnf);exact rfl;exact hba;exact rfl)
  intro w14 hba hf14 hs14;have hP14:=hP13.tr hf14 Yht;have hF14:=hF13.trans hf14 (fun x hx=>.inr Yhq);have hbq:=hbq.tr hf14 Yho;have hd:=DR.keep hd hf14 Yht;refine rx ?_;refine Jd (cs:=[iV 3,.string (bst t.text),zI,zS,zS,.slice ao1 (l.map exC).length c1,iV (atT n r)]) rfl rfl hbq Yhu rfl rfl (fun u hu hfu hsu=>?_);refine rx ?_;exact Qc rfl rfl hu rfl (QJ (w0:=w0) hqq Yhn Yhn Yhn hP14 hF14 hfu (exR.2 ⟨_,_,_,rfl,.nil,.nil,hd.down Yhn⟩))
 |false=>
  simp only[h10,Jz,Bool.false_eq_true,if_false]at hg hP11;simp only[Option.some.injEq,Prod.mk.injEq]at hg;obtain⟨rfl,rfl⟩:=hg;refine rx ?_;refine Jd (cs:=[iV 2,.string (bst t.text),zI,zS,zS,zS,iV (atT n r)]) rfl rfl hbq Yhu rfl rfl (fun u hu hfu hsu=>?_);refine rx ?_;exact Qc rfl rfl hu rfl (QJ (w0:=w0) hqq Yhn Yhn Yhn hP11 hF11 hfu (exR.2 ⟨_,_,_,rfl,.nil,.nil,.nil⟩))
end Go.Proofs.YtggmccicdhnkgaaGreat
namespace Go.Proofs.YtggmccicdhnkgaaGreat
open Go.Proofs.Tryz
open Go.Rf Go.RowKit
attribute [local irreducible] Code.wp wpList Exit.then Exit.inBlock bodyPost A Calls execOp Addr.add
def JaV(a:Int)(f:Nat)(n:Int)(r:List Tk):Option (Ex×List Tk):=
 (J5 n f r).bind fun y=>(JB [123] y.2).bind fun r2=>(Ba n f r2).bind fun x=>(JB [125] x.2).bind fun r4=>some (⟨8,bst [],0,x.1.map fun y=>bst y.1,x.1.map fun y=>y.2.1.map bst,y.1::x.1.map fun y=>y.2.2,a⟩,r4)
abbrev Arm:=Bs×List Bs×Ex
set_option maxHeartbeats 8000000 in
theorem Jhe(at_:Int)(f:Nat)(hf:f<=1000000)(ih:∀f'≤f,PC 125 [] (fun n=>J5 n f') exC):PC 165 [iV at_] (JaV at_ f) exC:=by
 intro bd p n r w x r' hP hg;simp only[JaV]at hg;obtain⟨⟨e0,r1⟩,h1,hg⟩:=bind_some hg;obtain⟨r2,h2,hg⟩:=bind_some hg;obtain⟨⟨l,r3⟩,h3,hg⟩:=bind_some hg;obtain⟨r4,h4,hg⟩:=bind_some hg;simp only[Option.some.injEq,Prod.mk.injEq]at hg;obtain⟨rfl,rfl⟩:=hg;refine enter func165 rfl ntmps165 rfl ?_;refine rx ?_;refine Jm (l:=[zI,zT,zI,zS,zS,zS,zI]) rfl (fun w0 q hqq hbq hf0 hs0=>?_);have hP0:=hP.tr0 hf0;have hF0:Fr [p] w w0:=hf0.mono Yhs;have hbd:bd<=w.heap.size:=hP.le;have hpw:p<w.heap.size:=Nat.lt_of_lt_of_le hP.lt hbd;refine rx ?_;refine Jl ((ih f (Nat.le_refl _)) bd p n _ _ _ _ hP0 h1) ?_;rintro cs w1 ⟨hd,hP1,hf1⟩;have hF1:=hF0.trans hf1 Yhm;have hs1:=hf1.size;have hbq:=hbq.tr hf1 Yho;have hl:cs.length=7:=by rw[hd.len,Jq]
 refine JQ rfl hl rfl (fun w2 k hk ho hf2 hs2=>?_);have hP2:=hP1.tr0 hf2;have hF2:=hF1.Jb hf2;have hbq:=hbq.tr hf2 Yho;have hd:=hd.tell (Y:=k::rg w0) (KU Yhn) hf2;refine rx ?_;refine JF [iV 8,zT,zI,zS,zS,.slice (some ⟨k,0,none⟩) 1 1,iV at_] rfl ?_;refine KR (l:=[zI,zT,zI,zS,zS,zS,zI]) (cs:=[iV 8,zT,zI,zS,zS,.slice (some ⟨k,0,none⟩) 1 1,iV at_]) rfl rfl rfl Yhu rfl (fun v=>rfl) (fun w3 a hqa hba hf3 hs3=>?_);have hP3:=hP2.tr0 hf3;have hF3:=hF2.Jb hf3;have hbq:=hbq.tr hf3 Yho;have ho:=ho.tr0 hf3;have hd:=hd.tell (Y:=a::k::rg w0) (KU Yhn) hf3;have hL3:L3 (a::rg w0) w3 9 91 95 1 1 7 (fun y:Arm=>JV (bst y.1)) (fun y:Arm=>JD (y.2.1.map bst)) exC [] [] [e0] (zS) (zS) (.slice (some ⟨k,0,none⟩) 1 1):=
  ⟨LS.nil,LS.nil,LS.first ho hd (fun b hb=>.inl (by simp[blks,Value.ownBlock,Jk]at hb ⊢;omega)) Yig⟩
 clear hd ho;refine rx ?_;refine Jg (JL hP3 h2) ?_;rintro w4 ⟨hP4,hf4⟩;have hF4:=hF3.trans hf4 Yhm;have hs4:=hf4.size;have hbq:=hbq.tr hf4 Yho;have hba:=hba.tr hf4 Yho;have hL3:=hL3.keep hf4 (by simp[Jk];omega);refine rx ?_;refine Jh 7 [6] (σ:=Nat×List Arm×List Tk×Bool) (fun s g u=>g 6=.bool s.2.2.2/\s.1<=f/\PS bd u p n s.2.2.1/\Fr [p] w u/\w4.heap.size<=u.heap.size/\s.2.1.length+s.1<=1000000/\(s.2.2.2=true->∃l',Ba n s.1 s.2.2.1=some (l',r3)/\s.2.1++l'=l)/\(s.2.2.2=false->s.2.1=l/\s.2.2.1=r3)/\Blk u q [zI,zT,zI,zS,zS,zS,zI] 95/\∃v1 v2 v3,Blk u a [iV 8,zT,zI,v1,v2,v3,iV at_] 95/\L3 (a::rg w0) u 9 91 95 1 1 7 (fun y:Arm=>JV (bst y.1)) (fun y:Arm=>JD (y.2.1.map bst)) exC s.2.1 s.2.1 (e0::s.2.1.map fun y=>y.2.2) v1 v2 v3) (fun s=>2*s.1+s.2.2.2.toNat) (f,[],r2,true) ⟨rfl,Nat.le_refl _,hP4,hF4,Nat.le_refl _,by simpa using hf,fun _=>⟨l,h3,rfl⟩,fun h=>Yiw,hbq,_,_,_,hba,hL3⟩ ?_;clear hP hP0 hP1 hP2 hP3 hP4 hF0 hF1 hF2 hF3 hF4 hba hbq hL3;rintro⟨f',acc,r5,b⟩ g w5 ⟨h6,hff,hP5,hF5,hs5,hlen,ht,hfl,hbq,v1,v2,v3,hba,hL3⟩;simp only at hff hP5 hF5 hlen ht hfl hL3;rw[Ja h6];obtain⟨S0,T0,ao0,c0,i0,hb0,_⟩:=id hP5;have hsz:∀b∈a::rg w0,b<w5.heap.size:=fun b hb=>by
  rcases List.mem_cons.1 hb with rfl|hb
  .exact hba.lt
  .have:=Jk.1 hb;omega
 have haX:a∈a::rg w0:=by simp
 have hqX:q∈a::rg w0:=by simp[Jk];omega
 have hXw:∀b,b<w.heap.size->b∈a::rg w0:=fun b hb=>by simp[Jk];omega
 have hpX:∀b∈[p],b∈a::rg w0:=by simp[Jk];omega
 cases b with
 |false=>
  obtain⟨rfl,rfl⟩:=hfl rfl;obtain⟨ao1,c1,rfl⟩:=hL3.1.slice;obtain⟨ao2,c2,rfl⟩:=hL3.2.1.slice;obtain⟨ao3,c3,rfl⟩:=hL3.2.2.slice;refine rx ?_;refine Jg (JL hP5 h4) ?_;rintro w6 ⟨hP6,hf6⟩;have hF6:=hF5.trans hf6 Yhm;have hs6:=hf6.size;have hbq:=hbq.tr hf6 Yho;have hba:=hba.tr hf6 Yho;have hL3:=hL3.keep hf6 (fun b hb=>.inl (hpX b hb));refine rx ?_;have hd:RD w6 (rg w0) (exC ⟨8,bst [],0,acc.map fun y=>bst y.1,acc.map fun y=>y.2.1.map bst,e0::acc.map fun y=>y.2.2,at_⟩) _:=exR.2 ⟨_,_,_,rfl,by
   have:=(hL3.1.dr (k:=1) (fun _=>rfl) Yhn).mono (T:=rg w0) (fun b hb=>.inl Yii);simpa[strs,Function.comp_def]using this,by
   have:=(hL3.2.1.dr (k:=1) (fun _=>rfl) Yhn).mono (T:=rg w0) (fun b hb=>.inl Yii);simpa[Function.comp_def]using this,by
   have:=(hL3.2.2.dr (k:=7) Jq Yht).mono (T:=rg w0) (fun b hb=>.inl Yii);exact this⟩
  simp only[exV]at hd;refine Jd (cs:=[iV 8,zT,zI,.slice ao1 acc.length c1,.slice ao2 acc.length c2,.slice ao3 (e0::acc.map fun y=>y.2.2).length c3,iV at_]) rfl rfl hbq Yhu rfl rfl (fun u hu hfu hsu=>?_);refine rx ?_;exact Qc rfl rfl hu rfl (QJ (w0:=w0) hqq Yhn Yhn Yhn hP6 hF6 hfu hd)
 |true=>
 obtain⟨l',hgo,hacc⟩:=ht rfl;cases f' with
 |zero=>simp[Ba]at hgo
 |succ f'=>
 simp only[Ba]at hgo;obtain⟨⟨t,r6⟩,h7,hgo⟩:=bind_some hgo;obtain⟨⟨bs,r7⟩,h8,hgo⟩:=bind_some hgo;obtain⟨r8,h9,hgo⟩:=bind_some hgo;obtain⟨⟨e,r9⟩,h10,hgo⟩:=bind_some hgo;obtain⟨ao1,c1,rfl⟩:=hL3.1.slice;refine rx ?_
 ((refine Kr 8 (fun z=>True/\Blk z a [iV 8,zT,zI,.slice ao1 acc.length c1,v2,v3,iV at_] 95) Yhp rfl ?_);obtain⟨w6,hw6⟩:=exq w5.drew;rw[<-hw6];have hf6:Fr [] w5 w6:=hw6▸Fr.drew _ _;have hP6:=hP5.tr0 hf6;have hF6:=hF5.Jb hf6;have hs6:=hf6.size)
 have hbq:=hbq.tr hf6 Yho;have hba:=hba.tr hf6 Yho;have hL3:=hL3.keep hf6 Yhs
 ((refine Jp 0 (And.intro trivial hba) ?_);(refine Jp 1 (And.intro trivial hba) ?_);(refine Jp 2 (And.intro trivial hba) ?_))
 refine Ygr ?_;refine Jg (VF hP6 h7) ?_;rintro w7 ⟨hP7,hf7⟩;have hF7:=hF6.trans hf7 Yhm;have hs7:=hf7.size;have hbq:=hbq.tr hf7 Yho;have hba:=hba.tr hf7 Yho;have hL3:=hL3.keep hf7 (fun b hb=>.inl (hpX b hb));refine Ygs ?_;refine Jp 4 (And.intro trivial hba) ?_ (hrun:=(by intro u hu;exact(NP (l:=tkC t) rfl rfl)));refine Ygl ?_;refine QO rfl rfl (fun w8 ho hf8 hs8=>?_);have hP8:=hP7.tr0 hf8;have hF8:=hF7.Jb hf8;have hbq:=hbq.tr hf8 Yho;have hba:=hba.tr hf8 Yho;have hL3:=hL3.keep hf8 Yhs;refine Yft ?_;refine V7 hL3.1 (fun _=>rfl) rfl rfl ho.src (a:=(t.text,bs,e)) (.cons (.c rfl) .nil) (fun b hb=>.inl (List.mem_append.2 hb)) Yhv Yhn (hL3.sz1 (fun b hb=>Nat.lt_of_lt_of_le (hsz b hb) Yhn)) (fun v' w9 hL' hf9 hk9=>?_);have hge9:=LS.ge hL3.1 (w0:=w) (fun b hb=>List.mem_append_left _ (hXw b hb));have hP9:=hP8.tr hf9 (fun k hk=>Nat.le_trans hbd (hge9 k hk));have hF9:=hF8.trans hf9 (fun k hk=>.inr (hge9 k hk));have hs9:=hf9.size;have hba:=hba.tr hf9 (fun h=>hL3.1.2 _ h (List.mem_append_left _ haX));have hbq:=hbq.tr hf9 (fun h=>hL3.1.2 _ h (List.mem_append_left _ hqX));have hL3:=hL3.JiR hL' hf9 hk9;have h1c:=hL'.1.one;refine Ygs ?_
 ((refine Jp 7 (And.intro trivial hba) ?_))
 refine Ygn ?_
 ((with_reducible apply Ji);exact rfl;(conv=>lhs;whnf);exact h1c;exact hba;exact rfl)
 intro w10 hba hf10 hs10;replace hba:Blk w10 a [iV 8,zT,zI,v',v2,v3,iV at_] 95:=hba;have hP10:=hP9.tr hf10 Yht;have hF10:=hF9.trans hf10 (fun x hx=>.inr Yhq);have hbq:=hbq.tr hf10 Yho;have hL3:=hL3.keep hf10 (Je haX);refine Yet ?_;clear h1c;obtain⟨v1,hv1⟩:=exq v';rw[<-hv1]at hba hL3;clear hL' hv1;obtain⟨ao2,c2,rfl⟩:=hL3.2.1.slice;have e8:strs (bs.map bst)=.l (bs.map fun t=>JV (bst t)):=by simp[strs,Function.comp_def]
 ((refine Kr 7 (fun z=>True/\Blk z a [iV 8,zT,zI,v1,.slice ao2 acc.length c2,v3,iV at_] 95) Yhp rfl ?_);obtain⟨w11,hw11⟩:=exq w10.drew;rw[<-hw11];have hf11:Fr [] w10 w11:=hw11▸Fr.drew _ _;have hP11:=hP10.tr0 hf11;have hF11:=hF10.Jb hf11;have hs11:=hf11.size)
 have hbq:=hbq.tr hf11 Yho;have hba:=hba.tr hf11 Yho;have hL3:=hL3.keep hf11 Yhs
 ((refine Jp 0 (And.intro trivial hba) ?_);(refine Jp 1 (And.intro trivial hba) ?_);(refine Jp 2 (And.intro trivial hba) ?_))
 refine Ygr ?_;have hz:=hL3.sz2 (fun b hb=>Nat.lt_of_lt_of_le (hsz b hb) Yhn);have hz1:=hL3.2.1.lt;refine s_call ((Jhd f' Yhn) bd p n _ _ _ _ hP11 h8) rfl ?_;rintro _ w12 ⟨_,rfl,hd,hP12,hf12⟩;obtain⟨ao5,c5,rfl,hc5⟩:=DR.slice hd;refine⟨_,rfl,?_⟩;have hF12:=hF11.trans hf12 Yhm;have hs12:=hf12.size;have hbq:=hbq.tr hf12 Yho;have hba:=hba.tr hf12 Yho;have hL3:=hL3.keep hf12 (fun b hb=>.inl (hpX b hb));refine Yfb ?_;refine QO rfl rfl (fun w13 ho hf13 hs13=>?_);have hP13:=hP12.tr0 hf13;have hF13:=hF12.Jb hf13;have hbq:=hbq.tr hf13 Yho;have hba:=hba.tr hf13 Yho;have hL3:=hL3.keep hf13 Yhs;have hd:=DR.tr0 hd hf13;refine Yfe ?_;refine V7 hL3.2.1 (fun _=>rfl) rfl rfl ho.src (a:=(t.text,bs,e)) (by show RD _ _ (JD (bs.map bst)) _;rw[JD,e8];exact .cons hd .nil) (fun b hb=>.inl (Jk.2 (hb.elim (hz1 b) (hz b)))) Yhv Yhn (hL3.sz2 (fun b hb=>Nat.lt_of_lt_of_le (hsz b hb) Yhn)) (fun v' w14 hL' hf14 hk14=>?_);have hge14:=LS.ge hL3.2.1 (w0:=w) (fun b hb=>List.mem_append_left _ (hXw b hb));have hP14:=hP13.tr hf14 (fun k hk=>Nat.le_trans hbd (hge14 k hk));have hF14:=hF13.trans hf14 (fun k hk=>.inr (hge14 k hk));have hs14:=hf14.size;have hba:=hba.tr hf14 (fun h=>hL3.2.1.2 _ h (List.mem_append_left _ haX));have hbq:=hbq.tr hf14 (fun h=>hL3.2.1.2 _ h (List.mem_append_left _ hqX));have hL3:=hL3.Jha hL' hf14 hk14;have h1c:=hL'.1.one;refine Ygs ?_
 ((refine Jp 6 (And.intro trivial hba) ?_))
 refine Ygm ?_
 ((with_reducible apply Ji);exact rfl;(conv=>lhs;whnf);exact h1c;exact hba;exact rfl)
 intro w15 hba hf15 hs15;replace hba:Blk w15 a [iV 8,zT,zI,v1,v',v3,iV at_] 95:=hba;have hP15:=hP14.tr hf15 Yht;have hF15:=hF14.trans hf15 (fun x hx=>.inr Yhq);have hbq:=hbq.tr hf15 Yho;have hL3:=hL3.keep hf15 (Je haX);refine Yet ?_;clear h1c;obtain⟨v2,hv2⟩:=exq v';rw[<-hv2]at hba hL3;clear hL' hv2;refine Jg (JL hP15 h9) ?_;rintro w16 ⟨hP16,hf16⟩;have hF16:=hF15.trans hf16 Yhm;have hs16:=hf16.size;have hbq:=hbq.tr hf16 Yho;have hba:=hba.tr hf16 Yho;have hL3:=hL3.keep hf16 (fun b hb=>.inl (hpX b hb));refine rx ?_;obtain⟨ao3,c3,rfl⟩:=hL3.2.2.slice;have hlen3:(e0::acc.map fun y=>y.2.2).length=acc.length+1:=by simp
 ((refine Kr 7 (fun z=>True/\Blk z a [iV 8,zT,zI,v1,v2,.slice ao3 (e0::acc.map fun y=>y.2.2).length c3,iV at_] 95) Yhp rfl ?_);obtain⟨w17,hw17⟩:=exq w16.drew;rw[<-hw17];have hf17:Fr [] w16 w17:=hw17▸Fr.drew _ _;have hP17:=hP16.tr0 hf17;have hF17:=hF16.Jb hf17;have hs17:=hf17.size)
 have hbq:=hbq.tr hf17 Yho;have hba:=hba.tr hf17 Yho;have hL3:=hL3.keep hf17 Yhs
 ((refine Jp 0 (And.intro trivial hba) ?_);(refine Jp 1 (And.intro trivial hba) ?_);(refine Jp 2 (And.intro trivial hba) ?_))
 refine Ygr ?_;have hz:=hL3.sz3 (fun b hb=>Nat.lt_of_lt_of_le (hsz b hb) Yhn);have hz1:=hL3.2.2.lt;refine Jl ((ih f' Yhn) bd p n _ _ _ _ hP17 h10) ?_;rintro cs w18 ⟨hd,hP18,hf18⟩;have hF18:=hF17.trans hf18 Yhm;have hs18:=hf18.size;have hl:cs.length=7:=by rw[hd.len,Jq]
 have hbq:=hbq.tr hf18 Yho;have hba:=hba.tr hf18 Yho;have hL3:=hL3.keep hf18 (fun b hb=>.inl (hpX b hb));refine Yfb ?_;refine JQ rfl hl rfl (fun w19 k5 hk5 ho hf19 hs19=>?_);have hP19:=hP18.tr0 hf19;have hF19:=hF18.Jb hf19;have hbq:=hbq.tr hf19 Yho;have hba:=hba.tr hf19 Yho;have hL3:=hL3.keep hf19 Yhs;have hd:=RD.tr0 hd hf19;refine Yfe ?_;refine V7 hL3.2.2 Jq rfl rfl ho.src (a:=e) hd (fun b hb=>.inl (Jk.2 (hb.elim (hz1 b) (hz b)))) Yhv Yhn (hL3.sz3 (fun b hb=>Nat.lt_of_lt_of_le (hsz b hb) Yhn)) (fun v' w20 hL' hf20 hk20=>?_);have hge20:=LS.ge hL3.2.2 (w0:=w) (fun b hb=>List.mem_append_left _ (hXw b hb));have hP20:=hP19.tr hf20 (fun k hk=>Nat.le_trans hbd (hge20 k hk));have hF20:=hF19.trans hf20 (fun k hk=>.inr (hge20 k hk));have hs20:=hf20.size;have hba:=hba.tr hf20 (fun h=>hL3.2.2.2 _ h (List.mem_append_left _ haX));have hbq:=hbq.tr hf20 (fun h=>hL3.2.2.2 _ h (List.mem_append_left _ hqX));have hL3:=hL3.JjZ hL' hf20 hk20;have h1c:=hL'.1.one;refine Ygs ?_
 ((refine Jp 6 (And.intro trivial hba) ?_))
 refine Ygm ?_
 ((with_reducible apply Ji);exact rfl;(conv=>lhs;whnf);exact h1c;exact hba;exact rfl)
 intro w21 hba hf21 hs21;replace hba:Blk w21 a [iV 8,zT,zI,v1,v2,v',iV at_] 95:=hba;have hP21:=hP20.tr hf21 Yht;have hF21:=hF20.trans hf21 (fun x hx=>.inr Yhq);have hbq:=hbq.tr hf21 Yho;have hL3:=hL3.keep hf21 (Je haX);refine Yet ?_;refine Jg (J8 [59] p n _ _ hP21) ?_;rintro w22 ⟨hP22,hf22⟩;have hF22:=hF21.trans hf22 Yhm;have hs22:=hf22.size;have hbq:=hbq.tr hf22 Yho;have hba:=hba.tr hf22 Yho;have hL3:=hL3.keep hf22 (fun b hb=>.inl (hpX b hb));refine rx ?_;obtain⟨z1,z2⟩:=Xg (go:=Ba n) hgo hacc;have e3:(e0::(acc++[(t.text,bs,e)]).map fun y=>y.2.2)=e0::acc.map (fun y=>y.2.2)++[e]:=by simp
 exact Jc (f',acc++[(t.text,bs,e)],Jz (isT [59] r9) r9,isT [59] r9) Yhr ⟨rfl,by simp only;omega,hP22,hF22,by omega,by simp only[List.length_append,List.length_cons,List.length_nil];omega,z1,z2,hbq,_,_,_,hba,by simp only[e3];exact hL3⟩ (by cases isT [59] r9<;>simp<;>omega)
end Go.Proofs.YtggmccicdhnkgaaGreat
namespace Go.Proofs.YtggmccicdhnkgaaGreat
open Go.Proofs.Tryz
open Go.Rf Go.RowKit
attribute [local irreducible] Code.wp wpList Exit.then Exit.inBlock bodyPost A Calls execOp Addr.add
set_option maxHeartbeats 8000000 in
theorem Ji2(f:Nat)(hf:f<=1000000)(ih:∀f'≤f,PC 125 [] (fun n=>J5 n f') exC)(ihl:PC 166 [iV 1] (fun n=>Xp n f) exC):PC 125 [] (fun n=>J5 n (f+1)) exC:=by
 intro bd p n r w x r' hP hg;simp only[J5]at hg;have ihe:=ih f (Nat.le_refl _);refine enter func125 rfl ntmps125 rfl ?_;refine rx ?_;refine Jm (l:=[zI,zT,zI,zS,zS,zS,zI]) rfl (fun w0 q hqq hbq hf0 hs0=>?_);have hP0:=hP.tr0 hf0;have hF0:Fr [p] w w0:=hf0.mono Yhs;have hbd:bd<=w.heap.size:=hP.le;have hpw:p<w.heap.size:=Nat.lt_of_lt_of_le hP.lt hbd;refine rx ?_;refine Jg (pAt p n _ _ hP0) ?_;rintro w1 hf1;have hP1:=hP0.tr0 hf1;have hF1:=hF0.Jb hf1;have hs1:=hf1.size;have hbq:=hbq.tr hf1 Yho;refine rx ?_;refine Jg (J8 [105,102] p n _ _ hP1) ?_;rintro w2 ⟨hP2,hf2⟩;have hF2:=hF1.trans hf2 Yhm;have hs2:=hf2.size;have hbq:=hbq.tr hf2 Yho;cases h1:isT [105,102] r with
 |true=>
  simp only[h1,Jz,if_true]at hg hP2;obtain⟨⟨e1,r1⟩,h2,hg⟩:=bind_some hg;obtain⟨r2,h3,hg⟩:=bind_some hg;obtain⟨⟨e2,r3⟩,h4,hg⟩:=bind_some hg;obtain⟨r4,h5,hg⟩:=bind_some hg;obtain⟨⟨e3,r5⟩,h6,hg⟩:=bind_some hg;simp only[Option.some.injEq,Prod.mk.injEq]at hg;obtain⟨rfl,rfl⟩:=hg;refine rx ?_;refine Jl (ihe bd p n _ _ _ _ hP2 h2) ?_;rintro cs1 w3 ⟨hd1,hP3,hf3⟩;have hF3:=hF2.trans hf3 Yhm;have hs3:=hf3.size;have hbq:=hbq.tr hf3 Yho;have hl1:cs1.length=7:=by rw[hd1.len,Jq]
  refine KR (l:=[zI,zT,zI,zS,zS,zS,zI]) (cs:=cs1) rfl rfl hl1 hd1.one rfl (fun v=>rfl) (fun w4 a hqa hba hf4 hs4=>?_);have hP4:=hP3.tr0 hf4;have hF4:=hF3.Jb hf4;have hbq:=hbq.tr hf4 Yho;have hd1:=RD.keep hd1 hf4 Yho;refine rx ?_;refine Jg (JL hP4 h3) ?_;rintro w5 ⟨hP5,hf5⟩;have hF5:=hF4.trans hf5 Yhm;have hs5:=hf5.size;have hbq:=hbq.tr hf5 Yho;have hba:=hba.tr hf5 Yho;have hd1:=RD.keep hd1 hf5 Yho;refine rx ?_;refine Jl (ihe bd p n _ _ _ _ hP5 h4) ?_;rintro cs2 w6 ⟨hd2,hP6,hf6⟩;have hF6:=hF5.trans hf6 Yhm;have hs6:=hf6.size;have hbq:=hbq.tr hf6 Yho;have hba:=hba.tr hf6 Yho;have hd1:=RD.keep hd1 hf6 Yho;have hl2:cs2.length=7:=by rw[hd2.len,Jq]
  refine KR (l:=[zI,zT,zI,zS,zS,zS,zI]) (cs:=cs2) rfl rfl hl2 hd2.one rfl (fun v=>rfl) (fun w7 b hqb hbb hf7 hs7=>?_);have hP7:=hP6.tr0 hf7;have hF7:=hF6.Jb hf7;have hbq:=hbq.tr hf7 Yho;have hba:=hba.tr hf7 Yho;have hd1:=RD.keep hd1 hf7 Yho;have hd2:=RD.keep hd2 hf7 Yho;refine rx ?_;refine Jg (JL hP7 h5) ?_;rintro w8 ⟨hP8,hf8⟩;have hF8:=hF7.trans hf8 Yhm;have hs8:=hf8.size;have hbq:=hbq.tr hf8 Yho;have hba:=hba.tr hf8 Yho;have hbb:=hbb.tr hf8 Yho;have hd1:=RD.keep hd1 hf8 Yho;have hd2:=RD.keep hd2 hf8 Yho;refine rx ?_
  ((refine JE (fun z=>Fr [p,q] w8 z) Yhp rfl ?_);obtain⟨w9,hw9⟩:=exq w8.drew;rw[<-hw9];have hf9:Fr [] w8 w9:=hw9▸Fr.drew _ _;have hS9:Fr [p,q] w8 w9:=hf9.mono Yhs;have hP9:=hP8.tr0 hf9;have hF9:=hF8.Jb hf9;have hs9:=hf9.size)
  refine d_z 0 hS9 ?_;refine Kw 1 hS9 ?_ (hrun:=by(intro u hu;exact(Kv rfl (Cells.VO (hba.tr hu Yho)) hl1)));refine Kw 2 hS9 ?_ (hrun:=by(intro u hu;exact(Kv rfl (Cells.VO (hbb.tr hu Yho)) hl2)));refine d_z 3 hS9 ?_;have hbq:=hbq.tr hf9 Yho;have hd1:=RD.keep hd1 hf9 Yho;have hd2:=RD.keep hd2 hf9 Yho;refine Ygt ?_;refine Jl (ihe bd p n _ _ _ _ hP9 h6) ?_;rintro cs3 w10 ⟨hd3,hP10,hf10⟩;have hF10:=hF9.trans hf10 Yhm;have hs10:=hf10.size;have hl3:cs3.length=7:=by rw[hd3.len,Jq]
  have hbq:=hbq.tr hf10 Yho;have hd1:=RD.keep hd1 hf10 Yho;have hd2:=RD.keep hd2 hf10 Yho;have hS10:=hS9.trans hf10 Yhs;refine wpList_nil (Jv hS10 ?_);refine JJ (i:=5) rfl Yhp ?_;refine MP rfl rfl rfl hl1 hl2 hl3 rfl (fun w11 k hk ho hf11 hs11=>?_);have hP11:=hP10.tr0 hf11;have hF11:=hF10.Jb hf11;have hbq:=hbq.tr hf11 Yho;have hd1:=RD.keep hd1 hf11 Yho;have hd2:=RD.keep hd2 hf11 Yho;have hd3:=RD.keep hd3 hf11 Yho;have hS11:=hS10.trans hf11 Yhs;refine wpList_nil (Jv hS11 ?_);refine Kw 6 hS11 ?_ (v:=.agg ([iV 6,zT,zI,zS,zS,.slice (some ⟨k,0,none⟩) 3 3,iV (atT n r)]).toArray) (hrun:=by(intro u hu;exact QU ([iV 6,zT,zI,zS,zS,.slice (some ⟨k,0,none⟩) 3 3,iV (atT n r)]) Yik));have hd:RD w11 (rg w0) (exC ⟨6,bst [],0,[],[],[e1,e2,e3],atT n r⟩) [iV 6,zT,zI,zS,zS,.slice (some ⟨k,0,none⟩) 3 3,iV (atT n r)]:=
   exR.2 ⟨_,_,_,rfl,.nil,.nil,GR (rows:=[exC e1,exC e2,exC e3]) ho (by rw[List.append_assoc];exact .cons (hd1.down Yhn) (.cons (hd2.down Yhn) (.one (hd3.down Yhn)))) (by simp[Jq]) Yhs Yig⟩
  refine Ylm ?_;refine Jd (cs:=[iV 6,zT,zI,zS,zS,.slice (some ⟨k,0,none⟩) 3 3,iV (atT n r)]) rfl rfl hbq Yhu rfl rfl (fun u hu hfu hsu=>?_);refine wpList_nil (Jv (hS11.trans hfu Yhs) ?_);(refine UH Yhp ?_);refine rx ?_;exact Qc rfl rfl hu rfl (QJ (w0:=w0) hqq Yhn Yhn Yhn hP11 hF11 hfu hd)
 |false=>
 simp only[h1,Jz,Bool.false_eq_true,if_false]at hg hP2;refine rx ?_;refine Jg (J8 [108,101,116] p n _ _ hP2) ?_;rintro w3 ⟨hP3,hf3⟩;have hF3:=hF2.trans hf3 Yhm;have hs3:=hf3.size;have hbq:=hbq.tr hf3 Yho;cases h2:isT [108,101,116] r with
 |true=>
  simp only[h2,Jz,if_true]at hg hP3;obtain⟨⟨t,r1⟩,h3,hg⟩:=bind_some hg;obtain⟨r2,h4,hg⟩:=bind_some hg;obtain⟨⟨e1,r3⟩,h5,hg⟩:=bind_some hg;obtain⟨r4,h6,hg⟩:=bind_some hg;obtain⟨⟨e2,r5⟩,h7,hg⟩:=bind_some hg;simp only[Option.some.injEq,Prod.mk.injEq]at hg;obtain⟨rfl,rfl⟩:=hg;refine rx ?_;refine Jg (VF hP3 h3) ?_;rintro w4 ⟨hP4,hf4⟩;have hF4:=hF3.trans hf4 Yhm;have hs4:=hf4.size;have hbq:=hbq.tr hf4 Yho;refine Yex ?_;refine Jg (JL hP4 h4) ?_;rintro w5 ⟨hP5,hf5⟩;have hF5:=hF4.trans hf5 Yhm;have hs5:=hf5.size;have hbq:=hbq.tr hf5 Yho;refine rx ?_;refine Jl (ihe bd p n _ _ _ _ hP5 h5) ?_;rintro cs1 w6 ⟨hd1,hP6,hf6⟩;have hF6:=hF5.trans hf6 Yhm;have hs6:=hf6.size;have hbq:=hbq.tr hf6 Yho;have hl1:cs1.length=7:=by rw[hd1.len,Jq]
  refine KR (l:=[zI,zT,zI,zS,zS,zS,zI]) (cs:=cs1) rfl rfl hl1 hd1.one rfl (fun v=>rfl) (fun w7 a hqa hba hf7 hs7=>?_);have hP7:=hP6.tr0 hf7;have hF7:=hF6.Jb hf7;have hbq:=hbq.tr hf7 Yho;have hd1:=RD.keep hd1 hf7 Yho;refine rx ?_;refine Jg (JL hP7 h6) ?_;rintro w8 ⟨hP8,hf8⟩;have hF8:=hF7.trans hf8 Yhm;have hs8:=hf8.size;have hbq:=hbq.tr hf8 Yho;have hba:=hba.tr hf8 Yho;have hd1:=RD.keep hd1 hf8 Yho;refine rx ?_
  ((refine JE (fun z=>Fr [p,q] w8 z) Yhp rfl ?_);obtain⟨w9,hw9⟩:=exq w8.drew;rw[<-hw9];have hf9:Fr [] w8 w9:=hw9▸Fr.drew _ _;have hS9:Fr [p,q] w8 w9:=hf9.mono Yhs;have hP9:=hP8.tr0 hf9;have hF9:=hF8.Jb hf9;have hs9:=hf9.size)
  refine JX 0 1 hS9 ?_;refine Kw 2 hS9 ?_ (hrun:=by(intro u hu;exact(Kv rfl (Cells.VO (hba.tr hu Yho)) hl1)));refine d_z 3 hS9 ?_;have hbq:=hbq.tr hf9 Yho;have hd1:=RD.keep hd1 hf9 Yho;refine Ygt ?_;refine Jl (ihe bd p n _ _ _ _ hP9 h7) ?_;rintro cs2 w10 ⟨hd2,hP10,hf10⟩;have hF10:=hF9.trans hf10 Yhm;have hs10:=hf10.size;have hl2:cs2.length=7:=by rw[hd2.len,Jq]
  have hbq:=hbq.tr hf10 Yho;have hd1:=RD.keep hd1 hf10 Yho;have hS10:=hS9.trans hf10 Yhs;refine wpList_nil (Jv hS10 ?_);refine JJ (i:=5) rfl Yhp ?_;refine Xj rfl rfl hl1 hl2 rfl (fun w11 k hk ho hf11 hs11=>?_);have hP11:=hP10.tr0 hf11;have hF11:=hF10.Jb hf11;have hbq:=hbq.tr hf11 Yho;have hd1:=RD.keep hd1 hf11 Yho;have hd2:=RD.keep hd2 hf11 Yho;have hS11:=hS10.trans hf11 Yhs;refine wpList_nil (Jv hS11 ?_);refine Kw 6 hS11 ?_ (v:=.agg ([iV 7,.string (bst t.text),zI,zS,zS,.slice (some ⟨k,0,none⟩) 2 2,iV (atT n r)]).toArray) (hrun:=by(intro u hu;exact QU ([iV 7,.string (bst t.text),zI,zS,zS,.slice (some ⟨k,0,none⟩) 2 2,iV (atT n r)]) Yik));have hd:RD w11 (rg w0) (exC ⟨7,bst t.text,0,[],[],[e1,e2],atT n r⟩) [iV 7,.string (bst t.text),zI,zS,zS,.slice (some ⟨k,0,none⟩) 2 2,iV (atT n r)]:=
   exR.2 ⟨_,_,_,rfl,.nil,.nil,GR (rows:=[exC e1,exC e2]) ho (.cons (hd1.down Yhn) (.one (hd2.down Yhn))) (by simp[Jq]) Yhs Yig⟩
  refine Ylm ?_;refine Jd (cs:=[iV 7,.string (bst t.text),zI,zS,zS,.slice (some ⟨k,0,none⟩) 2 2,iV (atT n r)]) rfl rfl hbq Yhu rfl rfl (fun u hu hfu hsu=>?_);refine wpList_nil (Jv (hS11.trans hfu Yhs) ?_);(refine UH Yhp ?_);refine rx ?_;exact Qc rfl rfl hu rfl (QJ (w0:=w0) hqq Yhn Yhn Yhn hP11 hF11 hfu hd)
 |false=>
 simp only[h2,Jz,Bool.false_eq_true,if_false]at hg hP3;refine rx ?_;refine Jg (J8 [109,97,116,99,104] p n _ _ hP3) ?_;rintro w4 ⟨hP4,hf4⟩;have hF4:=hF3.trans hf4 Yhm;have hs4:=hf4.size;have hbq:=hbq.tr hf4 Yho;cases h3:isT [109,97,116,99,104] r with
 |true=>
  simp only[h3,Jz,if_true]at hg hP4;have h4:JaV (atT n r) f n r.tail=some (x,r'):=hg;refine rx ?_;refine Jl ((Jhe (atT n r) f hf ih) bd p n _ _ _ _ hP4 h4) ?_;rintro cs w5 ⟨hd,hP5,hf5⟩;have hF5:=hF4.trans hf5 Yhm;have hs5:=hf5.size;have hbq:=hbq.tr hf5 Yho;have hl:cs.length=7:=by rw[hd.len,Jq]
  refine Jd (cs:=cs) rfl rfl hbq hd.one rfl hl (fun u hu hfu hsu=>?_);refine rx ?_;exact Qc rfl rfl hu hl (QJ (w0:=w0) hqq Yhn Yhn Yhn hP5 hF5 hfu (hd.down Yhn))
 |false=>
 simp only[h3,Jz,Bool.false_eq_true,if_false]at hg hP4;refine rx ?_;refine Jl (ihl bd p n _ _ _ _ hP4 hg) ?_;rintro cs w5 ⟨hd,hP5,hf5⟩;have hF5:=hF4.trans hf5 Yhm;have hs5:=hf5.size;have hbq:=hbq.tr hf5 Yho;have hl:cs.length=7:=by rw[hd.len,Jq]
 refine Jd (cs:=cs) rfl rfl hbq hd.one rfl hl (fun u hu hfu hsu=>?_);refine rx ?_;exact Qc rfl rfl hu hl (QJ (w0:=w0) hqq Yhn Yhn Yhn hP5 hF5 hfu (hd.down Yhn))
structure ExI (f:Nat):Prop where
 expr:PC 125 [] (fun n=>J5 n f) exC
 lev:∀k:Nat,1<=k->k<=7->PC 166 [iV (k:Int)] (fun n=>Uu k n f) exC
 JbX:PC 210 [] (fun n=>Vj n f) exC
 exprs:∀e,PL 208 [.string (bst e)] (fun n=>Q8 n f e) (fun l=>l.map exC)
theorem JkV:ExI 0 where
 expr:=fun bd p n r w x r' hP hg=>by simp[J5]at hg
 lev:=fun k h1 h7 bd p n r w x r' hP hg=>by
  have hk:k=1\/k=2\/k=3\/k=4\/k=5\/k=6\/k=7:=by omega
  rcases hk with rfl|rfl|rfl|rfl|rfl|rfl|rfl<;>simp[Uu,Xp,VZ,Q7,Xo,VL,VD,Vj]at hg
 JbX:=fun bd p n r w x r' hP hg=>by simp[Vj]at hg
 exprs:=fun e bd p n r w x r' hP hg=>by simp[Q8]at hg
theorem JkU(f:Nat)(hf:f+1<=1000000)(ih:∀f'≤f,ExI f'):ExI (f+1):=by
 have ho:=JiY f (ih f (Nat.le_refl _)).expr (ih f (Nat.le_refl _)).exprs;refine⟨Ji2 f Yhn (fun f' h=>(ih f' h).expr) ((ih f (Nat.le_refl _)).lev 1 Yhn Yhn),fun k h1 h7=>?_,ho,fun e=>Jhg f hf (fun f' h=>(ih f' Yhn).expr) e⟩;have hk:k=1\/k=2\/k=3\/k=4\/k=5\/k=6\/k=7:=by omega
 rcases hk with rfl|rfl|rfl|rfl|rfl|rfl|rfl
 .exact JdL 1 Yhn f (fun f' h=>(ih f' h).lev 2 Yhn Yhn)
 .exact JdL 2 Yhn f (fun f' h=>(ih f' h).lev 3 Yhn Yhn)
 .exact Ji1 f ((ih f (Nat.le_refl _)).lev 3 Yhn Yhn) ((ih f (Nat.le_refl _)).lev 4 Yhn Yhn)
 .exact JiZ f ((ih f (Nat.le_refl _)).lev 5 Yhn Yhn)
 .exact JdL 5 Yhn f (fun f' h=>(ih f' h).lev 6 Yhn Yhn)
 .exact JdL 6 Yhn f (fun f' h=>(ih f' h).lev 7 Yhn Yhn)
 .exact Ji0 (f+1) ho
theorem exI:∀f,f<=1000000->ExI f:=by
 intro f
 induction f using Nat.strongRecOn with
 |_ f ih=>
  intro hf;cases f with
  |zero=>exact JkV
  |succ f=>exact JkU f hf (fun f' h=>ih f' Yhn Yhn)
end Go.Proofs.YtggmccicdhnkgaaGreat
namespace Go.Proofs.YtggmccicdhnkgaaGreat
open Go.Proofs.Tryz
open Go.Rf Go.RowKit
attribute [local irreducible] Code.wp wpList Exit.then Exit.inBlock bodyPost A Calls execOp Addr.add
set_option maxHeartbeats 8000000 in
theorem Jj5(f:Nat)(hf:f<=1000000)(ihg:PC 124 [] (fun n=>ZY n f) gnC)(ihp:PC 164 [] (fun n=>Zh n f) gnC):PC 124 [] (fun n=>ZY n (f+1)) gnC:=by
 intro bd p n r w x r' hP hg;simp only[ZY]at hg;refine enter func124 rfl ntmps124 rfl ?_;refine rx ?_;refine Jm (l:=[zI,zT,zS,zS,zS,zI]) rfl (fun w0 q hqq hbq hf0 hs0=>?_);have hP0:=hP.tr0 hf0;have hF0:Fr [p] w w0:=hf0.mono Yhs;have hbd:bd<=w.heap.size:=hP.le;have hpw:p<w.heap.size:=Nat.lt_of_lt_of_le hP.lt hbd;refine rx ?_;refine Jg (pAt p n _ _ hP0) ?_;rintro w1 hf1;have hP1:=hP0.tr0 hf1;have hF1:=hF0.Jb hf1;have hs1:=hf1.size;have hbq:=hbq.tr hf1 Yho;refine rx ?_;refine Jg (J8 [108,101,116] p n _ _ hP1) ?_;rintro w2 ⟨hP2,hf2⟩;have hF2:=hF1.trans hf2 Yhm;have hs2:=hf2.size;have hbq:=hbq.tr hf2 Yho;cases h1:isT [108,101,116] r with
 |true=>
  simp only[h1,Jz,if_true]at hg hP2;obtain⟨⟨t,r1⟩,h3,hg⟩:=bind_some hg;obtain⟨r2,h4,hg⟩:=bind_some hg;obtain⟨⟨e1,r3⟩,h5,hg⟩:=bind_some hg;obtain⟨r4,h6,hg⟩:=bind_some hg;obtain⟨⟨e2,r5⟩,h7,hg⟩:=bind_some hg;simp only[Option.some.injEq,Prod.mk.injEq]at hg;obtain⟨rfl,rfl⟩:=hg;refine rx ?_;refine Jg (VF hP2 h3) ?_;rintro w4 ⟨hP4,hf4⟩;have hF4:=hF2.trans hf4 Yhm;have hs4:=hf4.size;have hbq:=hbq.tr hf4 Yho;refine Yex ?_;refine Jg (JL hP4 h4) ?_;rintro w5 ⟨hP5,hf5⟩;have hF5:=hF4.trans hf5 Yhm;have hs5:=hf5.size;have hbq:=hbq.tr hf5 Yho;refine rx ?_;refine Jl (ihg bd p n _ _ _ _ hP5 h5) ?_;rintro cs1 w6 ⟨hd1,hP6,hf6⟩;have hF6:=hF5.trans hf6 Yhm;have hs6:=hf6.size;have hbq:=hbq.tr hf6 Yho;have hl1:cs1.length=6:=by rw[hd1.len,KG]
  refine KR (l:=[zI,zT,zS,zS,zS,zI]) (cs:=cs1) rfl rfl hl1 hd1.one rfl (fun v=>rfl) (fun w7 a hqa hba hf7 hs7=>?_);have hP7:=hP6.tr0 hf7;have hF7:=hF6.Jb hf7;have hbq:=hbq.tr hf7 Yho;have hd1:=RD.keep hd1 hf7 Yho;refine rx ?_;refine Jg (JL hP7 h6) ?_;rintro w8 ⟨hP8,hf8⟩;have hF8:=hF7.trans hf8 Yhm;have hs8:=hf8.size;have hbq:=hbq.tr hf8 Yho;have hba:=hba.tr hf8 Yho;have hd1:=RD.keep hd1 hf8 Yho;refine rx ?_
  ((refine JE (fun z=>Fr [p,q] w8 z) Yhp rfl ?_);obtain⟨w9,hw9⟩:=exq w8.drew;rw[<-hw9];have hf9:Fr [] w8 w9:=hw9▸Fr.drew _ _;have hS9:Fr [p,q] w8 w9:=hf9.mono Yhs;have hP9:=hP8.tr0 hf9;have hF9:=hF8.Jb hf9;have hs9:=hf9.size)
  refine JX 0 1 hS9 ?_;refine Kw 2 hS9 ?_ (hrun:=by(intro u hu;exact(Kv rfl (Cells.VO (hba.tr hu Yho)) hl1)));refine d_z 3 hS9 ?_;have hbq:=hbq.tr hf9 Yho;have hd1:=RD.keep hd1 hf9 Yho;refine Ygt ?_;refine Jl (ihg bd p n _ _ _ _ hP9 h7) ?_;rintro cs2 w10 ⟨hd2,hP10,hf10⟩;have hF10:=hF9.trans hf10 Yhm;have hs10:=hf10.size;have hl2:cs2.length=6:=by rw[hd2.len,KG]
  have hbq:=hbq.tr hf10 Yho;have hd1:=RD.keep hd1 hf10 Yho;have hS10:=hS9.trans hf10 Yhs;refine wpList_nil (Jv hS10 ?_);refine JJ (i:=5) rfl Yhp ?_;refine Xj rfl rfl hl1 hl2 rfl (fun w11 k hk ho hf11 hs11=>?_);have hP11:=hP10.tr0 hf11;have hF11:=hF10.Jb hf11;have hbq:=hbq.tr hf11 Yho;have hd1:=RD.keep hd1 hf11 Yho;have hd2:=RD.keep hd2 hf11 Yho;have hS11:=hS10.trans hf11 Yhs;refine wpList_nil (Jv hS11 ?_);refine Kw 6 hS11 ?_ (v:=.agg ([iV 5,.string (bst t.text),zS,zS,.slice (some ⟨k,0,none⟩) 2 2,iV (atT n r)]).toArray) (hrun:=by(intro u hu;exact QU ([iV 5,.string (bst t.text),zS,zS,.slice (some ⟨k,0,none⟩) 2 2,iV (atT n r)]) Yik));have hd:RD w11 (rg w0) (gnC ⟨5,bst t.text,[],[],[e1,e2],atT n r⟩) [iV 5,.string (bst t.text),zS,zS,.slice (some ⟨k,0,none⟩) 2 2,iV (atT n r)]:=
   gnR.2 ⟨_,_,_,rfl,.nil,.nil,GR (rows:=[gnC e1,gnC e2]) ho (.cons (hd1.down Yhn) (.one (hd2.down Yhn))) (by simp[KG]) Yhs Yig⟩
  refine Ylm ?_;refine Jd (cs:=[iV 5,.string (bst t.text),zS,zS,.slice (some ⟨k,0,none⟩) 2 2,iV (atT n r)]) rfl rfl hbq Yhu rfl rfl (fun u hu hfu hsu=>?_);refine wpList_nil (Jv (hS11.trans hfu Yhs) ?_);(refine UH Yhp ?_);refine rx ?_;exact Qc rfl rfl hu rfl (QJ (w0:=w0) hqq Yhn Yhn Yhn hP11 hF11 hfu hd)
 |false=>
 simp only[h1,Jz,Bool.false_eq_true,if_false]at hg hP2;obtain⟨⟨g1,r1⟩,h2,hg⟩:=bind_some hg;simp only at hg;refine rx ?_;refine Jl (ihp bd p n _ _ _ _ hP2 h2) ?_;rintro cs w3 ⟨hd,hP3,hf3⟩;have hF3:=hF2.trans hf3 Yhm;have hs3:=hf3.size;have hbq:=hbq.tr hf3 Yho;have hl:cs.length=6:=by rw[hd.len,KG]
 refine KR (l:=[zI,zT,zS,zS,zS,zI]) (cs:=cs) rfl rfl hl hd.one rfl (fun v=>rfl) (fun w4 a hqa hba hf4 hs4=>?_);have hP4:=hP3.tr0 hf4;have hF4:=hF3.Jb hf4;have hd:=hd.tell (Y:=a::rg w2) (KU Yhn) hf4;have hbq:=hbq.tr hf4 Yho;refine rx ?_;refine Jh 8 [7] (σ:=Nat×Gn×List Tk) (fun s g u=>s.1<=f/\PS bd u p n s.2.2/\Fr [p] w u/\w4.heap.size<=u.heap.size/\Blk u q [zI,zT,zS,zS,zS,zI] 98/\(∃cs,Blk u a cs 98/\RD u (a::rg w2) (gnC s.2.1) cs)/\Zg n s.1 (atT n r) s.2.1 s.2.2=some (x,r')) (fun s=>s.1) (f,g1,r1) ⟨Nat.le_refl _,hP4,hF4,Nat.le_refl _,hbq,⟨cs,hba,hd⟩,hg⟩ ?_;clear hP hP0 hP1 hP2 hP3 hP4 hF0 hF1 hF2 hF3 hF4 hd hba hbq hl;rintro⟨f',e,r2⟩ g w5 ⟨hff,hP5,hF5,hs5,hbq,⟨cs,hba,hd⟩,hops⟩;simp only at hff hP5 hF5 hs5 hbq hba hd hops;have hl:cs.length=6:=by rw[hd.len,KG]
 cases f' with
 |zero=>simp[Zg]at hops
 |succ f'=>
 simp only[Zg]at hops;have haX:a∈a::rg w2:=by simp
 have hpX:∀b∈[p],b∈a::rg w2\/0<=b:=by simp
 have hpX:p∈a::rg w2:=by simp[Jk];omega
 refine rx ?_;refine Jg (J8 [119,104,101,114,101] p n _ _ hP5) ?_;rintro w6 ⟨hP6,hf6⟩;have hF6:=hF5.trans hf6 Yhm;have hs6:=hf6.size;have hbq:=hbq.tr hf6 Yho;have hba:=hba.tr hf6 Yho;have hd:=hd.old hf6 (Je hpX);cases h3:isT [119,104,101,114,101] r2 with
 |false=>
  simp only[h3,Jz,Bool.false_eq_true,if_false,Option.some.injEq,Prod.mk.injEq]at hops hP6;obtain⟨rfl,rfl⟩:=hops;refine rx ?_;refine KE rfl hba hl ?_;refine Jd (cs:=cs) rfl rfl hbq hd.one rfl hl (fun u hu hfu hsu=>?_);refine rx ?_;exact Qc rfl rfl hu hl (QJ (w0:=w0) hqq Yhn Yhn Yhn hP6 hF6 hfu ((hd.mono (T:=rg w2) (fun b hb=>.inl Yii)).down Yhn))
 |true=>
 simp only[h3,Jz,if_true]at hops hP6;obtain⟨⟨t,r3⟩,h4,hops⟩:=bind_some hops;obtain⟨r4,h5,hops⟩:=bind_some hops;obtain⟨⟨e2,r5⟩,h6,hops⟩:=bind_some hops;simp only at hops;refine rx ?_;refine Jg (VF hP6 h4) ?_;rintro w7 ⟨hP7,hf7⟩;have hF7:=hF6.trans hf7 Yhm;have hs7:=hf7.size;have hbq:=hbq.tr hf7 Yho;have hba:=hba.tr hf7 Yho;have hd:=hd.old hf7 (Je hpX);refine Yex ?_;refine Jg (JL hP7 h5) ?_;rintro w8 ⟨hP8,hf8⟩;have hF8:=hF7.trans hf8 Yhm;have hs8:=hf8.size;have hbq:=hbq.tr hf8 Yho;have hba:=hba.tr hf8 Yho;have hd:=hd.old hf8 (Je hpX);refine rx ?_
 ((refine Kr 8 (fun z=>True/\Blk z a cs 98) Yhp rfl ?_);obtain⟨w9,hw9⟩:=exq w8.drew;rw[<-hw9];have hf9:Fr [] w8 w9:=hw9▸Fr.drew _ _;have hP9:=hP8.tr0 hf9;have hF9:=hF8.Jb hf9;have hs9:=hf9.size)
 have hbq:=hbq.tr hf9 Yho;have hba:=hba.tr hf9 Yho;have hd:=hd.tr0 hf9
 ((refine Jp 0 (And.intro trivial hba) ?_);(refine Jp 1 (And.intro trivial hba) ?_);(refine Jp 2 (And.intro trivial hba) ?_))
 refine Jp 5 (And.intro trivial hba) ?_ (hrun:=(by intro u hu;exact(Kv rfl (Cells.VO hu.2) hl)));refine Jh2 (i:=3) (j:=6) rfl rfl Yhp ?_ ?_
 . (refine Jl ((exI f' Yhn).expr bd p n _ _ _ _ hP9 h6) ?_;rintro cs2 w10 ⟨hd2,hP10,hf10⟩;have hF10:=hF9.trans hf10 Yhm;have hs10:=hf10.size)
   have hl2:cs2.length=7:=by rw[hd2.len,Jq]
   have hbq:=hbq.tr hf10 Yho;have hba:=hba.tr hf10 Yho;have hd:=hd.old hf10 (Je hpX);refine Ygs ?_;refine Jh2 (i:=4) (j:=6) rfl rfl Yhp ?_ ?_
   .refine JQ rfl hl2 rfl (fun w11 k4 hk4 ho4 hf11 hs11=>?_);have hP11:=hP10.tr0 hf11;have hF11:=hF10.Jb hf11;have hbq:=hbq.tr hf11 Yho;have hba:=hba.tr hf11 Yho;have hd:=hd.tr0 hf11;have hd2:=hd2.tr0 hf11;refine Yft ?_;refine JQ rfl hl rfl (fun w12 k6 hk6 ho6 hf12 hs12=>?_);have hP12:=hP11.tr0 hf12;have hF12:=hF11.Jb hf12;have hbq:=hbq.tr hf12 Yho;have hba:=hba.tr hf12 Yho;have hd:=hd.tr0 hf12;have hd2:=hd2.tr0 hf12;have ho4:=ho4.tr0 hf12;exact Yk
   .refine JQ rfl hl rfl (fun w11 k6 hk6 ho6 hf11 hs11=>?_);have hP11:=hP10.tr0 hf11;have hF11:=hF10.Jb hf11;have hbq:=hbq.tr hf11 Yho;have hba:=hba.tr hf11 Yho;have hd:=hd.tr0 hf11;have hd2:=hd2.tr0 hf11;exact Ydx
 .refine JQ rfl hl rfl (fun w10 k6 hk6 ho6 hf10 hs10=>?_);have hP10:=hP9.tr0 hf10;have hF10:=hF9.Jb hf10;have hbq:=hbq.tr hf10 Yho;have hba:=hba.tr hf10 Yho;have hd:=hd.tr0 hf10;refine Ygs ?_;refine Ygr ?_;refine Jl ((exI f' Yhn).expr bd p n _ _ _ _ hP10 h6) ?_;rintro cs2 w11 ⟨hd2,hP11,hf11⟩;have hF11:=hF10.trans hf11 Yhm;have hs11:=hf11.size;have hl2:cs2.length=7:=by rw[hd2.len,Jq]
  have hbq:=hbq.tr hf11 Yho;have hba:=hba.tr hf11 Yho;have hd:=hd.old hf11 (Je hpX);have ho6:=ho6.tr hf11 Yjo;exact Ydx
end Go.Proofs.YtggmccicdhnkgaaGreat
