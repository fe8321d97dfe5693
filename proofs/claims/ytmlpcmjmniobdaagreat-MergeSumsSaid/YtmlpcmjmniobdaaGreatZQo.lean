/-
 The reference's parser:match.
-/
import Derived.Test.YtmlpcmjmniobdaaGreatZQl
set_option linter.all false
set_option maxHeartbeats 64000000
namespace Go.Proofs.YtmlpcmjmniobdaaGreat
open Go.Proofs.Tryz
open Go.Rf Go.RowKit
section
variable{o:Bs}{r:List Tk}{al:List Value}{fid k:Nat}{α:Type}
attribute [local irreducible] Code.wp wpList Exit.then Exit.inBlock bodyPost A Calls execOp Addr.add
def opsG(k:Nat)(sub:Nat->List Tk->Option (Ex×List Tk)):Nat->Int->Ex->List Tk->Bs->Option (Ex×List Tk)
 |_,_,e,r,[]=>some (e,r)
 |0,_,_,_,_::_=>none
 |f+1,a,e,r,c::o=>(sub f r.tail).bind fun y=>opsG k sub f a ⟨9,bst (c::o),0,[],[],[e,y.1],a⟩ y.2 (if k=4 then[] else(operT k y.2).getD [])
theorem oper_isT(h:(operT k r).getD []=o)(ho:o≠[]):takeT o r=some r.tail:=by
 cases hq:operT k r with
 |none=>rw[hq]at h;exact absurd h.symm ho
 |some o'=>
  rw[hq]at h;simp only[Option.getD_some]at h;subst h;have:=List.find?_some hq;simp only[takeT,this,if_true]
theorem pLevC(k:Nat)(hk:k=1\/k=2\/k=4\/k=5\/k=6)(s1:Int->List Tk->Option (Ex×List Tk))(sub:Int->Nat->List Tk->Option (Ex×List Tk))(f:Nat)(ih1:PC 117 [iV ((k:Int)+1)] s1 exC)
 (ih:∀f'<f,PC 117 [iV ((k:Int)+1)] (fun n=>sub n f') exC):
 PC 117 [iV (k:Int)] (fun n r=>(s1 n r).bind fun y=>opsG k (sub n) f (atT n r) y.1 y.2 ((operT k y.2).getD [])) exC:=by
 intro bd p n r w x r' hP hg;simp only at hg;obtain⟨⟨e1,r1⟩,h1,hg⟩:=bind_some hg;simp only at hg;refine enter func117 rfl ntmps117 rfl ?_;refine rx ?_;refine s_allocN (l:=[zI,zT,zI,zS,zS,zS,zI]) rfl (fun w0 q hqq hbq hf0 hs0=>?_);have hP0:=hP.tr0 hf0;have hF0:Fr [p] w w0:=hf0.mono Yhs;have hbd:bd<=w.heap.size:=hP.le;have hpw:p<w.heap.size:=Nat.lt_of_lt_of_le hP.lt hbd;refine rx ?_;refine s_cE (pAt p n _ _ hP0) ?_;rintro w1 hf1;have hP1:=hP0.tr0 hf1;have hF1:=hF0.trans0 hf1;have hs1:=hf1.size;have hbq:=hbq.tr hf1 Yho;refine rx ?_;refine s_c1 (ih1 bd p n _ _ _ _ hP1 h1) ?_;rintro cs w2 ⟨hd,hP2,hf2⟩;have hF2:=hF1.trans hf2 Yhm;have hs2:=hf2.size;have hbq:=hbq.tr hf2 Yho;have hl:cs.length=7:=by rw[hd.len,exC_len]
 refine s_var (l:=[zI,zT,zI,zS,zS,zS,zI]) (cs:=cs) rfl rfl hl hd.one rfl (fun v=>rfl) (fun w3 a hqa hba hf3 hs3=>?_);have hP3:=hP2.tr0 hf3;have hF3:=hF2.trans0 hf3;have hd:=hd.tell (Y:=a::rg w1) (in_cons Yhn) hf3;have hbq:=hbq.tr hf3 Yho;refine rx ?_;refine s_cE (pOperC k Yhn Yhn bd p n r1 w3 hP3) ?_;rintro w4 hf4;have hP4:=hP3.tr0 hf4;have hF4:=hF3.trans0 hf4;have hs4:=hf4.size;have hbq:=hbq.tr hf4 Yho;have hba:=hba.tr hf4 Yho;have hd:=hd.tr0 hf4;refine rx ?_;refine c_loopK 9 [7,8] (σ:=Nat×Ex×List Tk×Bs) (fun s g u=>g 7=.string (bst s.2.2.2)/\s.1<=f/\PS bd u p n s.2.2.1/\Fr [p] w u/\w4.heap.size<=u.heap.size/\Blk u q [zI,zT,zI,zS,zS,zS,zI] 43/\(∃cs,Blk u a cs 43/\RD u (a::rg w1) (exC s.2.1) cs)/\opsG k (sub n) s.1 (atT n r) s.2.1 s.2.2.1 s.2.2.2=some (x,r')/\(s.2.2.2≠[]->takeT s.2.2.2 s.2.2.1=some s.2.2.1.tail)) (fun s=>s.1) (f,e1,r1,(operT k r1).getD []) ⟨rfl,Nat.le_refl _,hP4,hF4,Nat.le_refl _,hbq,⟨cs,hba,hd⟩,hg,oper_isT rfl⟩ ?_;clear hP hP0 hP1 hP2 hP3 hP4 hF0 hF1 hF2 hF3 hF4 hd hba hbq hl;rintro⟨f',e,r2,o⟩ g u ⟨h7,hff,hP5,hF5,hs5,hbq,⟨cs,hba,hd⟩,hops,ho⟩;simp only at h7 hff hP5 hF5 hs5 hbq hba hd hops ho;rw[eq_upd h7];have hl:cs.length=7:=by rw[hd.len,exC_len]
 refine rx ?_;cases o with
 |nil=>
  simp only[opsG,Option.some.injEq,Prod.mk.injEq]at hops;obtain⟨rfl,rfl⟩:=hops;refine s_neqE rfl rfl (fun h=>absurd rfl h) (fun _=>?_);refine rx ?_;refine s_loadAggB rfl hba hl ?_;refine s_storeAggB (cs:=cs) rfl rfl hbq hd.one rfl hl (fun u hu hfu hsu=>?_);refine rx ?_;exact retB rfl rfl hu hl (outC (w0:=w0) hqq Yhn Yhn Yhn hP5 hF5 hfu (hd.mono (fun b hb=>.inl Yit)))
 |cons c o=>
 refine s_neqE rfl rfl (fun _=>?_) (fun h=>absurd (bst_inj.1 h) Yhs);cases f' with
 |zero=>simp[opsG]at hops
 |succ f'=>
 simp only[opsG]at hops;obtain⟨⟨e2,r3⟩,h2,hops⟩:=bind_some hops;simp only at hops;have h3:=ho Yhs;refine rx ?_;refine s_cE (cTake hP5 h3) ?_;rintro w6 ⟨hP6,hf6⟩;have hF6:=hF5.trans hf6 Yhm;have hs6:=hf6.size;have hbq:=hbq.tr hf6 Yho;have hba:=hba.tr hf6 Yho;have hd:=hd.old hf6 (fun b hb=>.inl Yit);refine rx ?_;refine s_c1 ((ih f' Yhn) bd p n _ _ _ _ hP6 h2) ?_;rintro cs2 w7 ⟨hd2,hP7,hf7⟩;have hF7:=hF6.trans hf7 Yhm;have hs7:=hf7.size;have hbq:=hbq.tr hf7 Yho;have hba:=hba.tr hf7 Yho;have hd:=hd.old hf7 (fun b hb=>.inl Yit);have hl2:cs2.length=7:=by rw[hd2.len,exC_len]
 refine s_var (l:=[zI,zT,zI,zS,zS,zS,zI]) (cs:=cs2) rfl rfl hl2 hd2.one rfl (fun v=>rfl) (fun w8 b hqb hbb hf8 hs8=>?_);have hP8:=hP7.tr0 hf8;have hF8:=hF7.trans0 hf8;have hbq:=hbq.tr hf8 Yho;have hba:=hba.tr hf8 Yho;have hd:=hd.tr0 hf8;have hd2:=hd2.tr0 hf8;refine rx ?_;refine s_loadAggB rfl hba hl ?_;refine s_loadAggB rfl hbb hl2 ?_;refine s_rows2 rfl rfl hl hl2 rfl (fun w9 k2 hk2 hown hf9 hs9=>?_);have hP9:=hP8.tr0 hf9;have hF9:=hF8.trans0 hf9;have hbq:=hbq.tr hf9 Yho;have hba:=hba.tr hf9 Yho;have hd:=hd.tr0 hf9;have hd2:=hd2.tr0 hf9;refine rx ?_;refine s_build [iV 9,.string (bst (c::o)),zI,zS,zS,.slice (some ⟨k2,0,none⟩) 2 2,iV (atT n r)] rfl ?_;have hd9:RD w9 (a::rg w1) (exC ⟨9,bst (c::o),0,[],[],[e,e2],atT n r⟩) [iV 9,.string (bst (c::o)),zI,zS,zS,.slice (some ⟨k2,0,none⟩) 2 2,iV (atT n r)]:=
  exR.2 ⟨_,_,_,rfl,.nil,.nil,drOwn (rows:=[exC e,exC e2]) hown (.cons hd (.one (hd2.mono (fun b hb=>.inl Yit)))) (by simp[exC_len]) Yhs Yig⟩
 refine s_storeAggB (cs:=[iV 9,.string (bst (c::o)),zI,zS,zS,.slice (some ⟨k2,0,none⟩) 2 2,iV (atT n r)]) rfl rfl hba Yhu hl rfl (fun w10 hba hf10 hs10=>?_);have hP10:=hP9.tr hf10 Yht;have hF10:=hF9.trans hf10 (fun x hx=>.inr Yhq);have hbq:=hbq.tr hf10 Yho;have hd:=hd9.old hf10 Yhs;refine rx ?_;refine s_cE (pOperC k Yhn Yhn bd p n _ w10 hP10) ?_;rintro w11 hf11;have hP11:=hP10.tr0 hf11;have hF11:=hF10.trans0 hf11;have hs11:=hf11.size;have hbq:=hbq.tr hf11 Yho;have hba:=hba.tr hf11 Yho;have hd:=hd.tr0 hf11;refine rx ?_;refine s_eql rfl rfl (fun h4=>?_) (fun h4=>?_)
 .have h4':k=4:=by omega
  rw[if_pos h4']at hops;refine rx ?_;exact q_roundK (f',_,r3,[]) Yhr ⟨rfl,by simp only;omega,hP11,hF11,by omega,hbq,⟨_,hba,hd⟩,hops,fun h=>absurd rfl h⟩ Yhw
 .have h4':¬k=4:=by omega
  rw[if_neg h4']at hops;refine rx ?_;exact q_roundK (f',_,r3,(operT k r3).getD []) Yhr ⟨rfl,by simp only;omega,hP11,hF11,by omega,hbq,⟨_,hba,hd⟩,hops,oper_isT rfl⟩ Yhw
theorem oper_ne(h1:1<=k)(h6:k<=6)(h:operT k r=some o):o≠[]:=by
 have hm:=List.mem_of_find?_eq_some h;have hk:k=1\/k=2\/k=3\/k=4\/k=5\/k=6:=by omega
 rintro rfl
 revert hm
 rcases hk with rfl|rfl|rfl|rfl|rfl|rfl<;>decide
theorem opsG_of(h1:1<=k)(h6:k<=6)(h4:¬k=4){sub:Nat->List Tk->Option (Ex×List Tk)}{ops:Nat->Int->Ex->List Tk->Option (Ex×List Tk)}(h0:∀a e r,ops 0 a e r=none)
 (hs:∀f a e r,ops (f+1) a e r=match operT k r with
  |none=>some (e,r)
  |some o=>(sub f r.tail).bind fun y=>ops f a ⟨9,bst o,0,[],[],[e,y.1],a⟩ y.2):∀(f:Nat) (a:Int) (e:Ex) (r:List Tk) (y:Ex×List Tk),ops f a e r=some y->opsG k sub f a e r ((operT k r).getD [])=some y
 |0,a,e,r,y,h=>by rw[h0]at h;cases h
 |f+1,a,e,r,y,h=>by
  rw[hs]at h;cases hq:operT k r with
  |none=>
   rw[hq]at h;simpa[opsG]using h
  |some o=>
   rw[hq]at h;simp only at h;have hne:=oper_ne h1 h6 hq;cases o with
   |nil=>exact absurd rfl hne
   |cons c o=>
    obtain⟨z,h2,h3⟩:=bind_some h;simp only[Option.getD_some,opsG,h2,Option.bind_some,if_neg h4];exact opsG_of h1 h6 h4 h0 hs f a _ _ y h3
theorem PC.of{g g':Int->List Tk->Option (α×List Tk)}{C:α->List Dt}(h:PC fid al g' C)(hg:∀n r y,g n r=some y->g' n r=some y):PC fid al g C:=
 fun bd p n r w x r' hP he=>h bd p n r w x r' hP (hg n r _ he)
theorem PL.of{g g':Int->List Tk->Option (α×List Tk)}{C:α->List (List Dt)}(h:PL fid al g' C)(hg:∀n r y,g n r=some y->g' n r=some y):PL fid al g C:=
 fun bd p n r w x r' hP he=>h bd p n r w x r' hP (hg n r _ he)
def levF:Nat->Int->Nat->List Tk->Option (Ex×List Tk)
 |1=>pLev1
 |2=>pLev2
 |3=>pLev3
 |4=>pLev4
 |5=>pLev5
 |6=>pLev6
 |_=>pOpnd
theorem pLevG(k:Nat)(hk:k=1\/k=2\/k=5\/k=6)(f:Nat)(ih:∀f'≤f,PC 117 [iV ((k:Int)+1)] (fun n=>levF (k+1) n f') exC):
 PC 117 [iV (k:Int)] (fun n=>levF k n (f+1)) exC:=by
 refine PC.of (pLevC k Yhn (fun n=>levF (k+1) n f) (fun n f'=>levF (k+1) n f') f (ih f (Nat.le_refl _)) (fun f' h=>ih f' Yhn)) (fun n r y h=>?_);rcases hk with rfl|rfl|rfl|rfl
 .change pLev1 n (f+1) r=some y at h;change ((pLev2 n f r).bind fun y=>opsG 1 (pLev2 n) f (atT n r) y.1 y.2 ((operT 1 y.2).getD []))=some y;simp only[pLev1]at h;obtain⟨z,h1,h2⟩:=bind_some h;rw[h1,Option.bind_some];exact opsG_of (ops:=pOps1 n) Yhn Yhn Yhn (fun _ _ _=>by rw[pOps1]) (fun _ _ _ t=>by rw[pOps1];cases operT 1 t<;>rfl) f _ _ _ y h2
 .change pLev2 n (f+1) r=some y at h;change ((pLev3 n f r).bind fun y=>opsG 2 (pLev3 n) f (atT n r) y.1 y.2 ((operT 2 y.2).getD []))=some y;simp only[pLev2]at h;obtain⟨z,h1,h2⟩:=bind_some h;rw[h1,Option.bind_some];exact opsG_of (ops:=pOps2 n) Yhn Yhn Yhn (fun _ _ _=>by rw[pOps2]) (fun _ _ _ t=>by rw[pOps2];cases operT 2 t<;>rfl) f _ _ _ y h2
 .change pLev5 n (f+1) r=some y at h;change ((pLev6 n f r).bind fun y=>opsG 5 (pLev6 n) f (atT n r) y.1 y.2 ((operT 5 y.2).getD []))=some y;simp only[pLev5]at h;obtain⟨z,h1,h2⟩:=bind_some h;rw[h1,Option.bind_some];exact opsG_of (ops:=pOps5 n) Yhn Yhn Yhn (fun _ _ _=>by rw[pOps5]) (fun _ _ _ t=>by rw[pOps5];cases operT 5 t<;>rfl) f _ _ _ y h2
 .change pLev6 n (f+1) r=some y at h;change ((pOpnd n f r).bind fun y=>opsG 6 (pOpnd n) f (atT n r) y.1 y.2 ((operT 6 y.2).getD []))=some y;simp only[pLev6]at h;obtain⟨z,h1,h2⟩:=bind_some h;rw[h1,Option.bind_some];exact opsG_of (ops:=pOps6 n) Yhn Yhn Yhn (fun _ _ _=>by rw[pOps6]) (fun _ _ _ t=>by rw[pOps6];cases operT 6 t<;>rfl) f _ _ _ y h2
theorem pLevG4(f:Nat)(ih:PC 117 [iV (((4:Nat):Int)+1)] (fun n=>levF 5 n f) exC):
 PC 117 [iV ((4:Nat):Int)] (fun n=>levF 4 n (f+1)) exC:=by
 refine PC.of (pLevC 4 Yhn (fun n=>levF 5 n f) (fun n f'=>levF 5 n f) 1 ih (fun f' h=>ih)) (fun n r y h=>?_);change pLev4 n (f+1) r=some y at h;change ((pLev5 n f r).bind fun y=>opsG 4 (fun _=>pLev5 n f) 1 (atT n r) y.1 y.2 ((operT 4 y.2).getD []))=some y;simp only[pLev4]at h;obtain⟨z,h1,h2⟩:=bind_some h;rw[h1,Option.bind_some];cases hq:operT 4 z.2 with
 |none=>
  rw[hq]at h2;simpa[opsG]using h2
 |some o=>
  rw[hq]at h2;simp only at h2;have hne:=oper_ne Yhn Yhn hq;cases o with
  |nil=>exact absurd rfl hne
  |cons c o=>
   obtain⟨b,h3,h4⟩:=bind_some h2;simp only[Option.getD_some,opsG,h3,Option.bind_some,if_true];exact h4
end
section
attribute [local irreducible] Code.wp wpList Exit.then Exit.inBlock bodyPost A Calls execOp Addr.add
theorem pLev7C(f:Nat)(ih:PC 208 [] (fun n=>pOpnd n f) exC):PC 117 [iV 7] (fun n=>levF 7 n f) exC:=by
 intro bd p n r w x r' hP hg;refine enter func117 rfl ntmps117 rfl ?_;refine rx ?_;refine s_allocN (l:=[zI,zT,zI,zS,zS,zS,zI]) rfl (fun w0 q hqq hbq hf0 hs0=>?_);have hP0:=hP.tr0 hf0;have hF0:Fr [p] w w0:=hf0.mono Yhs;have hbd:bd<=w.heap.size:=hP.le;have hpw:p<w.heap.size:=Nat.lt_of_lt_of_le hP.lt hbd;refine rx ?_;refine s_cE (pAt p n _ _ hP0) ?_;rintro w1 hf1;have hP1:=hP0.tr0 hf1;have hF1:=hF0.trans0 hf1;have hs1:=hf1.size;have hbq:=hbq.tr hf1 Yho;refine rx ?_;refine s_c1 (ih bd p n _ _ _ _ hP1 hg) ?_;rintro cs w2 ⟨hd,hP2,hf2⟩;have hF2:=hF1.trans hf2 Yhm;have hs2:=hf2.size;have hbq:=hbq.tr hf2 Yho;have hl:cs.length=7:=by rw[hd.len,exC_len]
 refine s_storeAggB (cs:=cs) rfl rfl hbq hd.one rfl hl (fun u hu hfu hsu=>?_);refine rx ?_;exact retB rfl rfl hu hl (outC (w0:=w0) hqq Yhn Yhn Yhn hP2 hF2 hfu (hd.down Yhn))
theorem pLev3C(f:Nat)(ih3:PC 117 [iV 3] (fun n=>pLev3 n f) exC)(ih4:PC 117 [iV 4] (fun n=>pLev4 n f) exC):PC 117 [iV 3] (fun n=>pLev3 n (f+1)) exC:=by
 intro bd p n r w x r' hP hg;simp only[pLev3]at hg;refine enter func117 rfl ntmps117 rfl ?_;refine rx ?_;refine s_allocN (l:=[zI,zT,zI,zS,zS,zS,zI]) rfl (fun w0 q hqq hbq hf0 hs0=>?_);have hP0:=hP.tr0 hf0;have hF0:Fr [p] w w0:=hf0.mono Yhs;have hbd:bd<=w.heap.size:=hP.le;have hpw:p<w.heap.size:=Nat.lt_of_lt_of_le hP.lt hbd;refine rx ?_;refine s_cE (pAt p n _ _ hP0) ?_;rintro w1 hf1;have hP1:=hP0.tr0 hf1;have hF1:=hF0.trans0 hf1;have hs1:=hf1.size;have hbq:=hbq.tr hf1 Yho;refine rx ?_;refine s_cE (pSkip [110,111,116] p n _ _ hP1) ?_;rintro w2 ⟨hP2,hf2⟩;have hF2:=hF1.trans hf2 Yhm;have hs2:=hf2.size;have hbq:=hbq.tr hf2 Yho;cases h1:isT [110,111,116] r with
 |true=>
  simp only[h1,nextP,if_true]at hg hP2;obtain⟨⟨e,r1⟩,h2,hg⟩:=bind_some hg;simp only[Option.some.injEq,Prod.mk.injEq]at hg;obtain⟨rfl,rfl⟩:=hg;refine rx ?_;refine s_c1 (ih3 bd p n _ _ _ _ hP2 h2) ?_;rintro cs w3 ⟨hd,hP3,hf3⟩;have hF3:=hF2.trans hf3 Yhm;have hs3:=hf3.size;have hbq:=hbq.tr hf3 Yho;have hl:cs.length=7:=by rw[hd.len,exC_len]
  refine s_rows1 rfl hl rfl (fun w4 k hk ho hf4 hs4=>?_);have hP4:=hP3.tr0 hf4;have hF4:=hF3.trans0 hf4;have hbq:=hbq.tr hf4 Yho;have hd:=RD.keep hd hf4 Yho;refine rx ?_;refine s_build [iV 9,.string (bst [110,111,116]),zI,zS,zS,.slice (some ⟨k,0,none⟩) 1 1,iV (atT n r)] rfl ?_;have hd4:RD w4 (rg w0) (exC ⟨9,bst [110,111,116],0,[],[],[e],atT n r⟩) [iV 9,.string (bst [110,111,116]),zI,zS,zS,.slice (some ⟨k,0,none⟩) 1 1,iV (atT n r)]:=exR.2 ⟨_,_,_,rfl,.nil,.nil,drOne ho (hd.down Yhn) Yjo⟩;refine rx ?_;refine s_storeAggB (cs:=[iV 9,.string (bst [110,111,116]),zI,zS,zS,.slice (some ⟨k,0,none⟩) 1 1,iV (atT n r)]) rfl rfl hbq Yhu rfl rfl (fun u hu hfu hsu=>?_);refine rx ?_;exact retB rfl rfl hu rfl (outC (w0:=w0) hqq Yhn Yhn Yhn hP4 hF4 hfu hd4)
 |false=>
  simp only[h1,nextP,Bool.false_eq_true,if_false]at hg hP2;refine rx ?_;refine s_c1 (ih4 bd p n _ _ _ _ hP2 hg) ?_;rintro cs w3 ⟨hd,hP3,hf3⟩;have hF3:=hF2.trans hf3 Yhm;have hs3:=hf3.size;have hbq:=hbq.tr hf3 Yho;have hl:cs.length=7:=by rw[hd.len,exC_len]
  refine s_storeAggB (cs:=cs) rfl rfl hbq hd.one rfl hl (fun u hu hfu hsu=>?_);refine rx ?_;exact retB rfl rfl hu hl (outC (w0:=w0) hqq Yhn Yhn Yhn hP3 hF3 hfu (hd.down Yhn))
theorem pOpndC(f:Nat)(ihe:PC 68 [] (fun n=>pExpr n f) exC)(ihl:∀e,PL 206 [.string (bst e)] (fun n=>pExprs n f e) (fun l=>l.map exC)):PC 208 [] (fun n=>pOpnd n (f+1)) exC:=by
 intro bd p n r w x r' hP hg;simp only[pOpnd]at hg;refine enter func208 rfl ntmps208 rfl ?_;refine rx ?_;refine s_allocN (l:=[zI,zT,zI,zS,zS,zS,zI]) rfl (fun w0 q hqq hbq hf0 hs0=>?_);have hP0:=hP.tr0 hf0;have hF0:Fr [p] w w0:=hf0.mono Yhs;have hbd:bd<=w.heap.size:=hP.le;have hpw:p<w.heap.size:=Nat.lt_of_lt_of_le hP.lt hbd;refine rx ?_;refine s_cE (pAt p n _ _ hP0) ?_;rintro w1 hf1;have hP1:=hP0.tr0 hf1;have hF1:=hF0.trans0 hf1;have hs1:=hf1.size;have hbq:=hbq.tr hf1 Yho;refine rx ?_;refine s_cE (pSkip [45] p n _ _ hP1) ?_;rintro w2 ⟨hP2,hf2⟩;have hF2:=hF1.trans hf2 Yhm;have hs2:=hf2.size;have hbq:=hbq.tr hf2 Yho;cases h1:isT [45] r with
 |true=>
  simp only[h1,nextP,if_true]at hg hP2;obtain⟨⟨t,r1⟩,h2,hg⟩:=bind_some hg;simp only[Option.some.injEq,Prod.mk.injEq]at hg;obtain⟨rfl,rfl⟩:=hg;refine rx ?_;refine s_cE (cTok hP2 h2) ?_;rintro w3 ⟨hP3,hf3⟩;have hF3:=hF2.trans hf3 Yhm;have hs3:=hf3.size;have hbq:=hbq.tr hf3 Yho;refine s_fieldV (l:=tkC t) rfl rfl ?_;have hnum:=hP2.num t (by rw[(tokT_some h2).1];simp);refine rx ?_;refine s_build [zI,zT,iV (0-t.n),zS,zS,zS,iV (atT n r)] rfl ?_;refine rx ?_;refine s_storeAggB (cs:=[zI,zT,iV (0-t.n),zS,zS,zS,iV (atT n r)]) rfl rfl hbq Yhu rfl rfl (fun u hu hfu hsu=>?_);refine rx ?_;exact retB rfl rfl hu rfl (outC (w0:=w0) hqq Yhn Yhn Yhn hP3 hF3 hfu (by rw[Int.zero_sub];exact exR.2 ⟨_,_,_,rfl,.nil,.nil,.nil⟩))
 |false=>
 simp only[h1,nextP,Bool.false_eq_true,if_false]at hg hP2;refine rx ?_;refine s_cE (pSkip [116,114,117,101] p n _ _ hP2) ?_;rintro w3 ⟨hP3,hf3⟩;have hF3:=hF2.trans hf3 Yhm;have hs3:=hf3.size;have hbq:=hbq.tr hf3 Yho;cases h3:isT [116,114,117,101] r with
 |true=>
  simp only[h3,nextP,if_true]at hg hP3;simp only[Option.some.injEq,Prod.mk.injEq]at hg;obtain⟨rfl,rfl⟩:=hg;refine rx ?_;refine s_build [iV 1,zT,iV 1,zS,zS,zS,iV (atT n r)] rfl ?_;refine rx ?_;refine s_storeAggB (cs:=[iV 1,zT,iV 1,zS,zS,zS,iV (atT n r)]) rfl rfl hbq Yhu rfl rfl (fun u hu hfu hsu=>?_);refine rx ?_;exact retB rfl rfl hu rfl (outC (w0:=w0) hqq Yhn Yhn Yhn hP3 hF3 hfu (exR.2 ⟨_,_,_,rfl,.nil,.nil,.nil⟩))
 |false=>
 simp only[h3,nextP,Bool.false_eq_true,if_false]at hg hP3;refine rx ?_;refine s_cE (pSkip [102,97,108,115,101] p n _ _ hP3) ?_;rintro w4 ⟨hP4,hf4⟩;have hF4:=hF3.trans hf4 Yhm;have hs4:=hf4.size;have hbq:=hbq.tr hf4 Yho;cases h4:isT [102,97,108,115,101] r with
 |true=>
  simp only[h4,nextP,if_true]at hg hP4;simp only[Option.some.injEq,Prod.mk.injEq]at hg;obtain⟨rfl,rfl⟩:=hg;refine rx ?_;refine s_build [iV 1,zT,zI,zS,zS,zS,iV (atT n r)] rfl ?_;refine rx ?_;refine s_storeAggB (cs:=[iV 1,zT,zI,zS,zS,zS,iV (atT n r)]) rfl rfl hbq Yhu rfl rfl (fun u hu hfu hsu=>?_);refine rx ?_;exact retB rfl rfl hu rfl (outC (w0:=w0) hqq Yhn Yhn Yhn hP4 hF4 hfu (exR.2 ⟨_,_,_,rfl,.nil,.nil,.nil⟩))
 |false=>
 simp only[h4,nextP,Bool.false_eq_true,if_false]at hg hP4;refine rx ?_;refine s_cE (pSkip [40] p n _ _ hP4) ?_;rintro w5 ⟨hP5,hf5⟩;have hF5:=hF4.trans hf5 Yhm;have hs5:=hf5.size;have hbq:=hbq.tr hf5 Yho;cases h5:isT [40] r with
 |true=>
  simp only[h5,nextP,if_true]at hg hP5;obtain⟨⟨e,r1⟩,h6,hg⟩:=bind_some hg;obtain⟨r2,h7,hg⟩:=bind_some hg;simp only[Option.some.injEq,Prod.mk.injEq]at hg;obtain⟨rfl,rfl⟩:=hg;refine rx ?_;refine s_c1 (ihe bd p n _ _ _ _ hP5 h6) ?_;rintro cs w6 ⟨hd,hP6,hf6⟩;have hF6:=hF5.trans hf6 Yhm;have hs6:=hf6.size;have hbq:=hbq.tr hf6 Yho;have hl:cs.length=7:=by rw[hd.len,exC_len]
  refine s_var (l:=[zI,zT,zI,zS,zS,zS,zI]) (cs:=cs) rfl rfl hl hd.one rfl (fun v=>rfl) (fun w7 a hqa hba hf7 hs7=>?_);have hP7:=hP6.tr0 hf7;have hF7:=hF6.trans0 hf7;have hbq:=hbq.tr hf7 Yho;have hd:=RD.keep hd hf7 Yho;refine rx ?_;refine s_cE (cTake hP7 h7) ?_;rintro w8 ⟨hP8,hf8⟩;have hF8:=hF7.trans hf8 Yhm;have hs8:=hf8.size;have hbq:=hbq.tr hf8 Yho;have hba:=hba.tr hf8 Yho;have hd:=RD.keep hd hf8 Yho;refine rx ?_;refine s_loadAggB rfl hba hl ?_;refine s_storeAggB (cs:=cs) rfl rfl hbq hd.one rfl hl (fun u hu hfu hsu=>?_);refine rx ?_;exact retB rfl rfl hu hl (outC (w0:=w0) hqq Yhn Yhn Yhn hP8 hF8 hfu (hd.down Yhn))
 |false=>
 simp only[h5,nextP,Bool.false_eq_true,if_false]at hg hP5;refine rx ?_;refine s_cE (pSkip [91] p n _ _ hP5) ?_;rintro w6 ⟨hP6,hf6⟩;have hF6:=hF5.trans hf6 Yhm;have hs6:=hf6.size;have hbq:=hbq.tr hf6 Yho;cases h6:isT [91] r with
 |true=>
  simp only[h6,nextP,if_true]at hg hP6;obtain⟨⟨l,r1⟩,h7,hg⟩:=bind_some hg;simp only[Option.some.injEq,Prod.mk.injEq]at hg;obtain⟨rfl,rfl⟩:=hg;refine rx ?_;refine s_call ((ihl [93]) bd p n _ _ _ _ hP6 h7) rfl ?_;rintro _ w7 ⟨_,rfl,hd,hP7,hf7⟩;obtain⟨ao1,c1,rfl,hc1⟩:=DR.slice hd;refine⟨_,rfl,?_⟩;have hF7:=hF6.trans hf7 Yhm;have hs7:=hf7.size;have hbq:=hbq.tr hf7 Yho;refine rx ?_;refine s_build [iV 5,zT,zI,zS,zS,.slice ao1 (l.map exC).length c1,iV (atT n r)] rfl ?_;refine rx ?_;refine s_storeAggB (cs:=[iV 5,zT,zI,zS,zS,.slice ao1 (l.map exC).length c1,iV (atT n r)]) rfl rfl hbq Yhu rfl rfl (fun u hu hfu hsu=>?_);refine rx ?_;exact retB rfl rfl hu rfl (outC (w0:=w0) hqq Yhn Yhn Yhn hP7 hF7 hfu (exR.2 ⟨_,_,_,rfl,.nil,.nil,hd.down Yhn⟩))
 |false=>
 simp only[h6,nextP,Bool.false_eq_true,if_false]at hg hP6;refine rx ?_;refine s_cE (pKind 2 p n _ _ hP6) ?_;rintro w7 hf7;have hP7:=hP6.tr0 hf7;have hF7:=hF6.trans0 hf7;have hs7:=hf7.size;have hbq:=hbq.tr hf7 Yho;cases h7:kindT 2 r with
 |true=>
  simp only[h7,if_true]at hg;obtain⟨⟨t,r1⟩,h8,hg⟩:=bind_some hg;simp only[Option.some.injEq,Prod.mk.injEq]at hg;obtain⟨rfl,rfl⟩:=hg;refine rx ?_;refine s_cE (cTok hP7 h8) ?_;rintro w8 ⟨hP8,hf8⟩;have hF8:=hF7.trans hf8 Yhm;have hs8:=hf8.size;have hbq:=hbq.tr hf8 Yho;refine Yex ?_;refine s_build [zI,zT,iV t.n,zS,zS,zS,iV (atT n r)] rfl ?_;refine rx ?_;refine s_storeAggB (cs:=[zI,zT,iV t.n,zS,zS,zS,iV (atT n r)]) rfl rfl hbq Yhu rfl rfl (fun u hu hfu hsu=>?_);refine rx ?_;exact retB rfl rfl hu rfl (outC (w0:=w0) hqq Yhn Yhn Yhn hP8 hF8 hfu (exR.2 ⟨_,_,_,rfl,.nil,.nil,.nil⟩))
 |false=>
 simp only[h7,Bool.false_eq_true,if_false]at hg;refine rx ?_;refine s_cE (pKind 1 p n _ _ hP7) ?_;rintro w8 hf8;have hP8:=hP7.tr0 hf8;have hF8:=hF7.trans0 hf8;have hs8:=hf8.size;have hbq:=hbq.tr hf8 Yho;cases h8:kindT 1 r with
 |true=>
  simp only[h8,if_true]at hg;obtain⟨⟨t,r1⟩,h9,hg⟩:=bind_some hg;simp only at hg;refine rx ?_;refine s_cE (cTok hP8 h9) ?_;rintro w9 ⟨hP9,hf9⟩;have hF9:=hF8.trans hf9 Yhm;have hs9:=hf9.size;have hbq:=hbq.tr hf9 Yho;refine Yex ?_;refine s_build [iV 4,.string (bst t.text),zI,zS,zS,zS,iV (atT n r)] rfl ?_;refine s_var (l:=[zI,zT,zI,zS,zS,zS,zI]) (cs:=[iV 4,.string (bst t.text),zI,zS,zS,zS,iV (atT n r)]) rfl rfl rfl Yhu rfl (fun v=>rfl) (fun w10 a hqa hba hf10 hs10=>?_);have hP10:=hP9.tr0 hf10;have hF10:=hF9.trans0 hf10;have hbq:=hbq.tr hf10 Yho;refine rx ?_;refine s_cE (pSkip [40] p n _ _ hP10) ?_;rintro w11 ⟨hP11,hf11⟩;have hF11:=hF10.trans hf11 Yhm;have hs11:=hf11.size;have hbq:=hbq.tr hf11 Yho;have hba:=hba.tr hf11 Yho;cases h10:isT [40] r1 with
  |true=>
   simp only[h10,nextP,if_true]at hg hP11;obtain⟨⟨l,r2⟩,h11,hg⟩:=bind_some hg;simp only[Option.some.injEq,Prod.mk.injEq]at hg;obtain⟨rfl,rfl⟩:=hg;refine rx ?_;refine s_call ((ihl [41]) bd p n _ _ _ _ hP11 h11) rfl ?_;rintro _ w12 ⟨_,rfl,hd,hP12,hf12⟩;obtain⟨ao1,c1,rfl,hc1⟩:=DR.slice hd;refine⟨_,rfl,?_⟩;have hF12:=hF11.trans hf12 Yhm;have hs12:=hf12.size;have hbq:=hbq.tr hf12 Yho;have hba:=hba.tr hf12 Yho;refine rx ?_
   ((with_reducible apply s_storeB);exact rfl;(conv=>lhs;whnf);exact rfl;exact hba;exact rfl)
   intro w13 hba hf13 hs13;have hP13:=hP12.tr hf13 Yht;have hF13:=hF12.trans hf13 (fun x hx=>.inr Yhq);have hbq:=hbq.tr hf13 Yho;have hd:=DR.keep hd hf13 Yht;refine rx ?_;refine s_storeAggB (cs:=[iV 4,.string (bst t.text),zI,zS,zS,.slice ao1 (l.map exC).length c1,iV (atT n r)]) rfl rfl hbq Yhu rfl rfl (fun u hu hfu hsu=>?_);refine rx ?_;exact retB rfl rfl hu rfl (outC (w0:=w0) hqq Yhn Yhn Yhn hP13 hF13 hfu (exR.2 ⟨_,_,_,rfl,.nil,.nil,hd.down Yhn⟩))
  |false=>
   simp only[h10,nextP,Bool.false_eq_true,if_false]at hg hP11;simp only[Option.some.injEq,Prod.mk.injEq]at hg;obtain⟨rfl,rfl⟩:=hg;refine rx ?_;refine s_storeAggB (cs:=[iV 4,.string (bst t.text),zI,zS,zS,zS,iV (atT n r)]) rfl rfl hbq Yhu rfl rfl (fun u hu hfu hsu=>?_);refine rx ?_;exact retB rfl rfl hu rfl (outC (w0:=w0) hqq Yhn Yhn Yhn hP11 hF11 hfu (exR.2 ⟨_,_,_,rfl,.nil,.nil,.nil⟩))
 |false=>
 simp only[h8,Bool.false_eq_true,if_false]at hg;obtain⟨⟨t,r1⟩,h9,hg⟩:=bind_some hg;simp only at hg;refine rx ?_;refine s_cE (cTok hP8 h9) ?_;rintro w9 ⟨hP9,hf9⟩;have hF9:=hF8.trans hf9 Yhm;have hs9:=hf9.size;have hbq:=hbq.tr hf9 Yho;refine Yex ?_;refine s_build [iV 2,.string (bst t.text),zI,zS,zS,zS,iV (atT n r)] rfl ?_;refine s_var (l:=[zI,zT,zI,zS,zS,zS,zI]) (cs:=[iV 2,.string (bst t.text),zI,zS,zS,zS,iV (atT n r)]) rfl rfl rfl Yhu rfl (fun v=>rfl) (fun w10 a hqa hba hf10 hs10=>?_);have hP10:=hP9.tr0 hf10;have hF10:=hF9.trans0 hf10;have hbq:=hbq.tr hf10 Yho;refine rx ?_;refine s_cE (pSkip [40] p n _ _ hP10) ?_;rintro w11 ⟨hP11,hf11⟩;have hF11:=hF10.trans hf11 Yhm;have hs11:=hf11.size;have hbq:=hbq.tr hf11 Yho;have hba:=hba.tr hf11 Yho;cases h10:isT [40] r1 with
 |true=>
  simp only[h10,nextP,if_true]at hg hP11;obtain⟨⟨l,r2⟩,h11,hg⟩:=bind_some hg;simp only[Option.some.injEq,Prod.mk.injEq]at hg;obtain⟨rfl,rfl⟩:=hg;refine rx ?_
  ((with_reducible apply s_storeB);exact rfl;(conv=>lhs;whnf);exact rfl;exact hba;exact rfl)
  intro w12 hba hf12 hs12;have hP12:=hP11.tr hf12 Yht;have hF12:=hF11.trans hf12 (fun x hx=>.inr Yhq);have hbq:=hbq.tr hf12 Yho;refine rx ?_;refine s_call ((ihl [41]) bd p n _ _ _ _ hP12 h11) rfl ?_;rintro _ w13 ⟨_,rfl,hd,hP13,hf13⟩;obtain⟨ao1,c1,rfl,hc1⟩:=DR.slice hd;refine⟨_,rfl,?_⟩;have hF13:=hF12.trans hf13 Yhm;have hs13:=hf13.size;have hbq:=hbq.tr hf13 Yho;have hba:=hba.tr hf13 Yho;refine rx ?_
  ((with_reducible apply s_storeB);exact rfl;(conv=>lhs;whnf);exact rfl;exact hba;exact rfl)
  intro w14 hba hf14 hs14;have hP14:=hP13.tr hf14 Yht;have hF14:=hF13.trans hf14 (fun x hx=>.inr Yhq);have hbq:=hbq.tr hf14 Yho;have hd:=DR.keep hd hf14 Yht;refine rx ?_;refine s_storeAggB (cs:=[iV 3,.string (bst t.text),zI,zS,zS,.slice ao1 (l.map exC).length c1,iV (atT n r)]) rfl rfl hbq Yhu rfl rfl (fun u hu hfu hsu=>?_);refine rx ?_;exact retB rfl rfl hu rfl (outC (w0:=w0) hqq Yhn Yhn Yhn hP14 hF14 hfu (exR.2 ⟨_,_,_,rfl,.nil,.nil,hd.down Yhn⟩))
 |false=>
  simp only[h10,nextP,Bool.false_eq_true,if_false]at hg hP11;simp only[Option.some.injEq,Prod.mk.injEq]at hg;obtain⟨rfl,rfl⟩:=hg;refine rx ?_;refine s_storeAggB (cs:=[iV 2,.string (bst t.text),zI,zS,zS,zS,iV (atT n r)]) rfl rfl hbq Yhu rfl rfl (fun u hu hfu hsu=>?_);refine rx ?_;exact retB rfl rfl hu rfl (outC (w0:=w0) hqq Yhn Yhn Yhn hP11 hF11 hfu (exR.2 ⟨_,_,_,rfl,.nil,.nil,.nil⟩))
end
section
attribute [local irreducible] Code.wp wpList Exit.then Exit.inBlock bodyPost A Calls execOp Addr.add
def pMatchF(a:Int)(f:Nat)(n:Int)(r:List Tk):Option (Ex×List Tk):=
 (pExpr n f r).bind fun y=>(takeT [123] y.2).bind fun r2=>(pArms n f r2).bind fun x=>(takeT [125] x.2).bind fun r4=>some (⟨8,bst [],0,x.1.map fun y=>bst y.1,x.1.map fun y=>y.2.1.map bst,y.1::x.1.map fun y=>y.2.2,a⟩,r4)
abbrev Arm:=Bs×List Bs×Ex
theorem pMatchC(at_:Int)(f:Nat)(hf:f<=1000000)(ih:∀f'≤f,PC 68 [] (fun n=>pExpr n f') exC):PC 116 [iV at_] (pMatchF at_ f) exC:=by
 intro bd p n r w x r' hP hg;simp only[pMatchF]at hg;obtain⟨⟨e0,r1⟩,h1,hg⟩:=bind_some hg;obtain⟨r2,h2,hg⟩:=bind_some hg;obtain⟨⟨l,r3⟩,h3,hg⟩:=bind_some hg;obtain⟨r4,h4,hg⟩:=bind_some hg;simp only[Option.some.injEq,Prod.mk.injEq]at hg;obtain⟨rfl,rfl⟩:=hg;refine enter func116 rfl ntmps116 rfl ?_;refine rx ?_;refine s_allocN (l:=[zI,zT,zI,zS,zS,zS,zI]) rfl (fun w0 q hqq hbq hf0 hs0=>?_);have hP0:=hP.tr0 hf0;have hF0:Fr [p] w w0:=hf0.mono Yhs;have hbd:bd<=w.heap.size:=hP.le;have hpw:p<w.heap.size:=Nat.lt_of_lt_of_le hP.lt hbd;refine rx ?_;refine s_c1 ((ih f (Nat.le_refl _)) bd p n _ _ _ _ hP0 h1) ?_;rintro cs w1 ⟨hd,hP1,hf1⟩;have hF1:=hF0.trans hf1 Yhm;have hs1:=hf1.size;have hbq:=hbq.tr hf1 Yho;have hl:cs.length=7:=by rw[hd.len,exC_len]
 refine s_rows1 rfl hl rfl (fun w2 k hk ho hf2 hs2=>?_);have hP2:=hP1.tr0 hf2;have hF2:=hF1.trans0 hf2;have hbq:=hbq.tr hf2 Yho;have hd:=hd.tell (Y:=k::rg w0) (in_cons Yhn) hf2;refine rx ?_;refine s_build [iV 8,zT,zI,zS,zS,.slice (some ⟨k,0,none⟩) 1 1,iV at_] rfl ?_;refine s_var (l:=[zI,zT,zI,zS,zS,zS,zI]) (cs:=[iV 8,zT,zI,zS,zS,.slice (some ⟨k,0,none⟩) 1 1,iV at_]) rfl rfl rfl Yhu rfl (fun v=>rfl) (fun w3 a hqa hba hf3 hs3=>?_);have hP3:=hP2.tr0 hf3;have hF3:=hF2.trans0 hf3;have hbq:=hbq.tr hf3 Yho;have ho:=ho.tr0 hf3;have hd:=hd.tell (Y:=a::k::rg w0) (in_cons Yhn) hf3;have hL3:L3 (a::rg w0) w3 9 39 43 1 1 7 (fun y:Arm=>strR (bst y.1)) (fun y:Arm=>strsR (y.2.1.map bst)) exC [] [] [e0] (zS) (zS) (.slice (some ⟨k,0,none⟩) 1 1):=
  ⟨LS.nil,LS.nil,LS.first ho hd (fun b hb=>.inl (by simp[blks,Value.ownBlock,rg_mem]at hb ⊢;omega)) Yig⟩
 clear hd ho;refine rx ?_;refine s_cE (cTake hP3 h2) ?_;rintro w4 ⟨hP4,hf4⟩;have hF4:=hF3.trans hf4 Yhm;have hs4:=hf4.size;have hbq:=hbq.tr hf4 Yho;have hba:=hba.tr hf4 Yho;have hL3:=hL3.keep hf4 (by simp[rg_mem];omega);refine rx ?_;refine c_loopK 7 [6] (σ:=Nat×List Arm×List Tk×Bool) (fun s g u=>g 6=.bool s.2.2.2/\s.1<=f/\PS bd u p n s.2.2.1/\Fr [p] w u/\w4.heap.size<=u.heap.size/\s.2.1.length+s.1<=1000000/\(s.2.2.2=true->∃l',pArms n s.1 s.2.2.1=some (l',r3)/\s.2.1++l'=l)/\(s.2.2.2=false->s.2.1=l/\s.2.2.1=r3)/\Blk u q [zI,zT,zI,zS,zS,zS,zI] 43/\∃v1 v2 v3,Blk u a [iV 8,zT,zI,v1,v2,v3,iV at_] 43/\L3 (a::rg w0) u 9 39 43 1 1 7 (fun y:Arm=>strR (bst y.1)) (fun y:Arm=>strsR (y.2.1.map bst)) exC s.2.1 s.2.1 (e0::s.2.1.map fun y=>y.2.2) v1 v2 v3) (fun s=>2*s.1+s.2.2.2.toNat) (f,[],r2,true) ⟨rfl,Nat.le_refl _,hP4,hF4,Nat.le_refl _,by simpa using hf,fun _=>⟨l,h3,rfl⟩,fun h=>Yiw,hbq,_,_,_,hba,hL3⟩ ?_;clear hP hP0 hP1 hP2 hP3 hP4 hF0 hF1 hF2 hF3 hF4 hba hbq hL3;rintro⟨f',acc,r5,b⟩ g w5 ⟨h6,hff,hP5,hF5,hs5,hlen,ht,hfl,hbq,v1,v2,v3,hba,hL3⟩;simp only at hff hP5 hF5 hlen ht hfl hL3;rw[eq_upd h6];obtain⟨S0,T0,ao0,c0,i0,hb0,_⟩:=id hP5;have hsz:∀b∈a::rg w0,b<w5.heap.size:=fun b hb=>by
  rcases List.mem_cons.1 hb with rfl|hb
  .exact hba.lt
  .have:=rg_mem.1 hb;omega
 have haX:a∈a::rg w0:=by simp
 have hqX:q∈a::rg w0:=by simp[rg_mem];omega
 have hXw:∀b,b<w.heap.size->b∈a::rg w0:=fun b hb=>by simp[rg_mem];omega
 have hpX:∀b∈[p],b∈a::rg w0:=by simp[rg_mem];omega
 cases b with
 |false=>
  obtain⟨rfl,rfl⟩:=hfl rfl;obtain⟨ao1,c1,rfl⟩:=hL3.1.slice;obtain⟨ao2,c2,rfl⟩:=hL3.2.1.slice;obtain⟨ao3,c3,rfl⟩:=hL3.2.2.slice;refine rx ?_;refine s_cE (cTake hP5 h4) ?_;rintro w6 ⟨hP6,hf6⟩;have hF6:=hF5.trans hf6 Yhm;have hs6:=hf6.size;have hbq:=hbq.tr hf6 Yho;have hba:=hba.tr hf6 Yho;have hL3:=hL3.keep hf6 (fun b hb=>.inl (hpX b hb));refine rx ?_;have hd:RD w6 (rg w0) (exC ⟨8,bst [],0,acc.map fun y=>bst y.1,acc.map fun y=>y.2.1.map bst,e0::acc.map fun y=>y.2.2,at_⟩) _:=exR.2 ⟨_,_,_,rfl,by
   have:=(hL3.1.dr (k:=1) (fun _=>rfl) Yhn).mono (T:=rg w0) (fun b hb=>.inl Yii);simpa[strs,Function.comp_def]using this,by
   have:=(hL3.2.1.dr (k:=1) (fun _=>rfl) Yhn).mono (T:=rg w0) (fun b hb=>.inl Yii);simpa[Function.comp_def]using this,by
   have:=(hL3.2.2.dr (k:=7) exC_len Yht).mono (T:=rg w0) (fun b hb=>.inl Yii);exact this⟩
  simp only[exV]at hd;refine s_storeAggB (cs:=[iV 8,zT,zI,.slice ao1 acc.length c1,.slice ao2 acc.length c2,.slice ao3 (e0::acc.map fun y=>y.2.2).length c3,iV at_]) rfl rfl hbq Yhu rfl rfl (fun u hu hfu hsu=>?_);refine rx ?_;exact retB rfl rfl hu rfl (outC (w0:=w0) hqq Yhn Yhn Yhn hP6 hF6 hfu hd)
 |true=>
 obtain⟨l',hgo,hacc⟩:=ht rfl;cases f' with
 |zero=>simp[pArms]at hgo
 |succ f'=>
 simp only[pArms]at hgo;obtain⟨⟨t,r6⟩,h7,hgo⟩:=bind_some hgo;obtain⟨⟨bs,r7⟩,h8,hgo⟩:=bind_some hgo;obtain⟨r8,h9,hgo⟩:=bind_some hgo;obtain⟨⟨e,r9⟩,h10,hgo⟩:=bind_some hgo;obtain⟨ao1,c1,rfl⟩:=hL3.1.slice;refine rx ?_
 ((refine u_begin 8 (fun z=>True/\Blk z a [iV 8,zT,zI,.slice ao1 acc.length c1,v2,v3,iV at_] 43) Yhp rfl ?_);obtain⟨w6,hw6⟩:=exq w5.drew;rw[<-hw6];have hf6:Fr [] w5 w6:=hw6▸Fr.drew _ _;have hP6:=hP5.tr0 hf6;have hF6:=hF5.trans0 hf6;have hs6:=hf6.size)
 have hbq:=hbq.tr hf6 Yho;have hba:=hba.tr hf6 Yho;have hL3:=hL3.keep hf6 Yhs
 ((refine u_tx 0 (And.intro trivial hba) ?_);(refine u_tx 1 (And.intro trivial hba) ?_);(refine u_tx 2 (And.intro trivial hba) ?_))
 refine Ygr ?_;refine s_cE (cTok hP6 h7) ?_;rintro w7 ⟨hP7,hf7⟩;have hF7:=hF6.trans hf7 Yhm;have hs7:=hf7.size;have hbq:=hbq.tr hf7 Yho;have hba:=hba.tr hf7 Yho;have hL3:=hL3.keep hf7 (fun b hb=>.inl (hpX b hb));refine Ygs ?_;refine u_tx 4 (And.intro trivial hba) ?_ (hrun:=(by intro u hu;exact(r_fieldV (l:=tkC t) rfl rfl)));refine u_one (i:=5) rfl Yhp ?_;refine s_build1 rfl rfl (fun w8 ho hf8 hs8=>?_);have hP8:=hP7.tr0 hf8;have hF8:=hF7.trans0 hf8;have hbq:=hbq.tr hf8 Yho;have hba:=hba.tr hf8 Yho;have hL3:=hL3.keep hf8 Yhs;refine Yft ?_;refine s_appL hL3.1 (fun _=>rfl) rfl rfl ho.src (a:=(t.text,bs,e)) (.cons (.c rfl) .nil) (fun b hb=>.inl (List.mem_append.2 hb)) Yhv Yhn (hL3.sz1 (fun b hb=>Nat.lt_of_lt_of_le (hsz b hb) Yhn)) (fun v' w9 hL' hf9 hk9=>?_);have hge9:=LS.ge hL3.1 (w0:=w) (fun b hb=>List.mem_append_left _ (hXw b hb));have hP9:=hP8.tr hf9 (fun k hk=>Nat.le_trans hbd (hge9 k hk));have hF9:=hF8.trans hf9 (fun k hk=>.inr (hge9 k hk));have hs9:=hf9.size;have hba:=hba.tr hf9 (fun h=>hL3.1.2 _ h (List.mem_append_left _ haX));have hbq:=hbq.tr hf9 (fun h=>hL3.1.2 _ h (List.mem_append_left _ hqX));have hL3:=hL3.put1 hL' hf9 hk9;have h1c:=hL'.1.one;refine Ygs ?_
 ((refine u_tx 7 (And.intro trivial hba) ?_))
 refine u_one (i:=8) rfl Yhp ?_
 ((with_reducible apply s_storeB);exact rfl;(conv=>lhs;whnf);exact h1c;exact hba;exact rfl)
 intro w10 hba hf10 hs10;replace hba:Blk w10 a [iV 8,zT,zI,v',v2,v3,iV at_] 43:=hba;have hP10:=hP9.tr hf10 Yht;have hF10:=hF9.trans hf10 (fun x hx=>.inr Yhq);have hbq:=hbq.tr hf10 Yho;have hL3:=hL3.keep hf10 (one_in haX);refine Yet ?_;clear h1c;obtain⟨v1,hv1⟩:=exq v';rw[<-hv1]at hba hL3;clear hL' hv1;obtain⟨ao2,c2,rfl⟩:=hL3.2.1.slice;have e8:strs (bs.map bst)=.l (bs.map fun t=>strR (bst t)):=by simp[strs,Function.comp_def]
 ((refine u_begin 7 (fun z=>True/\Blk z a [iV 8,zT,zI,v1,.slice ao2 acc.length c2,v3,iV at_] 43) Yhp rfl ?_);obtain⟨w11,hw11⟩:=exq w10.drew;rw[<-hw11];have hf11:Fr [] w10 w11:=hw11▸Fr.drew _ _;have hP11:=hP10.tr0 hf11;have hF11:=hF10.trans0 hf11;have hs11:=hf11.size)
 have hbq:=hbq.tr hf11 Yho;have hba:=hba.tr hf11 Yho;have hL3:=hL3.keep hf11 Yhs
 ((refine u_tx 0 (And.intro trivial hba) ?_);(refine u_tx 1 (And.intro trivial hba) ?_);(refine u_tx 2 (And.intro trivial hba) ?_))
 refine Ygr ?_;have hz:=hL3.sz2 (fun b hb=>Nat.lt_of_lt_of_le (hsz b hb) Yhn);have hz1:=hL3.2.1.lt;refine s_call ((pNamesC f' Yhn) bd p n _ _ _ _ hP11 h8) rfl ?_;rintro _ w12 ⟨_,rfl,hd,hP12,hf12⟩;obtain⟨ao5,c5,rfl,hc5⟩:=DR.slice hd;refine⟨_,rfl,?_⟩;have hF12:=hF11.trans hf12 Yhm;have hs12:=hf12.size;have hbq:=hbq.tr hf12 Yho;have hba:=hba.tr hf12 Yho;have hL3:=hL3.keep hf12 (fun b hb=>.inl (hpX b hb));refine Yfb ?_;refine s_build1 rfl rfl (fun w13 ho hf13 hs13=>?_);have hP13:=hP12.tr0 hf13;have hF13:=hF12.trans0 hf13;have hbq:=hbq.tr hf13 Yho;have hba:=hba.tr hf13 Yho;have hL3:=hL3.keep hf13 Yhs;have hd:=DR.tr0 hd hf13;refine Yfe ?_;refine s_appL hL3.2.1 (fun _=>rfl) rfl rfl ho.src (a:=(t.text,bs,e)) (by show RD _ _ (strsR (bs.map bst)) _;rw[strsR,e8];exact .cons hd .nil) (fun b hb=>.inl (rg_mem.2 (hb.elim (hz1 b) (hz b)))) Yhv Yhn (hL3.sz2 (fun b hb=>Nat.lt_of_lt_of_le (hsz b hb) Yhn)) (fun v' w14 hL' hf14 hk14=>?_);have hge14:=LS.ge hL3.2.1 (w0:=w) (fun b hb=>List.mem_append_left _ (hXw b hb));have hP14:=hP13.tr hf14 (fun k hk=>Nat.le_trans hbd (hge14 k hk));have hF14:=hF13.trans hf14 (fun k hk=>.inr (hge14 k hk));have hs14:=hf14.size;have hba:=hba.tr hf14 (fun h=>hL3.2.1.2 _ h (List.mem_append_left _ haX));have hbq:=hbq.tr hf14 (fun h=>hL3.2.1.2 _ h (List.mem_append_left _ hqX));have hL3:=hL3.put2 hL' hf14 hk14;have h1c:=hL'.1.one;refine Ygs ?_
 ((refine u_tx 6 (And.intro trivial hba) ?_))
 refine Ygm ?_
 ((with_reducible apply s_storeB);exact rfl;(conv=>lhs;whnf);exact h1c;exact hba;exact rfl)
 intro w15 hba hf15 hs15;replace hba:Blk w15 a [iV 8,zT,zI,v1,v',v3,iV at_] 43:=hba;have hP15:=hP14.tr hf15 Yht;have hF15:=hF14.trans hf15 (fun x hx=>.inr Yhq);have hbq:=hbq.tr hf15 Yho;have hL3:=hL3.keep hf15 (one_in haX);refine Yet ?_;clear h1c;obtain⟨v2,hv2⟩:=exq v';rw[<-hv2]at hba hL3;clear hL' hv2;refine s_cE (cTake hP15 h9) ?_;rintro w16 ⟨hP16,hf16⟩;have hF16:=hF15.trans hf16 Yhm;have hs16:=hf16.size;have hbq:=hbq.tr hf16 Yho;have hba:=hba.tr hf16 Yho;have hL3:=hL3.keep hf16 (fun b hb=>.inl (hpX b hb));refine rx ?_;obtain⟨ao3,c3,rfl⟩:=hL3.2.2.slice;have hlen3:(e0::acc.map fun y=>y.2.2).length=acc.length+1:=by simp
 ((refine u_begin 7 (fun z=>True/\Blk z a [iV 8,zT,zI,v1,v2,.slice ao3 (e0::acc.map fun y=>y.2.2).length c3,iV at_] 43) Yhp rfl ?_);obtain⟨w17,hw17⟩:=exq w16.drew;rw[<-hw17];have hf17:Fr [] w16 w17:=hw17▸Fr.drew _ _;have hP17:=hP16.tr0 hf17;have hF17:=hF16.trans0 hf17;have hs17:=hf17.size)
 have hbq:=hbq.tr hf17 Yho;have hba:=hba.tr hf17 Yho;have hL3:=hL3.keep hf17 Yhs
 ((refine u_tx 0 (And.intro trivial hba) ?_);(refine u_tx 1 (And.intro trivial hba) ?_);(refine u_tx 2 (And.intro trivial hba) ?_))
 refine Ygr ?_;have hz:=hL3.sz3 (fun b hb=>Nat.lt_of_lt_of_le (hsz b hb) Yhn);have hz1:=hL3.2.2.lt;refine s_c1 ((ih f' Yhn) bd p n _ _ _ _ hP17 h10) ?_;rintro cs w18 ⟨hd,hP18,hf18⟩;have hF18:=hF17.trans hf18 Yhm;have hs18:=hf18.size;have hl:cs.length=7:=by rw[hd.len,exC_len]
 have hbq:=hbq.tr hf18 Yho;have hba:=hba.tr hf18 Yho;have hL3:=hL3.keep hf18 (fun b hb=>.inl (hpX b hb));refine Yfb ?_;refine s_rows1 rfl hl rfl (fun w19 k5 hk5 ho hf19 hs19=>?_);have hP19:=hP18.tr0 hf19;have hF19:=hF18.trans0 hf19;have hbq:=hbq.tr hf19 Yho;have hba:=hba.tr hf19 Yho;have hL3:=hL3.keep hf19 Yhs;have hd:=RD.tr0 hd hf19;refine Yfe ?_;refine s_appL hL3.2.2 exC_len rfl rfl ho.src (a:=e) hd (fun b hb=>.inl (rg_mem.2 (hb.elim (hz1 b) (hz b)))) Yhv Yhn (hL3.sz3 (fun b hb=>Nat.lt_of_lt_of_le (hsz b hb) Yhn)) (fun v' w20 hL' hf20 hk20=>?_);have hge20:=LS.ge hL3.2.2 (w0:=w) (fun b hb=>List.mem_append_left _ (hXw b hb));have hP20:=hP19.tr hf20 (fun k hk=>Nat.le_trans hbd (hge20 k hk));have hF20:=hF19.trans hf20 (fun k hk=>.inr (hge20 k hk));have hs20:=hf20.size;have hba:=hba.tr hf20 (fun h=>hL3.2.2.2 _ h (List.mem_append_left _ haX));have hbq:=hbq.tr hf20 (fun h=>hL3.2.2.2 _ h (List.mem_append_left _ hqX));have hL3:=hL3.put3 hL' hf20 hk20;have h1c:=hL'.1.one;refine Ygs ?_
 ((refine u_tx 6 (And.intro trivial hba) ?_))
 refine Ygm ?_
 ((with_reducible apply s_storeB);exact rfl;(conv=>lhs;whnf);exact h1c;exact hba;exact rfl)
 intro w21 hba hf21 hs21;replace hba:Blk w21 a [iV 8,zT,zI,v1,v2,v',iV at_] 43:=hba;have hP21:=hP20.tr hf21 Yht;have hF21:=hF20.trans hf21 (fun x hx=>.inr Yhq);have hbq:=hbq.tr hf21 Yho;have hL3:=hL3.keep hf21 (one_in haX);refine Yet ?_;refine s_cE (pSkip [59] p n _ _ hP21) ?_;rintro w22 ⟨hP22,hf22⟩;have hF22:=hF21.trans hf22 Yhm;have hs22:=hf22.size;have hbq:=hbq.tr hf22 Yho;have hba:=hba.tr hf22 Yho;have hL3:=hL3.keep hf22 (fun b hb=>.inl (hpX b hb));refine rx ?_;obtain⟨z1,z2⟩:=li_end (go:=pArms n) hgo hacc;have e3:(e0::(acc++[(t.text,bs,e)]).map fun y=>y.2.2)=e0::acc.map (fun y=>y.2.2)++[e]:=by simp
 exact q_roundK (f',acc++[(t.text,bs,e)],nextP (isT [59] r9) r9,isT [59] r9) Yhr ⟨rfl,by simp only;omega,hP22,hF22,by omega,by simp only[List.length_append,List.length_cons,List.length_nil];omega,z1,z2,hbq,_,_,_,hba,by simp only[e3];exact hL3⟩ (by cases isT [59] r9<;>simp<;>omega)
end
end Go.Proofs.YtmlpcmjmniobdaaGreat
