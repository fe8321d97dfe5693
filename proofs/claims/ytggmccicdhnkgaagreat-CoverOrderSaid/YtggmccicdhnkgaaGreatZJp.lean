/-
 Covers in intervals of the heap:Add,Copy,Merge and Encode of package cover there.
-/
import Derived.Test.YtggmccicdhnkgaaGreatZJr
import Derived.Test.YtggmccicdhnkgaaGreatZJf
import Derived.Test.YtggmccicdhnkgaaGreatZJg
import Derived.Test.YtggmccicdhnkgaaGreatZJo
set_option linter.all false
namespace Go.Rf
open Go.RowKit
variable{af:Array Edge}{f:Env}{l:List Br}{S:List Nat}{d n tb:Nat}{x:Operand}{P:Program}{ps:String}{u w:World}
theorem r_sliceFromC{ty:TypeId}{gd:Option (Nat×Bool)}{o:Operand}{t:Nat}{ao:Option Addr}{l c e size by_ j:Nat}{kk:IntKind}[R:RowT P t e size by_](hx:ev n f x=.slice ao l c)(ho:ev n f o=.int kk (j:Int))(hj:j<=l)(hl:l<=c):
 (execOp (ev n f) ⟨some d,.slice t x (some o) none none,ty,ps,af,gd⟩).run P w=.ok (.value (.slice (if c=j then ao else ao.map (·.add (j*size))) (l-j) (c-j))) w:=by
 exact Ycd
theorem r_assign{ty:TypeId}{gd:Option (Nat×Bool)}{v:Value}(hx:ev n f x=v):(execOp (ev n f) ⟨some d,.assign x,ty,ps,af,gd⟩).run P w=.ok (.value v) w:=by simp[execOp,hx]
theorem reachGo_len{ds:List De}(hz:∀d∈ds,SzD d):∀(f:Nat) (s:List ByteArray×List De),(∀d∈s.2,d∈ds)->(reachGo ds f s).length<=f*11000
 |0,_,_=>by simp[reachGo]
 |f+1,(seen,[]),_=>by simp[reachGo]
 |f+1,(seen,d::q),h=>by
  have h1:=reachGo_len hz f ((nodesEs (partsD d)).foldl (rstE ds) (seen,q)) (rstE_foldsub (fun x hx=>h x (by simp at hx ⊢;exact .inr hx)));have h2:=(hz d (h d Yhs)).brs;rw[reachGo,List.length_append];omega
theorem reach_len{ds:List De}{nm:ByteArray}(hz:∀d∈ds,SzD d):(setL ltB (reachD ds nm)).length<=(ds.length+2)*11000:=by
 have h:=setL_len (lt:=ltB) (l:=reachD ds nm);refine Nat.le_trans h ?_;unfold reachD;cases hr:rootD ds nm with
 |none=>simp
 |some d=>exact reachGo_len hz _ _ (fun x hx=>by rw[List.mem_singleton.1 hx];exact List.mem_of_find?_eq_some hr)
theorem own_drS{v:Value}(h:Own u tb 3 v l.length (l.flatMap brV))(hl:l.length<=1000000000000)(hS:∀x∈blks v,x∉S):DR u S (.l (l.map brC)) v:=by
 refine DR.ofTyped (k:=3) (fun _=>rfl) hl ⟨l.flatMap brV,h.src,fun ad n c e _ hm=>?_,?_⟩
 .subst e;exact hS ad.block Yic hm
 .clear h hl;exact Ycr
theorem src_dr{v:Value}(h:Src u v l.length (l.flatMap brV))(hl:l.length<=1000000000000)(hS:∀x∈blks v,x∉S):DR u S (.l (l.map brC)) v:=by
 refine DR.ofTyped (k:=3) (fun _=>rfl) hl ⟨l.flatMap brV,h,fun ad n c e _ hm=>?_,?_⟩
 .subst e;exact hS ad.block Yic hm
 .clear h hl;exact Ycr
theorem ints_drS{l:List Int}{v:Value}(h:Own u tb 1 v l.length (l.map (Value.int .i64)))(hl:l.length<=1000000000000)(hS:∀x∈blks v,x∉S):DR u S (.l (l.map intR)) v:=by
 refine DR.ofTyped (k:=1) (fun _=>rfl) hl ⟨l.map (Value.int .i64),h.src,fun ad n c e _ hm=>?_,?_⟩
 .subst e;exact hS ad.block Yic hm
 .clear h hl
  induction l with
  |nil=>exact .nil
  |cons a l ih=>exact Rws.cons (cs:=[.int .i64 a]) (RD.c1 rfl .nil) ih
def eB(n:Int):Ex:=⟨1,bst [],n,[],[],[],0⟩
def eI:Ex:=⟨6,bst [],0,[],[],[eB 1,eB 1,eB 0],0⟩
def dP:De:=⟨3,bst [112],0,[],[],⟨0,bst [],[]⟩,⟨0,bst [],0,[],[],[],0⟩,0,⟨0,bst [],[],[],[],0⟩,[],[⟨bst [99],eI⟩],[],[],⟨0,bst [],[]⟩,⟨0,bst [],0,[],[],[],0⟩,[],[],⟨0,bst [],0,[],[],[],0⟩⟩
def bP(i:Int):Br:=⟨bst [112],0,i⟩
theorem reachP:setL ltB (reachD [dP] (bst [112]))=[bP 0,bP 1]:=by
 have h1:rootD [dP] (bst [112])=some dP:=by unfold rootD;simp[dP]
 have h2:reachD [dP] (bst [112])=[bP 0,bP 1]:=by
  unfold reachD;rw[h1];rfl
 rw[h2];refine setL_of totB ?_ (fun y=>Iff.rfl);have:ltB (bP 0) (bP 1)=true:=by
  unfold ltB cmpB;simp[bP,cmpS,bl_irr,cmpI]
 simpa[Asc]using this
theorem szP:∀d∈[dP],SzD d:=fun d hd=>by
 rw[List.mem_singleton.1 hd];refine⟨by decide,by decide,by decide,by decide,by decide⟩
end Go.Rf
namespace Go.Proofs.YtggmccicdhnkgaaGreat
open Go.Proofs.Tryz
open Go.Rf Go.RowKit
attribute [local irreducible] Code.wp wpList Exit.then Exit.inBlock bodyPost A Calls execOp Addr.add
theorem ownC(k a c:Int){aob aol:Option Addr}{nb cb nl cl:Nat}(vb vl:Value)(w:World)(hvb:vb=.slice aob nb cb)(hvl:vl=.slice aol nl cl):
 Calls prog 13 #[.agg ([iV k,iV a,iV c,vb,vl]:List Value).toArray] w fun e w'=>e=.returned (.agg ([iV k,iV a,iV c,vb,vl,zI]:List Value).toArray)/\Fr [] w w':=by
 subst hvb hvl;refine enter func13 rfl ntmps13 rfl ?_;refine rx ?_;refine s_box (l:=[iV k,iV a,iV c,.slice aob nb cb,.slice aol nl cl]) rfl rfl (fun w1 h1 hf1 hs1=>?_);refine rx ?_;refine s_allocN (l:=[zI,zI,zI,zS,zS,zI]) rfl (fun w2 b2 hb2 h2 hf2 hs2=>?_);have h1:=h1.tr0 hf2;refine rx ?_;refine s_build [iV k,iV a,iV c,.slice aob nb cb,.slice aol nl cl,zI] rfl ?_;refine rx ?_;refine s_storeAggB (cs:=[iV k,iV a,iV c,.slice aob nb cb,.slice aol nl cl,zI]) rfl rfl h2 Yhu rfl rfl (fun w3 h3 hf3 hs3=>?_);refine rx ?_;refine retB rfl rfl h3 rfl ⟨rfl,(hf1.trans0 hf2).trans hf3 (fun x hx=>.inr Yhq)⟩
set_option maxHeartbeats 32000000 in
theorem livesC(w:World):Calls prog 20 #[] w fun e w'=>e=.returned (.bool true)/\Fr [] w w':=by
 refine enter func20 rfl ntmps20 rfl ?_;refine rx ?_;refine s_build [iV 1,zT,iV 1,zS,zS,zS,zI] rfl ?_;refine rx ?_;refine s_build [iV 1,zT,iV 1,zS,zS,zS,zI] rfl ?_;refine rx ?_;refine s_build [iV 1,zT,zI,zS,zS,zS,zI] rfl ?_;refine rx ?_;refine s_rows3 (c1:=[iV 1,zT,iV 1,zS,zS,zS,zI]) (c2:=[iV 1,zT,iV 1,zS,zS,zS,zI]) (c3:=[iV 1,zT,zI,zS,zS,zS,zI]) rfl rfl rfl rfl rfl rfl rfl (fun w1 q1 hq1 ho1 hf1 hs1=>?_);refine rx ?_;refine s_build [iV 6,zT,zI,zS,zS,.slice (some ⟨q1,0,none⟩) 3 3,zI] rfl ?_;have hE:∀{u:World},Fr [] w1 u->RD u [] (exC eI) [iV 6,zT,zI,zS,zS,.slice (some ⟨q1,0,none⟩) 3 3,zI]:=fun{u} hf=>by
  refine exR.2 ⟨_,_,_,rfl,DR.nil,DR.nil,?_⟩;refine DR.ofTyped (k:=7) (fun _=>exC_len _) Yhy ⟨_,(ho1.tr0 hf).src,fun ad n c e _ hm=>by simp at hm,?_⟩;have hB:∀n,RD u [] (exC (eB n)) [iV 1,zT,iV n,zS,zS,zS,zI]:=fun n=>exR.2 ⟨_,_,_,rfl,DR.nil,DR.nil,DR.nil⟩
  exact Rws.cons (cs:=[_,_,_,_,_,_,_]) (hB 1) (Rws.cons (cs:=[_,_,_,_,_,_,_]) (hB 1) (Rws.cons (cs:=[_,_,_,_,_,_,_]) (ys:=[]) (hB 0) .nil))
 refine rx ?_;refine s_allocN (l:=[zI,zT,zI,zS,zS,zS,zI]) rfl (fun w2 b2 hb2 h2 hf2 hs2=>?_);refine rx ?_;refine s_storeAggB (cs:=[iV 6,zT,zI,zS,zS,.slice (some ⟨q1,0,none⟩) 3 3,zI]) rfl rfl h2 Yhu rfl rfl (fun w3 h3 hf3 hs3=>?_);have hF3:Fr [] w1 w3:=hf2.trans hf3 (fun x hx=>.inr Yhq);refine rx ?_;refine s_build [.string (bst [99]),iV 6,zT,zI,zS,zS,.slice (some ⟨q1,0,none⟩) 3 3,zI] rfl ?_;refine rx ?_;refine s_rows1 (c1:=[.string (bst [99]),iV 6,zT,zI,zS,zS,.slice (some ⟨q1,0,none⟩) 3 3,zI]) rfl rfl rfl (fun w4 q4 hq4 ho4 hf4 hs4=>?_);refine rx ?_;refine s_build [iV 3,.string (bst [112]),zI,zS,zS,zI,zT,zS,zI,zT,zI,zS,zS,zS,zI,zI,zI,zT,zS,zS,zS,zI,zS,.slice (some ⟨q4,0,none⟩) 1 1,zS,zS,zI,zT,zS,zI,zT,zI,zS,zS,zS,zI,zS,zS,zI,zT,zI,zS,zS,zS,zI] rfl ?_;refine rx ?_;refine s_rows1 (c1:=[iV 3,.string (bst [112]),zI,zS,zS,zI,zT,zS,zI,zT,zI,zS,zS,zS,zI,zI,zI,zT,zS,zS,zS,zI,zS,.slice (some ⟨q4,0,none⟩) 1 1,zS,zS,zI,zT,zS,zI,zT,zI,zS,zS,zS,zI,zS,zS,zI,zT,zI,zS,zS,zS,zI]) rfl rfl rfl (fun w5 q5 hq5 ho5 hf5 hs5=>?_);have hD:∀{u:World},Fr [] w5 u->DR u [] (.l ([dP].map deC)) (.slice (some ⟨q5,0,none⟩) 1 1):=fun{u} hf=>by
  refine DR.ofTyped (k:=45) (fun _=>deC_len _) Yhy ⟨_,(ho5.tr0 hf).src,fun ad n c e _ hm=>by simp at hm,?_⟩;refine Rws.cons (cs:=[iV 3,.string (bst [112]),zI,zS,zS,zI,zT,zS,zI,zT,zI,zS,zS,zS,zI,zI,zI,zT,zS,zS,zS,zI,zS,.slice (some ⟨q4,0,none⟩) 1 1,zS,zS,zI,zT,zS,zI,zT,zI,zS,zS,zS,zI,zS,zS,zI,zT,zI,zS,zS,zS,zI]) (ys:=[]) ?_ .nil;have hck:DR u [] (.l (dP.checks.map ckC)) (.slice (some ⟨q4,0,none⟩) 1 1):=by
   refine DR.ofTyped (k:=8) (fun _=>ckC_len _) Yhy ⟨_,((ho4.tr0 hf5).tr0 hf).src,fun ad n c e _ hm=>by simp at hm,?_⟩;exact Rws.cons (cs:=[_,_,_,_,_,_,_,_]) (ys:=[]) (RD.c1 rfl (hE (((hF3.trans0 hf4).trans0 hf5).trans0 hf))) .nil
  have hz:=fun{ds':List Dt} {vs:List Value} (x:Value) (hx:x.oneCell'=true) (h:RD u [] ds' vs)=>RD.c1 hx h
  have hn:=fun{ds':List Dt} {vs:List Value} (h:RD u [] ds' vs)=>RD.cons (DR.nil (w:=u) (S:=[])) h
  exact(hz (iV 3) rfl (hz (.string (bst [112])) rfl (hz (zI) rfl (hn (hn (hz (zI) rfl (hz (zT) rfl (hn (hz (zI) rfl (hz (zT) rfl (hz (zI) rfl (hn (hn (hn (hz (zI) rfl (hz (zI) rfl (hz (zI) rfl (hz (zT) rfl (hn (hn (hn (hz (zI) rfl (hn (RD.cons hck (hn (hn (hz (zI) rfl (hz (zT) rfl (hn (hz (zI) rfl (hz (zT) rfl (hz (zI) rfl (hn (hn (hn (hz (zI) rfl (hn (hn (hz (zI) rfl (hz (zT) rfl (hz (zI) rfl (hn (hn (hn (hz (zI) rfl .nil)))))))))))))))))))))))))))))))))))))))))))))
 refine rx ?_;refine s_build [.slice (some ⟨q5,0,none⟩) 1 1] rfl ?_;refine rx ?_;refine s_allocN (l:=[zS]) rfl (fun w6 b6 hb6 h6 hf6 hs6=>?_);refine rx ?_;refine s_storeAggB (cs:=[.slice (some ⟨q5,0,none⟩) 1 1]) rfl rfl h6 Yhu rfl rfl (fun w7 h7 hf7 hs7=>?_);have hF7:Fr [] w5 w7:=hf6.trans hf7 (fun x hx=>.inr Yhq);have hW7:Fr [] w w7:=(((hf1.trans0 hF3).trans0 hf4).trans0 hf5).trans0 hF7;refine rx ?_;refine s_c1 (reachC [dP] (bst [112]) (.slice (some ⟨q5,0,none⟩) 1 1) w7 [] szP Yhy (hD hF7)) ?_;rintro va w8 ⟨hA,hf8⟩;have h7:=h7.tr0 hf8;rw[reachP]at hA;refine rx ?_;refine s_call (newC [dP] (bst [112]) (.slice (some ⟨q5,0,none⟩) 1 1) w8 [] szP Yhy (hD (hF7.trans0 hf8))) rfl ?_;rintro _ w9 ⟨hf9,hn⟩;have hfd:fdD [dP] 3 (bst [112])=some dP:=by unfold fdD;simp[dP]
 rw[hfd,reachP]at hn;obtain⟨p,M,R,rfl,hC,hMR⟩:=hn;refine⟨_,rfl,?_⟩;have hAlt:=hA.1.lt;have hA:=hA.tr0 hf9;obtain⟨aoa,ca,eva⟩:=hA.1.slice;replace eva:va=.slice aoa 2 ca:=eva;subst eva;replace hA:BO w7 50 w9 [bP 0,bP 1] (.slice aoa 2 ca):=hA;have hMa:∀x∈blks (.slice aoa 2 ca),x∉M:=fun x hx hm=>by
  have h1:=hMR x (by simp[hm]);have h2:=hAlt x hx;omega
 have hMa0:∀x∈blks (.slice aoa 2 ca),x∉([]:List Nat):=by simp
 have hsrc:Src w9 (.slice aoa 2 ca) 2 ([bP 0,bP 1].flatMap brV):=hA.1.src;obtain⟨hca⟩:Nonempty (2<=ca):=by obtain⟨_,_,e,h,_⟩:=hsrc;simp only[Value.slice.injEq]at e;obtain⟨_,_,rfl⟩:=e;exact⟨h⟩
 replace hC:CovM w9 p M R ⟨bst [112],1,0,[bP 0,bP 1]⟩ (stOf 0 []):=hC;refine rx ?_;refine s_run (r_sliceTo (l:=2) (c:=ca) (k:=1) (kk:=.i64) rfl rfl Yhn) ?_;refine rx ?_;refine s_build [zI,zI,zI,.slice aoa 1 ca,zS,zI] rfl ?_;have dr0:∀{u:World} {S:List Nat},Src u (.slice aoa 2 ca) 2 ([bP 0,bP 1].flatMap brV)->(∀x∈blks (.slice aoa 2 ca),x∉S)->DR u S (.l ([bP 0].map brC)) (.slice aoa 1 ca):=fun{u S} h hS=>src_dr (l:=[bP 0]) (Src.to (k:=1) (size:=3) h Yhy) Yhy (fun x hx=>hS x (by cases aoa<;>simpa[blks,Value.ownBlock]using hx))
 have dr1:∀{u:World} {S:List Nat},Src u (.slice aoa 2 ca) 2 ([bP 0,bP 1].flatMap brV)->DR u [] (.l ([bP 1].map brC)) (.slice (if ca=1 then aoa else aoa.map (·.add (1*3))) 1 (ca-1)):=fun{u S} h=>src_dr (l:=[bP 1]) (Src.cut (j:=1) (k:=2) (size:=3) h rfl Yhy Yhy) Yhy Yhs
 refine rx ?_;refine s_call (addC ⟨0,0,0,[bP 0],[]⟩ (.slice aoa 1 ca) (zS) w9 (S:=M) hC (fun x hx=>hx) (dr0 hsrc hMa) DR.nil Yhy Yhy) rfl ?_;intro _ w10 hadd;rw[if_pos (show fitsR ⟨bst [112],1,0,[bP 0,bP 1]⟩ ⟨0,0,0,[bP 0],[]⟩=true from rfl)]at hadd;obtain⟨rfl,hC,hf10⟩:=hadd;refine⟨_,rfl,?_⟩;have hFn:Fr [] w w10:=((hW7.trans0 hf8).trans0 hf9).trans hf10 (fun x hx=>.inr (by have:=hMR x Yix;have h1:=hW7.size;have h2:=hf8.size;omega));have hne:bP 1≠bP 0:=by simp[bP]
 obtain⟨s1,hs1e⟩:=exq (stAdd (stOf 0 []) ⟨0,0,0,[bP 0],[]⟩);rw[<-hs1e]at hC;have hc0:s1.cnt (bP 0)=1:=by rw[hs1e];simp[stAdd,stOf,b2n]
 have hc1:s1.cnt (bP 1)=0:=by rw[hs1e];simp[stAdd,stOf,b2n,hne]
 replace hsrc:=hsrc.tr hf10 (fun ad n c e _=>hMa ad.block (by cases e;simp[blks,Value.ownBlock]));refine rx ?_;refine s_c1 (missC w10 hC Yhy) ?_;rintro vm w11 ⟨hB,hf11⟩;have hms:missR ⟨bst [112],1,0,[bP 0,bP 1]⟩ s1=[bP 1]:=by unfold missR;simp[hc0,hc1]
 rw[hms]at hB;have hC:=hC.tr0 hf11;have hsrc:=hsrc.tr0 hf11;obtain⟨aom,cm,eva⟩:=hB.1.slice;replace eva:vm=.slice aom 1 cm:=eva;subst eva;replace hB:BO w10 50 w11 [bP 1] (.slice aom 1 cm):=hB;obtain⟨adm,hadm,hcm⟩:=src_rows brV_l3 (l:=[bP 1]) (m:=1) (i:=0) hB.1.src Yhy Yhy;obtain⟨ada,hada,hca1⟩:=src_rows brV_l3 (l:=[bP 0,bP 1]) (i:=1) hsrc Yhy Yhy;subst hadm hada;have hcm:Cells w11 (adm.add (0*3)) [.string (bst [112]),zI,iV 1]:=hcm;have hca1:Cells w11 (ada.add (1*3)) [.string (bst [112]),zI,iV 1]:=hca1;refine rx ?_;refine d_begin (fun z=>Fr [] w11 z) Yhp rfl ?_;obtain⟨w12,hw12⟩:=exq w11.drew;rw[<-hw12];have hS:Fr [] w11 w12:=hw12▸Fr.drew _ _;refine d_z4 0 1 2 3 hS ?_;refine d_z 4 hS ?_;refine d_ty 5 hS ?_ (hrun:=by(intro u hu;exact(r_indexAddr (j:=0) rfl rfl rfl Yhn rfl)));refine d_z2 6 7 hS ?_;refine d_ty 8 hS ?_ (hrun:=by(intro u hu;exact(r_indexAddr (j:=1) rfl rfl rfl Yhn rfl)));refine d_z 9 hS ?_;refine d_ty 10 hS ?_ (hrun:=by(intro u hu;exact(r_eqlB (a:=bP 1) (b:=bP 1) rfl rfl (decide_eq_true rfl))));refine d_z4 11 12 13 14 hS ?_;refine d_ty 15 hS ?_ (hrun:=by(intro u hu;exact(r_sliceTo (k:=1) (kk:=.i64) rfl rfl Yhn)));refine d_ty 16 hS ?_ (v:=.agg (([zI,zI,zI,.slice (some ada) 1 ca,zS,zI])).toArray) (hrun:=by(intro u hu;exact r_build (([zI,zI,zI,.slice (some ada) 1 ca,zS,zI])) Yik));refine d_one (i:=17) rfl Yhp ?_;refine rx ?_;refine s_cE (freshC ⟨0,0,0,[bP 0],[]⟩ (.slice (some ada) 1 ca) (zS) w12 (S:=[]) (hC.tr0 hS) (dr0 (hsrc.tr0 hS) Yhs) DR.nil) ?_;rintro w13 hf13;have hS:=hS.trans0 hf13;refine Yfz ?_;have hr0:(fitsR ⟨bst [112],1,0,[bP 0,bP 1]⟩ ⟨0,0,0,[bP 0],[]⟩&&freshR s1 ⟨0,0,0,[bP 0],[]⟩)=false:=by
  have:freshR s1 ⟨0,0,0,[bP 0],[]⟩=false:=by unfold freshR;simp[hc0,pairsL]
  rw[this,Bool.and_false]
 have hr1:(fitsR ⟨bst [112],1,0,[bP 0,bP 1]⟩ ⟨0,0,0,[bP 1],[]⟩&&freshR s1 ⟨0,0,0,[bP 1],[]⟩)=true:=by
  have:freshR s1 ⟨0,0,0,[bP 1],[]⟩=true:=by unfold freshR;simp[hc1]
  rw[this,Bool.and_true];rfl
 rw[hr0];refine d_z4 18 19 20 21 hS ?_;refine d_z 22 hS ?_;refine d_ty 23 hS ?_ (hrun:=by(intro u hu;exact(r_sliceFromC (j:=1) (kk:=.i64) rfl rfl Yhn Yhn)));refine d_ty 24 hS ?_ (v:=.agg (([zI,zI,zI,.slice (if ca=1 then some ada else(some ada).map (·.add (1*3))) 1 (ca-1),zS,zI])).toArray) (hrun:=by(intro u hu;exact r_build (([zI,zI,zI,.slice (if ca=1 then some ada else(some ada).map (·.add (1*3))) 1 (ca-1),zS,zI])) Yik));refine d_one (i:=25) rfl Yhp ?_;refine rx ?_;refine s_cE (freshC ⟨0,0,0,[bP 1],[]⟩ (.slice (if ca=1 then some ada else(some ada).map (·.add (1*3))) 1 (ca-1)) (zS) w13 (S:=[]) (hC.tr0 hS) (dr1 (S:=[]) (hsrc.tr0 hS)) DR.nil) ?_;rintro w14 hf14;have hS:=hS.trans0 hf14;refine Yfz ?_;rw[hr1];refine d_z 26 hS ?_;refine d_tx 27 hS ?_ (hrun:=by(intro u hu;exact(r_assign rfl)));refine Yfx ?_;refine Yeo ?_;exact⟨rfl,(hFn.trans0 hf11).trans0 hS⟩
end Go.Proofs.YtggmccicdhnkgaaGreat
namespace Go.Rf
open Go.RowKit
theorem clsOk_sorted{n:Nat}{m:List Nat}(hp:m.Pairwise (· < ·))(hb:∀x∈m,x<n):clsOk n (m.map (fun(i:Nat)=>(i:Int)))=true:=by
 refine clsOk_true (fun j hj=>?_);rw[List.length_map]at hj;unfold clsAt;rw[getD_at (by rw[List.length_map];exact hj),List.getElem_map];refine decide_eq_true ⟨by omega,?_,fun h0=>?_⟩
 .have:=hb m[j] (List.getElem_mem hj);omega
 .rw [getD_at (by rw[List.length_map];omega),List.getElem_map];have:=List.pairwise_iff_getElem.1 hp (j-1) j Yhn hj Yhn;omega
end Go.Rf
namespace Go.Proofs.YtggmccicdhnkgaaGreat
open Go.Rf Go.RowKit
variable{at_:Int}{l:List Int}{P:Pp}
theorem someR_fits:fitsR P (someR P l at_ false)=true:=by
 obtain⟨k,hk⟩:=exq (pk l at_ 1000000);have h0:∀{q:Prop} [Decidable q],¬((false=true)/\q):=fun h=>by cases h.1
 refine fits_yes ?_ ?_
 .unfold outOk someR;rw[if_neg h0,if_neg h0,<-hk];refine decide_eq_true ?_;simp only;unfold sKd sAt;by_cases c:0<k/6%3/\0<P.checks
  .rw [if_pos c,if_pos c];have h1:=Int.emod_nonneg (k/18) (show(P.checks:Int)≠0 by omega);have h2:=Int.emod_lt_of_pos (k/18) (show(0:Int)<P.checks by omega);refine⟨by omega,by omega,fun h=>by omega,fun _=>⟨h1,h2⟩,?_⟩;by_cases e:k/6%3=2<;>simp[e]
  .rw [if_neg c,if_neg c];simp
 .unfold someR;simp only[Bool.false_eq_true,false_and,if_false,List.append_nil];unfold someCl;refine clsOk_sorted (List.Pairwise.filter _ List.pairwise_lt_range) (fun x hx=>?_);exact List.mem_range.1 (List.mem_filter.1 hx).1
theorem someR_bs{b:Bool}:(someR P l at_ b).bs.length<=5:=by
 have hkr:=pk_range (l:=l) (i:=at_) (m:=1000000) Yhy;show(someB P l at_ _).length<=5;rw[someB_len];omega
theorem someR_cl{b:Bool}:(someR P l at_ b).cl.length<=P.ncls+1:=by
 have h:=someCl_len (l:=l) (at_:=at_) (m:=P.ncls);show(someCl l at_ P.ncls++_).length<=_;rw[List.length_append]
 split<;>simp<;>omega
theorem pp_sizes{ds:List De}{nm:ByteArray}{d:De}(hm:MD ds)(hf:fdD ds 3 nm=some d):(ppOf ds nm d).checks<=16/\(ppOf ds nm d).ncls<=16/\(ppOf ds nm d).reach.length<=253000:=by
 obtain⟨hd,hk,_⟩:=fdD_mem hf;have hl:=(hm.2.1 d hd).1;unfold limD at hl;rw[if_neg Yhn,if_neg Yhn,if_neg Yhn,if_pos hk]at hl;simp only[Bool.or_eq_false_iff]at hl;have h1:=hl.2.1;have h2:=hl.2.2.1;unfold limCk at h1 h2;simp only[Bool.or_eq_false_iff]at h1 h2;have hb:∀n,ltN 16 n=false->n<=16:=fun n h=>Nat.le_of_not_lt (fun hh=>by unfold ltN at h;rw[Nat.blt_eq.mpr hh]at h;cases h)
 have h1:=hb _ h1.1;have h2:=hb _ h2.1;have h3:=reach_len (nm:=nm) hm.sz;have h4:=hm.len;refine⟨?_,?_,?_⟩
 .show d.checks.length<=16;omega
 .show d.classes.length<=16;omega
 .show (setL ltB (reachD ds nm)).length<=253000;omega
attribute [local irreducible] Code.wp wpList Exit.then Exit.inBlock bodyPost A Calls execOp Addr.add
end Go.Proofs.YtggmccicdhnkgaaGreat
namespace Go.Rf
open Go.RowKit
variable{nm:ByteArray}
theorem reachGo_mem{ds:List De}:∀(f:Nat) (s:List ByteArray×List De),(∀d∈s.2,d∈ds)->∀b∈reachGo ds f s,∃d∈ds,b∈ofD d
 |0,_,_,b,hb=>by simp[reachGo]at hb
 |f+1,(seen,[]),_,b,hb=>by simp[reachGo]at hb
 |f+1,(seen,d::q),h,b,hb=>by
  rw[reachGo,List.mem_append]at hb;rcases hb with hb|hb
  .exact ⟨d,h d Yhs,hb⟩
  .exact reachGo_mem f _ (rstE_foldsub (fun x hx=>h x (by simp at hx ⊢;exact .inr hx))) b hb
theorem reachD_mem{ds:List De}{b:Br}(hb:b∈setL ltB (reachD ds nm)):∃d∈ds,b∈ofD d:=by
 rw[mem_setL totB]at hb;unfold reachD at hb;cases he:rootD ds nm with
 |none=>rw[he]at hb;cases hb
 |some d=>
  rw[he]at hb;exact reachGo_mem _ _ (fun x hx=>by rw[List.mem_singleton.1 hx];exact List.mem_of_find?_eq_some he) b hb
end Go.Rf
namespace Go.Proofs.YtggmccicdhnkgaaGreat
open Go.Proofs.Tryz
open Go.Rf Go.RowKit
variable{nm:ByteArray}{d:De}{n p:Nat}{P:Pp}{s:St}{u u':World}
structure SmP (P:Pp):Prop where
 prop:P.prop.size<=100000
 checks:P.checks<=16
 ncls:P.ncls<=16
 reach:P.reach.length<=253000
 br:∀b∈P.reach,BrK b
theorem brk_e{b:Br}(h:BrK b):BrE b:=by
 obtain⟨h1,⟨h2,h3⟩,h4,h5⟩:=h;exact⟨by omega,⟨by omega,by omega⟩,⟨by omega,by omega⟩⟩
theorem brk_len{b:Br}(h:BrK b):(brE b).length<=100100:=by
 have h1:=iv_len (brk_e h).2.1.1 (brk_e h).2.1.2;have h2:=iv_len (brk_e h).2.2.1 (brk_e h).2.2.2;exact Ycy
def SmR(rs:List Rn):Prop:=rs.length<=20/\∀r∈rs,r.bs.length<=5/\∀b∈r.bs,BrK b
theorem fm_le{α:Type}{f:α->List Int}:∀{l:List α},(∀a∈l,(f a).length<=n)->(l.flatMap f).length<=l.length*n
 |[],_=>by simp
 |a::l,h=>by
  have h1:=fm_le (l:=l) (fun x hx=>h x Yix);have h2:=h a Yhs;rw[List.flatMap_cons,List.length_append,List.length_cons,Nat.succ_mul];omega
theorem SmR.bs{rs:List Rn}(h:SmR rs):(rs.flatMap (·.bs)).length<=100/\(rs.flatMap (fun r=>pairsL r.bs)).length<=100:=by
 have key:∀(rs:List Rn),(∀r∈rs,r.bs.length<=5/\∀b∈r.bs,BrK b)->(rs.flatMap (·.bs)).length<=5*rs.length/\(rs.flatMap (fun r=>pairsL r.bs)).length<=5*rs.length:=by
  intro rs
  induction rs with
  |nil=>intro _;simp
  |cons r rs ih=>
   intro h;have h1:=ih (fun x hx=>h x Yix);have h2:=(h r Yhs).1;have h3:=pairsL_len (l:=r.bs);simp only[List.flatMap_cons,List.length_append,List.length_cons];omega
 have:=key rs h.2;have:=h.1;omega
theorem SmR.ks{rs:List Rn}(h:SmR rs):(stOf n rs).ks.length<=100/\(stOf n rs).ps.length<=100/\∀b∈(stOf n rs).ks,BrK b:=by
 have h1:=h.bs;have h2:=setL_len (lt:=ltB) (l:=rs.flatMap (·.bs));have h3:=setL_len (lt:=ltP) (l:=rs.flatMap (fun r=>pairsL r.bs));refine⟨by show(setL ltB _).length<=_;omega,by show(setL ltP _).length<=_;omega,fun b hb=>?_⟩;have hb:b∈setL ltB (rs.flatMap (·.bs)):=hb;rw[mem_setL totB,List.mem_flatMap]at hb;obtain⟨r,hr,hb⟩:=hb;exact(h.2 r hr).2 b hb
theorem enc_le(hP:SmP P)(hs:StOk P s)(hr:s.runs<=1000000)(hk:s.ks.length<=100)(hp:s.ps.length<=100)(hb:∀b∈s.ks,BrK b):(encC P.prop s).length<=1000000000:=by
 have hv:∀n:Nat,n<=1000000000->(iv (n:Int)).length<=10:=fun n hn=>iv_len Yhn Yhn
 have ho:=hs.o;have h0:=hv s.runs Yhn;have h1:=hv (s.o 0) Yhn;have h2:=hv (s.o 1) Yhn;have h3:=hv (s.o 2) Yhn;have hc:=hs.ncls;have hn:=hP.ncls;have h4:=hv s.cls.length Yhn;have h5:=hv s.ks.length Yhn;have h6:=hv s.ps.length Yhn;have h7:=uv_len P.prop.size (by have:=hP.prop;omega);have h8:=hP.prop;have h9:(s.cls.flatMap (fun n=>iv (n:Nat))).length<=s.cls.length*10:=fm_le (fun n hn=>hv n (by have:=hs.ocls n hn;omega));have h10:(s.ks.flatMap (fun b=>brE b++iv (s.cnt b))).length<=s.ks.length*100200:=fm_le (fun b hm=>by
  have:=brk_len (hb b hm);have:=hv (s.cnt b) (by have:=hs.ocnt b;omega);rw[List.length_append];omega)
 have h11:(s.ps.flatMap (fun p=>brE p.1++brE p.2)).length<=s.ps.length*200200:=fm_le (fun p hm=>by
  have h:=hs.pks p hm;have:=brk_len (hb _ h.1);have:=brk_len (hb _ h.2);rw[List.length_append];omega)
 have h12:s.ks.length*100200<=100*100200:=Nat.mul_le_mul_right _ hk;have h13:s.ps.length*200200<=100*200200:=Nat.mul_le_mul_right _ hp;simp only[encC,raw,List.length_append,sb_len];omega
theorem sbr_k(hP:SmP P)(n:Int)(hn:0<=n/\n<=1000):BrK (sbr P n):=by
 unfold sbr
 split
 .rename_i h;have hlt:(n/17%P.reach.length).toNat<P.reach.length:=by
   have:=Int.emod_lt_of_pos (n/17) (show(0:Int)<P.reach.length by omega);have:=Int.emod_nonneg (n/17) (show(P.reach.length:Int)≠0 by omega);omega
  rw[List.getD_eq_getElem?_getD,List.getElem?_eq_getElem hlt];exact hP.br _ (List.getElem_mem _)
 .exact ⟨show(bst [111,116,104,101,114]).size<=100000 by decide,⟨show 0<=n/17%3 by omega,show n/17%3<=1000000 by omega⟩,show 0<=n/51%2 by omega,show n/51%2<=1000000 by omega⟩
theorem someR_k(hP:SmP P){l:List Int}{a:Int}{bad:Bool}:∀b∈(someR P l a bad).bs,BrK b:=fun b hb=>by
 obtain⟨i,_,rfl⟩:=List.mem_map.1 hb;have:=pk_range (l:=l) (i:=a+i+1) (m:=1000) Yhn;exact sbr_k hP _ ⟨by omega,by omega⟩
theorem smP_of{ds:List De}(hm:MD ds)(hf:fdD ds 3 nm=some d):SmP (ppOf ds nm d):=by
 have h:=pp_sizes hm hf;obtain⟨hd,hk,hn⟩:=fdD_mem hf;refine⟨?_,h.1,h.2.1,h.2.2,fun b hb=>?_⟩
 .have:=(hm.gd d hd).name;show nm.size<=_;rw[<-hn];exact this
 .obtain ⟨d',hd',hb⟩:=reachD_mem hb;exact hm.br d' hd' b hb
def CI(u:World)(p:Nat)(P:Pp)(s:St)(A B:Nat->Prop):Prop:=∃M R,CovM u p M R P s/\(∀x∈M,A x)/\(∀x∈R,B x)
def FI(A:Nat->Prop)(u u':World):Prop:=∃T,Fr T u u'/\∀x∈T,A x
theorem FI.of0{A:Nat->Prop}(h:Fr [] u u'):FI A u u':=⟨[],h,by simp⟩
theorem FI.trans{A B C:Nat->Prop}{u1 u2:World}(h:FI A u u1)(k:FI B u1 u2)(h1:∀x,A x->C x)(h2:∀x,B x->C x\/u.heap.size<=x):FI C u u2:=by
 obtain⟨T,hT,hA⟩:=h;obtain⟨V,hV,hB⟩:=k;refine⟨T++V.filter (fun x=>decide (x<u.heap.size)),(hT.mono (fun x hx=>.inl (List.mem_append_left _ hx))).trans hV (fun x hx=>?_),fun x hx=>?_⟩
 .by_cases hlt:x<u.heap.size
  .exact .inl (List.mem_append_right _ (List.mem_filter.2 ⟨hx,decide_eq_true hlt⟩))
  .exact .inr Yhn
 .rcases List.mem_append.1 hx with hx|hx
  .exact h1 x (hA x hx)
  .obtain ⟨h3,h4⟩:=List.mem_filter.1 hx;have:=of_decide_eq_true h4;rcases h2 x (hB x h3)with h|h
   .exact h
   .omega
theorem FI.size{A:Nat->Prop}(h:FI A u u'):u.heap.size<=u'.heap.size:=by
 obtain⟨T,hT,_⟩:=h;exact hT.size
theorem CI.fi{A B C:Nat->Prop}(h:CI u p P s A B)(hf:FI C u u')(h1:∀x,A x->¬C x)(h2:∀x,B x->¬C x):CI u' p P s A B:=by
 obtain⟨M,R,hC,hM,hR⟩:=h;obtain⟨T,hT,hi⟩:=hf;refine⟨M,R,hC.tr hT (fun x hx hm=>?_),hM,hR⟩;rcases List.mem_append.1 hx with hx|hx
 .exact h1 x (hM x hx) (hi x hm)
 .exact h2 x (hR x hx) (hi x hm)
theorem CI.tr0{A B:Nat->Prop}(h:CI u p P s A B)(hf:Fr [] u u'):CI u' p P s A B:=h.fi (C:=fun _=>False) (.of0 hf) (fun _ _ h=>h) (fun _ _ h=>h)
theorem CI.ok{A B:Nat->Prop}(h:CI u p P s A B):StOk P s:=by
 obtain⟨M,R,hC,_,_⟩:=h;obtain⟨_,_,_,_,_,_,_,_,_,_,_,_,_,_,_,_,h⟩:=hC;exact h
theorem ciAdd{A B:Nat->Prop}{rs:List Rn}(r:Rn)(vb vl:Value)(h:CI u p P (stOf P.ncls rs) A B)(hbr:∀S:List Nat,(∀x∈S,A x)->DR u S (.l (r.bs.map brC)) vb)(hl:∀S:List Nat,(∀x∈S,A x)->DR u S (.l (r.cl.map intR)) vl)(hrn:rs.length<=1000000)(hbl:r.bs.length<=1000000)(hfit:fitsR P r=true):
 Calls prog 15 #[.pointer (some ⟨p,0,none⟩),.agg ([iV r.kind,iV r.at_,iV r.code,vb,vl,zI]:List Value).toArray] u fun e u'=>e=.returned (zI)/\CI u' p P (stOf P.ncls (rs++[r])) A B/\FI A u u':=by
 obtain⟨M,R,hC,hM,hR⟩:=h;refine(addC r vb vl u hC (fun x hx=>hx) (hbr M hM) (hl M hM) hrn hbl).mono fun e u' hh=>?_
 rw[if_pos hfit,<-stOf_add]at hh;exact⟨hh.1,⟨M,R,hh.2.1,hM,hR⟩,M,hh.2.2,hM⟩
theorem ciCopy{A B:Nat->Prop}(h:CI u p P s A B)(hn:s.cls.length<=1000000):
 Calls prog 31 #[.pointer (some ⟨p,0,none⟩)] u fun e u'=>∃q,e=.returned (.pointer (some ⟨q,0,none⟩))/\CI u' q P s (fun x=>u.heap.size<=x/\x<u'.heap.size) B/\Fr [] u u':=by
 obtain⟨M,R,hC,hM,hR⟩:=h;refine(copyC u hC hn).mono fun e u' ⟨q,M',he,h1,h2,h3⟩=>⟨q,he,⟨M',R,h1,fun x hx=>⟨h2 x hx,h1.lt x (List.mem_append_left _ hx)⟩,hR⟩,h3⟩
theorem ciMerge{p2:Nat}{A B C D:Nat->Prop}{rs ts:List Rn}(h:CI u p P (stOf P.ncls rs) A B)(k:CI u p2 P (stOf P.ncls ts) C D)(hP:SmP P)(hr:SmR rs)(ht:SmR ts):
 Calls prog 28 #[.pointer (some ⟨p,0,none⟩),.pointer (some ⟨p2,0,none⟩)] u fun e u'=>e=.returned (zI)/\CI u' p P (stOf P.ncls (rs++ts)) A B/\FI A u u':=by
 have hcl:=hP.ncls;have h1:=h.ok.ncls;have h2:=k.ok.ncls;have h3:=hP.reach;have h4:=hP.checks;have h5:=hr.1;have h6:=ht.1;obtain⟨M,R,hC,hM,hR⟩:=h;obtain⟨M2,R2,hD,_,_⟩:=k;refine(mergeC u hC hD Yhn Yhn (by show rs.length<=_;omega) (by show ts.length<=_;omega) Yhn Yhn Yhn).mono fun e u' hh=>?_
 rw[if_pos ⟨rfl,rfl,by omega,rfl⟩,<-stOf_merge]at hh;exact⟨hh.1,⟨M,R,hh.2.1,hM,hR⟩,M,hh.2.2,hM⟩
theorem ciEnc{A B:Nat->Prop}{rs:List Rn}(h:CI u p P (stOf P.ncls rs) A B)(hP:SmP P)(hr:SmR rs):
 Calls prog 27 #[.pointer (some ⟨p,0,none⟩)] u fun e u'=>∃v,e=.returned v/\Own u' 5 1 v (encC P.prop (stOf P.ncls rs)).length ((encC P.prop (stOf P.ncls rs)).map (.int .u8))/\Fr [] u u'/\(∀x∈blks v,u.heap.size<=x):=by
 have hok:=h.ok;have h0:=hP.ncls;have h1:=hok.ncls;have h2:=hr.ks (n:=P.ncls);have h3:=hr.1;have h4:=hP.prop;have h5:(stOf P.ncls rs).runs<=1000000:=by show rs.length<=_;omega
 obtain⟨M,R,hC,hM,hR⟩:=h;exact encodeC u hC Yhn Yhn Yhn h5 Yhn (fun b hb=>brk_e (h2.2.2 b hb)) (enc_le hP hok h5 h2.1 h2.2.1 h2.2.2)
theorem ciBegin(ds:List De)(k:Int)(v0:Value)(w:World)(S:List Nat)(hk:InI64 k)(hm:MD ds)(hd:DR w S (.l (ds.map deC)) v0)(hfd:fdD ds 3 (propN ds k)=some d):
 Calls prog 10 #[.agg ([v0]:List Value).toArray,iV k] w fun e w'=>∃p q A B,e=.returned (.tuple #[.pointer (some ⟨p,0,none⟩),.pointer (some ⟨q,0,none⟩),.bool true])/\CI w' p (ppOf ds (propN ds k) d) (stOf (ppOf ds (propN ds k) d).ncls []) A B/\
  (∀x,A x->w.heap.size<=x/\x<w'.heap.size)/\(∀x,B x->w.heap.size<=x/\x<w'.heap.size)/\Fr [] w w'/\(∀x,A x->¬B x)/\∀{u:World} {C:Nat->Prop},FI C w' u->(∀x,C x->A x\/x<w.heap.size\/w'.heap.size<=x)->RcV u q (ppOf ds (propN ds k) d) []:=by
 refine(beginC ds k v0 w S hk hm hd).mono fun e w' hh=>?_
 obtain⟨d',p,M,R,q,N,T,h1,h2,h3,h4,h5,h6,h7,h8⟩:=hh;rw[hfd]at h1;cases h1
 have hlt:=h3.lt;have hnd:∀x∈M,x∉R:=by
  obtain⟨_,_,_,_,_,_,rfl,rfl,hn,_⟩:=h3;exact fun x hx hm=>(List.nodup_append.1 hn).2.2 x hx x hm rfl
 have hsm:=pp_sizes hm hfd;refine⟨p,q,(· ∈M),(· ∈R),h2,⟨M,R,h3,fun x hx=>hx,fun x hx=>hx⟩,fun x hx=>⟨h5 x (List.mem_append_left _ hx),hlt x (List.mem_append_left _ hx)⟩,fun x hx=>⟨h5 x (List.mem_append_right _ hx),hlt x (List.mem_append_right _ hx)⟩,h8,hnd,fun{u C} hf hC=>?_⟩;obtain⟨V,hV,hVC⟩:=hf;obtain⟨vr',vs',xs,e1,e2,_,_,e3,e4,e5,e6⟩:=h4;have hxs:xs=[]:=by cases e6;rfl
 subst hxs;have hltN:∀x∈N++T,x<w'.heap.size:=fun x hx=>by
  rcases List.mem_append.1 hx with hx|hx
  .rw [e1]at hx;rcases List.mem_cons.1 hx with rfl|hx
   .exact e3.lt
   .exact e5.lt x hx
  .rw [e2]at hx;exact e4.lt x hx
 have hoff:∀x∈N++T,x∉V:=fun x hx hm=>by
  rcases hC x (hVC x hm)with h|h|h
  .exact h7 x hx (List.mem_append_left _ h)
  .have:=h6 x hx;omega
  .have:=hltN x hx;omega
 exact⟨vr',vs',e3.tr hV (hoff q (by rw[e1];simp)),own_dr (e4.tr hV (fun x hx=>hoff x (by rw[e2];simp[hx]))) Yhn,DR.ofTyped (k:=5) (fun _=>rfl) Yhy ⟨[],(e5.tr hV (fun x hx=>hoff x (by rw[e1];simp[hx]))).src,fun ad n c e _ hm=>by simp at hm,.nil⟩⟩
end Go.Proofs.YtggmccicdhnkgaaGreat
