/-
 The reference's Add;a cover shows what the reference says (branches,same).
-/
import Derived.Test.YtggmccicdhnkgaaGreatWJr
import Derived.Test.YtggmccicdhnkgaaGreatWMs
import Derived.Test.YtggmccicdhnkgaaGreatWRf1
import Derived.Test.YtggmccicdhnkgaaGreatWJc
import Derived.Test.YtggmccicdhnkgaaGreatWQf
set_option linter.all false
set_option maxHeartbeats 64000000
namespace Go.Rf
open Go.RowKit
variable{af:Array Edge}{f:Env}{l:List Br}{S:List Nat}{d n tb:Nat}{x:Operand}{P:Program}{ps:String}{u w:World}
theorem JaO{ty:TypeId}{gd:Option (Nat×Bool)}{o:Operand}{t:Nat}{ao:Option Addr}{l c e size by_ j:Nat}{kk:IntKind}[R:RowT P t e size by_](hx:ev n f x=.slice ao l c)(ho:ev n f o=.int kk (j:Int))(hj:j<=l)(hl:l<=c):
 (execOp (ev n f) ⟨some d,.slice t x (some o) none none,ty,ps,af,gd⟩).run P w=.ok (.value (.slice (if c=j then ao else ao.map (·.add (j*size))) (l-j) (c-j))) w:=by
 exact Ycd
theorem JbP{ty:TypeId}{gd:Option (Nat×Bool)}{v:Value}(hx:ev n f x=v):(execOp (ev n f) ⟨some d,.assign x,ty,ps,af,gd⟩).run P w=.ok (.value v) w:=by simp[execOp,hx]
theorem L8{ds:List De}(hz:∀d∈ds,SzD d):∀(f:Nat) (s:List ByteArray×List De),(∀d∈s.2,d∈ds)->(KD ds f s).length<=f*11000
 |0,_,_=>by simp[KD]
 |f+1,(seen,[]),_=>by simp[KD]
 |f+1,(seen,d::q),h=>by
  have h1:=L8 hz f ((Js (Jw d)).foldl (Xy ds) (seen,q)) (WO (fun x hx=>h x (by simp at hx ⊢;exact .inr hx)));have h2:=(hz d (h d Yhs)).brs;rw[KD,Sm];omega
theorem Jex{ds:List De}{nm:ByteArray}(hz:∀d∈ds,SzD d):(JM ltB (KX ds nm)).length<=(ds.length+2)*11000:=by
 have h:=KQ (lt:=ltB) (l:=KX ds nm);refine CG h ?_;unfold KX;cases hr:QF ds nm with
 |none=>simp
 |some d=>exact L8 hz _ _ (fun x hx=>by rw[Sv.1 hx];exact Ei hr)
theorem ZO{v:Value}(h:Own u tb 3 v l.length (l.flatMap brV))(hl:l.length<=1000000000000)(hS:∀x∈blks v,x∉S):DR u S (.l (l.map brC)) v:=by
 refine DR.ofTyped (k:=3) (fun _=>rfl) hl ⟨l.flatMap brV,h.src,fun ad n c e _ hm=>?_,?_⟩
 .subst e;exact hS ad.block Yic hm
 .clear h hl;exact Ycr
theorem Jfc{v:Value}(h:Src u v l.length (l.flatMap brV))(hl:l.length<=1000000000000)(hS:∀x∈blks v,x∉S):DR u S (.l (l.map brC)) v:=by
 refine DR.ofTyped (k:=3) (fun _=>rfl) hl ⟨l.flatMap brV,h,fun ad n c e _ hm=>?_,?_⟩
 .subst e;exact hS ad.block Yic hm
 .clear h hl;exact Ycr
theorem Jgd{l:List Int}{v:Value}(h:Own u tb 1 v l.length (l.map (Value.int .i64)))(hl:l.length<=1000000000000)(hS:∀x∈blks v,x∉S):DR u S (.l (l.map KI)) v:=by
 refine DR.ofTyped (k:=1) (fun _=>rfl) hl ⟨l.map (Value.int .i64),h.src,fun ad n c e _ hm=>?_,?_⟩
 .subst e;exact hS ad.block Yic hm
 .clear h hl
  induction l with
  |nil=>exact .nil
  |cons a l ih=>exact Rws.cons (cs:=[.int .i64 a]) (RD.c1 rfl .nil) ih
def eB(n:Int):Ex:=⟨1,bst [],n,[],[],[],0⟩
def eI:Ex:=⟨6,bst [],0,[],[],[eB 1,eB 1,eB 0],0⟩
def dP:De:=⟨3,bst [112],0,[],[],⟨0,bst [],[]⟩,⟨0,bst [],0,[],[],[],0⟩,0,⟨0,bst [],[],[],[],0⟩,[],[⟨bst [99],eI⟩],[],[],⟨0,bst [],[]⟩,⟨0,bst [],0,[],[],[],0⟩,[],[],⟨0,bst [],0,[],[],[],0⟩⟩
def bP(i:Int):Br:=⟨bst [112],0,i⟩
theorem Jfw:JM ltB (KX [dP] (bst [112]))=[bP 0,bP 1]:=by
 have h1:QF [dP] (bst [112])=some dP:=by unfold QF;simp[dP]
 have h2:KX [dP] (bst [112])=[bP 0,bP 1]:=by
  unfold KX;rw[h1];rfl
 rw[h2];refine BP Qu ?_ (fun y=>Iff.rfl);have:ltB (bP 0) (bP 1)=true:=by
  unfold ltB Qe;simp[bP,XK,LP,VY]
 simpa[Asc]using this
theorem szP:∀d∈[dP],SzD d:=fun d hd=>by
 rw[Sv.1 hd];refine⟨by decide,by decide,by decide,by decide,by decide⟩
end Go.Rf
namespace Go.Proofs.YtggmccicdhnkgaaGreat
open Go.Proofs.Tryz
open Go.Rf Go.RowKit
attribute [local irreducible] Code.wp wpList Exit.then Exit.inBlock bodyPost A Calls execOp Addr.add
theorem Jj6(k a c:Int){aob aol:Option Addr}{nb cb nl cl:Nat}(vb vl:Value)(w:World)(hvb:vb=.slice aob nb cb)(hvl:vl=.slice aol nl cl):
 Calls prog 13 #[.agg ([iV k,iV a,iV c,vb,vl]:List Value).toArray] w fun e w'=>e=.returned (.agg ([iV k,iV a,iV c,vb,vl,zI]:List Value).toArray)/\Fr [] w w':=by
 subst hvb hvl;refine enter func13 rfl ntmps13 rfl ?_;refine rx ?_;refine Gg (l:=[iV k,iV a,iV c,.slice aob nb cb,.slice aol nl cl]) rfl rfl (fun w1 h1 hf1 hs1=>?_);refine rx ?_;refine Jm (l:=[zI,zI,zI,zS,zS,zI]) rfl (fun w2 b2 hb2 h2 hf2 hs2=>?_);have h1:=h1.tr0 hf2;refine rx ?_;refine JF [iV k,iV a,iV c,.slice aob nb cb,.slice aol nl cl,zI] rfl ?_;refine rx ?_;refine Jd (cs:=[iV k,iV a,iV c,.slice aob nb cb,.slice aol nl cl,zI]) rfl rfl h2 Yhu rfl rfl (fun w3 h3 hf3 hs3=>?_);refine rx ?_;refine Qc rfl rfl h3 rfl ⟨rfl,(hf1.Jb hf2).trans hf3 (fun x hx=>.inr Yhq)⟩
theorem Jjb(w:World):Calls prog 20 #[] w fun e w'=>e=.returned (.bool true)/\Fr [] w w':=by
 refine enter func20 rfl ntmps20 rfl ?_;refine rx ?_;refine JF [iV 1,zT,iV 1,zS,zS,zS,zI] rfl ?_;refine rx ?_;refine JF [iV 1,zT,iV 1,zS,zS,zS,zI] rfl ?_;refine rx ?_;refine JF [iV 1,zT,zI,zS,zS,zS,zI] rfl ?_;refine rx ?_;refine MP (c1:=[iV 1,zT,iV 1,zS,zS,zS,zI]) (c2:=[iV 1,zT,iV 1,zS,zS,zS,zI]) (c3:=[iV 1,zT,zI,zS,zS,zS,zI]) rfl rfl rfl rfl rfl rfl rfl (fun w1 q1 hq1 ho1 hf1 hs1=>?_);refine rx ?_;refine JF [iV 6,zT,zI,zS,zS,.slice (some ⟨q1,0,none⟩) 3 3,zI] rfl ?_;have hE:∀{u:World},Fr [] w1 u->RD u [] (exC eI) [iV 6,zT,zI,zS,zS,.slice (some ⟨q1,0,none⟩) 3 3,zI]:=fun{u} hf=>by
  refine exR.2 ⟨_,_,_,rfl,DR.nil,DR.nil,?_⟩;refine DR.ofTyped (k:=7) (fun _=>Jq _) Yhy ⟨_,(ho1.tr0 hf).src,fun ad n c e _ hm=>by simp at hm,?_⟩;have hB:∀n,RD u [] (exC (eB n)) [iV 1,zT,iV n,zS,zS,zS,zI]:=fun n=>exR.2 ⟨_,_,_,rfl,DR.nil,DR.nil,DR.nil⟩
  exact Rws.cons (cs:=[_,_,_,_,_,_,_]) (hB 1) (Rws.cons (cs:=[_,_,_,_,_,_,_]) (hB 1) (Rws.cons (cs:=[_,_,_,_,_,_,_]) (ys:=[]) (hB 0) .nil))
 refine rx ?_;refine Jm (l:=[zI,zT,zI,zS,zS,zS,zI]) rfl (fun w2 b2 hb2 h2 hf2 hs2=>?_);refine rx ?_;refine Jd (cs:=[iV 6,zT,zI,zS,zS,.slice (some ⟨q1,0,none⟩) 3 3,zI]) rfl rfl h2 Yhu rfl rfl (fun w3 h3 hf3 hs3=>?_);have hF3:Fr [] w1 w3:=hf2.trans hf3 (fun x hx=>.inr Yhq);refine rx ?_;refine JF [.string (bst [99]),iV 6,zT,zI,zS,zS,.slice (some ⟨q1,0,none⟩) 3 3,zI] rfl ?_;refine rx ?_;refine JQ (c1:=[.string (bst [99]),iV 6,zT,zI,zS,zS,.slice (some ⟨q1,0,none⟩) 3 3,zI]) rfl rfl rfl (fun w4 q4 hq4 ho4 hf4 hs4=>?_);refine rx ?_;refine JF [iV 3,.string (bst [112]),zI,zS,zS,zI,zT,zS,zI,zT,zI,zS,zS,zS,zI,zI,zI,zT,zS,zS,zS,zI,zS,.slice (some ⟨q4,0,none⟩) 1 1,zS,zS,zI,zT,zS,zI,zT,zI,zS,zS,zS,zI,zS,zS,zI,zT,zI,zS,zS,zS,zI] rfl ?_;refine rx ?_;refine JQ (c1:=[iV 3,.string (bst [112]),zI,zS,zS,zI,zT,zS,zI,zT,zI,zS,zS,zS,zI,zI,zI,zT,zS,zS,zS,zI,zS,.slice (some ⟨q4,0,none⟩) 1 1,zS,zS,zI,zT,zS,zI,zT,zI,zS,zS,zS,zI,zS,zS,zI,zT,zI,zS,zS,zS,zI]) rfl rfl rfl (fun w5 q5 hq5 ho5 hf5 hs5=>?_);have hD:∀{u:World},Fr [] w5 u->DR u [] (.l ([dP].map deC)) (.slice (some ⟨q5,0,none⟩) 1 1):=fun{u} hf=>by
  refine DR.ofTyped (k:=45) (fun _=>KL _) Yhy ⟨_,(ho5.tr0 hf).src,fun ad n c e _ hm=>by simp at hm,?_⟩;refine Rws.cons (cs:=[iV 3,.string (bst [112]),zI,zS,zS,zI,zT,zS,zI,zT,zI,zS,zS,zS,zI,zI,zI,zT,zS,zS,zS,zI,zS,.slice (some ⟨q4,0,none⟩) 1 1,zS,zS,zI,zT,zS,zI,zT,zI,zS,zS,zS,zI,zS,zS,zI,zT,zI,zS,zS,zS,zI]) (ys:=[]) ?_ .nil;have hck:DR u [] (.l (dP.checks.map ckC)) (.slice (some ⟨q4,0,none⟩) 1 1):=by
   refine DR.ofTyped (k:=8) (fun _=>QM _) Yhy ⟨_,((ho4.tr0 hf5).tr0 hf).src,fun ad n c e _ hm=>by simp at hm,?_⟩;exact Rws.cons (cs:=[_,_,_,_,_,_,_,_]) (ys:=[]) (RD.c1 rfl (hE (((hF3.Jb hf4).Jb hf5).Jb hf))) .nil
  have hz:=fun{ds':List Dt} {vs:List Value} (x:Value) (hx:x.oneCell'=true) (h:RD u [] ds' vs)=>RD.c1 hx h
  have hn:=fun{ds':List Dt} {vs:List Value} (h:RD u [] ds' vs)=>RD.cons (DR.nil (w:=u) (S:=[])) h
  exact(hz (iV 3) rfl (hz (.string (bst [112])) rfl (hz (zI) rfl (hn (hn (hz (zI) rfl (hz (zT) rfl (hn (hz (zI) rfl (hz (zT) rfl (hz (zI) rfl (hn (hn (hn (hz (zI) rfl (hz (zI) rfl (hz (zI) rfl (hz (zT) rfl (hn (hn (hn (hz (zI) rfl (hn (RD.cons hck (hn (hn (hz (zI) rfl (hz (zT) rfl (hn (hz (zI) rfl (hz (zT) rfl (hz (zI) rfl (hn (hn (hn (hz (zI) rfl (hn (hn (hz (zI) rfl (hz (zT) rfl (hz (zI) rfl (hn (hn (hn (hz (zI) rfl .nil)))))))))))))))))))))))))))))))))))))))))))))
 refine rx ?_;refine JF [.slice (some ⟨q5,0,none⟩) 1 1] rfl ?_;refine rx ?_;refine Jm (l:=[zS]) rfl (fun w6 b6 hb6 h6 hf6 hs6=>?_);refine rx ?_;refine Jd (cs:=[.slice (some ⟨q5,0,none⟩) 1 1]) rfl rfl h6 Yhu rfl rfl (fun w7 h7 hf7 hs7=>?_);have hF7:Fr [] w5 w7:=hf6.trans hf7 (fun x hx=>.inr Yhq);have hW7:Fr [] w w7:=(((hf1.Jb hF3).Jb hf4).Jb hf5).Jb hF7;refine rx ?_;refine Jl (Jfx [dP] (bst [112]) (.slice (some ⟨q5,0,none⟩) 1 1) w7 [] szP Yhy (hD hF7)) ?_;rintro va w8 ⟨hA,hf8⟩;have h7:=h7.tr0 hf8;rw[Jfw]at hA;refine rx ?_;refine s_call (newC [dP] (bst [112]) (.slice (some ⟨q5,0,none⟩) 1 1) w8 [] szP Yhy (hD (hF7.Jb hf8))) rfl ?_;rintro _ w9 ⟨hf9,hn⟩;have hfd:fdD [dP] 3 (bst [112])=some dP:=by unfold fdD;simp[dP]
 rw[hfd,Jfw]at hn;obtain⟨p,M,R,rfl,hC,hMR⟩:=hn;refine⟨_,rfl,?_⟩;have hAlt:=hA.1.lt;have hA:=hA.tr0 hf9;obtain⟨aoa,ca,eva⟩:=hA.1.slice;replace eva:va=.slice aoa 2 ca:=eva;subst eva;replace hA:BO w7 50 w9 [bP 0,bP 1] (.slice aoa 2 ca):=hA;have hMa:∀x∈blks (.slice aoa 2 ca),x∉M:=fun x hx hm=>by
  have h1:=hMR x (by simp[hm]);have h2:=hAlt x hx;omega
 have hMa0:∀x∈blks (.slice aoa 2 ca),x∉([]:List Nat):=by simp
 have hsrc:Src w9 (.slice aoa 2 ca) 2 ([bP 0,bP 1].flatMap brV):=hA.1.src;obtain⟨hca⟩:Nonempty (2<=ca):=by obtain⟨_,_,e,h,_⟩:=hsrc;simp only[Value.slice.injEq]at e;obtain⟨_,_,rfl⟩:=e;exact⟨h⟩
 replace hC:Wj w9 p M R ⟨bst [112],1,0,[bP 0,bP 1]⟩ (J6 0 []):=hC;refine rx ?_;refine JR (Jam (l:=2) (c:=ca) (k:=1) (kk:=.i64) rfl rfl Yhn) ?_;refine rx ?_;refine JF [zI,zI,zI,.slice aoa 1 ca,zS,zI] rfl ?_;have dr0:∀{u:World} {S:List Nat},Src u (.slice aoa 2 ca) 2 ([bP 0,bP 1].flatMap brV)->(∀x∈blks (.slice aoa 2 ca),x∉S)->DR u S (.l ([bP 0].map brC)) (.slice aoa 1 ca):=fun{u S} h hS=>Jfc (l:=[bP 0]) (Src.to (k:=1) (size:=3) h Yhy) Yhy (fun x hx=>hS x (by cases aoa<;>simpa[blks,Value.ownBlock]using hx))
 have dr1:∀{u:World} {S:List Nat},Src u (.slice aoa 2 ca) 2 ([bP 0,bP 1].flatMap brV)->DR u [] (.l ([bP 1].map brC)) (.slice (if ca=1 then aoa else aoa.map (·.add (1*3))) 1 (ca-1)):=fun{u S} h=>Jfc (l:=[bP 1]) (Src.cut (j:=1) (k:=2) (size:=3) h rfl Yhy Yhy) Yhy Yhs
 refine rx ?_;refine s_call (Jkr ⟨0,0,0,[bP 0],[]⟩ (.slice aoa 1 ca) (zS) w9 (S:=M) hC (fun x hx=>hx) (dr0 hsrc hMa) DR.nil Yhy Yhy) rfl ?_;intro _ w10 hadd;rw[Cb (show Qd ⟨bst [112],1,0,[bP 0,bP 1]⟩ ⟨0,0,0,[bP 0],[]⟩=true from rfl)]at hadd;obtain⟨rfl,hC,hf10⟩:=hadd;refine⟨_,rfl,?_⟩;have hFn:Fr [] w w10:=((hW7.Jb hf8).Jb hf9).trans hf10 (fun x hx=>.inr (by have:=hMR x Yix;have h1:=hW7.size;have h2:=hf8.size;omega));have hne:bP 1≠bP 0:=by simp[bP]
 obtain⟨s1,hs1e⟩:=exq (Qb (J6 0 []) ⟨0,0,0,[bP 0],[]⟩);rw[<-hs1e]at hC;have hc0:s1.cnt (bP 0)=1:=by rw[hs1e];simp[Qb,J6,b2n]
 have hc1:s1.cnt (bP 1)=0:=by rw[hs1e];simp[Qb,J6,b2n,hne]
 replace hsrc:=hsrc.tr hf10 (fun ad n c e _=>hMa ad.block (by cases e;simp[blks,Value.ownBlock]));refine rx ?_;refine Jl (Jig w10 hC Yhy) ?_;rintro vm w11 ⟨hB,hf11⟩;have hms:Ur ⟨bst [112],1,0,[bP 0,bP 1]⟩ s1=[bP 1]:=by unfold Ur;simp[hc0,hc1]
 rw[hms]at hB;have hC:=hC.tr0 hf11;have hsrc:=hsrc.tr0 hf11;obtain⟨aom,cm,eva⟩:=hB.1.slice;replace eva:vm=.slice aom 1 cm:=eva;subst eva;replace hB:BO w10 50 w11 [bP 1] (.slice aom 1 cm):=hB;obtain⟨adm,hadm,hcm⟩:=JZ QN (l:=[bP 1]) (m:=1) (i:=0) hB.1.src Yhy Yhy;obtain⟨ada,hada,hca1⟩:=JZ QN (l:=[bP 0,bP 1]) (i:=1) hsrc Yhy Yhy;subst hadm hada;have hcm:Cells w11 (adm.add (0*3)) [.string (bst [112]),zI,iV 1]:=hcm;have hca1:Cells w11 (ada.add (1*3)) [.string (bst [112]),zI,iV 1]:=hca1;refine rx ?_;refine JE (fun z=>Fr [] w11 z) Yhp rfl ?_;obtain⟨w12,hw12⟩:=exq w11.drew;rw[<-hw12];have hS:Fr [] w11 w12:=hw12▸Fr.drew _ _;refine Jj 0 1 2 3 hS ?_;refine d_z 4 hS ?_;refine Kz 5 hS ?_ (hrun:=by(intro u hu;exact(Qs (j:=0) rfl rfl rfl Yhn rfl)));refine JX 6 7 hS ?_;refine Kz 8 hS ?_ (hrun:=by(intro u hu;exact(Qs (j:=1) rfl rfl rfl Yhn rfl)));refine d_z 9 hS ?_;refine Kz 10 hS ?_ (hrun:=by(intro u hu;exact(Zc (a:=bP 1) (b:=bP 1) rfl rfl (SN rfl))));refine Jj 11 12 13 14 hS ?_;refine Kz 15 hS ?_ (hrun:=by(intro u hu;exact(Jam (k:=1) (kk:=.i64) rfl rfl Yhn)));refine Kz 16 hS ?_ (v:=.agg (([zI,zI,zI,.slice (some ada) 1 ca,zS,zI])).toArray) (hrun:=by(intro u hu;exact QU (([zI,zI,zI,.slice (some ada) 1 ca,zS,zI])) Yik));refine JJ (i:=17) rfl Yhp ?_;refine rx ?_;refine Jg (Jdd ⟨0,0,0,[bP 0],[]⟩ (.slice (some ada) 1 ca) (zS) w12 (S:=[]) (hC.tr0 hS) (dr0 (hsrc.tr0 hS) Yhs) DR.nil) ?_;rintro w13 hf13;have hS:=hS.Jb hf13;refine Yfz ?_;have hr0:(Qd ⟨bst [112],1,0,[bP 0,bP 1]⟩ ⟨0,0,0,[bP 0],[]⟩&&VB s1 ⟨0,0,0,[bP 0],[]⟩)=false:=by
  have:VB s1 ⟨0,0,0,[bP 0],[]⟩=false:=by unfold VB;simp[hc0,Jy]
  rw[this,Bool.and_false]
 have hr1:(Qd ⟨bst [112],1,0,[bP 0,bP 1]⟩ ⟨0,0,0,[bP 1],[]⟩&&VB s1 ⟨0,0,0,[bP 1],[]⟩)=true:=by
  have:VB s1 ⟨0,0,0,[bP 1],[]⟩=true:=by unfold VB;simp[hc1]
  rw[this,FY];rfl
 rw[hr0];refine Jj 18 19 20 21 hS ?_;refine d_z 22 hS ?_;refine Kz 23 hS ?_ (hrun:=by(intro u hu;exact(JaO (j:=1) (kk:=.i64) rfl rfl Yhn Yhn)));refine Kz 24 hS ?_ (v:=.agg (([zI,zI,zI,.slice (if ca=1 then some ada else(some ada).map (·.add (1*3))) 1 (ca-1),zS,zI])).toArray) (hrun:=by(intro u hu;exact QU (([zI,zI,zI,.slice (if ca=1 then some ada else(some ada).map (·.add (1*3))) 1 (ca-1),zS,zI])) Yik));refine JJ (i:=25) rfl Yhp ?_;refine rx ?_;refine Jg (Jdd ⟨0,0,0,[bP 1],[]⟩ (.slice (if ca=1 then some ada else(some ada).map (·.add (1*3))) 1 (ca-1)) (zS) w13 (S:=[]) (hC.tr0 hS) (dr1 (S:=[]) (hsrc.tr0 hS)) DR.nil) ?_;rintro w14 hf14;have hS:=hS.Jb hf14;refine Yfz ?_;rw[hr1];refine d_z 26 hS ?_;refine Kw 27 hS ?_ (hrun:=by(intro u hu;exact(JbP rfl)));refine Yfx ?_;refine Yeo ?_;exact⟨rfl,(hFn.Jb hf11).Jb hS⟩
end Go.Proofs.YtggmccicdhnkgaaGreat
namespace Go.Rf
open Go.RowKit
end Go.Rf
namespace Go.Proofs.YtggmccicdhnkgaaGreat
open Go.Rf Go.RowKit
attribute [local irreducible] Code.wp wpList Exit.then Exit.inBlock bodyPost A Calls execOp Addr.add
end Go.Proofs.YtggmccicdhnkgaaGreat
namespace Go.Rf
open Go.RowKit
variable{α:Type}
theorem XR(f:α->List Int):∀(l:List α) (i:Nat),((l.take i).flatMap f).length<=(l.flatMap f).length
 |[],i=>by simp
 |a::l,0=>by simp
 |a::l,i+1=>by
  have:=XR f l i;simp only[DT,CP,Sm];omega
theorem Wy(f:α->List Int){l:List α}{i:Nat}(h:i<l.length):(l.take (i+1)).flatMap f=(l.take i).flatMap f++f l[i]:=by
 rw[SK h,List.flatMap_append,CP,Ey,Ce]
end Go.Rf
namespace Go.Proofs.YtggmccicdhnkgaaGreat
open Go.Proofs.Tryz
open Go.Rf Go.RowKit
variable{p:Nat}{u u1 w:World}
attribute [local irreducible] Code.wp wpList Exit.then Exit.inBlock bodyPost A Calls execOp Addr.add
theorem KJ{n:Nat}(h:n<=1000000000):VE (n:Int):=⟨by omega,by omega⟩
theorem KN.next{v:Value}{bs:List Int}(h:KN p w v bs u)(hf:Fr [] u u1):KN p w v bs u1:=by
 obtain⟨v',hI,h1,h2⟩:=h;exact⟨v',⟨hI.1.tr0 hf,hI.2.tr0 hf⟩,h1.Jb hf,h2⟩
theorem KN.fr{v:Value}{bs:List Int}(h:KN p w v bs u):Fr (p::blks v) w u:=by
 obtain⟨_,_,hf,_⟩:=h;exact hf
theorem KN.from{v:Value}{bs:List Int}(h:KN p w v bs u)(hf1:Fr [] u u1):∃v',(∀x∈p::blks v',x<u.heap.size/\(x=p\/x∈blks v\/w.heap.size<=x))/\KN p u1 v' bs u1/\∀bs2 u2,KN p u1 v' bs2 u2->KN p w v bs2 u2:=by
 obtain⟨v',hI,hf,hk⟩:=h;refine⟨v',fun x hx=>?_,KN.refl ⟨hI.1.tr0 hf1,hI.2.tr0 hf1⟩,fun bs2 u2 h2=>h2.trans (hf.Jb hf1) hk⟩;rcases SC.1 hx with rfl|hx
 .exact ⟨hI.1.lt,.inl rfl⟩
 .exact ⟨hI.2.lt x hx,.inr (hk x hx)⟩
theorem BL{v:Value}{bs:List Int}(n:Int)(h:KN p w v bs u)(hn:VE n)(hl:bs.length<=10000000000):
 Calls prog 66 #[.pointer (some ⟨p,0,none⟩),iV n] u fun e u'=>e=.returned (.tuple #[])/\KN p w v (bs++iv n) u':=by
 obtain⟨v',hI,h1,hk⟩:=h;exact(Jkw p v' bs n u hn.1 hn.2 hI Yhn).mono fun e u' ⟨he,hs⟩=>⟨he,hs.trans h1 hk⟩
theorem JeW{v:Value}{bs:List Int}(s:ByteArray)(h:KN p w v bs u)(hs:s.size<=10000000000)(hl:bs.length<=10000000000):
 Calls prog 65 #[.pointer (some ⟨p,0,none⟩),.string s] u fun e u'=>e=.returned (.tuple #[])/\KN p w v (bs++raw (sb s)) u':=by
 obtain⟨v',hI,h1,hk⟩:=h;exact(wText p v' bs s u hI Yhn Yhn).mono fun e u' ⟨he,hs⟩=>⟨he,hs.trans h1 hk⟩
def BrE(b:Br):Prop:=b.decl.size<=1000000000/\VE b.at_/\VE b.arm
theorem GZ(b:Br)(h:BrE b):(brE b).length<=1000000100:=by
 have h1:=VA h.2.1.1 h.2.1.2;have h2:=VA h.2.2.1 h.2.2.2;exact Ycy
theorem Jio{v:Value}{bs:List Int}(b:Br)(hb:BrE b)(h:KN p w v bs u)(hl:bs.length<=5000000000):
 Calls prog 67 #[.pointer (some ⟨p,0,none⟩),.agg (brV b).toArray] u fun e u'=>e=.returned (.tuple #[])/\KN p w v (bs++brE b) u':=by
 refine enter func67 rfl ntmps67 rfl ?_;refine rx ?_;refine Ju (l:=brV b) rfl rfl (fun u1 q hq h1 hf1 hs1=>?_);replace h1:Blk u1 q [.string b.decl,iV b.at_,iV b.arm] _:=h1;obtain⟨v1,hlt,hW,hgo⟩:=h.from hf1;have hq1:q∉p::blks v1:=fun hm=>by have:=(hlt q hm).1;omega
 have hl1:=VA hb.2.1.1 hb.2.1.2;have hl3:=Xw (sb b.decl).length (by have:=hb.1;have:=Xx b.decl;omega);have hl4:=hb.1;have hl5:=Xx b.decl;refine rx ?_;refine Jg (JeW b.decl hW Yhn Yhn) ?_;rintro u2 hW2;have g2:=h1.tr hW2.fr hq1;refine rx ?_;refine Jg (BL b.at_ hW2 hb.2.1 (by simp only[raw,Sm];omega)) ?_;rintro u3 hW3;have g3:=h1.tr hW3.fr hq1;refine rx ?_;refine Jg (BL b.arm hW3 hb.2.2 (by simp only[raw,Sm];omega)) ?_;rintro u4 hW4;refine rx ?_;refine WI rfl ⟨rfl,?_⟩;have:=hgo _ _ hW4
 rwa [show bs++raw (sb b.decl)++iv b.at_++iv b.arm=bs++brE b by simp[brE]]at this
theorem wfr{w1:World}{q:Nat}{bs:List Int}(hf:Fr [] w w1)(hq:q=w.heap.size)(h:KN q w1 (zS) bs u):Fr [] w u:=
 hf.trans h.fr (fun x hx=>.inr Ymb)
theorem JhG{M R:List Nat}{P:Pp}{s:St}(w:World)(hC:Wj w p M R P s)(hn:s.cls.length<=1000000)(hk:s.ks.length<=1000000)(hps:s.ps.length<=1000000)(hr0:s.runs<=1000000)(hpr:P.prop.size<=1000000)(hbr:∀b∈s.ks,BrE b)(hL:(U0 P.prop s).length<=1000000000):
 Calls prog 27 #[.pointer (some ⟨p,0,none⟩)] w fun e w'=>∃v,e=.returned v/\Own w' 5 1 v (U0 P.prop s).length ((U0 P.prop s).map (.int .u8))/\Fr [] w w'/\(∀x∈blks v,w.heap.size<=x):=by
 obtain⟨bb,pb,vr,vc,mb,mp,rfl,rfl,hnd,hb,hr,hc,hmb,hrb,hmp,hrp,hok⟩:=hC;obtain⟨aoc,cc,rfl⟩:=hc.slice;have hlp:mp.length=s.ps.length:=GI Qy hmp.nd hok.pasc (fun a=>hrp.keys);have hlb:mb.length=s.ks.length:=GI Qu hmb.nd hok.kasc (fun a=>hrb.keys.trans (hok.cnt a));have ho:=hok.o;simp only[U0,Sm]at hL;refine enter func27 rfl ntmps27 rfl ?_;refine rx ?_;refine Jm (l:=[zS]) rfl (fun w1 q hqe hq hf1 hs1=>?_);have hW:=KN.refl (bs:=[]) ⟨hq,Own.nil _ _ _⟩;have hb1:=hb.tr0 hf1;refine rx ?_;refine Jg (JeW P.prop hW Yhn Yhs) ?_;rintro u hW;have hb2:=hb.tr0 (wfr hf1 hqe hW);refine rx ?_;refine Jg (BL s.runs hW (KJ Yhn) (by simp only[CO];omega)) ?_;rintro u2 hW;have hb3:=hb.tr0 (wfr hf1 hqe hW);refine rx ?_;clear hb1 hb2 hb3;refine Jh 26 [5] (σ:=Nat) (fun i g u=>g 26=iV (i:Nat)/\i<=3/\KN q w1 (zS) (raw (sb P.prop)++iv s.runs++([s.o 0,s.o 1,s.o 2].take i).flatMap (fun n=>iv (n:Nat))) u) (fun i=>3-i) 0 ⟨rfl,SL _,by simpa using hW⟩ ?_;clear hW;rintro i g u ⟨g26,hi,hW⟩;rw[Ja g26];have hbt:=XR (fun(n:Nat)=>iv (n:Nat)) [s.o 0,s.o 1,s.o 2] i;by_cases hlt:i<3
 case pos=>
  refine rx ?_;refine JcY (cs:=Vk [s.o 0,s.o 1,s.o 2]) (v:=iV ([s.o 0,s.o 1,s.o 2][i]:Nat)) rfl rfl hlt (V9 hlt) ?_;refine rx ?_;have hoi:[s.o 0,s.o 1,s.o 2][i]<=1000000:=by
   have:∀n∈[s.o 0,s.o 1,s.o 2],n<=1000000:=by simp;omega
   exact this _ (Cj _)
  refine Jg (BL _ hW (KJ Yhn) Yni) ?_;rintro u2 hW;refine rx ?_;refine Jc (i+1) Yhl ⟨rfl,hlt,?_⟩ Yhn;rw[Wy _ hlt,<-List.append_assoc];exact hW
 rw[SQ Yht,show[s.o 0,s.o 1,s.o 2].flatMap (fun n=>iv (n:Nat))=iv (s.o 0)++(iv (s.o 1)++iv (s.o 2)) by simp,<-List.append_assoc,<-List.append_assoc]at hW;have hb1:=hb.tr0 (wfr hf1 hqe hW);clear hbt hi g26;refine rx ?_;refine Jg (BL s.cls.length hW (KJ Yhn) Yim) ?_;rintro u2 hW;have hb2:=hb.tr0 (wfr hf1 hqe hW);refine rx ?_;clear hb1 hb2;obtain⟨B,hB⟩:=exq (raw (sb P.prop)++iv s.runs++iv (s.o 0)++iv (s.o 1)++iv (s.o 2)++iv s.cls.length);have hBL:B.length+(s.cls.flatMap (fun n=>iv (n:Nat))).length<=1000000000:=by rw[hB];simp only[Sm];omega
 rw[<-hB]at hW;refine Jh 43 [7] (σ:=Nat) (fun i g u=>g 43=iV (i:Nat)/\i<=s.cls.length/\KN q w1 (zS) (B++(s.cls.take i).flatMap (fun n=>iv (n:Nat))) u) (fun i=>s.cls.length-i) 0 ⟨rfl,SL _,by simpa using hW⟩ ?_;clear hW;rintro i g u ⟨g43,hi,hW⟩;rw[Ja g43];have hbt:=XR (fun(n:Nat)=>iv (n:Nat)) s.cls i;by_cases hlt:i<s.cls.length
 case pos=>
  obtain⟨ad,had,hcell⟩:=KO (hc.tr0 (wfr hf1 hqe hW)).src (V9 hlt);subst had;refine Yfm ?_;refine rx ?_;refine Jg (BL _ hW (KJ (by have:=hok.ocls _ (Cj hlt);omega)) Yim) ?_;rintro u2 hW;refine rx ?_;refine Jc (i+1) Yhl ⟨rfl,hlt,?_⟩ Yhn;rw[Wy _ hlt,<-List.append_assoc];exact hW
 rw[SQ Yhn]at hW;have hFu:=wfr hf1 hqe hW;have hb1:=hb.tr0 hFu;have hmb1:=hmb.tr0 hFu;clear hbt g43;refine rx ?_;refine G7 rfl hmb1 ?_;rw[hlb];refine rx ?_;refine Jg (BL s.ks.length hW (KJ Yhn) Yim) ?_;rintro u2 hW;have hFu2:=wfr hf1 hqe hW;have hb2:=hb.tr0 hFu2;have hmb2:=hmb.tr0 hFu2;refine rx ?_;refine Jl (JbB mb bb u2 hmb2 Yhn) ?_;rintro vq w3 ⟨hBq,hf3⟩;rw[Uw Qu hok.kasc (fun a=>hrb.keys.trans (hok.cnt a))]at hBq;obtain⟨aoq,cq,rfl⟩:=hBq.1.slice;obtain⟨v3,hv3,hV,hgo⟩:=hW.from hf3;have hFw3:=hFu2.Jb hf3;have hsw3:=hFw3.size;have hs23:=hf3.size;have hv30:∀x∈q::blks v3,x<u2.heap.size/\w.heap.size<=x:=fun x hx=>by
  have h1:=hv3 x hx;have:=hs1;refine⟨h1.1,?_⟩;rcases h1.2 with h|h|h
  .omega
  .simp [blks,Value.ownBlock]at h
  .omega
 have hQ:∀x∈blks (Value.slice aoq s.ks.length cq),x∉q::blks v3:=fun x hx hm=>by
  have h1:=hBq.2 x hx;have h2:=(hv30 x hm).1;omega
 have hF3:∀bs u,KN q w3 v3 bs u->Fr [] w u:=fun bs u h=>hFw3.trans h.fr (fun x hx=>.inr (hv30 x hx).2)
 clear hW;obtain⟨B2,hB2⟩:=exq (B++s.cls.flatMap (fun n=>iv (n:Nat))++iv s.ks.length);rw[<-hB2]at hV;have hBL2:B2.length+(s.ks.flatMap (fun b=>brE b++iv (s.cnt b))).length<=1000000000:=by rw[hB2,hB];simp only[Sm];omega
 refine rx ?_;refine Jh 62 [9] (σ:=Nat) (fun i g u=>g 62=iV (i:Nat)/\i<=s.ks.length/\KN q w3 v3 (B2++(s.ks.take i).flatMap (fun b=>brE b++iv (s.cnt b))) u) (fun i=>s.ks.length-i) 0 ⟨rfl,SL _,by simpa using hV⟩ ?_;clear hV;rintro i g u ⟨g62,hi,hV⟩;rw[Ja g62];have hbt:=XR (fun b=>brE b++iv (s.cnt b)) s.ks i;have hFu:=hF3 _ _ hV;by_cases hlt:i<s.ks.length
 case pos=>
  obtain⟨adq,hadq,hcq⟩:=JZ QN (hBq.1.tr hV.fr hQ).src hlt Yhy;subst hadq;have hcq:Cells u (adq.add (i*3)) [.string s.ks[i].decl,iV s.ks[i].at_,iV s.ks[i].arm]:=hcq;refine rx ?_;refine Jm (l:=[zT,zI,zI]) rfl (fun u1 b9 hb9 h9 hf5 hs5=>?_);refine rx ?_;refine Jd (cs:=brV s.ks[i]) rfl rfl h9 (QD _) rfl rfl (fun u2 h9 hf6 hs6=>?_);replace h9:Blk u2 b9 [.string s.ks[i].decl,iV s.ks[i].at_,iV s.ks[i].arm] _:=h9;have hF2:Fr [] u u2:=hf5.trans hf6 (fun x hx=>.inr Yhq);obtain⟨v4,hv4,hV4,hgo4⟩:=hV.from hF2;have hbB:=hbr _ (Cj hlt);have n9:b9∉q::blks v4:=fun hm=>by have:=(hv4 _ hm).1;omega
  have hFu2:=hFu.Jb hF2;refine rx ?_;refine Jg (Jio s.ks[i] hbB hV4 Yim) ?_;rintro u3 hV5;have hb5:=hb.tr0 hFu2;have hmb5:=hmb.tr0 hFu2;refine rx ?_;refine JE (fun z=>Fr (q::blks v4) u2 z) Yhp rfl ?_;obtain⟨u4,hu4⟩:=exq u3.drew;rw[<-hu4];have hd:Fr [] u3 u4:=hu4▸Fr.drew _ _;have hS:Fr (q::blks v4) u2 u4:=hV5.fr.Jb hd;have np:p∉q::blks v4:=fun hm=>by
   have h1:=hb.lt;have h2:=(hv4 p hm).2;rcases h2 with h|h|h
   .omega
   .have:=(hv30 p (CY _ h)).2;omega
   .omega
  have nb:bb∉q::blks v4:=fun hm=>by
   have h1:=hmb.lt;have h2:=(hv4 bb hm).2;rcases h2 with h|h|h
   .omega
   .have:=(hv30 bb (CY _ h)).2;omega
   .omega
  refine Ynb ?_;refine Kw 3 hS ?_ (hrun:=by(intro u hu;exact(J7 rfl (Blk.cell (hb5.tr hu np) rfl))));refine Kw 4 hS ?_ (hrun:=by(intro u hu;exact(Kv rfl (Cells.VO (h9.tr hu n9)) Yik)));refine Kw 5 hS ?_ (hrun:=by(intro u hu;refine(JdF (P:=prog) (t:=122) (a:=s.ks[i]) ?_ ?_ (hmb5.tr hu nb) hrb);exact rfl;exact rfl));refine JJ (i:=6) rfl Yhp ?_;have hV7:=hV5.next hd;have hbl:=GZ _ hbB;refine Jg (BL _ hV7 (KJ (by have:=hok.ocnt s.ks[i];omega)) Yim) ?_;rintro u5 hV8;refine wpList_nil (Jv hV8.fr ?_);refine Yev ?_;refine Jc (i+1) Yhl ⟨rfl,hlt,?_⟩ Yhn;have:=hgo4 _ _ hV8;rw[Wy _ hlt];simpa only[List.append_assoc]using this
 rw[SQ Yhn]at hV;have hb1:=hb.tr0 hFu;have hmp1:=hmp.tr0 hFu;clear hbt g62;refine rx ?_;refine G7 rfl hmp1 ?_;rw[hlp];refine rx ?_;refine Jg (BL s.ps.length hV (KJ Yhn) Yim) ?_;rintro u2 hV;have hFu2:=hF3 _ _ hV;have hb2:=hb.tr0 hFu2;have hmp2:=hmp.tr0 hFu2;refine rx ?_;refine Jl (Jfe mp pb u2 hmp2 Yhn) ?_;exact Yme
end Go.Proofs.YtggmccicdhnkgaaGreat
namespace Go.Rf
open Go.RowKit
end Go.Rf
namespace Go.Proofs.YtggmccicdhnkgaaGreat
open Go.Rf Go.RowKit
attribute [local irreducible] Code.wp wpList Exit.then Exit.inBlock bodyPost A Calls execOp Addr.add
end Go.Proofs.YtggmccicdhnkgaaGreat
namespace Go.Rf
open Go.RowKit
end Go.Rf
namespace Go.Proofs.YtggmccicdhnkgaaGreat
open Go.Rf Go.RowKit
attribute [local irreducible] Code.wp wpList Exit.then Exit.inBlock bodyPost A Calls execOp Addr.add
end Go.Proofs.YtggmccicdhnkgaaGreat
namespace Go.Rf
open Go.RowKit
theorem Jlb{n:Nat}{m:List Nat}(hp:m.Pairwise (· < ·))(hb:∀x∈m,x<n):WB n (m.map (fun(i:Nat)=>(i:Int)))=true:=by
 refine UK (fun j hj=>?_);rw[Sr]at hj;unfold Bf;rw[getD_at (by rw[Sr];exact hj),F7];refine SN ⟨by omega,?_,fun h0=>?_⟩
 .have:=hb m[j] (Cj hj);omega
 .rw [getD_at (by rw[Sr];omega),F7];have:=Fj.1 hp (j-1) j Yhn hj Yhn;omega
end Go.Rf
namespace Go.Proofs.YtggmccicdhnkgaaGreat
open Go.Rf Go.RowKit
variable{at_:Int}{l:List Int}{P:Pp}
theorem Jld:Qd P (XW P l at_ false)=true:=by
 obtain⟨k,hk⟩:=exq (pk l at_ 1000000);have h0:∀{q:Prop} [Decidable q],¬((false=true)/\q):=fun h=>by cases h.1
 refine Jgi ?_ ?_
 .unfold Gt XW;rw[SH h0,SH h0,<-hk];refine SN ?_;simp only;unfold sKd sAt;by_cases c:0<k/6%3/\0<P.checks
  .rw [Cb c,Cb c];have h1:=Fq (k/18) (show(P.checks:Int)≠0 by omega);have h2:=EP (k/18) (show(0:Int)<P.checks by omega);refine⟨by omega,by omega,fun h=>by omega,fun _=>⟨h1,h2⟩,?_⟩;by_cases e:k/6%3=2<;>simp[e]
  .rw [SH c,SH c];simp
 .unfold XW;simp only[SS,false_and,CW,Ce];unfold Vx;refine Jlb (List.Pairwise.filter _ List.pairwise_lt_range) (fun x hx=>?_);exact FT.1 (Fp.1 hx).1
theorem Jfh{b:Bool}:(XW P l at_ b).bs.length<=5:=by
 have hkr:=Zf (l:=l) (i:=at_) (m:=1000000) Yhy;show(VG P l at_ _).length<=5;rw[Jaa];omega
theorem Jfg{b:Bool}:(XW P l at_ b).cl.length<=P.ncls+1:=by
 have h:=Bg (l:=l) (at_:=at_) (m:=P.ncls);show(Vx l at_ P.ncls++_).length<=_;rw[Sm]
 split<;>simp<;>omega
theorem JfK{ds:List De}{nm:ByteArray}{d:De}(hm:MD ds)(hf:fdD ds 3 nm=some d):(Jc6 ds nm d).checks<=16/\(Jc6 ds nm d).ncls<=16/\(Jc6 ds nm d).reach.length<=253000:=by
 obtain⟨hd,hk,_⟩:=XT hf;have hl:=(hm.2.1 d hd).1;unfold UZ at hl;rw[SH Yhn,SH Yhn,SH Yhn,Cb hk]at hl;simp only[Cc]at hl;have h1:=hl.2.1;have h2:=hl.2.2.1;unfold GH at h1 h2;simp only[Cc]at h1 h2;have hb:∀n,ltN 16 n=false->n<=16:=fun n h=>Iu (fun hh=>by unfold ltN at h;rw[Nat.blt_eq.mpr hh]at h;cases h)
 have h1:=hb _ h1.1;have h2:=hb _ h2.1;have h3:=Jex (nm:=nm) hm.sz;have h4:=hm.len;refine⟨?_,?_,?_⟩
 .show d.checks.length<=16;omega
 .show d.classes.length<=16;omega
 .show (JM ltB (KX ds nm)).length<=253000;omega
attribute [local irreducible] Code.wp wpList Exit.then Exit.inBlock bodyPost A Calls execOp Addr.add
end Go.Proofs.YtggmccicdhnkgaaGreat
namespace Go.Rf
open Go.RowKit
variable{nm:ByteArray}
theorem L6{ds:List De}:∀(f:Nat) (s:List ByteArray×List De),(∀d∈s.2,d∈ds)->∀b∈KD ds f s,∃d∈ds,b∈ofD d
 |0,_,_,b,hb=>by simp[KD]at hb
 |f+1,(seen,[]),_,b,hb=>by simp[KD]at hb
 |f+1,(seen,d::q),h,b,hb=>by
  rw[KD,SE]at hb;rcases hb with hb|hb
  .exact ⟨d,h d Yhs,hb⟩
  .exact L6 f _ (WO (fun x hx=>h x (by simp at hx ⊢;exact .inr hx))) b hb
theorem Jc2{ds:List De}{b:Br}(hb:b∈JM ltB (KX ds nm)):∃d∈ds,b∈ofD d:=by
 rw[KF Qu]at hb;unfold KX at hb;cases he:QF ds nm with
 |none=>rw[he]at hb;cases hb
 |some d=>
  rw[he]at hb;exact L6 _ _ (fun x hx=>by rw[Sv.1 hx];exact Ei he) b hb
end Go.Rf
namespace Go.Proofs.YtggmccicdhnkgaaGreat
open Go.Rf Go.RowKit
variable{nm:ByteArray}{n p:Nat}{P:Pp}{s:St}{u u':World}
structure SmP (P:Pp):Prop where
 prop:P.prop.size<=100000
 checks:P.checks<=16
 ncls:P.ncls<=16
 reach:P.reach.length<=253000
 br:∀b∈P.reach,BrK b
theorem JcP{b:Br}(h:BrK b):BrE b:=by
 obtain⟨h1,⟨h2,h3⟩,h4,h5⟩:=h;exact⟨by omega,⟨by omega,by omega⟩,⟨by omega,by omega⟩⟩
theorem Jbm{b:Br}(h:BrK b):(brE b).length<=100100:=by
 have h1:=VA (JcP h).2.1.1 (JcP h).2.1.2;have h2:=VA (JcP h).2.2.1 (JcP h).2.2.2;exact Ycy
def SmR(rs:List Rn):Prop:=rs.length<=20/\∀r∈rs,r.bs.length<=5/\∀b∈r.bs,BrK b
theorem WJ{α:Type}{f:α->List Int}:∀{l:List α},(∀a∈l,(f a).length<=n)->(l.flatMap f).length<=l.length*n
 |[],_=>by simp
 |a::l,h=>by
  have h1:=WJ (l:=l) (fun x hx=>h x Yix);have h2:=h a Yhs;rw[CP,Sm,SI,DN];omega
theorem SmR.bs{rs:List Rn}(h:SmR rs):(rs.flatMap (·.bs)).length<=100/\(rs.flatMap (fun r=>Jy r.bs)).length<=100:=by
 have key:∀(rs:List Rn),(∀r∈rs,r.bs.length<=5/\∀b∈r.bs,BrK b)->(rs.flatMap (·.bs)).length<=5*rs.length/\(rs.flatMap (fun r=>Jy r.bs)).length<=5*rs.length:=by
  intro rs
  induction rs with
  |nil=>intro _;simp
  |cons r rs ih=>
   intro h;have h1:=ih (fun x hx=>h x Yix);have h2:=(h r Yhs).1;have h3:=QI (l:=r.bs);simp only[CP,Sm,SI];omega
 have:=key rs h.2;have:=h.1;omega
theorem SmR.ks{rs:List Rn}(h:SmR rs):(J6 n rs).ks.length<=100/\(J6 n rs).ps.length<=100/\∀b∈(J6 n rs).ks,BrK b:=by
 have h1:=h.bs;have h2:=KQ (lt:=ltB) (l:=rs.flatMap (·.bs));have h3:=KQ (lt:=ltP) (l:=rs.flatMap (fun r=>Jy r.bs));refine⟨by show(JM ltB _).length<=_;omega,by show(JM ltP _).length<=_;omega,fun b hb=>?_⟩;have hb:b∈JM ltB (rs.flatMap (·.bs)):=hb;rw[KF Qu,DY]at hb;obtain⟨r,hr,hb⟩:=hb;exact(h.2 r hr).2 b hb
theorem Jjh(hP:SmP P)(hs:StOk P s)(hr:s.runs<=1000000)(hk:s.ks.length<=100)(hp:s.ps.length<=100)(hb:∀b∈s.ks,BrK b):(U0 P.prop s).length<=1000000000:=by
 have hv:∀n:Nat,n<=1000000000->(iv (n:Int)).length<=10:=fun n hn=>VA Yhn Yhn
 have ho:=hs.o;have h0:=hv s.runs Yhn;have h1:=hv (s.o 0) Yhn;have h2:=hv (s.o 1) Yhn;have h3:=hv (s.o 2) Yhn;have hc:=hs.ncls;have hn:=hP.ncls;have h4:=hv s.cls.length Yhn;have h5:=hv s.ks.length Yhn;have h6:=hv s.ps.length Yhn;have h7:=Xw P.prop.size (by have:=hP.prop;omega);have h8:=hP.prop;have h9:(s.cls.flatMap (fun n=>iv (n:Nat))).length<=s.cls.length*10:=WJ (fun n hn=>hv n (by have:=hs.ocls n hn;omega));have h10:(s.ks.flatMap (fun b=>brE b++iv (s.cnt b))).length<=s.ks.length*100200:=WJ (fun b hm=>by
  have:=Jbm (hb b hm);have:=hv (s.cnt b) (by have:=hs.ocnt b;omega);rw[Sm];omega)
 have h11:(s.ps.flatMap (fun p=>brE p.1++brE p.2)).length<=s.ps.length*200200:=WJ (fun p hm=>by
  have h:=hs.pks p hm;have:=Jbm (hb _ h.1);have:=Jbm (hb _ h.2);rw[Sm];omega)
 have h12:s.ks.length*100200<=100*100200:=Em _ hk;have h13:s.ps.length*200200<=100*200200:=Em _ hp;simp only[U0,raw,Sm,Xx];omega
theorem JjO(hP:SmP P)(n:Int)(hn:0<=n/\n<=1000):BrK (sbr P n):=by
 unfold sbr
 split
 .rename_i h;have hlt:(n/17%P.reach.length).toNat<P.reach.length:=by
   have:=EP (n/17) (show(0:Int)<P.reach.length by omega);have:=Fq (n/17) (show(P.reach.length:Int)≠0 by omega);omega
  rw[Ig,Dc hlt];exact hP.br _ (Cj _)
 .exact ⟨show(bst [111,116,104,101,114]).size<=100000 by decide,⟨show 0<=n/17%3 by omega,show n/17%3<=1000000 by omega⟩,show 0<=n/51%2 by omega,show n/51%2<=1000000 by omega⟩
theorem JgR(hP:SmP P){l:List Int}{a:Int}{bad:Bool}:∀b∈(XW P l a bad).bs,BrK b:=fun b hb=>by
 obtain⟨i,_,rfl⟩:=Du.1 hb;have:=Zf (l:=l) (i:=a+i+1) (m:=1000) Yhn;exact JjO hP _ ⟨by omega,by omega⟩
theorem Jix{ds:List De}{d:De}(hm:MD ds)(hf:fdD ds 3 nm=some d):SmP (Jc6 ds nm d):=by
 have h:=JfK hm hf;obtain⟨hd,hk,hn⟩:=XT hf;refine⟨?_,h.1,h.2.1,h.2.2,fun b hb=>?_⟩
 .have:=(hm.gd d hd).name;show nm.size<=_;rw[<-hn];exact this
 .obtain ⟨d',hd',hb⟩:=Jc2 hb;exact hm.br d' hd' b hb
def CI(u:World)(p:Nat)(P:Pp)(s:St)(A B:Nat->Prop):Prop:=∃M R,Wj u p M R P s/\(∀x∈M,A x)/\(∀x∈R,B x)
def FI(A:Nat->Prop)(u u':World):Prop:=∃T,Fr T u u'/\∀x∈T,A x
theorem FI.of0{A:Nat->Prop}(h:Fr [] u u'):FI A u u':=⟨[],h,by simp⟩
theorem FI.trans{A B C:Nat->Prop}{u1 u2:World}(h:FI A u u1)(k:FI B u1 u2)(h1:∀x,A x->C x)(h2:∀x,B x->C x\/u.heap.size<=x):FI C u u2:=by
 obtain⟨T,hT,hA⟩:=h;obtain⟨V,hV,hB⟩:=k;refine⟨T++V.filter (fun x=>decide (x<u.heap.size)),(hT.mono (fun x hx=>.inl (SA _ hx))).trans hV (fun x hx=>?_),fun x hx=>?_⟩
 .by_cases hlt:x<u.heap.size
  .exact .inl (CJ _ (Fp.2 ⟨hx,SN hlt⟩))
  .exact .inr Yhn
 .rcases SE.1 hx with hx|hx
  .exact h1 x (hA x hx)
  .obtain ⟨h3,h4⟩:=Fp.1 hx;have:=DJ h4;rcases h2 x (hB x h3)with h|h
   .exact h
   .omega
theorem FI.size{A:Nat->Prop}(h:FI A u u'):u.heap.size<=u'.heap.size:=by
 obtain⟨T,hT,_⟩:=h;exact hT.size
theorem CI.fi{A B C:Nat->Prop}(h:CI u p P s A B)(hf:FI C u u')(h1:∀x,A x->¬C x)(h2:∀x,B x->¬C x):CI u' p P s A B:=by
 obtain⟨M,R,hC,hM,hR⟩:=h;obtain⟨T,hT,hi⟩:=hf;refine⟨M,R,hC.tr hT (fun x hx hm=>?_),hM,hR⟩;rcases SE.1 hx with hx|hx
 .exact h1 x (hM x hx) (hi x hm)
 .exact h2 x (hR x hx) (hi x hm)
theorem CI.tr0{A B:Nat->Prop}(h:CI u p P s A B)(hf:Fr [] u u'):CI u' p P s A B:=h.fi (C:=fun _=>False) (.of0 hf) (fun _ _ h=>h) (fun _ _ h=>h)
theorem CI.ok{A B:Nat->Prop}(h:CI u p P s A B):StOk P s:=by
 obtain⟨M,R,hC,_,_⟩:=h;obtain⟨_,_,_,_,_,_,_,_,_,_,_,_,_,_,_,_,h⟩:=hC;exact h
end Go.Proofs.YtggmccicdhnkgaaGreat
namespace Go.Rf
open Go.RowKit
end Go.Rf
namespace Go.Proofs.YtggmccicdhnkgaaGreat
open Go.Rf Go.RowKit
variable{u u0 w:World}
attribute [local irreducible] Code.wp wpList Exit.then Exit.inBlock bodyPost A Calls execOp Addr.add
def BK(T:List Nat)(u0 u:World)(v:Value)(bs:List Int):Prop:=Own u 5 1 v bs.length (bs.map (.int .u8))/\Fr T u0 u/\∀k∈blks v,k∈T\/u0.heap.size<=k
theorem BK.of{v:Value}{bs:List Int}(h:Out w u v bs):BK (blks v) u u v bs:=⟨h.1,Fr.refl _ _,fun k hk=>.inl hk⟩
theorem BK.fin{va v:Value}{cs bs:List Int}(h0:Out w u0 va cs)(h:BK (blks va) u0 u v bs):Out w u v bs:=
 ⟨h.1,h0.2.1.trans h.2.1 (fun x hx=>.inr (h0.2.2 x hx)),fun k hk=>(h.2.2 k hk).elim (h0.2.2 k) (fun h=>CG h0.2.1.size h)⟩
theorem BK.old{T:List Nat}{z:World}{v:Value}{bs:List Int}(h:BK T u0 u v bs)(hf:Fr [] u z):BK T u0 z v bs:=⟨h.1.tr0 hf,h.2.1.Jb hf,h.2.2⟩
end Go.Proofs.YtggmccicdhnkgaaGreat
namespace Go.Rf
open Go.RowKit
theorem UN(v:Value):blks v=[]\/∃b,blks v=[b]:=by
 unfold blks;cases v.ownBlock with
 |none=>exact .inl rfl
 |some b=>exact .inr ⟨b,rfl⟩
theorem Ji5{q:Nat}{v r:Value}(h1:q∉blks v)(h2:q∉blks r)(h3:∀x∈blks v,x∉blks r):(([q]++blks v)++blks r).Nodup:=by
 rcases UN v with e|⟨b,e⟩<;>rcases UN r with e'|⟨b',e'⟩<;>rw[e]at h1 h3<;>rw[e']at h2 h3<;>rw[e,e']<;>simp_all
theorem Ji6{q:Nat}{v r:Value}(h:(([q]++blks v)++blks r).Nodup):q∉blks v/\q∉blks r/\∀x∈blks v,x∉blks r:=by
 simp only[CQ,CO,EF,SE,IC]at h;exact⟨h.1.1,h.1.2,fun x hx hm=>(DW.1 h.2).2.2 x hx x hm rfl⟩
end Go.Rf
namespace Go.Proofs.YtggmccicdhnkgaaGreat
open Go.Proofs.Tryz
open Go.Rf Go.RowKit
attribute [local irreducible] Code.wp wpList Exit.then Exit.inBlock bodyPost A Calls execOp Addr.add
theorem Jg8{q:Nat}{N T S:List Nat}{P:Pp}{rs:List Rn}(r:Rn)(vb vl:Value)(w:World)(h:RcM w q N T S P rs)(hbr:DR w S (.l (r.bs.map brC)) vb)(hl:DR w S (.l (r.cl.map KI)) vl)(hn:rs.length<=1000)(hrl:P.reach.length<=1000000):
 Calls prog 22 #[.pointer (some ⟨q,0,none⟩),.agg ([iV r.kind,iV r.at_,iV r.code,vb,vl]:List Value).toArray] w fun e w'=>if Qd P r=true then e=.returned (zI)/\(∃N',RcM w' q N' T (S++N') P (rs++[r])/\∀x∈N',x∈N\/w.heap.size<=x)/\Fr N w w' else e=.returned (iV 1)/\Fr [] w w':=by
 have hQ:=h.v Yhn Yhn;obtain⟨vr,vs,xs,rfl,rfl,hnd,hMS,hb,hr,hs,hw⟩:=h;obtain⟨nd1,nd2,nd3⟩:=Ji6 hnd;have h1b:=hbr.one;have h1l:=hl.one;obtain⟨aob,cb,rfl,_⟩:=hbr.slice;obtain⟨aol,cl,rfl,_⟩:=hl.slice;have hlb:(r.bs.map brC).length=r.bs.length:=Sr ..;have hll:(r.cl.map KI).length=r.cl.length:=Sr ..;rw[hlb]at hbr h1b ⊢;rw[hll]at hl h1l ⊢;refine enter func22 rfl ntmps22 rfl ?_;refine rx ?_;refine Ju (l:=[iV r.kind,iV r.at_,iV r.code,.slice aob r.bs.length cb,.slice aol r.cl.length cl]) rfl rfl (fun w1 b3 hb3 h3 hf1 hs1=>?_);refine rx ?_;refine Jg (JbL r (.slice aob r.bs.length cb) (.slice aol r.cl.length cl) w1 (hQ.tr0 hf1) (hl.tr0 hf1) h1b) ?_;rintro w2 hf2;have h3:=h3.tr0 hf2;have hF2:=hf1.Jb hf2;cases hfit:Qd P r with
 |false=>
  refine Yeo ?_;rw[SH Yhs];exact⟨rfl,hF2⟩
 |true=>?_
 have hb2:=hb.tr0 hF2;have hs2:=hs.tr0 hF2;have hq:=hb.lt;have hvl:=hs.lt;obtain⟨aos,cs,rfl⟩:=hs.slice;have h1s:=hs.one;refine rx ?_;refine Kr 8 (fun z=>Fr (blks (Value.slice aos rs.length cs)) w2 z) Yhp rfl ?_;obtain⟨w3,hw3⟩:=exq w2.drew;rw[<-hw3];have hd3:Fr [] w2 w3:=hw3▸Fr.drew _ _;have hS:Fr (blks (Value.slice aos rs.length cs)) w2 w3:=hd3.mono Yhs;have n3:b3∉blks (Value.slice aos rs.length cs):=fun hm=>by have:=hvl b3 hm;omega
 ((refine Jp 0 hS ?_);(refine Jp 1 hS ?_);(refine Jp 2 hS ?_);(refine Jp 3 hS ?_))
 refine Jp 4 hS ?_ (hrun:=(by intro u hu;exact(J7 rfl (Blk.cell (hb2.tr hu nd1) rfl))));refine Jp 5 hS ?_ (hrun:=(by intro u hu;exact(Kv rfl (Cells.VO (h3.tr hu n3)) Yik)));refine Yln ?_;refine JQ (c1:=[iV r.kind,iV r.at_,iV r.code,.slice aob r.bs.length cb,.slice aol r.cl.length cl]) rfl rfl rfl (fun u4 q4 hq4 ho4 hf4 hs4=>?_);have hS4:=hS.Jb hf4;refine wpList_nil (Xz hS4 ?_);refine Ygm ?_;refine JC ((hs2.tr0 hd3).tr0 hf4) rfl ho4.src rfl rfl Yhu Yhv Yhn (fun v5 u5 ho5 hf7 hk7 _=>?_);have hS5:=hS4.trans hf7 (fun x hx=>.inl hx);have hv51:=ho5.one;have hs3:=hd3.size;have hs5:=hf7.size;have hsF2:=hF2.size;refine wpList_nil (Xz hS5 ?_);refine Ygn ?_;refine Vy rfl ?_;refine Ygp ?_;refine KH (i:=9) rfl Yhp ?_;refine Ku rfl ?_;rw[add_lit];refine Ygp ?_;refine Ygo ?_
 ((with_reducible apply Ji);exact rfl;(conv=>lhs;whnf);exact hv51;exact(hb2.tr hS5 nd1);exact rfl)
 intro u6 hb6 hf8 hs8;replace hb6:Blk u6 q [.string P.prop,iV (P.checks:Nat),iV (P.ncls:Nat),vr,v5] _:=hb6;refine Yeu ?_;refine Yeo ?_;rw[Cb rfl];have hk5:∀x∈blks v5,x∈blks (Value.slice aos rs.length cs)\/w.heap.size<=x:=fun x hx=>by
  rcases hk7 x hx with h|h
  .exact .inl h
  .exact .inr Yhn
 have nq5:q∉blks v5:=fun hm=>(hk5 q hm).elim nd1 Yid
 have hrlt:=hr.lt;have n5r:∀x∈blks v5,x∉blks vr:=fun x hx hm=>(hk5 x hx).elim (fun h=>nd3 x h hm) (fun h=>by have:=hrlt x hm;omega)
 have hN:∀x∈[q]++blks v5,x∈[q]++blks (Value.slice aos rs.length cs)\/w.heap.size<=x:=fun x hx=>by
  rcases SE.1 hx with h|h
  .exact .inl (SA _ h)
  .exact (hk5 x h).imp (fun h=>CJ _ h) id
 have hF6:Fr ([q]++blks (Value.slice aos rs.length cs)) w u6:=((hF2.mono (fun x hx=>by simp at hx)).trans hS5 (fun x hx=>.inl (CJ _ hx))).trans hf8 (fun x hx=>.inl (SA _ hx));have hSm:∀x∈S++([q]++blks v5),x∈S\/w.heap.size<=x:=fun x hx=>by
  rcases SE.1 hx with h|h
  .exact .inl h
  .exact (hN x h).imp (fun h=>hMS x h) id
 have hTm:∀x∈[q]++blks (Value.slice aos rs.length cs),x∈S++([q]++blks v5)\/w.heap.size<=x:=fun x hx=>.inl (SA _ (hMS x hx))
 refine⟨rfl,⟨_,⟨vr,v5,xs++[iV r.kind,iV r.at_,iV r.code,.slice aob r.bs.length cb,.slice aol r.cl.length cl],rfl,rfl,Ji5 nq5 nd2 n5r,fun x hx=>CJ _ hx,hb6,hr.tr hF6 (fun x hx hm=>?_),?_,?_⟩,fun x hx=>by subst hb3;exact hN x hx⟩,hF6⟩
 .rcases SE.1 hm with h|h
  .rw [Sv.1 h]at hx;exact nd2 hx
  .exact nd3 x h hx
 .rw [Sm];exact ho5.tr hf8 (fun x hx hm=>nq5 (Sv.1 hm▸hx))
 .refine (hw.imp (fun r' cs' _ h=>(h.mono hSm).old hF6 hTm)).app (Rws.one ?_);exact RD.c1 rfl (RD.c1 rfl (RD.c1 rfl (RD.cons ((hbr.mono hSm).old hF6 hTm) (RD.cons ((hl.mono hSm).old hF6 hTm) .nil))))
end Go.Proofs.YtggmccicdhnkgaaGreat
