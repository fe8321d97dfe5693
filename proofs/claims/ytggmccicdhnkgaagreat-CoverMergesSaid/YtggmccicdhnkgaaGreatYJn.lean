/-
 Encode of package cover.
-/
import Derived.Test.YtggmccicdhnkgaaGreatYJs
import Derived.Test.YtggmccicdhnkgaaGreatYMs
import Derived.Test.YtggmccicdhnkgaaGreatYRf2
set_option linter.all false
set_option maxHeartbeats 64000000
namespace Go.Rf
open Go.RowKit
theorem JfA{P:Program}{n:Nat}{f:Env}{w:World}{d:Nat}{ty:TypeId}{ps:String}{af:Array Edge}{gd:Option (Nat×Bool)}{x:Operand}{t k e size b o:Nat}[R:ArrT P t k e size](hx:ev n f x=.pointer (some ⟨b,o,none⟩)):
 (execOp (ev n f) ⟨some d,.slice t x none none none,ty,ps,af,gd⟩).run P w=.ok (.value (.slice (some ⟨b,o,none⟩) k k)) w:=by
 obtain⟨i,hi,hs⟩:=R.inf;have e0:(⟨b,o,none⟩:Addr).add 0=⟨b,o,none⟩:=add0 _;simp[execOp,hx,Instr.sliceAt,Instr.sureAddr,run_underlying R.u,Instr.sliceBounds,sizeOf,typeInfo,hi,e0]
def ctV(cnt:Br->Nat)(b:Br):List Value:=brV b++[iV (cnt b:Nat)]
theorem Jjj(cnt:Br->Nat)(b:Br):(ctV cnt b).length=4:=rfl
theorem JhK(cnt:Br->Nat)(b:Br):∀v∈ctV cnt b,v.oneCell'=true:=by simp[ctV,brV,Value.oneCell']
theorem Jfd{w:World}{b t o m:Nat}{l ys:List Value}(h:Blk w b l t)(hl:∀j u,ys[j]?=some u->l[o+j]?=some u):Src w (.slice (some ⟨b,o,none⟩) m m) m ys:=by
 refine⟨some ⟨b,o,none⟩,m,rfl,SX _,fun h=>Yiw,fun ad e j u hj=>?_⟩;cases e
 rw[add_lit];exact h.cell (hl j u hj)
end Go.Rf
namespace Go.Proofs.YtggmccicdhnkgaaGreat
open Go.Proofs.Tryz
open Go.Rf Go.RowKit
attribute [local irreducible] Code.wp wpList Exit.then Exit.inBlock bodyPost A Calls execOp Addr.add
def Jk2(w0 w:World)(P:Pp)(s:St)(cs:List Value):Prop:=∃vk vc vo,cs=[iV (s.runs:Nat),vk,iV (s.ps.length:Nat),vc,vo]/\
 Own w 52 4 vk s.ks.length (s.ks.flatMap (ctV s.cnt))/\Own w 3 1 vc s.cls.length (Vk s.cls)/\Own w 3 1 vo 3 (Vk [s.o 0,s.o 1,s.o 2])/\(∀x,x∈blks vk\/x∈blks vc\/x∈blks vo->w0.heap.size<=x)
theorem JkD{p:Nat}{M R:List Nat}{P:Pp}{s:St}(w:World)(hC:Wj w p M R P s)(hn:s.cls.length<=1000000)(hk:s.ks.length<=1000000):
 Calls prog 17 #[.pointer (some ⟨p,0,none⟩)] w fun e w'=>∃cs,e=.returned (.agg cs.toArray)/\cs.length=5/\Jk2 w w' P s cs/\Fr [] w w':=by
 obtain⟨bb,pb,vr,vc,mb,mp,rfl,rfl,hnd,hb,hr,hc,hmb,hrb,hmp,hrp,hok⟩:=hC;obtain⟨aoc,cc,rfl⟩:=hc.slice;have hlp:mp.length=s.ps.length:=GI Qy hmp.nd hok.pasc (fun a=>hrp.keys);have hlb:mb.length=s.ks.length:=GI Qu hmb.nd hok.kasc (fun a=>hrb.keys.trans (hok.cnt a));refine enter func17 rfl ntmps17 rfl ?_;refine rx ?_;refine Jm (l:=[zI,zS,zI,zS,zS]) rfl (fun w1 b2 hb2 h2 hf1 hs1=>?_);have hb1:=hb.tr0 hf1;have hmp1:=hmp.tr0 hf1;refine rx ?_;refine KZ 3 [3] (fun g u=>∃b3 vc vo,g 3=.pointer (some ⟨b3,0,none⟩)/\Blk u b3 [iV (s.runs:Nat),zS,iV (s.ps.length:Nat),vc,vo] 47/\Own u 3 1 vc s.cls.length (Vk s.cls)/\Own u 3 1 vo 3 (Vk [s.o 0,s.o 1,s.o 2])/\w1.heap.size<=b3/\(∀x∈blks vc++blks vo,w1.heap.size<=x/\x≠b3)/\Fr [] w1 u) ?_ ?_
 . (refine JE (fun z=>Fr [] w1 z) Yhp rfl ?_)
   obtain⟨u,hu⟩:=exq w1.drew;rw[<-hu];have hS:Fr [] w1 u:=hu▸Fr.drew _ _;have hz:=hS.size;refine Yfy ?_;refine Kw 8 hS ?_ (hrun:=by(intro u hu;exact(JfF rfl (hmp1.tr0 hu))));refine Jj 10 11 12 13 hS ?_;refine JX 16 17 hS ?_;refine d_z 18 hS ?_;refine Kw 19 hS ?_ (hrun:=by(intro u hu;exact(JfA rfl)));refine XJ (i:=9) (j:=15) (k:=22) rfl rfl rfl Yhp ?_ ?_ ?_
   .obtain ⟨bA,hbA⟩:=exq u.heap.size;refine Qr (fun u hA hf hsA=>?_);rw[<-hbA]at hA ⊢;have hAi:In (blks (Value.slice (some ⟨bA,0,none⟩) 0 0)) bA u.heap.size:=fun x hx=>by simp[blks,Value.ownBlock]at hx;omega
    have hz:=hf.size;have hS:=hS.Jb hf;clear hf;refine Yfz ?_;refine XJ (i:=14) (j:=15) (k:=22) rfl rfl rfl Yhp ?_ ?_ ?_
    .obtain ⟨n14,hn14⟩:=exq u.heap.size;refine JC hA rfl ((hc.src.tr0 hf1).tr0 hS) rfl Ykf (WX _) Yhv Yhn (fun vc1 u hC hf hkC _=>?_);rw[CO,Di]at hC;have hS:Fr [] w1 u:=hS.trans hf (fun x hx=>.inr (by have:=hAi x hx;omega));have hCi:∀x∈blks vc1,w1.heap.size<=x/\x<u.heap.size/\(x<n14->x∈blks (Value.slice (some ⟨bA,0,none⟩) 0 0)):=fun x hx=>⟨(hkC x hx).elim Yki Yid,hC.lt x hx,fun h1=>(hkC x hx).elim id Yid⟩
     have hz:=hf.size;clear hf;refine Yfz ?_;refine Xt (i:=15) (j:=22) rfl rfl Yhp ?_ ?_
     .obtain ⟨bE,hbE⟩:=exq u.heap.size;refine Qr (fun u hE hf hsE=>?_);rw[<-hbE]at hE ⊢;have hEi:In (blks (Value.slice (some ⟨bE,0,none⟩) 0 0)) bE u.heap.size:=fun x hx=>by simp[blks,Value.ownBlock]at hx;omega
      have hC:=hC.tr0 hf;have hz:=hf.size;have hS:=hS.Jb hf;exact Ydm
     .obtain ⟨bB,hbB⟩:=exq u.heap.size;refine WM (l:=[zI,zS,zI,zS,zS]) rfl (fun u hB hf hsB=>?_);rw[<-hbB]at hB ⊢;have hC:=hC.tr0 hf;have hz:=hf.size;have hS:=hS.Jb hf;exact Yek
    .obtain ⟨bE,hbE⟩:=exq u.heap.size;refine Qr (fun u hE hf hsE=>?_);rw[<-hbE]at hE ⊢;have hEi:In (blks (Value.slice (some ⟨bE,0,none⟩) 0 0)) bE u.heap.size:=fun x hx=>by simp[blks,Value.ownBlock]at hx;omega
     have hA:=hA.tr0 hf;exact Yec
    .obtain ⟨bB,hbB⟩:=exq u.heap.size;refine WM (l:=[zI,zS,zI,zS,zS]) rfl (fun u hB hf hsB=>?_);rw[<-hbB]at hB ⊢;have hA:=hA.tr0 hf;exact Yej
   .obtain ⟨bE,hbE⟩:=exq u.heap.size;refine Qr (fun u hE hf hsE=>?_);rw[<-hbE]at hE ⊢;have hEi:In (blks (Value.slice (some ⟨bE,0,none⟩) 0 0)) bE u.heap.size:=fun x hx=>by simp[blks,Value.ownBlock]at hx;omega
    have hz:=hf.size;have hS:=hS.Jb hf;clear hf;refine Yfz ?_;refine Xt (i:=9) (j:=22) rfl rfl Yhp ?_ ?_
    .obtain ⟨bA,hbA⟩:=exq u.heap.size;refine Qr (fun u hA hf hsA=>?_);rw[<-hbA]at hA ⊢;have hAi:In (blks (Value.slice (some ⟨bA,0,none⟩) 0 0)) bA u.heap.size:=fun x hx=>by simp[blks,Value.ownBlock]at hx;omega
     have hE:=hE.tr0 hf;exact Yec
    .obtain ⟨bB,hbB⟩:=exq u.heap.size;refine WM (l:=[zI,zS,zI,zS,zS]) rfl (fun u hB hf hsB=>?_);rw[<-hbB]at hB ⊢;have hE:=hE.tr0 hf;exact Yel
   .obtain ⟨bB,hbB⟩:=exq u.heap.size;refine WM (l:=[zI,zS,zI,zS,zS]) rfl (fun u hB hf hsB=>?_);rw[<-hbB]at hB ⊢;have hz:=hf.size;have hS:=hS.Jb hf;clear hf;refine Yfz ?_;refine Xt (i:=9) (j:=15) rfl rfl Yhp ?_ ?_
    .obtain ⟨bA,hbA⟩:=exq u.heap.size;refine Qr (fun u hA hf hsA=>?_);rw[<-hbA]at hA ⊢;have hAi:In (blks (Value.slice (some ⟨bA,0,none⟩) 0 0)) bA u.heap.size:=fun x hx=>by simp[blks,Value.ownBlock]at hx;omega
     have hB:=hB.tr0 hf;exact Yej
    .obtain ⟨bE,hbE⟩:=exq u.heap.size;refine Qr (fun u hE hf hsE=>?_);rw[<-hbE]at hE ⊢;have hEi:In (blks (Value.slice (some ⟨bE,0,none⟩) 0 0)) bE u.heap.size:=fun x hx=>by simp[blks,Value.ownBlock]at hx;omega
     have hB:=hB.tr0 hf;exact Yel
 rintro g w2 ⟨b3,vc,vo,g3,hb3,hcl,hou,hb3w,hvw,hF2⟩;rw[Ja g3];clear g3;have hFw:=hf1.Jb hF2;have h2:=h2.tr0 hF2;have hbu:=hb.tr0 hFw;have hmu:=hmb.tr0 hFw;have hsw:=hFw.size;have hs12:=hF2.size;refine rx ?_;refine Jl (JbB mb bb w2 hmu Yhn) ?_;rintro vq w3 ⟨hBq,hf3⟩;rw[Uw Qu hok.kasc (fun a=>hrb.keys.trans (hok.cnt a))]at hBq;obtain⟨aoq,cq,rfl⟩:=hBq.1.slice;have hqge:=hBq.2;have hqlt:=hBq.1.lt;have hb3lt2:=hb3.lt;have hb3:=hb3.tr0 hf3;have h2:=h2.tr0 hf3;have hcl:=hcl.tr0 hf3;have hou:=hou.tr0 hf3;have hFw3:=hFw.Jb hf3;have hbu:=hbu.tr0 hf3;have hmu:=hmu.tr0 hf3;have hs23:=hf3.size;have hclt:=hcl.lt;have holt:=hou.lt;have hb3lt:=hb3.lt;have hc1:=hcl.one;have ho1:=hou.one;refine rx ?_;refine Jh 34 [5] (σ:=Nat×Value) (fun t g u=>g 34=iV (t.1:Nat)/\t.1<=s.ks.length/\Blk u b3 [iV (s.runs:Nat),t.2,iV (s.ps.length:Nat),vc,vo] 47/\Own u 52 4 t.2 t.1 ((s.ks.take t.1).flatMap (ctV s.cnt))/\(∀x∈blks t.2,x=b3\/w3.heap.size<=x)/\b3∉blks t.2/\∃T,Fr T w3 u/\∀x∈T,x=b3\/w3.heap.size<=x) (fun t=>s.ks.length-t.1) (0,zS) ⟨rfl,SL _,hb3,Own.nil _ _ _,by simp[blks,Value.ownBlock],by simp[blks,Value.ownBlock],[],Fr.refl _ _,by simp⟩ ?_;clear hb3;rintro⟨i,vk⟩ g u ⟨g34,hi,hb3,hok4,hkb,hk3,T,hFT,hT⟩;simp only at g34 hi hb3 hok4 hkb hk3;rw[Ja g34];have hsu:=hFT.size;have hk1:=hok4.one;have hklt:=hok4.lt;have hTn:∀x,x<w3.heap.size->x≠b3->x∉T:=fun x h1 h2 hm=>(hT x hm).elim h2 Yid
 have hFwu:Fr [] w u:=hFw3.trans hFT (fun x hx=>.inr (by rcases hT x hx with h|h<;>omega));have hclu:=hcl.tr hFT (fun x hx=>hTn x (hclt x hx) (hvw x (SA _ hx)).2);have houu:=hou.tr hFT (fun x hx=>hTn x (holt x hx) (hvw x (CJ _ hx)).2);by_cases hlt:i<s.ks.length
 case neg=>
  have h2:=h2.tr hFT (hTn b2 Yhn Yhn);refine rx ?_;refine Jd (cs:=[iV (s.runs:Nat),vk,iV (s.ps.length:Nat),vc,vo]) rfl rfl h2 Yis rfl rfl (fun u1 h2' hf5 hs5=>?_);refine rx ?_;rw[SQ Yhn]at hok4;obtain rfl:i=s.ks.length:=by omega
  have hne2:∀x∈blks vk,x∉[b2]:=fun x hx hm=>by rw[Sv.1 hm]at hx;rcases hkb b2 hx with h|h<;>omega
  have hne3:∀x∈blks vc++blks vo,x∉[b2]:=fun x hx hm=>by have:=(hvw x hx).1;rw[Sv.1 hm]at this;omega
  refine Qc rfl rfl h2' rfl ?_;refine⟨_,rfl,rfl,⟨vk,vc,vo,rfl,hok4.tr hf5 hne2,hclu.tr hf5 (fun x hx=>hne3 x (SA _ hx)),houu.tr hf5 (fun x hx=>hne3 x (CJ _ hx)),fun x hx=>?_⟩,hFwu.trans hf5 (fun x hx=>.inr Yhq)⟩;rcases hx with hx|hx|hx
  .rcases hkb x hx with h|h<;>omega
  .have:=(hvw x (SA _ hx)).1;omega
  .have:=(hvw x (CJ _ hx)).1;omega
 obtain⟨adq,hadq,hcq⟩:=JZ QN (hBq.1.src.tr hFT (fun ad n c e _=>by
  cases e
  have h1:=hqge ad.block Yic;have h2:=hqlt ad.block Yic;exact hTn _ h2 Yhn)) hlt Yhy
 subst hadq;have hcq:Cells u (adq.add (i*3)) [.string s.ks[i].decl,iV s.ks[i].at_,iV s.ks[i].arm]:=hcq;have hbp:p<w.heap.size:=hb.lt;have hbbl:bb<w.heap.size:=hmb.lt;have hbu:=hbu.tr hFT (hTn p Yhn Yhn);have hmu:=hmu.tr hFT (hTn bb Yhn Yhn);refine rx ?_;refine Jm (l:=[zT,zI,zI]) rfl (fun u1 b5 hb5 h5 hf5 hs5=>?_);refine rx ?_;refine Jd (cs:=brV s.ks[i]) rfl rfl h5 (QD _) rfl rfl (fun u2 h5 hf6 hs6=>?_);replace h5:Blk u2 b5 [.string s.ks[i].decl,iV s.ks[i].at_,iV s.ks[i].arm] _:=h5;have hF2:Fr [] u u2:=hf5.trans hf6 (fun x hx=>.inr Yhq);have hb3:=hb3.tr0 hF2;have hok4:=hok4.tr0 hF2;have hbu:=hbu.tr0 hF2;have hmu:=hmu.tr0 hF2;have hsu2:=hF2.size;obtain⟨aok,ck,rfl⟩:=hok4.slice;refine rx ?_;refine Kr 12 (fun z=>Fr (blks (Value.slice aok i ck)) u2 z) Yhp rfl ?_;obtain⟨u3,hu3⟩:=exq u2.drew;rw[<-hu3];have hd3:Fr [] u2 u3:=hu3▸Fr.drew _ _;have hS:Fr (blks (Value.slice aok i ck)) u2 u3:=hd3.mono Yhs;have n3:b3∉blks (Value.slice aok i ck):=hk3;have n5:b5∉blks (Value.slice aok i ck):=fun hm=>by have:=hklt b5 hm;omega
 have np:p∉blks (Value.slice aok i ck):=fun hm=>by rcases hkb p hm with h|h<;>omega
 have nbb:bb∉blks (Value.slice aok i ck):=fun hm=>by rcases hkb bb hm with h|h<;>omega
 ((refine Jp 0 hS ?_))
 refine Jp 1 hS ?_ (hrun:=(by intro u hu;exact(J7 rfl (Blk.cell (hb3.tr hu n3) rfl))));refine Jp 2 hS ?_ (hrun:=(by intro u hu;exact(Kv rfl (Cells.VO (h5.tr hu n5)) Yik)))
 ((refine Jp 3 hS ?_);(refine Jp 4 hS ?_);(refine Jp 5 hS ?_))
 refine Jp 6 hS ?_ (hrun:=(by intro u hu;exact(J7 rfl (Blk.cell (hbu.tr hu np) rfl))));refine Jp 7 hS ?_ (hrun:=(by intro u hu;exact(Kv rfl (Cells.VO (h5.tr hu n5)) Yik)));refine Jp 8 hS ?_ (hrun:=(by intro u hu;refine(JdF (P:=prog) (t:=122) (a:=s.ks[i]) ?_ ?_ (hmu.tr hu nbb) hrb);exact rfl;exact rfl));refine Jp (v:=.agg ((ctV s.cnt s.ks[i])).toArray) 9 hS ?_ (hrun:=(by(intro u hu;exact QU ((ctV s.cnt s.ks[i])) Yik)));refine Ygo ?_;refine JQ (c1:=ctV s.cnt s.ks[i]) rfl rfl rfl (fun u4 q4 hq4 ho4 hf4 hs4=>?_);have hS4:=hS.Jb hf4;refine wpList_nil (Xz hS4 ?_);refine Ygq ?_;refine JC ((hok4.tr0 hd3).tr0 hf4) rfl ho4.src rfl rfl (JhK _ _) Yhv Yhn (fun v5 u5 ho5 hf7 hk7 _=>?_);have hS5:=hS4.trans hf7 (fun x hx=>.inl hx);have hv51:=ho5.one;have hs3:=hd3.size;have hs5:=hf7.size;refine wpList_nil (Xz hS5 ?_);refine KH (i:=12) rfl Yhp ?_;refine Ku rfl ?_;rw[add_lit];refine Ygp ?_;refine KH (i:=13) rfl Yhp ?_
 ((with_reducible apply Ji);exact rfl;(conv=>lhs;whnf);exact hv51;exact(hb3.tr hS5 n3);exact rfl)
 intro u6 hb6 hf8 hs8;replace hb6:Blk u6 b3 [iV (s.runs:Nat),v5,iV (s.ps.length:Nat),vc,vo] _:=hb6;refine Yet ?_;have hk7':∀x∈blks v5,(x=b3\/w3.heap.size<=x)/\x≠b3:=fun x hx=>by
  rcases hk7 x hx with h|h
  .exact ⟨hkb x h,fun e=>hk3 (e▸h)⟩
  .exact ⟨.inr Yhn,by omega⟩
 refine Jc (i+1,v5) Yhl ⟨rfl,hlt,hb6,?_,fun x hx=>(hk7' x hx).1,fun hm=>(hk7' b3 hm).2 rfl,T++blks (Value.slice aok i ck)++[b3],?_,?_⟩ Yhw
 .simp only;rw[KP hlt];exact ho5.tr hf8 (fun x hx hm=>(hk7' x hx).2 (Sv.1 hm))
 .have h1:Fr (T++blks (Value.slice aok i ck)++[b3]) w3 u:=hFT.mono (fun x hx=>.inl Yix);have h2:=(h1.Jb hF2).trans hS5 (fun x hx=>.inl Yix);exact h2.trans hf8 (fun x hx=>.inl (by simp[Sv.1 hx]))
 .intro x hx;simp only[SE,Sv]at hx;rcases hx with(hx|hx)|hx
  .exact hT x hx
  .exact hkb x hx
  .exact .inl hx
end Go.Proofs.YtggmccicdhnkgaaGreat
namespace Go.Rf
open Go.RowKit
variable{af:Array Edge}{f:Env}{l:List Br}{S:List Nat}{d n tb:Nat}{x:Operand}{P:Program}{ps:String}{u w:World}
theorem JaO{ty:TypeId}{gd:Option (Nat×Bool)}{o:Operand}{t:Nat}{ao:Option Addr}{l c e size by_ j:Nat}{kk:IntKind}[R:RowT P t e size by_](hx:ev n f x=.slice ao l c)(ho:ev n f o=.int kk (j:Int))(hj:j<=l)(hl:l<=c):
 (execOp (ev n f) ⟨some d,.slice t x (some o) none none,ty,ps,af,gd⟩).run P w=.ok (.value (.slice (if c=j then ao else ao.map (·.add (j*size))) (l-j) (c-j))) w:=by
 exact Ycd
theorem JbP{ty:TypeId}{gd:Option (Nat×Bool)}{v:Value}(hx:ev n f x=v):(execOp (ev n f) ⟨some d,.assign x,ty,ps,af,gd⟩).run P w=.ok (.value v) w:=by simp[execOp,hx]
theorem L8{ds:List De}(hz:∀d∈ds,SzD d):∀(f:Nat) (s:List ByteArray×List De),(∀d∈s.2,d∈ds)->(KD ds f s).length<=f*11000
 |0,_,_=>by simp[KD]
 |f+1,(seen,[]),_=>by simp[KD]
 |f+1,(seen,d::q),h=>by
  have h1:=L8 hz f ((Js (Jw d)).foldl (Xy ds) (seen,q)) (WO (fun x hx=>h x (by simp at hx ⊢;exact .inr hx)));have h2:=(hz d (h d Yhs)).brs;rw[KD,Sm];omega
theorem Jex{ds:List De}{nm:ByteArray}(hz:∀d∈ds,SzD d):(JM ltB (KX ds nm)).length<=(ds.length+2)*11000:=by
 have h:=KQ (lt:=ltB) (l:=KX ds nm);refine CG h ?_;unfold KX;cases hr:QF ds nm with
 |none=>simp
 |some d=>exact L8 hz _ _ (fun x hx=>by rw[Sv.1 hx];exact Ei hr)
theorem ZO{v:Value}(h:Own u tb 3 v l.length (l.flatMap brV))(hl:l.length<=1000000000000)(hS:∀x∈blks v,x∉S):DR u S (.l (l.map brC)) v:=by
 refine DR.ofTyped (k:=3) (fun _=>rfl) hl ⟨l.flatMap brV,h.src,fun ad n c e _ hm=>?_,?_⟩
 .subst e;exact hS ad.block Yic hm
 .clear h hl;exact Ycr
theorem Jfc{v:Value}(h:Src u v l.length (l.flatMap brV))(hl:l.length<=1000000000000)(hS:∀x∈blks v,x∉S):DR u S (.l (l.map brC)) v:=by
 refine DR.ofTyped (k:=3) (fun _=>rfl) hl ⟨l.flatMap brV,h,fun ad n c e _ hm=>?_,?_⟩
 .subst e;exact hS ad.block Yic hm
 .clear h hl;exact Ycr
theorem Jgd{l:List Int}{v:Value}(h:Own u tb 1 v l.length (l.map (Value.int .i64)))(hl:l.length<=1000000000000)(hS:∀x∈blks v,x∉S):DR u S (.l (l.map KI)) v:=by
 refine DR.ofTyped (k:=1) (fun _=>rfl) hl ⟨l.map (Value.int .i64),h.src,fun ad n c e _ hm=>?_,?_⟩
 .subst e;exact hS ad.block Yic hm
 .clear h hl
  induction l with
  |nil=>exact .nil
  |cons a l ih=>exact Rws.cons (cs:=[.int .i64 a]) (RD.c1 rfl .nil) ih
def eB(n:Int):Ex:=⟨1,bst [],n,[],[],[],0⟩
def eI:Ex:=⟨6,bst [],0,[],[],[eB 1,eB 1,eB 0],0⟩
def dP:De:=⟨3,bst [112],0,[],[],⟨0,bst [],[]⟩,⟨0,bst [],0,[],[],[],0⟩,0,⟨0,bst [],[],[],[],0⟩,[],[⟨bst [99],eI⟩],[],[],⟨0,bst [],[]⟩,⟨0,bst [],0,[],[],[],0⟩,[],[],⟨0,bst [],0,[],[],[],0⟩⟩
def bP(i:Int):Br:=⟨bst [112],0,i⟩
theorem Jfw:JM ltB (KX [dP] (bst [112]))=[bP 0,bP 1]:=by
 have h1:QF [dP] (bst [112])=some dP:=by unfold QF;simp[dP]
 have h2:KX [dP] (bst [112])=[bP 0,bP 1]:=by
  unfold KX;rw[h1];rfl
 rw[h2];refine BP Qu ?_ (fun y=>Iff.rfl);have:ltB (bP 0) (bP 1)=true:=by
  unfold ltB Qe;simp[bP,XK,LP,VY]
 simpa[Asc]using this
theorem szP:∀d∈[dP],SzD d:=fun d hd=>by
 rw[Sv.1 hd];refine⟨by decide,by decide,by decide,by decide,by decide⟩
end Go.Rf
namespace Go.Proofs.YtggmccicdhnkgaaGreat
open Go.Proofs.Tryz
open Go.Rf Go.RowKit
attribute [local irreducible] Code.wp wpList Exit.then Exit.inBlock bodyPost A Calls execOp Addr.add
theorem Jj6(k a c:Int){aob aol:Option Addr}{nb cb nl cl:Nat}(vb vl:Value)(w:World)(hvb:vb=.slice aob nb cb)(hvl:vl=.slice aol nl cl):
 Calls prog 13 #[.agg ([iV k,iV a,iV c,vb,vl]:List Value).toArray] w fun e w'=>e=.returned (.agg ([iV k,iV a,iV c,vb,vl,zI]:List Value).toArray)/\Fr [] w w':=by
 subst hvb hvl;refine enter func13 rfl ntmps13 rfl ?_;refine rx ?_;refine Gg (l:=[iV k,iV a,iV c,.slice aob nb cb,.slice aol nl cl]) rfl rfl (fun w1 h1 hf1 hs1=>?_);refine rx ?_;refine Jm (l:=[zI,zI,zI,zS,zS,zI]) rfl (fun w2 b2 hb2 h2 hf2 hs2=>?_);have h1:=h1.tr0 hf2;refine rx ?_;refine JF [iV k,iV a,iV c,.slice aob nb cb,.slice aol nl cl,zI] rfl ?_;refine rx ?_;refine Jd (cs:=[iV k,iV a,iV c,.slice aob nb cb,.slice aol nl cl,zI]) rfl rfl h2 Yhu rfl rfl (fun w3 h3 hf3 hs3=>?_);refine rx ?_;refine Qc rfl rfl h3 rfl ⟨rfl,(hf1.Jb hf2).trans hf3 (fun x hx=>.inr Yhq)⟩
theorem Jjb(w:World):Calls prog 20 #[] w fun e w'=>e=.returned (.bool true)/\Fr [] w w':=by
 refine enter func20 rfl ntmps20 rfl ?_;refine rx ?_;refine JF [iV 1,zT,iV 1,zS,zS,zS,zI] rfl ?_;refine rx ?_;refine JF [iV 1,zT,iV 1,zS,zS,zS,zI] rfl ?_;refine rx ?_;refine JF [iV 1,zT,zI,zS,zS,zS,zI] rfl ?_;refine rx ?_;refine MP (c1:=[iV 1,zT,iV 1,zS,zS,zS,zI]) (c2:=[iV 1,zT,iV 1,zS,zS,zS,zI]) (c3:=[iV 1,zT,zI,zS,zS,zS,zI]) rfl rfl rfl rfl rfl rfl rfl (fun w1 q1 hq1 ho1 hf1 hs1=>?_);refine rx ?_;refine JF [iV 6,zT,zI,zS,zS,.slice (some ⟨q1,0,none⟩) 3 3,zI] rfl ?_;have hE:∀{u:World},Fr [] w1 u->RD u [] (exC eI) [iV 6,zT,zI,zS,zS,.slice (some ⟨q1,0,none⟩) 3 3,zI]:=fun{u} hf=>by
  refine exR.2 ⟨_,_,_,rfl,DR.nil,DR.nil,?_⟩;refine DR.ofTyped (k:=7) (fun _=>Jq _) Yhy ⟨_,(ho1.tr0 hf).src,fun ad n c e _ hm=>by simp at hm,?_⟩;have hB:∀n,RD u [] (exC (eB n)) [iV 1,zT,iV n,zS,zS,zS,zI]:=fun n=>exR.2 ⟨_,_,_,rfl,DR.nil,DR.nil,DR.nil⟩
  exact Rws.cons (cs:=[_,_,_,_,_,_,_]) (hB 1) (Rws.cons (cs:=[_,_,_,_,_,_,_]) (hB 1) (Rws.cons (cs:=[_,_,_,_,_,_,_]) (ys:=[]) (hB 0) .nil))
 refine rx ?_;refine Jm (l:=[zI,zT,zI,zS,zS,zS,zI]) rfl (fun w2 b2 hb2 h2 hf2 hs2=>?_);refine rx ?_;refine Jd (cs:=[iV 6,zT,zI,zS,zS,.slice (some ⟨q1,0,none⟩) 3 3,zI]) rfl rfl h2 Yhu rfl rfl (fun w3 h3 hf3 hs3=>?_);have hF3:Fr [] w1 w3:=hf2.trans hf3 (fun x hx=>.inr Yhq);refine rx ?_;refine JF [.string (bst [99]),iV 6,zT,zI,zS,zS,.slice (some ⟨q1,0,none⟩) 3 3,zI] rfl ?_;refine rx ?_;refine JQ (c1:=[.string (bst [99]),iV 6,zT,zI,zS,zS,.slice (some ⟨q1,0,none⟩) 3 3,zI]) rfl rfl rfl (fun w4 q4 hq4 ho4 hf4 hs4=>?_);refine rx ?_;refine JF [iV 3,.string (bst [112]),zI,zS,zS,zI,zT,zS,zI,zT,zI,zS,zS,zS,zI,zI,zI,zT,zS,zS,zS,zI,zS,.slice (some ⟨q4,0,none⟩) 1 1,zS,zS,zI,zT,zS,zI,zT,zI,zS,zS,zS,zI,zS,zS,zI,zT,zI,zS,zS,zS,zI] rfl ?_;refine rx ?_;refine JQ (c1:=[iV 3,.string (bst [112]),zI,zS,zS,zI,zT,zS,zI,zT,zI,zS,zS,zS,zI,zI,zI,zT,zS,zS,zS,zI,zS,.slice (some ⟨q4,0,none⟩) 1 1,zS,zS,zI,zT,zS,zI,zT,zI,zS,zS,zS,zI,zS,zS,zI,zT,zI,zS,zS,zS,zI]) rfl rfl rfl (fun w5 q5 hq5 ho5 hf5 hs5=>?_);have hD:∀{u:World},Fr [] w5 u->DR u [] (.l ([dP].map deC)) (.slice (some ⟨q5,0,none⟩) 1 1):=fun{u} hf=>by
  refine DR.ofTyped (k:=45) (fun _=>KL _) Yhy ⟨_,(ho5.tr0 hf).src,fun ad n c e _ hm=>by simp at hm,?_⟩;refine Rws.cons (cs:=[iV 3,.string (bst [112]),zI,zS,zS,zI,zT,zS,zI,zT,zI,zS,zS,zS,zI,zI,zI,zT,zS,zS,zS,zI,zS,.slice (some ⟨q4,0,none⟩) 1 1,zS,zS,zI,zT,zS,zI,zT,zI,zS,zS,zS,zI,zS,zS,zI,zT,zI,zS,zS,zS,zI]) (ys:=[]) ?_ .nil;have hck:DR u [] (.l (dP.checks.map ckC)) (.slice (some ⟨q4,0,none⟩) 1 1):=by
   refine DR.ofTyped (k:=8) (fun _=>QM _) Yhy ⟨_,((ho4.tr0 hf5).tr0 hf).src,fun ad n c e _ hm=>by simp at hm,?_⟩;exact Rws.cons (cs:=[_,_,_,_,_,_,_,_]) (ys:=[]) (RD.c1 rfl (hE (((hF3.Jb hf4).Jb hf5).Jb hf))) .nil
  have hz:=fun{ds':List Dt} {vs:List Value} (x:Value) (hx:x.oneCell'=true) (h:RD u [] ds' vs)=>RD.c1 hx h
  have hn:=fun{ds':List Dt} {vs:List Value} (h:RD u [] ds' vs)=>RD.cons (DR.nil (w:=u) (S:=[])) h
  exact(hz (iV 3) rfl (hz (.string (bst [112])) rfl (hz (zI) rfl (hn (hn (hz (zI) rfl (hz (zT) rfl (hn (hz (zI) rfl (hz (zT) rfl (hz (zI) rfl (hn (hn (hn (hz (zI) rfl (hz (zI) rfl (hz (zI) rfl (hz (zT) rfl (hn (hn (hn (hz (zI) rfl (hn (RD.cons hck (hn (hn (hz (zI) rfl (hz (zT) rfl (hn (hz (zI) rfl (hz (zT) rfl (hz (zI) rfl (hn (hn (hn (hz (zI) rfl (hn (hn (hz (zI) rfl (hz (zT) rfl (hz (zI) rfl (hn (hn (hn (hz (zI) rfl .nil)))))))))))))))))))))))))))))))))))))))))))))
 refine rx ?_;refine JF [.slice (some ⟨q5,0,none⟩) 1 1] rfl ?_;refine rx ?_;refine Jm (l:=[zS]) rfl (fun w6 b6 hb6 h6 hf6 hs6=>?_);refine rx ?_;refine Jd (cs:=[.slice (some ⟨q5,0,none⟩) 1 1]) rfl rfl h6 Yhu rfl rfl (fun w7 h7 hf7 hs7=>?_);have hF7:Fr [] w5 w7:=hf6.trans hf7 (fun x hx=>.inr Yhq);have hW7:Fr [] w w7:=(((hf1.Jb hF3).Jb hf4).Jb hf5).Jb hF7;refine rx ?_;refine Jl (Jfx [dP] (bst [112]) (.slice (some ⟨q5,0,none⟩) 1 1) w7 [] szP Yhy (hD hF7)) ?_;rintro va w8 ⟨hA,hf8⟩;have h7:=h7.tr0 hf8;rw[Jfw]at hA;refine rx ?_;refine s_call (newC [dP] (bst [112]) (.slice (some ⟨q5,0,none⟩) 1 1) w8 [] szP Yhy (hD (hF7.Jb hf8))) rfl ?_;rintro _ w9 ⟨hf9,hn⟩;have hfd:fdD [dP] 3 (bst [112])=some dP:=by unfold fdD;simp[dP]
 rw[hfd,Jfw]at hn;obtain⟨p,M,R,rfl,hC,hMR⟩:=hn;refine⟨_,rfl,?_⟩;have hAlt:=hA.1.lt;have hA:=hA.tr0 hf9;obtain⟨aoa,ca,eva⟩:=hA.1.slice;replace eva:va=.slice aoa 2 ca:=eva;subst eva;replace hA:BO w7 50 w9 [bP 0,bP 1] (.slice aoa 2 ca):=hA;have hMa:∀x∈blks (.slice aoa 2 ca),x∉M:=fun x hx hm=>by
  have h1:=hMR x (by simp[hm]);have h2:=hAlt x hx;omega
 have hMa0:∀x∈blks (.slice aoa 2 ca),x∉([]:List Nat):=by simp
 have hsrc:Src w9 (.slice aoa 2 ca) 2 ([bP 0,bP 1].flatMap brV):=hA.1.src;obtain⟨hca⟩:Nonempty (2<=ca):=by obtain⟨_,_,e,h,_⟩:=hsrc;simp only[Value.slice.injEq]at e;obtain⟨_,_,rfl⟩:=e;exact⟨h⟩
 replace hC:Wj w9 p M R ⟨bst [112],1,0,[bP 0,bP 1]⟩ (J6 0 []):=hC;refine rx ?_;refine JR (Jam (l:=2) (c:=ca) (k:=1) (kk:=.i64) rfl rfl Yhn) ?_;refine rx ?_;refine JF [zI,zI,zI,.slice aoa 1 ca,zS,zI] rfl ?_;have dr0:∀{u:World} {S:List Nat},Src u (.slice aoa 2 ca) 2 ([bP 0,bP 1].flatMap brV)->(∀x∈blks (.slice aoa 2 ca),x∉S)->DR u S (.l ([bP 0].map brC)) (.slice aoa 1 ca):=fun{u S} h hS=>Jfc (l:=[bP 0]) (Src.to (k:=1) (size:=3) h Yhy) Yhy (fun x hx=>hS x (by cases aoa<;>simpa[blks,Value.ownBlock]using hx))
 have dr1:∀{u:World} {S:List Nat},Src u (.slice aoa 2 ca) 2 ([bP 0,bP 1].flatMap brV)->DR u [] (.l ([bP 1].map brC)) (.slice (if ca=1 then aoa else aoa.map (·.add (1*3))) 1 (ca-1)):=fun{u S} h=>Jfc (l:=[bP 1]) (Src.cut (j:=1) (k:=2) (size:=3) h rfl Yhy Yhy) Yhy Yhs
 refine rx ?_;refine s_call (Jkr ⟨0,0,0,[bP 0],[]⟩ (.slice aoa 1 ca) (zS) w9 (S:=M) hC (fun x hx=>hx) (dr0 hsrc hMa) DR.nil Yhy Yhy) rfl ?_;intro _ w10 hadd;rw[Cb (show Qd ⟨bst [112],1,0,[bP 0,bP 1]⟩ ⟨0,0,0,[bP 0],[]⟩=true from rfl)]at hadd;obtain⟨rfl,hC,hf10⟩:=hadd;refine⟨_,rfl,?_⟩;have hFn:Fr [] w w10:=((hW7.Jb hf8).Jb hf9).trans hf10 (fun x hx=>.inr (by have:=hMR x Yix;have h1:=hW7.size;have h2:=hf8.size;omega));have hne:bP 1≠bP 0:=by simp[bP]
 obtain⟨s1,hs1e⟩:=exq (Qb (J6 0 []) ⟨0,0,0,[bP 0],[]⟩);rw[<-hs1e]at hC;have hc0:s1.cnt (bP 0)=1:=by rw[hs1e];simp[Qb,J6,b2n]
 have hc1:s1.cnt (bP 1)=0:=by rw[hs1e];simp[Qb,J6,b2n,hne]
 replace hsrc:=hsrc.tr hf10 (fun ad n c e _=>hMa ad.block (by cases e;simp[blks,Value.ownBlock]));refine rx ?_;refine Jl (Jig w10 hC Yhy) ?_;rintro vm w11 ⟨hB,hf11⟩;have hms:Ur ⟨bst [112],1,0,[bP 0,bP 1]⟩ s1=[bP 1]:=by unfold Ur;simp[hc0,hc1]
 rw[hms]at hB;have hC:=hC.tr0 hf11;have hsrc:=hsrc.tr0 hf11;obtain⟨aom,cm,eva⟩:=hB.1.slice;replace eva:vm=.slice aom 1 cm:=eva;subst eva;replace hB:BO w10 50 w11 [bP 1] (.slice aom 1 cm):=hB;obtain⟨adm,hadm,hcm⟩:=JZ QN (l:=[bP 1]) (m:=1) (i:=0) hB.1.src Yhy Yhy;obtain⟨ada,hada,hca1⟩:=JZ QN (l:=[bP 0,bP 1]) (i:=1) hsrc Yhy Yhy;subst hadm hada;have hcm:Cells w11 (adm.add (0*3)) [.string (bst [112]),zI,iV 1]:=hcm;have hca1:Cells w11 (ada.add (1*3)) [.string (bst [112]),zI,iV 1]:=hca1;refine rx ?_;refine JE (fun z=>Fr [] w11 z) Yhp rfl ?_;obtain⟨w12,hw12⟩:=exq w11.drew;rw[<-hw12];have hS:Fr [] w11 w12:=hw12▸Fr.drew _ _;refine Jj 0 1 2 3 hS ?_;refine d_z 4 hS ?_;refine Kz 5 hS ?_ (hrun:=by(intro u hu;exact(Qs (j:=0) rfl rfl rfl Yhn rfl)));refine JX 6 7 hS ?_;refine Kz 8 hS ?_ (hrun:=by(intro u hu;exact(Qs (j:=1) rfl rfl rfl Yhn rfl)));refine d_z 9 hS ?_;refine Kz 10 hS ?_ (hrun:=by(intro u hu;exact(Zc (a:=bP 1) (b:=bP 1) rfl rfl (SN rfl))));refine Jj 11 12 13 14 hS ?_;refine Kz 15 hS ?_ (hrun:=by(intro u hu;exact(Jam (k:=1) (kk:=.i64) rfl rfl Yhn)));refine Kz 16 hS ?_ (v:=.agg (([zI,zI,zI,.slice (some ada) 1 ca,zS,zI])).toArray) (hrun:=by(intro u hu;exact QU (([zI,zI,zI,.slice (some ada) 1 ca,zS,zI])) Yik));refine JJ (i:=17) rfl Yhp ?_;refine rx ?_;refine Jg (Jdd ⟨0,0,0,[bP 0],[]⟩ (.slice (some ada) 1 ca) (zS) w12 (S:=[]) (hC.tr0 hS) (dr0 (hsrc.tr0 hS) Yhs) DR.nil) ?_;rintro w13 hf13;have hS:=hS.Jb hf13;refine Yfz ?_;have hr0:(Qd ⟨bst [112],1,0,[bP 0,bP 1]⟩ ⟨0,0,0,[bP 0],[]⟩&&VB s1 ⟨0,0,0,[bP 0],[]⟩)=false:=by
  have:VB s1 ⟨0,0,0,[bP 0],[]⟩=false:=by unfold VB;simp[hc0,Jy]
  rw[this,Bool.and_false]
 have hr1:(Qd ⟨bst [112],1,0,[bP 0,bP 1]⟩ ⟨0,0,0,[bP 1],[]⟩&&VB s1 ⟨0,0,0,[bP 1],[]⟩)=true:=by
  have:VB s1 ⟨0,0,0,[bP 1],[]⟩=true:=by unfold VB;simp[hc1]
  rw[this,FY];rfl
 rw[hr0];refine Jj 18 19 20 21 hS ?_;refine d_z 22 hS ?_;refine Kz 23 hS ?_ (hrun:=by(intro u hu;exact(JaO (j:=1) (kk:=.i64) rfl rfl Yhn Yhn)));refine Kz 24 hS ?_ (v:=.agg (([zI,zI,zI,.slice (if ca=1 then some ada else(some ada).map (·.add (1*3))) 1 (ca-1),zS,zI])).toArray) (hrun:=by(intro u hu;exact QU (([zI,zI,zI,.slice (if ca=1 then some ada else(some ada).map (·.add (1*3))) 1 (ca-1),zS,zI])) Yik));refine JJ (i:=25) rfl Yhp ?_;refine rx ?_;refine Jg (Jdd ⟨0,0,0,[bP 1],[]⟩ (.slice (if ca=1 then some ada else(some ada).map (·.add (1*3))) 1 (ca-1)) (zS) w13 (S:=[]) (hC.tr0 hS) (dr1 (S:=[]) (hsrc.tr0 hS)) DR.nil) ?_;rintro w14 hf14;have hS:=hS.Jb hf14;refine Yfz ?_;rw[hr1];refine d_z 26 hS ?_;refine Kw 27 hS ?_ (hrun:=by(intro u hu;exact(JbP rfl)));refine Yfx ?_;refine Yeo ?_;exact⟨rfl,(hFn.Jb hf11).Jb hS⟩
end Go.Proofs.YtggmccicdhnkgaaGreat
namespace Go.Rf
open Go.RowKit
variable{i:Nat}{α:Type}
theorem rnR{w:World}{S:List Nat}{r:Rn}{cs:List Value}(h:RD w S (rnC r) cs):∃vb vl,cs=[iV r.kind,iV r.at_,iV r.code,vb,vl]/\DR w S (.l (r.bs.map brC)) vb/\DR w S (.l (r.cl.map KI)) vl:=by
 obtain⟨c1,e1,k1⟩:=RD.JI (x:=iV r.kind) h;obtain⟨c2,e2,k2⟩:=RD.JI k1;obtain⟨c3,e3,k3⟩:=RD.JI k2;obtain⟨vb,c4,e4,h1,k4⟩:=RD.inv k3;obtain⟨vl,c5,e5,h2,k5⟩:=RD.inv k4;have e6:=RD.inv0 k5;subst e6 e5 e4 e3 e2 e1;exact⟨vb,vl,rfl,h1,h2⟩
theorem Zw{p:α->Bool}{l:List α}(h:i<l.length):(l.take (i+1)).countP p=(l.take i).countP p+b2n (p l[i]):=by
 rw[SK h,Xu]
theorem Xh{p:α->Bool}{l:List α}:(l.take i).countP p<=l.length:=CG Hf (by rw[C9];exact Nat.min_le_right _ _)
end Go.Rf
namespace Go.Proofs.YtggmccicdhnkgaaGreat
open Go.Proofs.Tryz
open Go.Rf Go.RowKit
variable{i q:Nat}{P:Pp}
attribute [local irreducible] Code.wp wpList Exit.then Exit.inBlock bodyPost A Calls execOp Addr.add
theorem JdE{rs:List Rn}(k:Int)(w:World)(hQ:RcV w q P rs)(hn:rs.length<=1000000):
 Calls prog 61 #[.pointer (some ⟨q,0,none⟩),iV k] w fun e w'=>e=.returned (iV (rs.countP (fun r=>decide (r.kind=k)):Nat))/\Fr [] w w':=by
 obtain⟨vr,vs,hb,hrr,hss⟩:=hQ;have h1r:=hrr.one;have h1s:=hss.one;obtain⟨aos,cs,rfl,_⟩:=hss.slice;have hlm:(rs.map rnC).length=rs.length:=Sr ..;rw[hlm]at hb hss h1s;refine enter func61 rfl ntmps61 rfl ?_;refine rx ?_;refine Jh 7 [5,6] (σ:=Nat) (fun i g u=>g 6=iV (i:Nat)/\g 5=iV ((rs.take i).countP (fun r=>decide (r.kind=k)):Nat)/\i<=rs.length/\Fr [] w u) (fun i=>rs.length-i) 0 ⟨rfl,rfl,SL _,Fr.refl _ _⟩ ?_;rintro i g u ⟨g6,g5,hi,hF⟩;rw[Ja g6,Ja g5];have hb:=hb.tr0 hF;have hcl:=Xh (p:=fun(r:Rn)=>decide (r.kind=k)) (l:=rs) (i:=i);by_cases hlt:i<rs.length
 case neg=>
  rw[show rs.take i=rs from SQ Yhn]at hcl ⊢;refine Yeo ?_;exact⟨rfl,hF⟩
 obtain⟨ad,cs',had,hr,hc⟩:=DR.at Gi (hss.tr0 hF) hlt;subst had;obtain⟨vb,vl,rfl,hvb,hvl⟩:=rnR hr;have hct:=Zw (p:=fun(r:Rn)=>decide (r.kind=k)) hlt;refine rx ?_;refine KW rfl (by rw[add0];exact hc 0 _ rfl) ?_;by_cases he:rs[i].kind=k
 .refine rx ?_;exact Yla
 .refine rx ?_;exact Ykz
theorem Jjd(l:List Int)(k:Int)(v:Value)(w:World)(h:Src w v l.length (l.map (.int .i64)))(hl:l.length<=1000000000):
 Calls prog 102 #[v,iV k] w fun e w'=>e=.returned (.bool (decide (k∈l)))/\w'=w:=by
 obtain⟨ao,c,rfl,_⟩:=id h;refine enter func102 rfl ntmps102 rfl ?_;refine rx ?_;refine Jh 6 [5] (σ:=Nat) (fun i g u=>g 5=iV (i:Nat)/\i<=l.length/\k∉l.take i/\u=w) (fun i=>l.length-i) 0 ⟨rfl,SL _,by simp,rfl⟩ ?_;rintro i g u ⟨g5,hi,hnm,rfl⟩;rw[Ja g5];by_cases hlt:i<l.length
 case neg=>
  rw[SQ Yhn]at hnm;refine Yeo ?_;exact⟨by rw[SG hnm],rfl⟩
 obtain⟨ad,hade,hc⟩:=KO h (WS hlt);subst hade;refine rx ?_;refine KW rfl (by rw[Dq];exact hc) ?_;by_cases he:l[i]=k
 .refine rx ?_;refine Yfw ?_;exact⟨by rw[SN (he▸Cj hlt)],rfl⟩
 .refine rx ?_;refine Jc (i+1) Yhl ⟨rfl,hlt,?_,rfl⟩ Yhn;exact Ylf
theorem G9{rs:List Rn}(k:Int)(w:World)(hQ:RcV w q P rs)(hn:rs.length<=1000000)(hc:∀r∈rs,r.cl.length<=1000000):
 Calls prog 56 #[.pointer (some ⟨q,0,none⟩),iV k] w fun e w'=>e=.returned (iV (rs.countP (fun r=>decide (k∈r.cl)):Nat))/\Fr [] w w':=by
 obtain⟨vr,vs,hb,hrr,hss⟩:=hQ;have h1r:=hrr.one;have h1s:=hss.one;obtain⟨aos,cs,rfl,_⟩:=hss.slice;have hlm:(rs.map rnC).length=rs.length:=Sr ..;rw[hlm]at hb hss h1s;refine enter func56 rfl ntmps56 rfl ?_;refine rx ?_;refine Jh 7 [5,6] (σ:=Nat) (fun i g u=>g 6=iV (i:Nat)/\g 5=iV ((rs.take i).countP (fun r=>decide (k∈r.cl)):Nat)/\i<=rs.length/\Fr [] w u) (fun i=>rs.length-i) 0 ⟨rfl,rfl,SL _,Fr.refl _ _⟩ ?_;rintro i g u ⟨g6,g5,hi,hF⟩;rw[Ja g6,Ja g5];have hb:=hb.tr0 hF;have hcl:=Xh (p:=fun(r:Rn)=>decide (k∈r.cl)) (l:=rs) (i:=i);by_cases hlt:i<rs.length
 case neg=>
  rw[show rs.take i=rs from SQ Yhn]at hcl ⊢;refine Yeo ?_;exact⟨rfl,hF⟩
 obtain⟨ad,cs',had,hr,hce⟩:=DR.at Gi (hss.tr0 hF) hlt;subst had;obtain⟨vb,vl,rfl,hvb,hvl⟩:=rnR hr;have hct:=Zw (p:=fun(r:Rn)=>decide (k∈r.cl)) hlt;have hcn:=hc _ (Cj hlt);refine rx ?_;refine Jg (Jjd rs[i].cl k vl u (VP hvl) Yhn) ?_;rintro u2 rfl;by_cases he:k∈rs[i].cl
 .rw [SN he];refine rx ?_;exact Yla
 .rw [SG he];refine rx ?_;exact Ykz
theorem JhZ{rs:List Rn}(hn:rs.length<=1000)(hc:∀r∈rs,r.bs.length<=1000):((rs.take i).flatMap (·.bs)).length<=1000000:=by
 have key:∀(l:List Rn),(∀r∈l,r.bs.length<=1000)->(l.flatMap (·.bs)).length<=1000*l.length:=by
  intro l
  induction l with
  |nil=>intro _;simp
  |cons r l ih=>
   intro h;have h1:=ih (fun x hx=>h x Yix);have h2:=h r Yhs;simp only[CP,Sm,SI];omega
 exact Yld
theorem WQ{rs:List Rn}(w:World)(hQ:RcV w q P rs)(hn:rs.length<=1000)(hc:∀r∈rs,r.bs.length<=1000):
 Calls prog 55 #[.pointer (some ⟨q,0,none⟩)] w fun e w'=>∃v,e=.returned v/\BO w 50 w' (JM ltB (rs.flatMap (·.bs))) v/\Fr [] w w':=by
 obtain⟨vr,vs,hb,hrr,hss⟩:=hQ;have h1r:=hrr.one;have h1s:=hss.one;obtain⟨aos,cs,rfl,_⟩:=hss.slice;have hlm:(rs.map rnC).length=rs.length:=Sr ..;rw[hlm]at hb hss h1s;refine enter func55 rfl ntmps55 rfl ?_;refine rx ?_;refine Jh 5 [3,4] (σ:=Nat×Value) (fun t g u=>g 4=iV (t.1:Nat)/\g 3=t.2/\t.1<=rs.length/\BO w 50 u ((rs.take t.1).flatMap (·.bs)) t.2/\Fr [] w u) (fun t=>rs.length-t.1) (0,zS) ⟨rfl,rfl,SL _,BO.nil,Fr.refl _ _⟩ ?_;rintro⟨i,va⟩ g u ⟨g4,g3,hi,hA,hF⟩;simp only at g4 g3 hi hA;rw[Ja g4,Ja g3];have hb:=hb.tr0 hF;have hA1:=hA.1.one;have hlen:=JhZ hn hc (i:=i);by_cases hlt:i<rs.length
 case neg=>
  rw[show rs.take i=rs from SQ Yhn]at hA hlen;obtain⟨aov,cv,rfl⟩:=hA.1.slice;refine rx ?_;refine Jl (JaN _ _ u (S:=[]) (ZO hA.1 Yhn Yhs) Yhn) ?_;rintro v2 u2 ⟨hB,hf2⟩;refine Yeo ?_;exact⟨v2,rfl,⟨hB.1,fun x hx=>by have:=hB.2 x hx;have:=hF.size;omega⟩,hF.Jb hf2⟩
 obtain⟨ad,cs',had,hr,hce⟩:=DR.at Gi (hss.tr0 hF) hlt;subst had;obtain⟨vb,vl,rfl,hvb,hvl⟩:=rnR hr;have hcn:=hc _ (Cj hlt);have hvs:=DR.brs hvb;obtain⟨aob,cb,rfl,_⟩:=id hvs;obtain⟨aov,cv,rfl⟩:=hA.1.slice;refine rx ?_;refine JC hA.1 rfl hvs rfl (XL _) (fun x hx=>by obtain⟨b,_,hb⟩:=DY.1 hx;exact QD b x hb) Yhv Yhn (fun v5 u5 ho5 hf7 hk7 _=>?_);refine rx ?_;have hsu:=hF.size;refine Jc (i+1,v5) Yhl ⟨rfl,rfl,hlt,⟨?_,fun x hx=>?_⟩,hF.trans hf7 (fun x hx=>.inr (hA.2 x hx))⟩ Yhw
 .simp only;rw[SK hlt,List.flatMap_append,List.flatMap_append,Sm];simpa using ho5
 .rcases hk7 x hx with h|h
  .exact hA.2 x h
  .omega
theorem Jai{rs:List Rn}(b:Br)(w:World)(hQ:RcV w q P rs)(hn:rs.length<=1000000):
 Calls prog 60 #[.pointer (some ⟨q,0,none⟩),.agg (brV b).toArray] w fun e w'=>e=.returned (iV (rs.countP (fun r=>decide (b∈r.bs)):Nat))/\Fr [] w w':=by
 obtain⟨vr,vs,hb,hrr,hss⟩:=hQ;have h1r:=hrr.one;have h1s:=hss.one;obtain⟨aos,cs,rfl,_⟩:=hss.slice;have hlm:(rs.map rnC).length=rs.length:=Sr ..;rw[hlm]at hb hss h1s;refine enter func60 rfl ntmps60 rfl ?_;refine rx ?_;refine Ju (l:=brV b) rfl rfl (fun w1 b3 hb3 h3 hf1 hs1=>?_);replace h3:Blk w1 b3 [.string b.decl,iV b.at_,iV b.arm] _:=h3;refine rx ?_;refine Jh 7 [5,6] (σ:=Nat) (fun i g u=>g 6=iV (i:Nat)/\g 5=iV ((rs.take i).countP (fun r=>decide (b∈r.bs)):Nat)/\i<=rs.length/\Fr [] w1 u) (fun i=>rs.length-i) 0 ⟨rfl,rfl,SL _,Fr.refl _ _⟩ ?_;rintro i g u ⟨g6,g5,hi,hF1⟩;rw[Ja g6,Ja g5];have hF:=hf1.Jb hF1;have hb:=hb.tr0 hF;have h3:=h3.tr0 hF1;have hcl:=Xh (p:=fun(r:Rn)=>decide (b∈r.bs)) (l:=rs) (i:=i);by_cases hlt:i<rs.length
 case neg=>
  rw[show rs.take i=rs from SQ Yhn]at hcl ⊢;refine Yeo ?_;exact⟨rfl,hF⟩
 obtain⟨ad,cs',had,hr,hce⟩:=DR.at Gi (hss.tr0 hF) hlt;subst had;obtain⟨vb,vl,rfl,hvb,hvl⟩:=rnR hr;have hct:=Zw (p:=fun(r:Rn)=>decide (b∈r.bs)) hlt;refine Ylk ?_;obtain⟨u1,hu1⟩:=exq u.drew;rw[<-hu1];have hS:Fr [] u u1:=hu1▸Fr.drew _ _;refine Jj 0 1 2 3 hS ?_;refine Jj 4 5 6 7 hS ?_;refine d_z 8 hS ?_;refine Ygx ?_;refine Jg (Jdc rs[i].bs b vb u1 (hvb.tr0 hS)) ?_;rintro u2 hf2;have hS:=hS.Jb hf2;refine Yfz ?_;refine Kw 10 hS ?_ (hrun:=by(intro u hu;exact(JbP rfl)));refine Yfx ?_;by_cases he:b∈rs[i].bs
 .rw [SN he];refine rx ?_;refine Jc (i+1) Yhl ⟨rfl,?_,hlt,hF1.Jb hS⟩ Yhn;rw[hct,SN he];rfl
 .rw [SG he];refine rx ?_;refine Jc (i+1) Yhl ⟨rfl,?_,hlt,hF1.Jb hS⟩ Yhn;rw[hct,SG he];rfl
end Go.Proofs.YtggmccicdhnkgaaGreat
namespace Go.Rf
open Go.RowKit
variable{α:Type}
theorem XR(f:α->List Int):∀(l:List α) (i:Nat),((l.take i).flatMap f).length<=(l.flatMap f).length
 |[],i=>by simp
 |a::l,0=>by simp
 |a::l,i+1=>by
  have:=XR f l i;simp only[DT,CP,Sm];omega
theorem Wy(f:α->List Int){l:List α}{i:Nat}(h:i<l.length):(l.take (i+1)).flatMap f=(l.take i).flatMap f++f l[i]:=by
 rw[SK h,List.flatMap_append,CP,Ey,Ce]
end Go.Rf
namespace Go.Proofs.YtggmccicdhnkgaaGreat
open Go.Proofs.Tryz
open Go.Rf Go.RowKit
variable{p:Nat}{u u1 w:World}
attribute [local irreducible] Code.wp wpList Exit.then Exit.inBlock bodyPost A Calls execOp Addr.add
theorem KJ{n:Nat}(h:n<=1000000000):VE (n:Int):=⟨by omega,by omega⟩
theorem KN.next{v:Value}{bs:List Int}(h:KN p w v bs u)(hf:Fr [] u u1):KN p w v bs u1:=by
 obtain⟨v',hI,h1,h2⟩:=h;exact⟨v',⟨hI.1.tr0 hf,hI.2.tr0 hf⟩,h1.Jb hf,h2⟩
theorem KN.fr{v:Value}{bs:List Int}(h:KN p w v bs u):Fr (p::blks v) w u:=by
 obtain⟨_,_,hf,_⟩:=h;exact hf
theorem KN.from{v:Value}{bs:List Int}(h:KN p w v bs u)(hf1:Fr [] u u1):∃v',(∀x∈p::blks v',x<u.heap.size/\(x=p\/x∈blks v\/w.heap.size<=x))/\KN p u1 v' bs u1/\∀bs2 u2,KN p u1 v' bs2 u2->KN p w v bs2 u2:=by
 obtain⟨v',hI,hf,hk⟩:=h;refine⟨v',fun x hx=>?_,KN.refl ⟨hI.1.tr0 hf1,hI.2.tr0 hf1⟩,fun bs2 u2 h2=>h2.trans (hf.Jb hf1) hk⟩;rcases SC.1 hx with rfl|hx
 .exact ⟨hI.1.lt,.inl rfl⟩
 .exact ⟨hI.2.lt x hx,.inr (hk x hx)⟩
theorem BL{v:Value}{bs:List Int}(n:Int)(h:KN p w v bs u)(hn:VE n)(hl:bs.length<=10000000000):
 Calls prog 66 #[.pointer (some ⟨p,0,none⟩),iV n] u fun e u'=>e=.returned (.tuple #[])/\KN p w v (bs++iv n) u':=by
 obtain⟨v',hI,h1,hk⟩:=h;exact(Jkw p v' bs n u hn.1 hn.2 hI Yhn).mono fun e u' ⟨he,hs⟩=>⟨he,hs.trans h1 hk⟩
theorem JeW{v:Value}{bs:List Int}(s:ByteArray)(h:KN p w v bs u)(hs:s.size<=10000000000)(hl:bs.length<=10000000000):
 Calls prog 65 #[.pointer (some ⟨p,0,none⟩),.string s] u fun e u'=>e=.returned (.tuple #[])/\KN p w v (bs++raw (sb s)) u':=by
 obtain⟨v',hI,h1,hk⟩:=h;exact(wText p v' bs s u hI Yhn Yhn).mono fun e u' ⟨he,hs⟩=>⟨he,hs.trans h1 hk⟩
def BrE(b:Br):Prop:=b.decl.size<=1000000000/\VE b.at_/\VE b.arm
theorem GZ(b:Br)(h:BrE b):(brE b).length<=1000000100:=by
 have h1:=VA h.2.1.1 h.2.1.2;have h2:=VA h.2.2.1 h.2.2.2;exact Ycy
theorem Jio{v:Value}{bs:List Int}(b:Br)(hb:BrE b)(h:KN p w v bs u)(hl:bs.length<=5000000000):
 Calls prog 67 #[.pointer (some ⟨p,0,none⟩),.agg (brV b).toArray] u fun e u'=>e=.returned (.tuple #[])/\KN p w v (bs++brE b) u':=by
 refine enter func67 rfl ntmps67 rfl ?_;refine rx ?_;refine Ju (l:=brV b) rfl rfl (fun u1 q hq h1 hf1 hs1=>?_);replace h1:Blk u1 q [.string b.decl,iV b.at_,iV b.arm] _:=h1;obtain⟨v1,hlt,hW,hgo⟩:=h.from hf1;have hq1:q∉p::blks v1:=fun hm=>by have:=(hlt q hm).1;omega
 have hl1:=VA hb.2.1.1 hb.2.1.2;have hl3:=Xw (sb b.decl).length (by have:=hb.1;have:=Xx b.decl;omega);have hl4:=hb.1;have hl5:=Xx b.decl;refine rx ?_;refine Jg (JeW b.decl hW Yhn Yhn) ?_;rintro u2 hW2;have g2:=h1.tr hW2.fr hq1;refine rx ?_;refine Jg (BL b.at_ hW2 hb.2.1 Yls) ?_;rintro u3 hW3;have g3:=h1.tr hW3.fr hq1;refine rx ?_;refine Jg (BL b.arm hW3 hb.2.2 Yls) ?_;rintro u4 hW4;refine rx ?_;refine WI rfl ⟨rfl,?_⟩;have:=hgo _ _ hW4
 rwa [show bs++raw (sb b.decl)++iv b.at_++iv b.arm=bs++brE b by simp[brE]]at this
theorem wfr{w1:World}{q:Nat}{bs:List Int}(hf:Fr [] w w1)(hq:q=w.heap.size)(h:KN q w1 (zS) bs u):Fr [] w u:=
 hf.trans h.fr (fun x hx=>.inr Ymb)
theorem JhG{M R:List Nat}{P:Pp}{s:St}(w:World)(hC:Wj w p M R P s)(hn:s.cls.length<=1000000)(hk:s.ks.length<=1000000)(hps:s.ps.length<=1000000)(hr0:s.runs<=1000000)(hpr:P.prop.size<=1000000)(hbr:∀b∈s.ks,BrE b)(hL:(U0 P.prop s).length<=1000000000):
 Calls prog 27 #[.pointer (some ⟨p,0,none⟩)] w fun e w'=>∃v,e=.returned v/\Own w' 5 1 v (U0 P.prop s).length ((U0 P.prop s).map (.int .u8))/\Fr [] w w'/\(∀x∈blks v,w.heap.size<=x):=by
 obtain⟨bb,pb,vr,vc,mb,mp,rfl,rfl,hnd,hb,hr,hc,hmb,hrb,hmp,hrp,hok⟩:=hC;obtain⟨aoc,cc,rfl⟩:=hc.slice;have hlp:mp.length=s.ps.length:=GI Qy hmp.nd hok.pasc (fun a=>hrp.keys);have hlb:mb.length=s.ks.length:=GI Qu hmb.nd hok.kasc (fun a=>hrb.keys.trans (hok.cnt a));have ho:=hok.o;simp only[U0,Sm]at hL;refine enter func27 rfl ntmps27 rfl ?_;refine rx ?_;refine Jm (l:=[zS]) rfl (fun w1 q hqe hq hf1 hs1=>?_);have hW:=KN.refl (bs:=[]) ⟨hq,Own.nil _ _ _⟩;have hb1:=hb.tr0 hf1;refine rx ?_;refine Jg (JeW P.prop hW Yhn Yhs) ?_;rintro u hW;have hb2:=hb.tr0 (wfr hf1 hqe hW);refine rx ?_;refine Jg (BL s.runs hW (KJ Yhn) (by simp only[CO];omega)) ?_;rintro u2 hW;have hb3:=hb.tr0 (wfr hf1 hqe hW);refine rx ?_;clear hb1 hb2 hb3;refine Jh 26 [5] (σ:=Nat) (fun i g u=>g 26=iV (i:Nat)/\i<=3/\KN q w1 (zS) (raw (sb P.prop)++iv s.runs++([s.o 0,s.o 1,s.o 2].take i).flatMap (fun n=>iv (n:Nat))) u) (fun i=>3-i) 0 ⟨rfl,SL _,by simpa using hW⟩ ?_;clear hW;rintro i g u ⟨g26,hi,hW⟩;rw[Ja g26];have hbt:=XR (fun(n:Nat)=>iv (n:Nat)) [s.o 0,s.o 1,s.o 2] i;by_cases hlt:i<3
 case pos=>
  refine rx ?_;refine JcY (cs:=Vk [s.o 0,s.o 1,s.o 2]) (v:=iV ([s.o 0,s.o 1,s.o 2][i]:Nat)) rfl rfl hlt (V9 hlt) ?_;refine rx ?_;have hoi:[s.o 0,s.o 1,s.o 2][i]<=1000000:=by
   have:∀n∈[s.o 0,s.o 1,s.o 2],n<=1000000:=by simp;omega
   exact this _ (Cj _)
  refine Jg (BL _ hW (KJ Yhn) (by simp only[Sm];rw[show([s.o 0,s.o 1,s.o 2].flatMap (fun(n:Nat)=>iv (n:Nat))).length=(iv (s.o 0)).length+((iv (s.o 1)).length+(iv (s.o 2)).length) by simp]at hbt;omega)) ?_;rintro u2 hW;refine rx ?_;refine Jc (i+1) Yhl ⟨rfl,hlt,?_⟩ Yhn;rw[Wy _ hlt,<-List.append_assoc];exact hW
 rw[SQ Yht,show[s.o 0,s.o 1,s.o 2].flatMap (fun n=>iv (n:Nat))=iv (s.o 0)++(iv (s.o 1)++iv (s.o 2)) by simp,<-List.append_assoc,<-List.append_assoc]at hW;have hb1:=hb.tr0 (wfr hf1 hqe hW);clear hbt hi g26;refine rx ?_;refine Jg (BL s.cls.length hW (KJ Yhn) Yim) ?_;rintro u2 hW;have hb2:=hb.tr0 (wfr hf1 hqe hW);refine rx ?_;clear hb1 hb2;obtain⟨B,hB⟩:=exq (raw (sb P.prop)++iv s.runs++iv (s.o 0)++iv (s.o 1)++iv (s.o 2)++iv s.cls.length);have hBL:B.length+(s.cls.flatMap (fun n=>iv (n:Nat))).length<=1000000000:=by rw[hB];simp only[Sm];omega
 rw[<-hB]at hW;refine Jh 43 [7] (σ:=Nat) (fun i g u=>g 43=iV (i:Nat)/\i<=s.cls.length/\KN q w1 (zS) (B++(s.cls.take i).flatMap (fun n=>iv (n:Nat))) u) (fun i=>s.cls.length-i) 0 ⟨rfl,SL _,by simpa using hW⟩ ?_;clear hW;rintro i g u ⟨g43,hi,hW⟩;rw[Ja g43];have hbt:=XR (fun(n:Nat)=>iv (n:Nat)) s.cls i;by_cases hlt:i<s.cls.length
 case pos=>
  obtain⟨ad,had,hcell⟩:=KO (hc.tr0 (wfr hf1 hqe hW)).src (V9 hlt);subst had;refine Yfm ?_;refine rx ?_;refine Jg (BL _ hW (KJ (by have:=hok.ocls _ (Cj hlt);omega)) Yim) ?_;rintro u2 hW;refine rx ?_;refine Jc (i+1) Yhl ⟨rfl,hlt,?_⟩ Yhn;rw[Wy _ hlt,<-List.append_assoc];exact hW
 rw[SQ Yhn]at hW;have hFu:=wfr hf1 hqe hW;have hb1:=hb.tr0 hFu;have hmb1:=hmb.tr0 hFu;clear hbt g43;refine rx ?_;refine G7 rfl hmb1 ?_;rw[hlb];refine rx ?_;refine Jg (BL s.ks.length hW (KJ Yhn) Yim) ?_;rintro u2 hW;have hFu2:=wfr hf1 hqe hW;have hb2:=hb.tr0 hFu2;have hmb2:=hmb.tr0 hFu2;refine rx ?_;refine Jl (JbB mb bb u2 hmb2 Yhn) ?_;rintro vq w3 ⟨hBq,hf3⟩;rw[Uw Qu hok.kasc (fun a=>hrb.keys.trans (hok.cnt a))]at hBq;obtain⟨aoq,cq,rfl⟩:=hBq.1.slice;obtain⟨v3,hv3,hV,hgo⟩:=hW.from hf3;have hFw3:=hFu2.Jb hf3;have hsw3:=hFw3.size;have hs23:=hf3.size;have hv30:∀x∈q::blks v3,x<u2.heap.size/\w.heap.size<=x:=fun x hx=>by
  have h1:=hv3 x hx;have:=hs1;refine⟨h1.1,?_⟩;rcases h1.2 with h|h|h
  .omega
  .simp [blks,Value.ownBlock]at h
  .omega
 have hQ:∀x∈blks (Value.slice aoq s.ks.length cq),x∉q::blks v3:=fun x hx hm=>by
  have h1:=hBq.2 x hx;have h2:=(hv30 x hm).1;omega
 have hF3:∀bs u,KN q w3 v3 bs u->Fr [] w u:=fun bs u h=>hFw3.trans h.fr (fun x hx=>.inr (hv30 x hx).2)
 clear hW;obtain⟨B2,hB2⟩:=exq (B++s.cls.flatMap (fun n=>iv (n:Nat))++iv s.ks.length);rw[<-hB2]at hV;have hBL2:B2.length+(s.ks.flatMap (fun b=>brE b++iv (s.cnt b))).length<=1000000000:=by rw[hB2,hB];simp only[Sm];omega
 refine rx ?_;refine Jh 62 [9] (σ:=Nat) (fun i g u=>g 62=iV (i:Nat)/\i<=s.ks.length/\KN q w3 v3 (B2++(s.ks.take i).flatMap (fun b=>brE b++iv (s.cnt b))) u) (fun i=>s.ks.length-i) 0 ⟨rfl,SL _,by simpa using hV⟩ ?_;clear hV;rintro i g u ⟨g62,hi,hV⟩;rw[Ja g62];have hbt:=XR (fun b=>brE b++iv (s.cnt b)) s.ks i;have hFu:=hF3 _ _ hV;by_cases hlt:i<s.ks.length
 case pos=>
  obtain⟨adq,hadq,hcq⟩:=JZ QN (hBq.1.tr hV.fr hQ).src hlt Yhy;subst hadq;have hcq:Cells u (adq.add (i*3)) [.string s.ks[i].decl,iV s.ks[i].at_,iV s.ks[i].arm]:=hcq;refine rx ?_;refine Jm (l:=[zT,zI,zI]) rfl (fun u1 b9 hb9 h9 hf5 hs5=>?_);refine rx ?_;refine Jd (cs:=brV s.ks[i]) rfl rfl h9 (QD _) rfl rfl (fun u2 h9 hf6 hs6=>?_);replace h9:Blk u2 b9 [.string s.ks[i].decl,iV s.ks[i].at_,iV s.ks[i].arm] _:=h9;have hF2:Fr [] u u2:=hf5.trans hf6 (fun x hx=>.inr Yhq);obtain⟨v4,hv4,hV4,hgo4⟩:=hV.from hF2;have hbB:=hbr _ (Cj hlt);have n9:b9∉q::blks v4:=fun hm=>by have:=(hv4 _ hm).1;omega
  have hFu2:=hFu.Jb hF2;refine rx ?_;refine Jg (Jio s.ks[i] hbB hV4 Yim) ?_;rintro u3 hV5;have hb5:=hb.tr0 hFu2;have hmb5:=hmb.tr0 hFu2;refine rx ?_;refine JE (fun z=>Fr (q::blks v4) u2 z) Yhp rfl ?_;obtain⟨u4,hu4⟩:=exq u3.drew;rw[<-hu4];have hd:Fr [] u3 u4:=hu4▸Fr.drew _ _;have hS:Fr (q::blks v4) u2 u4:=hV5.fr.Jb hd;have np:p∉q::blks v4:=fun hm=>by
   have h1:=hb.lt;have h2:=(hv4 p hm).2;rcases h2 with h|h|h
   .omega
   .have:=(hv30 p (CY _ h)).2;omega
   .omega
  have nb:bb∉q::blks v4:=fun hm=>by
   have h1:=hmb.lt;have h2:=(hv4 bb hm).2;rcases h2 with h|h|h
   .omega
   .have:=(hv30 bb (CY _ h)).2;omega
   .omega
  refine JX 0 1 hS ?_;refine d_z 2 hS ?_;refine Kw 3 hS ?_ (hrun:=by(intro u hu;exact(J7 rfl (Blk.cell (hb5.tr hu np) rfl))));refine Kw 4 hS ?_ (hrun:=by(intro u hu;exact(Kv rfl (Cells.VO (h9.tr hu n9)) Yik)));refine Kw 5 hS ?_ (hrun:=by(intro u hu;refine(JdF (P:=prog) (t:=122) (a:=s.ks[i]) ?_ ?_ (hmb5.tr hu nb) hrb);exact rfl;exact rfl));refine JJ (i:=6) rfl Yhp ?_;have hV7:=hV5.next hd;have hbl:=GZ _ hbB;refine Jg (BL _ hV7 (KJ (by have:=hok.ocnt s.ks[i];omega)) Yim) ?_;rintro u5 hV8;refine wpList_nil (Jv hV8.fr ?_);refine Yev ?_;refine Jc (i+1) Yhl ⟨rfl,hlt,?_⟩ Yhn;have:=hgo4 _ _ hV8;rw[Wy _ hlt];simpa only[List.append_assoc]using this
 rw[SQ Yhn]at hV;have hb1:=hb.tr0 hFu;have hmp1:=hmp.tr0 hFu;clear hbt g62;refine rx ?_;refine G7 rfl hmp1 ?_;rw[hlp];refine rx ?_;refine Jg (BL s.ps.length hV (KJ Yhn) Yim) ?_;rintro u2 hV;have hFu2:=hF3 _ _ hV;have hb2:=hb.tr0 hFu2;have hmp2:=hmp.tr0 hFu2;refine rx ?_;refine Jl (Jfe mp pb u2 hmp2 Yhn) ?_;rintro vq2 w5 ⟨hPq,hf5⟩;rw[Uw Qy hok.pasc (fun a=>hrp.keys)]at hPq;obtain⟨aop,cp,rfl⟩:=hPq.1.slice;obtain⟨v5,hv5,hU,hgoU⟩:=(hgo _ _ hV).from hf5;have hFw5:=hFu2.Jb hf5;have hsw5:=hFw5.size;have hv50:∀x∈q::blks v5,x<u2.heap.size/\w.heap.size<=x:=fun x hx=>by
  have h1:=hv5 x hx;have:=hs1;refine⟨h1.1,?_⟩;rcases h1.2 with h|h|h
  .omega
  .simp [blks,Value.ownBlock]at h
  .omega
 have hQ5:∀x∈blks (Value.slice aop s.ps.length cp),x∉q::blks v5:=fun x hx hm=>by
  have h1:=hPq.2 x hx;have h2:=(hv50 x hm).1;omega
 have hF5:∀bs u,KN q w5 v5 bs u->Fr [] w u:=fun bs u h=>hFw5.trans h.fr (fun x hx=>.inr (hv50 x hx).2)
 clear hV;obtain⟨B3,hB3⟩:=exq (B2++s.ks.flatMap (fun b=>brE b++iv (s.cnt b))++iv s.ps.length);rw[<-hB3]at hU;have hBL3:B3.length+(s.ps.flatMap (fun p=>brE p.1++brE p.2)).length<=1000000000:=by rw[hB3,hB2,hB];simp only[Sm];omega
 refine rx ?_;refine Jh 88 [11] (σ:=Nat) (fun i g u=>g 88=iV (i:Nat)/\i<=s.ps.length/\KN q w5 v5 (B3++(s.ps.take i).flatMap (fun p=>brE p.1++brE p.2)) u) (fun i=>s.ps.length-i) 0 ⟨rfl,SL _,by simpa using hU⟩ ?_;clear hU;rintro k g u ⟨g88,hi,hU⟩;rw[Ja g88];have hbt:=XR (fun(p:Pr)=>brE p.1++brE p.2) s.ps k;have hFu:=hF5 _ _ hU;by_cases hlt:k<s.ps.length
 case pos=>
  obtain⟨adq,hadq,hcq⟩:=JZ VK (hPq.1.tr hU.fr hQ5).src hlt Yhy;subst hadq;have hcq:Cells u (adq.add (k*6)) [.string s.ps[k].1.decl,iV s.ps[k].1.at_,iV s.ps[k].1.arm,.string s.ps[k].2.decl,iV s.ps[k].2.at_,iV s.ps[k].2.arm]:=hcq;refine rx ?_;refine Jm (l:=[zT,zI,zI,zT,zI,zI]) rfl (fun u1 b9 hb9 h9 hf5 hs5=>?_);refine rx ?_;refine Jd (cs:=prV s.ps[k]) rfl rfl h9 (Wu _) rfl rfl (fun u2 h9 hf6 hs6=>?_);replace h9:Blk u2 b9 [.string s.ps[k].1.decl,iV s.ps[k].1.at_,iV s.ps[k].1.arm,.string s.ps[k].2.decl,iV s.ps[k].2.at_,iV s.ps[k].2.arm] _:=h9;have hF2:Fr [] u u2:=hf5.trans hf6 (fun x hx=>.inr Yhq);obtain⟨v4,hv4,hV4,hgo4⟩:=hU.from hF2;have hpk:=hok.pks _ (Cj hlt);have hbA:=hbr _ hpk.1;have hbB:=hbr _ hpk.2;have hbl:=GZ _ hbA;have n9:b9∉q::blks v4:=fun hm=>by have:=(hv4 _ hm).1;omega
  refine rx ?_;refine ZH (j:=0) rfl rfl Yhy ?_;refine rx ?_;refine Jg (Jio s.ps[k].1 hbA hV4 Yim) ?_;rintro u3 hV5;have h9:=h9.tr hV5.fr n9;refine rx ?_;refine ZH (j:=1) rfl rfl Yhy ?_;refine rx ?_;refine Jg (Jio s.ps[k].2 hbB hV5 Yim) ?_;rintro u4 hV6;refine rx ?_;refine Jc (k+1) Yhl ⟨rfl,hlt,?_⟩ Yhn;have:=hgo4 _ _ hV6;rw[Wy _ hlt];simpa only[List.append_assoc]using this
 rw[SQ Yhn]at hU;clear hbt g88;refine rx ?_;obtain⟨v6,hI,_,hk6⟩:=hgoU _ _ hU;refine Jl (JjE q v6 _ u hI (by rw[Sm];omega)) ?_;rintro v u2 ⟨ho2,hf2,hk2,_⟩;refine Yeo ?_;refine⟨v,rfl,?_,hFu.Jb hf2,fun x hx=>?_⟩
 .rw [show U0 P.prop s=B3++s.ps.flatMap (fun p=>brE p.1++brE p.2) by rw[hB3,hB2,hB];rfl];simpa using ho2
 .have:=hk2 x hx;have:=hFu.size;omega
end Go.Proofs.YtggmccicdhnkgaaGreat
