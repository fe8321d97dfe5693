/-
 From the readings of arguments to the walks' premises.
-/
import Derived.Test.YtggmccicdhnkgaaGreatZJf
import Derived.Test.YtggmccicdhnkgaaGreatZJe
import Derived.Test.YtggmccicdhnkgaaGreatZQd
import Derived.OpenShut
import Derived.ShutString
import Derived.ChangeOld
set_option linter.all false
namespace Go.Rf
open Go.RowKit
theorem r_sliceA{P:Program}{n:Nat}{f:Env}{w:World}{d:Nat}{ty:TypeId}{ps:String}{af:Array Edge}{gd:Option (Nat×Bool)}{x:Operand}{t k e size b o:Nat}[R:ArrT P t k e size](hx:ev n f x=.pointer (some ⟨b,o,none⟩)):
 (execOp (ev n f) ⟨some d,.slice t x none none none,ty,ps,af,gd⟩).run P w=.ok (.value (.slice (some ⟨b,o,none⟩) k k)) w:=by
 obtain⟨i,hi,hs⟩:=R.inf
 have e0:(⟨b,o,none⟩:Addr).add 0=⟨b,o,none⟩:=add0 _
 simp[execOp,hx,Instr.sliceAt,Instr.sureAddr,run_underlying R.u,Instr.sliceBounds,sizeOf,typeInfo,hi,e0]
def ctV(cnt:Br->Nat)(b:Br):List Value:=brV b++[iV (cnt b:Nat)]
theorem ctV_l4(cnt:Br->Nat)(b:Br):(ctV cnt b).length=4:=rfl
theorem ctV_one(cnt:Br->Nat)(b:Br):∀v∈ctV cnt b,v.oneCell'=true:=by simp[ctV,brV,Value.oneCell']
theorem srcBlk{w:World}{b t o m:Nat}{l ys:List Value}(h:Blk w b l t)(hl:∀j u,ys[j]?=some u->l[o+j]?=some u):Src w (.slice (some ⟨b,o,none⟩) m m) m ys:=by
 refine⟨some ⟨b,o,none⟩,m,rfl,Nat.le_refl _,fun h=>Yik,fun ad e j u hj=>?_⟩
 cases e
 rw[add_lit]
 exact h.cell (hl j u hj)
end Go.Rf
namespace Go.Proofs.YtggmccicdhnkgaaGreat
open Go.Proofs.Tryz
open Go.Rf Go.RowKit
attribute [local irreducible] Code.wp wpList Exit.then Exit.inBlock bodyPost A Calls execOp Addr.add
def RepR(w0 w:World)(P:Pp)(s:St)(cs:List Value):Prop:=∃vk vc vo,cs=[iV (s.runs:Nat),vk,iV (s.ps.length:Nat),vc,vo]/\
 Own w 52 4 vk s.ks.length (s.ks.flatMap (ctV s.cnt))/\Own w 3 1 vc s.cls.length (natsV s.cls)/\Own w 3 1 vo 3 (natsV [s.o 0,s.o 1,s.o 2])/\(∀x,x∈blks vk\/x∈blks vc\/x∈blks vo->w0.heap.size<=x)
set_option maxHeartbeats 32000000 in
theorem repC{p:Nat}{M R:List Nat}{P:Pp}{s:St}(w:World)(hC:CovM w p M R P s)(hn:s.cls.length<=1000000)(hk:s.ks.length<=1000000):
 Calls prog 17 #[.pointer (some ⟨p,0,none⟩)] w fun e w'=>∃cs,e=.returned (.agg cs.toArray)/\cs.length=5/\RepR w w' P s cs/\Fr [] w w':=by
 obtain⟨bb,pb,vr,vc,mb,mp,rfl,rfl,hnd,hb,hr,hc,hmb,hrb,hmp,hrp,hok⟩:=hC
 obtain⟨aoc,cc,rfl⟩:=hc.slice
 have hlp:mp.length=s.ps.length:=keys_len totP hmp.nd hok.pasc (fun a=>hrp.keys)
 have hlb:mb.length=s.ks.length:=keys_len totB hmb.nd hok.kasc (fun a=>hrb.keys.trans (hok.cnt a))
 refine enter func17 rfl ntmps17 rfl ?_
 refine rx ?_
 refine s_allocN (l:=[zI,zS,zI,zS,zS]) rfl (fun w1 b2 hb2 h2 hf1 hs1=>?_)
 have hb1:=hb.tr0 hf1
 have hmp1:=hmp.tr0 hf1
 refine rx ?_
 refine c_cutK 3 [3] (fun g u=>∃b3 vc vo,g 3=.pointer (some ⟨b3,0,none⟩)/\Blk u b3 [iV (s.runs:Nat),zS,iV (s.ps.length:Nat),vc,vo] 47/\Own u 3 1 vc s.cls.length (natsV s.cls)/\Own u 3 1 vo 3 (natsV [s.o 0,s.o 1,s.o 2])/\w1.heap.size<=b3/\(∀x∈blks vc++blks vo,w1.heap.size<=x/\x≠b3)/\Fr [] w1 u) ?_ ?_
 . (refine d_begin (fun z=>Fr [] w1 z) Yhf rfl ?_)
   obtain⟨u,hu⟩:=exq w1.drew
   rw[<-hu]
   have hS:Fr [] w1 u:=hu▸Fr.drew _ _
   have hz:=hS.size
   refine d_z4 0 1 2 3 hS ?_;refine d_z4 4 5 6 7 hS ?_
   refine d_tx 8 hS ?_ (hrun:=by(intro u hu;exact(r_lenM rfl (hmp1.tr0 hu))))
   refine d_z4 10 11 12 13 hS ?_
   refine d_z2 16 17 hS ?_;refine d_z 18 hS ?_
   refine d_tx 19 hS ?_ (hrun:=by(intro u hu;exact(r_sliceA rfl)))
   refine d_threeC (i:=9) (j:=15) (k:=22) rfl rfl rfl Yhf ?_ ?_ ?_
   .obtain ⟨bA,hbA⟩:=exq u.heap.size
    refine s_build0 (fun u hA hf hsA=>?_)
    rw[<-hbA]at hA ⊢
    have hAi:In (blks (Value.slice (some ⟨bA,0,none⟩) 0 0)) bA u.heap.size:=fun x hx=>by simp[blks,Value.ownBlock]at hx;omega
    have hz:=hf.size
    have hS:=hS.trans0 hf
    clear hf
    refine Yfo ?_
    refine d_threeC (i:=14) (j:=15) (k:=22) rfl rfl rfl Yhf ?_ ?_ ?_
    .obtain ⟨n14,hn14⟩:=exq u.heap.size
     refine s_append hA rfl ((hc.src.tr0 hf1).tr0 hS) rfl Yjr (natsV_one _) Yhl Yhd (fun vc1 u hC hf hkC _=>?_)
     rw[List.nil_append,Nat.zero_add]at hC
     have hS:Fr [] w1 u:=hS.trans hf (fun x hx=>.inr (by have:=hAi x hx;omega))
     have hCi:∀x∈blks vc1,w1.heap.size<=x/\x<u.heap.size/\(x<n14->x∈blks (Value.slice (some ⟨bA,0,none⟩) 0 0)):=fun x hx=>⟨(hkC x hx).elim Yjo Yhv,hC.lt x hx,fun h1=>(hkC x hx).elim id Yhv⟩
     have hz:=hf.size
     clear hf
     refine Yfo ?_
     refine d_two (i:=15) (j:=22) rfl rfl Yhf ?_ ?_
     .obtain ⟨bE,hbE⟩:=exq u.heap.size
      refine s_build0 (fun u hE hf hsE=>?_)
      rw[<-hbE]at hE ⊢
      have hEi:In (blks (Value.slice (some ⟨bE,0,none⟩) 0 0)) bE u.heap.size:=fun x hx=>by simp[blks,Value.ownBlock]at hx;omega
      have hC:=hC.tr0 hf
      have hz:=hf.size
      have hS:=hS.trans0 hf
      exact Ydg
     .obtain ⟨bB,hbB⟩:=exq u.heap.size
      refine s_alloc (l:=[zI,zS,zI,zS,zS]) rfl (fun u hB hf hsB=>?_)
      rw[<-hbB]at hB ⊢
      have hC:=hC.tr0 hf
      have hz:=hf.size
      have hS:=hS.trans0 hf
      exact Yee
    .obtain ⟨bE,hbE⟩:=exq u.heap.size
     refine s_build0 (fun u hE hf hsE=>?_)
     rw[<-hbE]at hE ⊢
     have hEi:In (blks (Value.slice (some ⟨bE,0,none⟩) 0 0)) bE u.heap.size:=fun x hx=>by simp[blks,Value.ownBlock]at hx;omega
     have hA:=hA.tr0 hf
     exact Ydw
    .obtain ⟨bB,hbB⟩:=exq u.heap.size
     refine s_alloc (l:=[zI,zS,zI,zS,zS]) rfl (fun u hB hf hsB=>?_)
     rw[<-hbB]at hB ⊢
     have hA:=hA.tr0 hf
     exact Yed
   .obtain ⟨bE,hbE⟩:=exq u.heap.size
    refine s_build0 (fun u hE hf hsE=>?_)
    rw[<-hbE]at hE ⊢
    have hEi:In (blks (Value.slice (some ⟨bE,0,none⟩) 0 0)) bE u.heap.size:=fun x hx=>by simp[blks,Value.ownBlock]at hx;omega
    have hz:=hf.size
    have hS:=hS.trans0 hf
    clear hf
    refine Yfo ?_
    refine d_two (i:=9) (j:=22) rfl rfl Yhf ?_ ?_
    .obtain ⟨bA,hbA⟩:=exq u.heap.size
     refine s_build0 (fun u hA hf hsA=>?_)
     rw[<-hbA]at hA ⊢
     have hAi:In (blks (Value.slice (some ⟨bA,0,none⟩) 0 0)) bA u.heap.size:=fun x hx=>by simp[blks,Value.ownBlock]at hx;omega
     have hE:=hE.tr0 hf
     exact Ydw
    .obtain ⟨bB,hbB⟩:=exq u.heap.size
     refine s_alloc (l:=[zI,zS,zI,zS,zS]) rfl (fun u hB hf hsB=>?_)
     rw[<-hbB]at hB ⊢
     have hE:=hE.tr0 hf
     exact Yef
   .obtain ⟨bB,hbB⟩:=exq u.heap.size
    refine s_alloc (l:=[zI,zS,zI,zS,zS]) rfl (fun u hB hf hsB=>?_)
    rw[<-hbB]at hB ⊢
    have hz:=hf.size
    have hS:=hS.trans0 hf
    clear hf
    refine Yfo ?_
    refine d_two (i:=9) (j:=15) rfl rfl Yhf ?_ ?_
    .obtain ⟨bA,hbA⟩:=exq u.heap.size
     refine s_build0 (fun u hA hf hsA=>?_)
     rw[<-hbA]at hA ⊢
     have hAi:In (blks (Value.slice (some ⟨bA,0,none⟩) 0 0)) bA u.heap.size:=fun x hx=>by simp[blks,Value.ownBlock]at hx;omega
     have hB:=hB.tr0 hf
     exact Yed
    .obtain ⟨bE,hbE⟩:=exq u.heap.size
     refine s_build0 (fun u hE hf hsE=>?_)
     rw[<-hbE]at hE ⊢
     have hEi:In (blks (Value.slice (some ⟨bE,0,none⟩) 0 0)) bE u.heap.size:=fun x hx=>by simp[blks,Value.ownBlock]at hx;omega
     have hB:=hB.tr0 hf
     exact Yef
 rintro g w2 ⟨b3,vc,vo,g3,hb3,hcl,hou,hb3w,hvw,hF2⟩
 rw[eq_upd g3]
 clear g3
 have hFw:=hf1.trans0 hF2
 have h2:=h2.tr0 hF2
 have hbu:=hb.tr0 hFw
 have hmu:=hmb.tr0 hFw
 have hsw:=hFw.size
 have hs12:=hF2.size
 refine rx ?_
 refine s_c1 (sortedBC mb bb w2 hmu Yhd) ?_
 rintro vq w3 ⟨hBq,hf3⟩
 rw[keys_set totB hok.kasc (fun a=>hrb.keys.trans (hok.cnt a))]at hBq
 obtain⟨aoq,cq,rfl⟩:=hBq.1.slice
 have hqge:=hBq.2
 have hqlt:=hBq.1.lt
 have hb3lt2:=hb3.lt
 have hb3:=hb3.tr0 hf3
 have h2:=h2.tr0 hf3
 have hcl:=hcl.tr0 hf3
 have hou:=hou.tr0 hf3
 have hFw3:=hFw.trans0 hf3
 have hbu:=hbu.tr0 hf3
 have hmu:=hmu.tr0 hf3
 have hs23:=hf3.size
 have hclt:=hcl.lt
 have holt:=hou.lt
 have hb3lt:=hb3.lt
 have hc1:=hcl.one
 have ho1:=hou.one
 refine rx ?_
 refine c_loopK 34 [5] (σ:=Nat×Value) (fun t g u=>g 34=iV (t.1:Nat)/\t.1<=s.ks.length/\Blk u b3 [iV (s.runs:Nat),t.2,iV (s.ps.length:Nat),vc,vo] 47/\Own u 52 4 t.2 t.1 ((s.ks.take t.1).flatMap (ctV s.cnt))/\(∀x∈blks t.2,x=b3\/w3.heap.size<=x)/\b3∉blks t.2/\∃T,Fr T w3 u/\∀x∈T,x=b3\/w3.heap.size<=x) (fun t=>s.ks.length-t.1) (0,zS) ⟨rfl,Nat.zero_le _,hb3,Own.nil _ _ _,by simp[blks,Value.ownBlock],by simp[blks,Value.ownBlock],[],Fr.refl _ _,by simp⟩ ?_
 clear hb3
 rintro⟨i,vk⟩ g u ⟨g34,hi,hb3,hok4,hkb,hk3,T,hFT,hT⟩
 simp only at g34 hi hb3 hok4 hkb hk3
 rw[eq_upd g34]
 have hsu:=hFT.size
 have hk1:=hok4.one
 have hklt:=hok4.lt
 have hTn:∀x,x<w3.heap.size->x≠b3->x∉T:=fun x h1 h2 hm=>(hT x hm).elim h2 Yhv
 have hFwu:Fr [] w u:=hFw3.trans hFT (fun x hx=>.inr (by rcases hT x hx with h|h<;>omega))
 have hclu:=hcl.tr hFT (fun x hx=>hTn x (hclt x hx) (hvw x (List.mem_append_left _ hx)).2)
 have houu:=hou.tr hFT (fun x hx=>hTn x (holt x hx) (hvw x (List.mem_append_right _ hx)).2)
 by_cases hlt:i<s.ks.length
 case neg=>
  have h2:=h2.tr hFT (hTn b2 Yhd Yhd)
  refine rx ?_
  refine s_storeAggB (cs:=[iV (s.runs:Nat),vk,iV (s.ps.length:Nat),vc,vo]) rfl rfl h2 Yig rfl rfl (fun u1 h2' hf5 hs5=>?_)
  refine rx ?_
  rw[List.take_of_length_le Yhd]at hok4
  obtain rfl:i=s.ks.length:=by omega
  have hne2:∀x∈blks vk,x∉[b2]:=fun x hx hm=>by rw[List.mem_singleton.1 hm]at hx;rcases hkb b2 hx with h|h<;>omega
  have hne3:∀x∈blks vc++blks vo,x∉[b2]:=fun x hx hm=>by have:=(hvw x hx).1;rw[List.mem_singleton.1 hm]at this;omega
  refine retB rfl rfl h2' rfl ?_
  refine⟨_,rfl,rfl,⟨vk,vc,vo,rfl,hok4.tr hf5 hne2,hclu.tr hf5 (fun x hx=>hne3 x (List.mem_append_left _ hx)),houu.tr hf5 (fun x hx=>hne3 x (List.mem_append_right _ hx)),fun x hx=>?_⟩,hFwu.trans hf5 (fun x hx=>.inr Yhg)⟩
  rcases hx with hx|hx|hx
  .rcases hkb x hx with h|h<;>omega
  .have:=(hvw x (List.mem_append_left _ hx)).1;omega
  .have:=(hvw x (List.mem_append_right _ hx)).1;omega
 obtain⟨adq,hadq,hcq⟩:=src_rows brV_l3 (hBq.1.src.tr hFT (fun ad n c e _=>by
  cases e
  have h1:=hqge ad.block Yhs
  have h2:=hqlt ad.block Yhs
  exact hTn _ h2 Yhd)) hlt Yho
 subst hadq
 have hcq:Cells u (adq.add (i*3)) [.string s.ks[i].decl,iV s.ks[i].at_,iV s.ks[i].arm]:=hcq
 have hbp:p<w.heap.size:=hb.lt
 have hbbl:bb<w.heap.size:=hmb.lt
 have hbu:=hbu.tr hFT (hTn p Yhd Yhd)
 have hmu:=hmu.tr hFT (hTn bb Yhd Yhd)
 refine rx ?_
 refine s_allocN (l:=[zT,zI,zI]) rfl (fun u1 b5 hb5 h5 hf5 hs5=>?_)
 refine rx ?_
 refine s_storeAggB (cs:=brV s.ks[i]) rfl rfl h5 (brV_one1 _) rfl rfl (fun u2 h5 hf6 hs6=>?_)
 replace h5:Blk u2 b5 [.string s.ks[i].decl,iV s.ks[i].at_,iV s.ks[i].arm] _:=h5
 have hF2:Fr [] u u2:=hf5.trans hf6 (fun x hx=>.inr Yhg)
 have hb3:=hb3.tr0 hF2
 have hok4:=hok4.tr0 hF2
 have hbu:=hbu.tr0 hF2
 have hmu:=hmu.tr0 hF2
 have hsu2:=hF2.size
 obtain⟨aok,ck,rfl⟩:=hok4.slice
 refine rx ?_
 refine u_begin 12 (fun z=>Fr (blks (Value.slice aok i ck)) u2 z) Yhf rfl ?_
 obtain⟨u3,hu3⟩:=exq u2.drew
 rw[<-hu3]
 have hd3:Fr [] u2 u3:=hu3▸Fr.drew _ _
 have hS:Fr (blks (Value.slice aok i ck)) u2 u3:=hd3.mono Yhi
 have n3:b3∉blks (Value.slice aok i ck):=hk3
 have n5:b5∉blks (Value.slice aok i ck):=fun hm=>by have:=hklt b5 hm;omega
 have np:p∉blks (Value.slice aok i ck):=fun hm=>by rcases hkb p hm with h|h<;>omega
 have nbb:bb∉blks (Value.slice aok i ck):=fun hm=>by rcases hkb bb hm with h|h<;>omega
 ((refine u_tx 0 hS ?_))
 refine u_tx 1 hS ?_ (hrun:=(by intro u hu;exact(r_load rfl (Blk.cell (hb3.tr hu n3) rfl))))
 refine u_tx 2 hS ?_ (hrun:=(by intro u hu;exact(r_loadC rfl (Cells.ofBlk (h5.tr hu n5)) Yia)))
 ((refine u_tx 3 hS ?_);(refine u_tx 4 hS ?_);(refine u_tx 5 hS ?_))
 refine u_tx 6 hS ?_ (hrun:=(by intro u hu;exact(r_load rfl (Blk.cell (hbu.tr hu np) rfl))))
 refine u_tx 7 hS ?_ (hrun:=(by intro u hu;exact(r_loadC rfl (Cells.ofBlk (h5.tr hu n5)) Yia)))
 refine u_tx 8 hS ?_ (hrun:=(by intro u hu;refine(r_cnt (P:=prog) (t:=122) (a:=s.ks[i]) ?_ ?_ (hmu.tr hu nbb) hrb);exact rfl;exact rfl))
 refine u_tx (v:=.agg ((ctV s.cnt s.ks[i])).toArray) 9 hS ?_ (hrun:=(by(intro u hu;exact r_build ((ctV s.cnt s.ks[i])) Yia)))
 refine Yge ?_
 refine s_rows1 (c1:=ctV s.cnt s.ks[i]) rfl rfl rfl (fun u4 q4 hq4 ho4 hf4 hs4=>?_)
 have hS4:=hS.trans0 hf4
 refine wpList_nil (q_uh hS4 ?_)
 refine u_one (i:=11) rfl Yhf ?_
 refine s_append ((hok4.tr0 hd3).tr0 hf4) rfl ho4.src rfl rfl (ctV_one _ _) Yhl Yhd (fun v5 u5 ho5 hf7 hk7 _=>?_)
 have hS5:=hS4.trans hf7 (fun x hx=>.inl hx)
 have hv51:=ho5.one
 have hs3:=hd3.size
 have hs5:=hf7.size
 refine wpList_nil (q_uh hS5 ?_)
 refine u_one (i:=12) rfl Yhf ?_
 refine s_fieldAddr rfl ?_
 rw[add_lit]
 refine Ygf ?_
 refine u_one (i:=13) rfl Yhf ?_
 ((with_reducible apply s_storeB);exact rfl;(conv=>lhs;whnf);exact hv51;exact(hb3.tr hS5 n3);exact rfl)
 intro u6 hb6 hf8 hs8
 replace hb6:Blk u6 b3 [iV (s.runs:Nat),v5,iV (s.ps.length:Nat),vc,vo] _:=hb6
 refine Yeo ?_
 have hk7':∀x∈blks v5,(x=b3\/w3.heap.size<=x)/\x≠b3:=fun x hx=>by
  rcases hk7 x hx with h|h
  .exact ⟨hkb x h,fun e=>hk3 (e▸h)⟩
  .exact ⟨.inr Yhd,by omega⟩
 refine q_roundK (i+1,v5) Yhb ⟨rfl,hlt,hb6,?_,fun x hx=>(hk7' x hx).1,fun hm=>(hk7' b3 hm).2 rfl,T++blks (Value.slice aok i ck)++[b3],?_,?_⟩ Yhm
 .simp only
  rw[fm_take hlt]
  exact ho5.tr hf8 (fun x hx hm=>(hk7' x hx).2 (List.mem_singleton.1 hm))
 .have h1:Fr (T++blks (Value.slice aok i ck)++[b3]) w3 u:=hFT.mono (fun x hx=>.inl Yim)
  have h2:=(h1.trans0 hF2).trans hS5 (fun x hx=>.inl Yim)
  exact h2.trans hf8 (fun x hx=>.inl (by simp[List.mem_singleton.1 hx]))
 .intro x hx
  simp only[List.mem_append,List.mem_singleton]at hx
  rcases hx with(hx|hx)|hx
  .exact hT x hx
  .exact hkb x hx
  .exact .inl hx
end Go.Proofs.YtggmccicdhnkgaaGreat
namespace Go.Rf
open Go.RowKit
variable{af:Array Edge}{f:Env}{l:List Br}{S:List Nat}{d n tb:Nat}{x:Operand}{P:Program}{ps:String}{u w:World}
theorem r_sliceFromC{ty:TypeId}{gd:Option (Nat×Bool)}{o:Operand}{t:Nat}{ao:Option Addr}{l c e size by_ j:Nat}{kk:IntKind}[R:RowT P t e size by_](hx:ev n f x=.slice ao l c)(ho:ev n f o=.int kk (j:Int))(hj:j<=l)(hl:l<=c):
 (execOp (ev n f) ⟨some d,.slice t x (some o) none none,ty,ps,af,gd⟩).run P w=.ok (.value (.slice (if c=j then ao else ao.map (·.add (j*size))) (l-j) (c-j))) w:=by
 exact Ycb
theorem r_assign{ty:TypeId}{gd:Option (Nat×Bool)}{v:Value}(hx:ev n f x=v):(execOp (ev n f) ⟨some d,.assign x,ty,ps,af,gd⟩).run P w=.ok (.value v) w:=by simp[execOp,hx]
theorem reachGo_len{ds:List De}(hz:∀d∈ds,SzD d):∀(f:Nat) (s:List ByteArray×List De),(∀d∈s.2,d∈ds)->(reachGo ds f s).length<=f*11000
 |0,_,_=>by simp[reachGo]
 |f+1,(seen,[]),_=>by simp[reachGo]
 |f+1,(seen,d::q),h=>by
  have h1:=reachGo_len hz f ((nodesEs (partsD d)).foldl (rstE ds) (seen,q)) (rstE_foldsub (fun x hx=>h x (by simp at hx ⊢;exact .inr hx)))
  have h2:=(hz d (h d Yhi)).brs
  rw[reachGo,List.length_append]
  omega
theorem reach_len{ds:List De}{nm:ByteArray}(hz:∀d∈ds,SzD d):(setL ltB (reachD ds nm)).length<=(ds.length+2)*11000:=by
 have h:=setL_len (lt:=ltB) (l:=reachD ds nm)
 refine Nat.le_trans h ?_
 unfold reachD
 cases hr:rootD ds nm with
 |none=>simp
 |some d=>exact reachGo_len hz _ _ (fun x hx=>by rw[List.mem_singleton.1 hx];exact List.mem_of_find?_eq_some hr)
theorem own_drS{v:Value}(h:Own u tb 3 v l.length (l.flatMap brV))(hl:l.length<=1000000000000)(hS:∀x∈blks v,x∉S):DR u S (.l (l.map brC)) v:=by
 refine DR.ofTyped (k:=3) (fun _=>rfl) hl ⟨l.flatMap brV,h.src,fun ad n c e _ hm=>?_,?_⟩
 .subst e;exact hS ad.block Yhs hm
 .clear h hl
  exact Ycn
theorem src_dr{v:Value}(h:Src u v l.length (l.flatMap brV))(hl:l.length<=1000000000000)(hS:∀x∈blks v,x∉S):DR u S (.l (l.map brC)) v:=by
 refine DR.ofTyped (k:=3) (fun _=>rfl) hl ⟨l.flatMap brV,h,fun ad n c e _ hm=>?_,?_⟩
 .subst e;exact hS ad.block Yhs hm
 .clear h hl
  exact Ycn
theorem ints_drS{l:List Int}{v:Value}(h:Own u tb 1 v l.length (l.map (Value.int .i64)))(hl:l.length<=1000000000000)(hS:∀x∈blks v,x∉S):DR u S (.l (l.map intR)) v:=by
 refine DR.ofTyped (k:=1) (fun _=>rfl) hl ⟨l.map (Value.int .i64),h.src,fun ad n c e _ hm=>?_,?_⟩
 .subst e;exact hS ad.block Yhs hm
 .clear h hl
  induction l with
  |nil=>exact .nil
  |cons a l ih=>exact Rws.cons (cs:=[.int .i64 a]) (RD.c1 rfl .nil) ih
def eB(n:Int):Ex:=⟨1,bst [],n,[],[],[],0⟩
def eI:Ex:=⟨6,bst [],0,[],[],[eB 1,eB 1,eB 0],0⟩
def dP:De:=⟨3,bst [112],0,[],[],⟨0,bst [],[]⟩,⟨0,bst [],0,[],[],[],0⟩,0,⟨0,bst [],[],[],[],0⟩,[],[⟨bst [99],eI⟩],[],[],⟨0,bst [],[]⟩,⟨0,bst [],0,[],[],[],0⟩,[],[],⟨0,bst [],0,[],[],[],0⟩⟩
def bP(i:Int):Br:=⟨bst [112],0,i⟩
theorem reachP:setL ltB (reachD [dP] (bst [112]))=[bP 0,bP 1]:=by
 have h1:rootD [dP] (bst [112])=some dP:=by unfold rootD;simp[dP]
 have h2:reachD [dP] (bst [112])=[bP 0,bP 1]:=by
  unfold reachD
  rw[h1]
  rfl
 rw[h2]
 refine setL_of totB ?_ (fun y=>Iff.rfl)
 have:ltB (bP 0) (bP 1)=true:=by
  unfold ltB cmpB
  simp[bP,cmpS,bl_irr,cmpI]
 simpa[Asc]using this
theorem szP:∀d∈[dP],SzD d:=fun d hd=>by
 rw[List.mem_singleton.1 hd]
 refine⟨by decide,by decide,by decide,by decide,by decide⟩
end Go.Rf
namespace Go.Proofs.YtggmccicdhnkgaaGreat
open Go.Proofs.Tryz
open Go.Rf Go.RowKit
attribute [local irreducible] Code.wp wpList Exit.then Exit.inBlock bodyPost A Calls execOp Addr.add
theorem ownC(k a c:Int){aob aol:Option Addr}{nb cb nl cl:Nat}(vb vl:Value)(w:World)(hvb:vb=.slice aob nb cb)(hvl:vl=.slice aol nl cl):
 Calls prog 13 #[.agg ([iV k,iV a,iV c,vb,vl]:List Value).toArray] w fun e w'=>e=.returned (.agg ([iV k,iV a,iV c,vb,vl,zI]:List Value).toArray)/\Fr [] w w':=by
 subst hvb hvl
 refine enter func13 rfl ntmps13 rfl ?_
 refine rx ?_
 refine s_box (l:=[iV k,iV a,iV c,.slice aob nb cb,.slice aol nl cl]) rfl rfl (fun w1 h1 hf1 hs1=>?_)
 refine rx ?_
 refine s_allocN (l:=[zI,zI,zI,zS,zS,zI]) rfl (fun w2 b2 hb2 h2 hf2 hs2=>?_)
 have h1:=h1.tr0 hf2
 refine rx ?_
 refine s_build [iV k,iV a,iV c,.slice aob nb cb,.slice aol nl cl,zI] rfl ?_
 refine rx ?_
 refine s_storeAggB (cs:=[iV k,iV a,iV c,.slice aob nb cb,.slice aol nl cl,zI]) rfl rfl h2 Yhk rfl rfl (fun w3 h3 hf3 hs3=>?_)
 refine rx ?_
 refine retB rfl rfl h3 rfl ⟨rfl,(hf1.trans0 hf2).trans hf3 (fun x hx=>.inr Yhg)⟩
set_option maxHeartbeats 32000000 in
theorem livesC(w:World):Calls prog 20 #[] w fun e w'=>e=.returned (.bool true)/\Fr [] w w':=by
 refine enter func20 rfl ntmps20 rfl ?_
 refine rx ?_
 refine s_build [iV 1,zT,iV 1,zS,zS,zS,zI] rfl ?_
 refine rx ?_
 refine s_build [iV 1,zT,iV 1,zS,zS,zS,zI] rfl ?_
 refine rx ?_
 refine s_build [iV 1,zT,zI,zS,zS,zS,zI] rfl ?_
 refine rx ?_
 refine s_rows3 (c1:=[iV 1,zT,iV 1,zS,zS,zS,zI]) (c2:=[iV 1,zT,iV 1,zS,zS,zS,zI]) (c3:=[iV 1,zT,zI,zS,zS,zS,zI]) rfl rfl rfl rfl rfl rfl rfl (fun w1 q1 hq1 ho1 hf1 hs1=>?_)
 refine rx ?_
 refine s_build [iV 6,zT,zI,zS,zS,.slice (some ⟨q1,0,none⟩) 3 3,zI] rfl ?_
 have hE:∀{u:World},Fr [] w1 u->RD u [] (exC eI) [iV 6,zT,zI,zS,zS,.slice (some ⟨q1,0,none⟩) 3 3,zI]:=fun{u} hf=>by
  refine exR.2 ⟨_,_,_,rfl,DR.nil,DR.nil,?_⟩
  refine DR.ofTyped (k:=7) (fun _=>exC_len _) Yho ⟨_,(ho1.tr0 hf).src,fun ad n c e _ hm=>by simp at hm,?_⟩
  have hB:∀n,RD u [] (exC (eB n)) [iV 1,zT,iV n,zS,zS,zS,zI]:=fun n=>exR.2 ⟨_,_,_,rfl,DR.nil,DR.nil,DR.nil⟩
  exact Rws.cons (cs:=[_,_,_,_,_,_,_]) (hB 1) (Rws.cons (cs:=[_,_,_,_,_,_,_]) (hB 1) (Rws.cons (cs:=[_,_,_,_,_,_,_]) (ys:=[]) (hB 0) .nil))
 refine rx ?_
 refine s_allocN (l:=[zI,zT,zI,zS,zS,zS,zI]) rfl (fun w2 b2 hb2 h2 hf2 hs2=>?_)
 refine rx ?_
 refine s_storeAggB (cs:=[iV 6,zT,zI,zS,zS,.slice (some ⟨q1,0,none⟩) 3 3,zI]) rfl rfl h2 Yhk rfl rfl (fun w3 h3 hf3 hs3=>?_)
 have hF3:Fr [] w1 w3:=hf2.trans hf3 (fun x hx=>.inr Yhg)
 refine rx ?_
 refine s_build [.string (bst [99]),iV 6,zT,zI,zS,zS,.slice (some ⟨q1,0,none⟩) 3 3,zI] rfl ?_
 refine rx ?_
 refine s_rows1 (c1:=[.string (bst [99]),iV 6,zT,zI,zS,zS,.slice (some ⟨q1,0,none⟩) 3 3,zI]) rfl rfl rfl (fun w4 q4 hq4 ho4 hf4 hs4=>?_)
 refine rx ?_
 refine s_build [iV 3,.string (bst [112]),zI,zS,zS,zI,zT,zS,zI,zT,zI,zS,zS,zS,zI,zI,zI,zT,zS,zS,zS,zI,zS,.slice (some ⟨q4,0,none⟩) 1 1,zS,zS,zI,zT,zS,zI,zT,zI,zS,zS,zS,zI,zS,zS,zI,zT,zI,zS,zS,zS,zI] rfl ?_
 refine rx ?_
 refine s_rows1 (c1:=[iV 3,.string (bst [112]),zI,zS,zS,zI,zT,zS,zI,zT,zI,zS,zS,zS,zI,zI,zI,zT,zS,zS,zS,zI,zS,.slice (some ⟨q4,0,none⟩) 1 1,zS,zS,zI,zT,zS,zI,zT,zI,zS,zS,zS,zI,zS,zS,zI,zT,zI,zS,zS,zS,zI]) rfl rfl rfl (fun w5 q5 hq5 ho5 hf5 hs5=>?_)
 have hD:∀{u:World},Fr [] w5 u->DR u [] (.l ([dP].map deC)) (.slice (some ⟨q5,0,none⟩) 1 1):=fun{u} hf=>by
  refine DR.ofTyped (k:=45) (fun _=>deC_len _) Yho ⟨_,(ho5.tr0 hf).src,fun ad n c e _ hm=>by simp at hm,?_⟩
  refine Rws.cons (cs:=[iV 3,.string (bst [112]),zI,zS,zS,zI,zT,zS,zI,zT,zI,zS,zS,zS,zI,zI,zI,zT,zS,zS,zS,zI,zS,.slice (some ⟨q4,0,none⟩) 1 1,zS,zS,zI,zT,zS,zI,zT,zI,zS,zS,zS,zI,zS,zS,zI,zT,zI,zS,zS,zS,zI]) (ys:=[]) ?_ .nil
  have hck:DR u [] (.l (dP.checks.map ckC)) (.slice (some ⟨q4,0,none⟩) 1 1):=by
   refine DR.ofTyped (k:=8) (fun _=>ckC_len _) Yho ⟨_,((ho4.tr0 hf5).tr0 hf).src,fun ad n c e _ hm=>by simp at hm,?_⟩
   exact Rws.cons (cs:=[_,_,_,_,_,_,_,_]) (ys:=[]) (RD.c1 rfl (hE (((hF3.trans0 hf4).trans0 hf5).trans0 hf))) .nil
  have hz:=fun{ds':List Dt} {vs:List Value} (x:Value) (hx:x.oneCell'=true) (h:RD u [] ds' vs)=>RD.c1 hx h
  have hn:=fun{ds':List Dt} {vs:List Value} (h:RD u [] ds' vs)=>RD.cons (DR.nil (w:=u) (S:=[])) h
  exact(hz (iV 3) rfl (hz (.string (bst [112])) rfl (hz (zI) rfl (hn (hn (hz (zI) rfl (hz (zT) rfl (hn (hz (zI) rfl (hz (zT) rfl (hz (zI) rfl (hn (hn (hn (hz (zI) rfl (hz (zI) rfl (hz (zI) rfl (hz (zT) rfl (hn (hn (hn (hz (zI) rfl (hn (RD.cons hck (hn (hn (hz (zI) rfl (hz (zT) rfl (hn (hz (zI) rfl (hz (zT) rfl (hz (zI) rfl (hn (hn (hn (hz (zI) rfl (hn (hn (hz (zI) rfl (hz (zT) rfl (hz (zI) rfl (hn (hn (hn (hz (zI) rfl .nil)))))))))))))))))))))))))))))))))))))))))))))
 refine rx ?_
 refine s_build [.slice (some ⟨q5,0,none⟩) 1 1] rfl ?_
 refine rx ?_
 refine s_allocN (l:=[zS]) rfl (fun w6 b6 hb6 h6 hf6 hs6=>?_)
 refine rx ?_
 refine s_storeAggB (cs:=[.slice (some ⟨q5,0,none⟩) 1 1]) rfl rfl h6 Yhk rfl rfl (fun w7 h7 hf7 hs7=>?_)
 have hF7:Fr [] w5 w7:=hf6.trans hf7 (fun x hx=>.inr Yhg)
 have hW7:Fr [] w w7:=(((hf1.trans0 hF3).trans0 hf4).trans0 hf5).trans0 hF7
 refine rx ?_
 refine s_c1 (reachC [dP] (bst [112]) (.slice (some ⟨q5,0,none⟩) 1 1) w7 [] szP Yho (hD hF7)) ?_
 rintro va w8 ⟨hA,hf8⟩
 have h7:=h7.tr0 hf8
 rw[reachP]at hA
 refine rx ?_
 refine s_call (newC [dP] (bst [112]) (.slice (some ⟨q5,0,none⟩) 1 1) w8 [] szP Yho (hD (hF7.trans0 hf8))) rfl ?_
 rintro _ w9 ⟨hf9,hn⟩
 have hfd:fdD [dP] 3 (bst [112])=some dP:=by unfold fdD;simp[dP]
 rw[hfd,reachP]at hn
 obtain⟨p,M,R,rfl,hC,hMR⟩:=hn
 refine⟨_,rfl,?_⟩
 have hAlt:=hA.1.lt
 have hA:=hA.tr0 hf9
 obtain⟨aoa,ca,eva⟩:=hA.1.slice
 replace eva:va=.slice aoa 2 ca:=eva
 subst eva
 replace hA:BO w7 50 w9 [bP 0,bP 1] (.slice aoa 2 ca):=hA
 have hMa:∀x∈blks (.slice aoa 2 ca),x∉M:=fun x hx hm=>by
  have h1:=hMR x (by simp[hm])
  have h2:=hAlt x hx
  omega
 have hMa0:∀x∈blks (.slice aoa 2 ca),x∉([]:List Nat):=by simp
 have hsrc:Src w9 (.slice aoa 2 ca) 2 ([bP 0,bP 1].flatMap brV):=hA.1.src
 obtain⟨hca⟩:Nonempty (2<=ca):=by obtain⟨_,_,e,h,_⟩:=hsrc;simp only[Value.slice.injEq]at e;obtain⟨_,_,rfl⟩:=e;exact⟨h⟩
 replace hC:CovM w9 p M R ⟨bst [112],1,0,[bP 0,bP 1]⟩ (stOf 0 []):=hC
 refine rx ?_
 refine s_run (r_sliceTo (l:=2) (c:=ca) (k:=1) (kk:=.i64) rfl rfl Yhd) ?_
 refine rx ?_
 refine s_build [zI,zI,zI,.slice aoa 1 ca,zS,zI] rfl ?_
 have dr0:∀{u:World} {S:List Nat},Src u (.slice aoa 2 ca) 2 ([bP 0,bP 1].flatMap brV)->(∀x∈blks (.slice aoa 2 ca),x∉S)->DR u S (.l ([bP 0].map brC)) (.slice aoa 1 ca):=fun{u S} h hS=>src_dr (l:=[bP 0]) (Src.to (k:=1) (size:=3) h Yho) Yho (fun x hx=>hS x (by cases aoa<;>simpa[blks,Value.ownBlock]using hx))
 have dr1:∀{u:World} {S:List Nat},Src u (.slice aoa 2 ca) 2 ([bP 0,bP 1].flatMap brV)->DR u [] (.l ([bP 1].map brC)) (.slice (if ca=1 then aoa else aoa.map (·.add (1*3))) 1 (ca-1)):=fun{u S} h=>src_dr (l:=[bP 1]) (Src.cut (j:=1) (k:=2) (size:=3) h rfl Yho Yho) Yho Yhi
 refine rx ?_
 refine s_call (addC ⟨0,0,0,[bP 0],[]⟩ (.slice aoa 1 ca) (zS) w9 (S:=M) hC (fun x hx=>hx) (dr0 hsrc hMa) DR.nil Yho Yho) rfl ?_
 intro _ w10 hadd
 rw[if_pos (show fitsR ⟨bst [112],1,0,[bP 0,bP 1]⟩ ⟨0,0,0,[bP 0],[]⟩=true from rfl)]at hadd
 obtain⟨rfl,hC,hf10⟩:=hadd
 refine⟨_,rfl,?_⟩
 have hFn:Fr [] w w10:=((hW7.trans0 hf8).trans0 hf9).trans hf10 (fun x hx=>.inr (by have:=hMR x Yim;have h1:=hW7.size;have h2:=hf8.size;omega))
 have hne:bP 1≠bP 0:=by simp[bP]
 obtain⟨s1,hs1e⟩:=exq (stAdd (stOf 0 []) ⟨0,0,0,[bP 0],[]⟩)
 rw[<-hs1e]at hC
 have hc0:s1.cnt (bP 0)=1:=by rw[hs1e];simp[stAdd,stOf,b2n]
 have hc1:s1.cnt (bP 1)=0:=by rw[hs1e];simp[stAdd,stOf,b2n,hne]
 replace hsrc:=hsrc.tr hf10 (fun ad n c e _=>hMa ad.block (by cases e;simp[blks,Value.ownBlock]))
 refine rx ?_
 refine s_c1 (missC w10 hC Yho) ?_
 rintro vm w11 ⟨hB,hf11⟩
 have hms:missR ⟨bst [112],1,0,[bP 0,bP 1]⟩ s1=[bP 1]:=by unfold missR;simp[hc0,hc1]
 rw[hms]at hB
 have hC:=hC.tr0 hf11
 have hsrc:=hsrc.tr0 hf11
 obtain⟨aom,cm,eva⟩:=hB.1.slice
 replace eva:vm=.slice aom 1 cm:=eva
 subst eva
 replace hB:BO w10 50 w11 [bP 1] (.slice aom 1 cm):=hB
 obtain⟨adm,hadm,hcm⟩:=src_rows brV_l3 (l:=[bP 1]) (m:=1) (i:=0) hB.1.src Yho Yho
 obtain⟨ada,hada,hca1⟩:=src_rows brV_l3 (l:=[bP 0,bP 1]) (i:=1) hsrc Yho Yho
 subst hadm hada
 have hcm:Cells w11 (adm.add (0*3)) [.string (bst [112]),zI,iV 1]:=hcm
 have hca1:Cells w11 (ada.add (1*3)) [.string (bst [112]),zI,iV 1]:=hca1
 refine rx ?_
 refine d_begin (fun z=>Fr [] w11 z) Yhf rfl ?_
 obtain⟨w12,hw12⟩:=exq w11.drew
 rw[<-hw12]
 have hS:Fr [] w11 w12:=hw12▸Fr.drew _ _
 refine Ygx ?_
 refine d_ty 5 hS ?_ (hrun:=by(intro u hu;exact(r_indexAddr (j:=0) rfl rfl rfl Yhd rfl)))
 refine d_z2 6 7 hS ?_
 refine d_ty 8 hS ?_ (hrun:=by(intro u hu;exact(r_indexAddr (j:=1) rfl rfl rfl Yhd rfl)))
 refine d_z 9 hS ?_
 refine d_ty 10 hS ?_ (hrun:=by(intro u hu;exact(r_eqlB (a:=bP 1) (b:=bP 1) rfl rfl (decide_eq_true rfl))))
 refine d_z4 11 12 13 14 hS ?_
 refine d_ty 15 hS ?_ (hrun:=by(intro u hu;exact(r_sliceTo (k:=1) (kk:=.i64) rfl rfl Yhd)))
 refine d_ty 16 hS ?_ (v:=.agg (([zI,zI,zI,.slice (some ada) 1 ca,zS,zI])).toArray) (hrun:=by(intro u hu;exact r_build (([zI,zI,zI,.slice (some ada) 1 ca,zS,zI])) Yia))
 refine d_one (i:=17) rfl Yhf ?_
 refine rx ?_
 refine s_cE (freshC ⟨0,0,0,[bP 0],[]⟩ (.slice (some ada) 1 ca) (zS) w12 (S:=[]) (hC.tr0 hS) (dr0 (hsrc.tr0 hS) Yhi) DR.nil) ?_
 rintro w13 hf13
 have hS:=hS.trans0 hf13
 refine Yfo ?_
 have hr0:(fitsR ⟨bst [112],1,0,[bP 0,bP 1]⟩ ⟨0,0,0,[bP 0],[]⟩&&freshR s1 ⟨0,0,0,[bP 0],[]⟩)=false:=by
  have:freshR s1 ⟨0,0,0,[bP 0],[]⟩=false:=by unfold freshR;simp[hc0,pairsL]
  rw[this,Bool.and_false]
 have hr1:(fitsR ⟨bst [112],1,0,[bP 0,bP 1]⟩ ⟨0,0,0,[bP 1],[]⟩&&freshR s1 ⟨0,0,0,[bP 1],[]⟩)=true:=by
  have:freshR s1 ⟨0,0,0,[bP 1],[]⟩=true:=by unfold freshR;simp[hc1]
  rw[this,Bool.and_true];rfl
 rw[hr0]
 refine d_z4 18 19 20 21 hS ?_;refine d_z 22 hS ?_
 refine d_ty 23 hS ?_ (hrun:=by(intro u hu;exact(r_sliceFromC (j:=1) (kk:=.i64) rfl rfl Yhd Yhd)))
 refine d_ty 24 hS ?_ (v:=.agg (([zI,zI,zI,.slice (if ca=1 then some ada else(some ada).map (·.add (1*3))) 1 (ca-1),zS,zI])).toArray) (hrun:=by(intro u hu;exact r_build (([zI,zI,zI,.slice (if ca=1 then some ada else(some ada).map (·.add (1*3))) 1 (ca-1),zS,zI])) Yia))
 refine d_one (i:=25) rfl Yhf ?_
 refine rx ?_
 refine s_cE (freshC ⟨0,0,0,[bP 1],[]⟩ (.slice (if ca=1 then some ada else(some ada).map (·.add (1*3))) 1 (ca-1)) (zS) w13 (S:=[]) (hC.tr0 hS) (dr1 (S:=[]) (hsrc.tr0 hS)) DR.nil) ?_
 rintro w14 hf14
 have hS:=hS.trans0 hf14
 refine Yfo ?_
 rw[hr1]
 refine d_z 26 hS ?_
 refine d_tx 27 hS ?_ (hrun:=by(intro u hu;exact(r_assign rfl)))
 refine Yfp ?_
 refine Yei ?_
 exact⟨rfl,(hFn.trans0 hf11).trans0 hS⟩
end Go.Proofs.YtggmccicdhnkgaaGreat
namespace Go.Rf
open Go.RowKit
variable{n:Nat}{P:Pp}{s:St}
theorem r_eqlBC{P:Program}{f:Env}{w:World}{d:Nat}{ty:TypeId}{ps:String}{af:Array Edge}{gd:Option (Nat×Bool)}{x y:Operand}{t t2:Nat}{a b p:Bool}(hu:P.underlying t=some .bool)(hx:ev n f x=.bool a)(hy:ev n f y=.bool b)(hp:(a==b)=p):
 (execOp (ev n f) ⟨some d,.binOp .eql t x y t2,ty,ps,af,gd⟩).run P w=.ok (.value (.bool p)) w:=by
 exact Ybn
theorem clsOk_sorted{m:List Nat}(hp:m.Pairwise (· < ·))(hb:∀x∈m,x<n):clsOk n (m.map (fun(i:Nat)=>(i:Int)))=true:=by
 refine clsOk_true (fun j hj=>?_)
 rw[List.length_map]at hj
 unfold clsAt
 rw[getD_at (by rw[List.length_map];exact hj),List.getElem_map]
 refine decide_eq_true ⟨by omega,?_,fun h0=>?_⟩
 .have:=hb m[j] (List.getElem_mem hj);omega
 .rw [getD_at (by rw[List.length_map];omega),List.getElem_map]
  have:=List.pairwise_iff_getElem.1 hp (j-1) j Yhd hj Yhd
  omega
theorem fresh_added{r:Rn}(hs:s.cls.length=P.ncls)(hr:fitsR P r=true):freshR (stAdd s r) r=false:=by
 unfold fitsR at hr
 rw[Bool.and_eq_true]at hr
 unfold freshR
 rw[Bool.or_eq_false_iff,Bool.or_eq_false_iff]
 refine⟨⟨?_,?_⟩,?_⟩
 .rw [List.any_eq_false]
  intro x hx
  have hin:=cls_in hr.2 hx
  obtain⟨j,hj⟩:∃j:Nat,(j:Int)=x:=⟨x.toNat,Int.toNat_of_nonneg hin.1⟩
  rw[<-hj,Int.toNat_natCast]
  have hjl:j<(stAdd s r).cls.length:=by show j<(s.cls.mapIdx _).length;rw[List.length_mapIdx];omega
  rw[getD_at hjl]
  simp only[stAdd,List.getElem_mapIdx,b2n]
  rw[show decide ((j:Int)∈r.cl)=true from decide_eq_true (by rw[hj];exact hx)]
  simp
 .rw [List.any_eq_false]
  intro x hx
  simp[stAdd,b2n,hx]
 .rw [List.any_eq_false]
  intro x hx
  simp[stAdd,mem_setL totP,hx]
theorem fresh_nil{k a c:Int}:freshR s ⟨k,a,c,[],[]⟩=false:=by simp[freshR,pairsL]
theorem stOf_ks_len{m:Nat}{rs:List Rn}(h:∀r∈rs,r.bs.length<=m):(stOf n rs).ks.length<=m*rs.length:=by
 refine Nat.le_trans (setL_len (lt:=ltB)) ?_
 induction rs with
 |nil=>simp
 |cons r rs ih=>
  rw[List.flatMap_cons,List.length_append,List.length_cons,Nat.mul_succ]
  have h1:=h r Yhi
  have h2:=ih (fun x hx=>h x Yim)
  omega
theorem miss_iff(hs:StOk P s){b:Br}(hb:b∈P.reach):b∈missR P s↔b∉s.ks:=by
 unfold missR
 rw[List.mem_filter,decide_eq_true_eq,<-hs.cnt b]
 simp[hb]
end Go.Rf
namespace Go.Proofs.YtggmccicdhnkgaaGreat
open Go.Proofs.Tryz
open Go.Rf Go.RowKit
variable{at_:Int}{l:List Int}{i:Nat}{P:Pp}
theorem someR_fits:fitsR P (someR P l at_ false)=true:=by
 obtain⟨k,hk⟩:=exq (pk l at_ 1000000)
 have h0:∀{q:Prop} [Decidable q],¬((false=true)/\q):=fun h=>by cases h.1
 refine fits_yes ?_ ?_
 .unfold outOk someR
  rw[if_neg h0,if_neg h0,<-hk]
  refine decide_eq_true ?_
  simp only
  unfold sKd sAt
  by_cases c:0<k/6%3/\0<P.checks
  .rw [if_pos c,if_pos c]
   have h1:=Int.emod_nonneg (k/18) (show(P.checks:Int)≠0 by omega)
   have h2:=Int.emod_lt_of_pos (k/18) (show(0:Int)<P.checks by omega)
   refine⟨by omega,by omega,fun h=>by omega,fun _=>⟨h1,h2⟩,?_⟩
   by_cases e:k/6%3=2<;>simp[e]
  .rw [if_neg c,if_neg c]
   simp
 .unfold someR
  simp only[Bool.false_eq_true,false_and,if_false,List.append_nil]
  unfold someCl
  refine clsOk_sorted (List.Pairwise.filter _ List.pairwise_lt_range) (fun x hx=>?_)
  exact List.mem_range.1 (List.mem_filter.1 hx).1
theorem someR_bs{b:Bool}:(someR P l at_ b).bs.length<=5:=by
 have hkr:=pk_range (l:=l) (i:=at_) (m:=1000000) Yho
 show(someB P l at_ _).length<=5
 rw[someB_len]
 omega
theorem someR_cl{b:Bool}:(someR P l at_ b).cl.length<=P.ncls+1:=by
 have h:=someCl_len (l:=l) (at_:=at_) (m:=P.ncls)
 show(someCl l at_ P.ncls++_).length<=_
 rw[List.length_append]
 split<;>simp<;>omega
theorem pp_sizes{ds:List De}{nm:ByteArray}{d:De}(hm:MD ds)(hf:fdD ds 3 nm=some d):(ppOf ds nm d).checks<=16/\(ppOf ds nm d).ncls<=16/\(ppOf ds nm d).reach.length<=253000:=by
 obtain⟨hd,hk,_⟩:=fdD_mem hf
 have hl:=(hm.2.1 d hd).1
 unfold limD at hl
 rw[if_neg Yhd,if_neg Yhd,if_neg Yhd,if_pos hk]at hl
 simp only[Bool.or_eq_false_iff]at hl
 have h1:=hl.2.1
 have h2:=hl.2.2.1
 unfold limCk at h1 h2
 simp only[Bool.or_eq_false_iff]at h1 h2
 have hb:∀n,ltN 16 n=false->n<=16:=fun n h=>Nat.le_of_not_lt (fun hh=>by unfold ltN at h;rw[Nat.blt_eq.mpr hh]at h;cases h)
 have h1:=hb _ h1.1
 have h2:=hb _ h2.1
 have h3:=reach_len (nm:=nm) hm.sz
 have h4:=hm.len
 refine⟨?_,?_,?_⟩
 .show d.checks.length<=16;omega
 .show d.classes.length<=16;omega
 .show (setL ltB (reachD ds nm)).length<=253000;omega
def fRs(P:Pp)(l:List Int)(i:Nat):List Rn:=(List.range i).map (fun(j:Nat)=>someR P l (12*j) false)
theorem fRs_succ:fRs P l (i+1)=fRs P l i++[someR P l (12*i) false]:=by
 unfold fRs
 rw[List.range_succ,List.map_append];rfl
theorem fRs_len:(fRs P l i).length=i:=by simp[fRs]
theorem fRs_bs:∀r∈fRs P l i,r.bs.length<=5:=fun r hr=>by
 obtain⟨j,_,rfl⟩:=List.mem_map.1 hr
 exact someR_bs
attribute [local irreducible] Code.wp wpList Exit.then Exit.inBlock bodyPost A Calls execOp Addr.add
set_option maxHeartbeats 32000000 in
theorem coverFresh_walk(x:Value)(l:List Int)(y:Value)(ms:List Int)(k:Int)(w:World)(hx:Src w x l.length (l.map (.int .i64)))(hl:∀n∈l,InI64 n)(hy:Src w y ms.length (ms.map (.int .i64)))(hms:∀n∈ms,InI64 n)(hk:InI64 k):
 Calls prog 3 #[x,y,iV k] w fun e w'=>e=.returned (.bool true)/\Fr [] w w':=by
 obtain⟨ax,cx,rfl,_⟩:=id hx
 obtain⟨ay,cy,rfl,_⟩:=id hy
 refine enter func3 rfl ntmps3 rfl ?_
 refine rx ?_
 refine s_c2 (moduleC _ l w hx hl) ?_
 rintro ds v w1 ⟨hD,hf1,hm⟩
 obtain⟨av,cv,rfl,_⟩:=hD.slice
 refine rx ?_
 refine s_allocN (l:=[zS]) rfl (fun w2 b7 hb7 h7 hf2 hs2=>?_)
 refine rx ?_
 refine s_storeAggB (cs:=[.slice av (ds.map deC).length cv]) rfl rfl h7 Yhk rfl rfl (fun w3 h7 hf3 hs3=>?_)
 have hf13:Fr [] w1 w3:=hf2.trans hf3 (fun x hx=>.inr Yhg)
 have hD:=hD.tr0 hf13
 have hF3:=hf1.trans0 hf13
 refine rx ?_
 refine s_call (beginC ds k _ w3 _ hk hm hD) rfl ?_
 rintro _ w4 ⟨d,p,M,R,q,N,T,hfd,rfl,hC,hQ,hMR,hNT,hdis,hf4⟩
 refine⟨_,rfl,?_⟩
 obtain⟨nm,hnm⟩:=exq (propN ds k)
 rw[<-hnm]at hfd hC hQ
 obtain⟨hpc,hpn,hpr⟩:=pp_sizes hm hfd
 obtain⟨P,hP⟩:=exq (ppOf ds nm d)
 have hPr:P.reach=setL ltB (reachD ds nm):=by rw[hP];rfl
 have hPn:d.classes.length=P.ncls:=by rw[hP];rfl
 rw[<-hP]at hC hQ hpc hpn hpr
 rw[hPn]at hC
 clear hP
 have hF4:=hF3.trans0 hf4
 have hs3':=hF3.size
 have h7:=h7.tr0 hf4
 have hD:=hD.tr0 hf4
 refine rx ?_
 refine d_begin (fun z=>Fr [] w4 z) Yhf rfl ?_
 obtain⟨w5,hw5⟩:=exq w4.drew
 rw[<-hw5]
 have hS:Fr [] w4 w5:=hw5▸Fr.drew _ _
 refine d_z2 0 1 hS ?_;refine d_z 2 hS ?_
 refine d_one (i:=3) rfl Yhf ?_
 refine rx ?_
 refine s_cE (propC ds k _ w5 _ hk hm.props (by have:=hm.len;omega) (hD.tr0 hS)) ?_
 rintro w6 hf6
 have hS:=hS.trans0 hf6
 refine Yfo ?_
 refine Ygi ?_
 refine rx ?_
 refine s_c1 (reachC ds _ _ w6 _ hm.sz (by have:=hm.len;omega) (hD.tr0 hS)) ?_
 rintro vr w7 ⟨hB,hf7⟩
 have hS:=hS.trans0 hf7
 refine Yfo ?_
 refine d_tx 5 hS ?_ (hrun:=by(intro u hu;exact(r_assign rfl)))
 refine Yfp ?_
 rw[<-hnm,<-hPr]at hB
 have hMlt:∀x∈M,x<w4.heap.size:=fun x hx=>hC.lt x (List.mem_append.2 (.inl hx))
 have hC:=hC.tr0 hS
 have hQM:=hQ.tr0 hS
 have hF7:=hF4.trans0 hS
 have hs46:w4.heap.size<=w6.heap.size:=by
  have h3:=hf6.size
  have h4:w4.heap.size<=w5.heap.size:=hw5▸(Fr.drew [] w4).size
  omega
 clear hQ h7 hD
 obtain⟨aor,cr,rfl⟩:=hB.1.slice
 have hsz7:=hF7.size
 have hMn:∀x∈M,w.heap.size<=x:=fun x hx=>by have:=hMR x Yim;omega
 have hM7:∀x∈M,x<w7.heap.size:=fun x hx=>by have h1:=hMlt x hx;have h2:=hS.size;have h3:w4.heap.size<=w5.heap.size:=hw5▸(Fr.drew [] w4).size;have:=hf7.size;omega
 have hBM:∀x∈blks (Value.slice aor P.reach.length cr),x∉M:=fun x hx hm=>by have h1:=hB.2 x hx;have h2:=hMlt x hm;omega
 have hqM:∀{u:World},Fr M w7 u->RcV u q P []:=fun{u} hf=>by
  obtain⟨vr',vs',xs,e1,e2,_,_,e3,e4,e5,e6⟩:=hQM
  have hoff:∀x∈N++T,x∉M:=fun x hx hm=>hdis x hx (by simp[hm])
  have hxs:xs=[]:=by cases e6;rfl
  subst hxs
  exact⟨vr',vs',e3.tr hf (hoff q (by rw[e1];simp)),own_dr (e4.tr hf (fun x hx=>hoff x (by rw[e2];simp[hx]))) Yhd,DR.ofTyped (k:=5) (fun _=>rfl) Yho ⟨[],(e5.tr hf (fun x hx=>hoff x (by rw[e1];simp[hx]))).src,fun ad n c e _ hm=>by simp at hm,.nil⟩⟩
 refine rx ?_
 refine c_loopK 13 [12] (σ:=Nat) (fun i g u=>g 12=iV (i:Nat)/\i<=5/\CovM u p M R P (stOf P.ncls (fRs P ms i))/\Fr M w7 u) (fun i=>5-i) 0 ⟨rfl,by decide,hC,Fr.refl _ _⟩ ?_
 clear hC
 rintro i g u ⟨g12,hi,hC,hF⟩
 rw[eq_upd g12]
 have hFw:Fr [] w u:=hF7.trans hF (fun x hx=>.inr (hMn x hx))
 by_cases hlt:i<5
 case neg=>
  refine rx ?_
  refine s_cE (livesC u) ?_
  rintro u1 hfu
  refine Yei ?_
  exact⟨rfl,hFw.trans0 hfu⟩
 have hvu:=hqM hF
 have hyu:=hy.tr0 hFw
 refine rx ?_
 refine s_c2 (someC _ ms (12*(i:Int)) false u hvu hyu hms Yhd Yhd) ?_
 rintro vb vl u1 ⟨hBo,hCl,hln,hfu1⟩
 have hfit:=someR_fits (P:=P) (l:=ms) (at_:=12*i)
 have hrb:=someR_bs (P:=P) (l:=ms) (at_:=12*i) (b:=false)
 have hrc:=someR_cl (P:=P) (l:=ms) (at_:=12*i) (b:=false)
 have hsu:=fRs_succ (P:=P) (l:=ms) (i:=i)
 obtain⟨r,hr⟩:=exq (someR P ms (12*i) false)
 rw[<-hr]at hBo hCl hfit hrb hrc hsu ⊢
 obtain⟨aob,cb,rfl⟩:=hBo.1.slice
 obtain⟨aol,cl,rfl⟩:=hCl.slice
 refine rx ?_
 refine s_cE (ownC r.kind r.at_ r.code (.slice aob r.bs.length cb) (.slice aol r.cl.length cl) u1 rfl rfl) ?_
 rintro u2 hfu2
 refine rx ?_
 refine s_allocN (l:=[zI,zI,zI,zS,zS,zI]) rfl (fun u3 b13 hb13 h13 hfu3 hsu3=>?_)
 refine rx ?_
 refine s_storeAggB (cs:=[iV r.kind,iV r.at_,iV r.code,.slice aob r.bs.length cb,.slice aol r.cl.length cl,zI]) rfl rfl h13 Yhk rfl rfl (fun u4 h13 hfu4 hsu4=>?_)
 have hf24:Fr [] u2 u4:=hfu3.trans hfu4 (fun x hx=>.inr Yhg)
 have hf14:=hfu2.trans0 hf24
 have hf04:=hfu1.trans0 hf14
 have hBo:=hBo.tr0 hf14
 have hCl:=hCl.tr0 hf14
 have hC:=hC.tr0 hf04
 have hsz0:=hF.size
 have hszu2:=(hfu1.trans0 hfu2).size
 have hbM:∀x∈blks (Value.slice aob r.bs.length cb),x∉M:=fun x hx hm=>by have h1:=hBo.2 x hx;have h2:=hM7 x hm;omega
 have hlM:∀x∈blks (Value.slice aol r.cl.length cl),x∉M:=fun x hx hm=>by have h1:=hln x hx;have h2:=hM7 x hm;omega
 have dB:∀{z:World} {S:List Nat},Fr M u4 z->(∀x∈S,x∈M)->DR z S (.l (r.bs.map brC)) (.slice aob r.bs.length cb):=fun{z S} hf hS=>own_drS (hBo.1.tr hf hbM) Yhd (fun x hx hm=>hbM x hx (hS x hm))
 have dL:∀{z:World} {S:List Nat},Fr M u4 z->(∀x∈S,x∈M)->DR z S (.l (r.cl.map intR)) (.slice aol r.cl.length cl):=fun{z S} hf hS=>ints_drS (hCl.tr hf hlM) Yhd (fun x hx hm=>hlM x hx (hS x hm))
 refine rx ?_
 refine s_call (addC r (.slice aob r.bs.length cb) (.slice aol r.cl.length cl) u4 (S:=M) hC (fun x hx=>hx) (dB (Fr.refl _ _) (fun x hx=>hx)) (dL (Fr.refl _ _) (fun x hx=>hx)) (by show(fRs P ms i).length<=1000000;rw[fRs_len];omega) Yhd) rfl ?_
 intro _ u5 hadd
 rw[if_pos hfit,<-stOf_add,<-hsu]at hadd
 obtain⟨rfl,hC,hfu5⟩:=hadd
 refine⟨_,rfl,?_⟩
 have hok:StOk P (stOf P.ncls (fRs P ms (i+1))):=by obtain⟨_,_,_,_,_,_,_,_,_,_,_,_,_,_,_,_,h⟩:=hC;exact h
 have hfr:freshR (stOf P.ncls (fRs P ms (i+1))) r=false:=by rw[hsu,stOf_add];exact fresh_added (by simp[stOf]) hfit
 have hruns:(stOf P.ncls (fRs P ms (i+1))).runs=i+1:=by show(fRs P ms (i+1)).length=_;rw[fRs_len]
 have hks:(stOf P.ncls (fRs P ms (i+1))).ks.length<=25:=by have:=stOf_ks_len (n:=P.ncls) (fRs_bs (P:=P) (l:=ms) (i:=i+1));rw[fRs_len]at this;omega
 have hcls:=hok.ncls
 obtain⟨s,hs⟩:=exq (stOf P.ncls (fRs P ms (i+1)))
 rw[<-hs]at hC hok hfr hruns hks hcls
 have h13:=h13.tr hfu5 (fun hm=>by have:=hM7 _ hm;omega)
 refine rx ?_
 refine s_cE (freshC r (.slice aob r.bs.length cb) (.slice aol r.cl.length cl) u5 (S:=[]) hC (dB hfu5 Yhi) (dL hfu5 Yhi)) ?_
 rintro u6 hfu6
 rw[hfr,Bool.and_false]
 have hC:=hC.tr0 hfu6
 refine rx ?_
 refine s_build [zI,zI,zI,zS,zS,zI] rfl ?_
 refine rx ?_
 refine s_cE (freshC ⟨0,0,0,[],[]⟩ (zS) (zS) u6 (S:=[]) hC DR.nil DR.nil) ?_
 rintro u7 hfu7
 rw[fresh_nil,Bool.and_false]
 have hC:=hC.tr0 hfu7
 refine rx ?_
 refine s_c1 (repC u7 hC Yhd Yhd) ?_
 rintro _ u8 ⟨_,⟨vk,vc,vo,rfl,hk4,hcc,hoo,hge⟩,hfu8⟩
 have hC:=hC.tr0 hfu8
 obtain⟨aok,ck,rfl⟩:=hk4.slice
 obtain⟨aoc,cc,rfl⟩:=hcc.slice
 obtain⟨aoo,co,rfl⟩:=hoo.slice
 refine rx ?_
 refine s_allocN (l:=[zI,zS,zI,zS,zS]) rfl (fun u9 b14 hb14 h14 hfu9 hsu9=>?_)
 refine rx ?_
 refine s_storeAggB (cs:=[iV (s.runs:Nat),.slice aok s.ks.length ck,iV (s.ps.length:Nat),.slice aoc s.cls.length cc,.slice aoo 3 co]) rfl rfl h14 Yhk rfl rfl (fun u10 h14 hfu10 hsu10=>?_)
 have hf810:Fr [] u8 u10:=hfu9.trans hfu10 (fun x hx=>.inr Yhg)
 have hk4:=hk4.tr0 hf810
 have hC:=hC.tr0 hf810
 have hF10:Fr M w7 u10:=((((hF.trans0 hf04).trans hfu5 (fun x hx=>.inl hx)).trans0 hfu6).trans0 hfu7).trans0 (hfu8.trans0 hf810)
 have hB10:=hB.1.tr hF10 hBM
 refine rx ?_
 refine c_loopK 17 [15,16] (σ:=Nat×Value) (fun s' g z=>g 15=s'.2/\g 16=iV (s'.1:Nat)/\s'.1<=s.ks.length/\BO u10 50 z (s.ks.take s'.1) s'.2/\Fr [] u10 z) (fun s'=>s.ks.length-s'.1) (0,zS) ⟨rfl,rfl,Nat.zero_le _,BO.nil,Fr.refl _ _⟩ ?_
 rintro⟨j,v⟩ g z ⟨g15,g16,hj,hA,hFz⟩
 simp only at g15 g16 hj hA
 rw[eq_upd g15,eq_upd g16]
 have h14:=h14.tr0 hFz
 have hkz:=hk4.tr0 hFz
 have htk:(s.ks.take j).length=j:=by rw[List.length_take];omega
 have hA1:=hA.1.one
 by_cases hjl:j<s.ks.length
 .obtain ⟨adk,hadk,hck⟩:=src_rows (ctV_l4 s.cnt) hkz.src hjl Yho
  subst hadk
  have hck3:Cells z (adk.add (j*4)) [.string s.ks[j].decl,iV s.ks[j].at_,iV s.ks[j].arm,iV (s.cnt s.ks[j]:Nat)]:=hck
  have hAlt:=hA.1.lt
  obtain⟨aov,cv',rfl⟩:=hA.1.slice
  rw[htk]at hA hA1 hAlt ⊢
  refine rx ?_
  refine s_rows1 (c1:=brV s.ks[j]) rfl rfl rfl (fun z2 q2 hq2 ho2 hfz2 hsz2=>?_)
  refine rx ?_
  refine s_append (hA.1.tr0 hfz2) rfl ho2.src rfl rfl (brV_one1 _) Yhl Yhd (fun v3 z3 ho3 hfz3 hk3 _=>?_)
  have hw10:=hFz.size
  have hFz3:Fr [] u10 z3:=(hFz.trans0 hfz2).trans hfz3 (fun x hx=>.inr (hA.2 x hx))
  refine rx ?_
  refine q_roundK (j+1,v3) Yhb ⟨rfl,rfl,hjl,⟨?_,fun x hx=>?_⟩,hFz3⟩ Yhm
  .simp only
   rw[show(s.ks.take (j+1)).length=j+1 by rw[List.length_take];omega,List.take_succ_eq_append_getElem hjl,List.flatMap_append]
   rw[htk]at ho3
   simpa using ho3
  .rcases hk3 x hx with h|h
   .exact hA.2 x h
   .omega
 obtain rfl:j=s.ks.length:=by omega
 rw[List.take_length]at hA
 have hC:=hC.tr0 hFz
 have hBz:=hB10.tr0 hFz
 have hF10z:=hF10.trans0 hFz
 obtain⟨aov,cv',rfl⟩:=hA.1.slice
 refine rx ?_
 refine s_c1 (missC z hC Yhd) ?_
 rintro vm z1 ⟨hMi,hfm⟩
 have hC:=hC.tr0 hfm
 have hBz:=hBz.tr0 hfm
 have hA:=hA.tr0 hfm
 have hFz1:=hF10z.trans0 hfm
 obtain⟨aom,cm,rfl⟩:=hMi.1.slice
 have hml:(missR P s).length<=P.reach.length:=List.length_filter_le _ _
 have dA:∀{z:World},Fr [] z1 z->DR z [] (.l (s.ks.map brC)) (.slice aov s.ks.length cv'):=fun hf=>(hA.tr0 hf).dr Yhd
 have dM:∀{z:World},Fr [] z1 z->DR z [] (.l ((missR P s).map brC)) (.slice aom (missR P s).length cm):=fun hf=>(hMi.tr0 hf).dr Yhd
 refine rx ?_
 refine c_loopK 19 [18] (σ:=Nat) (fun e g y=>g 18=iV (e:Nat)/\e<=P.reach.length/\Fr [] z1 y) (fun e=>P.reach.length-e) 0 ⟨rfl,Nat.zero_le _,Fr.refl _ _⟩ ?_
 rintro e g y1 ⟨g18,he,hFy⟩
 rw[eq_upd g18]
 have hCy:=hC.tr0 hFy
 have hBy:=hBz.tr0 hFy
 by_cases hel:e<P.reach.length
 case neg=>
  refine rx ?_
  exact q_roundK (i+1) Yhb ⟨rfl,by omega,hs▸hCy,hFz1.trans0 hFy⟩ Yhd
 obtain⟨adr,hadr,hcr⟩:=src_rows brV_l3 hBy.src hel Yho
 subst hadr
 have hcr:Cells y1 (adr.add (e*3)) [.string P.reach[e].decl,iV P.reach[e].at_,iV P.reach[e].arm]:=hcr
 have hmi:=miss_iff hok (List.getElem_mem hel)
 have hne:decide (P.reach[e]∈s.ks)≠decide (P.reach[e]∈missR P s):=by
  by_cases h:P.reach[e]∈s.ks
  .rw [decide_eq_true h,decide_eq_false (fun hm=>hmi.1 hm h)];simp
  .rw [decide_eq_false h,decide_eq_true (hmi.2 h)];simp
 refine rx ?_
 refine d_begin (fun z=>Fr [] y1 z) Yhf rfl ?_
 obtain⟨y2,hy2⟩:=exq y1.drew
 rw[<-hy2]
 have hS:Fr [] y1 y2:=hy2▸Fr.drew _ _
 refine Ygx ?_
 refine d_z4 6 7 8 9 hS ?_;refine d_z 10 hS ?_
 refine Ygj ?_
 refine rx ?_
 refine s_cE (has26C s.ks P.reach[e] (.slice aov s.ks.length cv') y2 (S:=[]) (dA (hFy.trans0 hS))) ?_
 rintro y3 hf3
 have hS:=hS.trans0 hf3
 refine Yfo ?_
 refine d_one (i:=11) rfl Yhf ?_
 refine rx ?_
 refine s_cE (has26C (missR P s) P.reach[e] (.slice aom (missR P s).length cm) y3 (S:=[]) (dM (hFy.trans0 hS))) ?_
 rintro y4 hf4
 have hS:=hS.trans0 hf4
 refine Yfo ?_
 obtain⟨ba,hba⟩:=exq (decide (P.reach[e]∈s.ks))
 obtain⟨bm,hbm⟩:=exq (decide (P.reach[e]∈missR P s))
 rw[<-hba,<-hbm]at hne ⊢
 refine d_tx 12 hS ?_ (hrun:=by(intro u hu;exact(r_eqlBC (p:=false) underlying4 rfl rfl (by simpa using hne))))
 refine Yen ?_
 exact q_roundK (e+1) Yhb ⟨rfl,hel,hFy.trans0 hS⟩ Yhd
end Go.Proofs.YtggmccicdhnkgaaGreat
namespace Go.Proofs.YtggmccicdhnkgaaGreat
open Go.Rf Go.RowKit
theorem wf_i64{n:Int}(h:(Lit.int .i64 n).wf=true):InI64 n:=by
 have: -9223372036854775808<=n/\n<=9223372036854775807:=by simpa[Lit.wf,IntKind.min,IntKind.max,IntKind.signed,IntKind.bits]using h
 exact this
theorem srcOfRow{W:World}{k:IntKind}{x:Addr}{len cap:Nat}{zs:List Int}(hl:len<=cap)(hz:zs.length=cap)(hcell:∀i,i<zs.length->W.cell? (x.add i)=some (.int k (zs.getD i 0)))(hw:∀n∈zs,(Lit.int k n).wf=true):
 ∃xs:List Int,Src W (.slice (some x) len cap) xs.length (xs.map (.int k))/\∀n∈xs,(Lit.int k n).wf=true:=by
 have e:(zs.take len).length=len:=by simp;omega
 refine⟨zs.take len,⟨some x,cap,by rw[e],by rw[e];exact hl,fun h=>Yik,?_⟩,fun n hn=>hw n (List.mem_of_mem_take hn)⟩
 intro ad ha j u hu
 simp only[Option.some.injEq]at ha
 subst ha
 rw[List.getElem?_map]at hu
 obtain⟨z,hz1,rfl⟩:=Option.map_eq_some_iff.1 hu
 obtain⟨hj,hz2⟩:=List.getElem?_eq_some_iff.1 hz1
 have hj2:j<zs.length:=by simp at hj;omega
 rw[hcell j hj2]
 rw[List.getElem_take]at hz2
 simp[List.getD,hj2,hz2]
end Go.Proofs.YtggmccicdhnkgaaGreat
