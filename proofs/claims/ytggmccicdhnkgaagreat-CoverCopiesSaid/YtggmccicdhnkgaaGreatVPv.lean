/-
 Plain:the tokens of a generated text are known.
-/
import Derived.Test.YtggmccicdhnkgaaGreatVPe
import Derived.Test.YtggmccicdhnkgaaGreatVFc
set_option linter.all false
set_option maxHeartbeats 64000000
namespace Go.Rf
open Go.RowKit
theorem U9(p:Nat->Bool):∀(r:Bs),∀c∈r.take (Qq p r),p (Kq c)=true
 |[],c,h=>by simp[Qq]at h
 |b::r,c,h=>by
  simp only[Qq]at h
  split at h
  .rw [D7,DT]at h;rcases SC.1 h with rfl|h
   .assumption
   .exact U9 p r c h
  .simp at h
theorem Jkn{c:UInt8}(h:Kq c=3):48<=c.toNat:=by
 unfold Kq JhR at h
 repeat' split at h
 all_goals first|omega|cases h
theorem Je0(t:Bs)(h:∀c∈t,Kq c=3):0<=ML t/\ML t<=1099511627777:=by
 have go:∀(l:Bs) (n:Int),(∀c∈l,Kq c=3)->0<=n/\n<=1099511627777->0<=l.foldl (fun n (b:UInt8)=>min (10*n+((b.toNat:Int)-48)) 1099511627777) n/\l.foldl (fun n (b:UInt8)=>min (10*n+((b.toNat:Int)-48)) 1099511627777) n<=1099511627777:=by
  intro l
  induction l with
  |nil=>intro n _ h;exact h
  |cons b l ih=>
   intro n hl h;rw[Dz];have:=Jkn (hl b ap);exact ih _ (fun c hc=>hl c (by simp[hc])) ab
 exact go t 0 h ab
theorem Jcl{b:UInt8}{r:Bs}(hb:Kq b=3):∀c∈(b::r).take (Q9 (b::r)),Kq c=3:=by
 intro c hc;simp only[Q9,hb,CX]at hc;rw[SH ab,SH ab,D7,DT]at hc;rcases SC.1 hc with rfl|h
 .exact hb
 .have:=U9 p3 r c h;simpa[p3]using this
theorem Jf1(a:Int)(r:Bs):0<=(JY a (r.take (Q9 r))).n/\(JY a (r.take (Q9 r))).n<=1099511627777:=by
 unfold JY
 split
 .simp
 .rename_i b t e;simp only
  split
  .rename_i hb;cases r with
   |nil=>simp at e
   |cons b' r=>
    have sd:b'=b:=by
     cases hk:Q9 (b'::r)with
     |zero=>rw[hk]at e;simp at e
     |succ k=>rw[hk,DT]at e;simp only[List.cons.injEq]at e;exact e.1
    subst sd;exact Je0 _ (Jcl hb)
  .simp
theorem Jav:∀(f:Nat) (a:Int) (r:Bs) (T:List Tk),V3 f a r=.ok T->∀t∈T,0<=t.n/\t.n<=1099511627777
 |0,a,r,T,h=>by simp[V3]at h
 |f+1,a,r,T,h=>by
  simp only[V3]at h
  split at h
  .simp only[HY]at h;subst h;simp
  .split at h
   .cases h
   .split at h
    .cases h
    .split at h
     .rename_i l hl;simp only[HY]at h;subst h;intro t ht;rcases SC.1 ht with rfl|ht
      .exact Jf1 _ _
      .exact Jav f _ _ _ hl t ht
     .cases h
theorem Jga{s:Bs}{T:List Tk}(h:BG s=.ok T):∀t∈T,0<=t.n/\t.n<=1099511627777:=by
 unfold BG at h
 split at h
 .cases h
 .exact Jav _ _ _ _ h
section
variable{S:Bs}{m:Nat}
def ki(ks:List Int)(m:Nat)(S:Bs):Prop:=∃a,Dls ks a/\(bN a).length<=m/\S=bN a
theorem ki.add{ks:List Int}{T:Bs}{k:Int}{its:List It}{j:Nat}(h:ki ks m S)(hs:WC k its)(hl:Nat.ble (bN its).length j=true)(hT:T=S++bN its):ki (ks++[k]) (m+j) T:=by
 obtain⟨a,h1,h2,rfl⟩:=h;have:=Dy hl;exact⟨a++its,.snoc h1 hs,by rw[Ql,Sm];omega,by rw[Ql,hT]⟩
theorem ki.len{ks:List Int}(h:ki ks m S):S.length<=m:=by
 obtain⟨a,h1,h2,rfl⟩:=h;exact h2
theorem ki.read{ks:List Int}(h:ki ks m S)(yz:ks.length<=64)(hm:m<=8192)(n:Int):S.length<=m/\∃(t:List Tk) (ds:List De),BG S=.ok t/\ds.map De.kind=ks/\(∀d∈ds,AW d)/\Pn ds=false/\∀f,ks.length<f->Xc n 200 f t=some ds:=by
 obtain⟨a,h1,h2,rfl⟩:=h;obtain⟨ds,h3,h4,h5,h6⟩:=h1.mod yz n;exact⟨h2,JA 0 a,ds,BF (h1.ok none) ab,h3,h4,h5,h6⟩
theorem JH{α:Type}{l:List α}{x:α}(i:Nat)(h:l[i]?=some x):x∈l:=Hz h
end
end Go.Rf
namespace Go.Proofs.YtggmccicdhnkgaaGreat
open Go.Proofs.Tryz
open Go.Rf Go.RowKit
attribute [local irreducible] Code.wp wpList Exit.then Exit.inBlock bodyPost A Calls execOp Addr.add
set_option maxRecDepth 4000 in
theorem program(x:Value)(l:List Int)(w:World)(hx:Src w x l.length (l.map (.int .i64)))(hl:∀n∈l,VE n):
 Calls prog 38 #[x] w fun e w'=>∃S,e=.returned (.string (aA S))/\ki [0,0,1,1,1,1,1,2,2,2,2,2,3,3,3,3,3,4,5,4,5] 5466 S/\Fr [] w w':=by
 refine enter func38 rfl ntmps38 rfl ?_;refine rx ?_;refine Jl (Jge x l 60 w hx ab) ?_;rintro sv w1 ⟨cB,aj,ied⟩;refine rx ?_;obtain⟨uj,cs_,rfl,_⟩:=id cB.src;refine JF [.slice uj (l.take 60).length cs_,zI] rfl ?_;refine rx ?_;refine Ju rfl rfl (fun w2 p hpe dN aq cz=>?_);have lV:w.heap.size<=p:=by have:=aj.size;omega
 have jn:GW w2 p:=⟨_,l.take 60,0,dN,cB.src.tr0 aq,fun ad n c e h hm=>by
  simp only[Sv]at hm;have h1:=cB.lt ad.block zt;omega,fun n hn=>hl n (E5 hn)⟩
 refine rr ?_;refine wpList_nil ?_;refine QG ?_;refine wp_seq ?_;refine Qw (fun g u=>g 3=.pointer (some ⟨p,0,none⟩)/\(∃S,g 4=.string (aA S)/\ki [0,0] 80 S)/\GW u p/\Fr [] w u) ?_ ?_
 .refine rx ?_;exact Vh ⟨rfl,⟨_,rfl,JcO++Jef,.snoc (.snoc .nil Jg4) JiI,by decide,by kernel_rfl⟩,jn,aj.Jb aq⟩
 rintro g u ⟨h3,⟨S,h4,hP⟩,hG,hF⟩;rw[Ja h3,Ja h4];clear h3 h4;have lU:=hP.len;refine wp_seq ?_;refine Qw (fun g u=>g 3=.pointer (some ⟨p,0,none⟩)/\(∃S,g 4=.string (aA S)/\ki [0,0,1] 175 S)/\GW u p/\Fr [] w u) ?_ ?_
 .refine rx ?_;refine oS ?_;exact Vh ⟨rfl,⟨_,rfl,hP.add (its:=JcK) (Jg2) (j:=95) az oT⟩,hG,hF⟩
 rintro g u ⟨h3,⟨S,h4,hP⟩,hG,hF⟩;rw[Ja h3,Ja h4];clear h3 h4;have lU:=hP.len;refine wp_seq ?_;refine Qw (fun g u=>g 3=.pointer (some ⟨p,0,none⟩)/\(∃S,g 4=.string (aA S)/\ki [0,0,1,1] 260 S)/\GW u p/\Fr [] w u) ?_ ?_
 .refine rx ?_;refine oS ?_;refine Jl (Va p 1 _ hG ab ab) ?_;rintro k1 w1 ⟨ee,fC,aj⟩;have ep:dg k1∈rP:=Wi ab;have fJ:(dg k1).length=1:=rfl;refine rx ?_;refine jg ?_;exact Vh ⟨rfl,⟨_,rfl,hP.add (its:=JgC++[.tk (dg k1)]++JgB) (JjQ _ (show[It.tk (dg k1)]∈Jc8 by rcases(show k1=0\/k1=1 by omega)with rfl|rfl<;>first|exact JH 0 rfl|exact JH 1 rfl)) (j:=85) az oT⟩,fC,(hF.trans aj mv)⟩
 rintro g u ⟨h3,⟨S,h4,hP⟩,hG,hF⟩;rw[Ja h3,Ja h4];clear h3 h4;have lU:=hP.len;refine wp_seq ?_;refine Qw (fun g u=>g 3=.pointer (some ⟨p,0,none⟩)/\(∃S,g 4=.string (aA S)/\ki [0,0,1,1,1] 339 S)/\GW u p/\Fr [] w u) ?_ ?_
 .refine rx ?_;refine oS ?_;refine Jl (Va p 2 _ hG ab ab) ?_;rintro k1 w1 ⟨ee,fC,aj⟩;have ep:dg k1∈rP:=Wi ab;have fJ:(dg k1).length=1:=rfl;refine rx ?_;refine jg ?_;refine Jl (Va p 3 _ fC ab ab) ?_;rintro k2 w2 ⟨cu,jn,aq⟩;have dV:dg k2∈rP:=Wi ab;have gH:(dg k2).length=1:=rfl;refine rx ?_;refine jg ?_;refine Jl (Va p 3 _ jn ab ab) ?_;rintro k3 w3 ⟨lg,zd,aF⟩;have kB:dg k3∈rP:=Wi ab;have Az:(dg k3).length=1:=rfl;refine rx ?_;refine jg ?_;exact Vh ⟨rfl,⟨_,rfl,hP.add (its:=JcB++[.tk (dg k1)]++(JcA++[.tk (dg k2)]++(Jcz++[.tk (dg k3)]++Jcy))) (JgW _ (show[It.tk (dg k1)]∈Ug by rcases(show k1=0\/k1=1\/k1=2 by omega)with rfl|rfl|rfl<;>first|exact JH 0 rfl|exact JH 1 rfl|exact JH 2 rfl) _ (show[It.tk (dg k2)]∈Uf by rcases(show k2=0\/k2=1\/k2=2\/k2=3 by omega)with rfl|rfl|rfl|rfl<;>first|exact JH 0 rfl|exact JH 1 rfl|exact JH 2 rfl|exact JH 3 rfl) _ (show[It.tk (dg k3)]∈Ue by rcases(show k3=0\/k3=1\/k3=2\/k3=3 by omega)with rfl|rfl|rfl|rfl<;>first|exact JH 0 rfl|exact JH 1 rfl|exact JH 2 rfl|exact JH 3 rfl)) (j:=79) az oT⟩,zd,(((hF.trans aj mv).trans aq mv).trans aF mv)⟩
 rintro g u ⟨h3,⟨S,h4,hP⟩,hG,hF⟩;rw[Ja h3,Ja h4];clear h3 h4;have lU:=hP.len;refine wp_seq ?_;refine Qw (fun g u=>g 3=.pointer (some ⟨p,0,none⟩)/\(∃S,g 4=.string (aA S)/\ki [0,0,1,1,1,1] 946 S)/\GW u p/\Fr [] w u) ?_ ?_
 .refine rx ?_;refine oS ?_;refine J3 [.string (aA [120]),.string (aA [121])] rfl rfl rfl rfl (fun v1 ef jf tJ=>?_);refine rx ?_;have wQ:=hG.tr0 jf;refine Jl ((Jht (V:=[vX,vY]) Jbu.2.2 bU bU 2 ab).1 p _ _ wQ ⟨ef.src,hG.off ef rfl⟩) ?_;rintro a1 w1 ⟨jS,fJ,fC,mw,aj⟩;refine AO ?_;have ibB:(bN a1).length<=576:=jS.len Jbu.2.2;refine oS ?_;exact Vh ⟨rfl,⟨_,rfl,hP.add (its:=JhY++(a1++Jjv)) (s_f jS) (j:=607) (Dv (by simp only[Ql,Sm];have e0:(bN JhY).length=29:=az;have e2:(bN Jjv).length=2:=az;omega)) oT⟩,fC,((hF).Jb jf|>.trans aj mv)⟩
 rintro g u ⟨h3,⟨S,h4,hP⟩,hG,hF⟩;rw[Ja h3,Ja h4];clear h3 h4;have lU:=hP.len;refine wp_seq ?_;refine Qw (fun g u=>g 3=.pointer (some ⟨p,0,none⟩)/\(∃S,g 4=.string (aA S)/\ki [0,0,1,1,1,1,1] 2339 S)/\GW u p/\Fr [] w u) ?_ ?_
 .refine rx ?_;refine oS ?_;refine J3 [.string (aA [120])] rfl rfl rfl rfl (fun v1 ef jf tJ=>?_);refine rx ?_;have wQ:=hG.tr0 jf;refine Jl ((Jht (V:=[vX]) p'.2.2 bU bU 2 ab).2 p _ _ wQ ⟨ef.src,hG.off ef rfl⟩) ?_;rintro a1 w1 ⟨jS,fJ,fC,mw,aj⟩;refine AO ?_;have ibB:(bN a1).length<=1368:=jS.len p'.2.2;refine oS ?_;exact Vh ⟨rfl,⟨_,rfl,hP.add (its:=Jeb++(a1++JgD)) (JkA jS) (j:=1393) (Dv (by simp only[Ql,Sm];have e0:(bN Jeb).length=23:=az;have e2:(bN JgD).length=2:=az;omega)) oT⟩,fC,((hF).Jb jf|>.trans aj mv)⟩
 rintro g u ⟨h3,⟨S,h4,hP⟩,hG,hF⟩;rw[Ja h3,Ja h4];clear h3 h4;have lU:=hP.len;refine wp_seq ?_;refine Qw (fun g u=>g 3=.pointer (some ⟨p,0,none⟩)/\(∃S,g 4=.string (aA S)/\ki [0,0,1,1,1,1,1,2] 2436 S)/\GW u p/\Fr [] w u) ?_ ?_
 .refine rx ?_;refine Yfi ?_;rintro z1 w1 ⟨jB,tK,fC,aj⟩;obtain⟨k1,ee⟩:∃j:Nat,1+z1=(j:Int):=⟨(1+z1).toNat,by omega⟩;refine rx ?_;rw[ee];refine YL ?_;rintro _ rfl;have fJ:(dg k1).length=1:=rfl;refine rx ?_;refine jg ?_;refine Jl (Va p 3 _ fC ab ab) ?_;rintro k2 w2 ⟨cu,jn,aq⟩;have dV:dg k2∈rP:=Wi ab;have gH:(dg k2).length=1:=rfl;refine rx ?_;refine jg ?_;exact Vh ⟨rfl,⟨_,rfl,hP.add (its:=JgG++[.tk (dg k1)]++(JgF++[.tk (dg k2)]++JgE)) (JjR _ (show[It.tk (dg k1)]∈Jda by rcases(show k1=1\/k1=2\/k1=3 by omega)with rfl|rfl|rfl<;>first|exact JH 0 rfl|exact JH 1 rfl|exact JH 2 rfl) _ (show[It.tk (dg k2)]∈Jc9 by rcases(show k2=0\/k2=1\/k2=2\/k2=3 by omega)with rfl|rfl|rfl|rfl<;>first|exact JH 0 rfl|exact JH 1 rfl|exact JH 2 rfl|exact JH 3 rfl)) (j:=97) az oT⟩,jn,((hF.trans aj mv).trans aq mv)⟩
 rintro g u ⟨h3,⟨S,h4,hP⟩,hG,hF⟩;rw[Ja h3,Ja h4];clear h3 h4;have lU:=hP.len;refine wp_seq ?_;refine Qw (fun g u=>g 3=.pointer (some ⟨p,0,none⟩)/\(∃S,g 4=.string (aA S)/\ki [0,0,1,1,1,1,1,2,2] 2519 S)/\GW u p/\Fr [] w u) ?_ ?_
 .refine rx ?_;refine Yfj ?_;rintro z1 w1 ⟨jB,tK,fC,aj⟩;obtain⟨k1,ee⟩:∃j:Nat,1+z1=(j:Int):=⟨(1+z1).toNat,by omega⟩;refine rx ?_;rw[ee];refine YL ?_;rintro _ rfl;have fJ:(dg k1).length=1:=rfl;refine rx ?_;refine jg ?_;refine Jl (Va p 2 _ fC ab ab) ?_;rintro k2 w2 ⟨cu,jn,aq⟩;have dV:dg k2∈rP:=Wi ab;have gH:(dg k2).length=1:=rfl;refine rx ?_;refine jg ?_;exact Vh ⟨rfl,⟨_,rfl,hP.add (its:=JcN++[.tk (dg k1)]++(JcM++[.tk (dg k2)]++JcL)) (Jg3 _ (show[It.tk (dg k1)]∈Um by rcases(show k1=1\/k1=2 by omega)with rfl|rfl<;>first|exact JH 0 rfl|exact JH 1 rfl) _ (show[It.tk (dg k2)]∈Ul by rcases(show k2=0\/k2=1\/k2=2 by omega)with rfl|rfl|rfl<;>first|exact JH 0 rfl|exact JH 1 rfl|exact JH 2 rfl)) (j:=83) az oT⟩,jn,((hF.trans aj mv).trans aq mv)⟩
 rintro g u ⟨h3,⟨S,h4,hP⟩,hG,hF⟩;rw[Ja h3,Ja h4];clear h3 h4;have lU:=hP.len;refine wp_seq ?_;refine Qw (fun g u=>g 3=.pointer (some ⟨p,0,none⟩)/\(∃S,g 4=.string (aA S)/\ki [0,0,1,1,1,1,1,2,2,2] 2619 S)/\GW u p/\Fr [] w u) ?_ ?_
 .refine rx ?_;refine Yfi ?_;rintro z1 w1 ⟨jB,tK,fC,aj⟩;obtain⟨k1,ee⟩:∃j:Nat,1+z1=(j:Int):=⟨(1+z1).toNat,by omega⟩;refine rx ?_;rw[ee];refine YL ?_;rintro _ rfl;have fJ:(dg k1).length=1:=rfl;refine rx ?_;refine jg ?_;exact Vh ⟨rfl,⟨_,rfl,hP.add (its:=Jd8++[.tk (dg k1)]++Jd7) (Jiy _ (show[It.tk (dg k1)]∈JaX by rcases(show k1=1\/k1=2\/k1=3 by omega)with rfl|rfl|rfl<;>first|exact JH 0 rfl|exact JH 1 rfl|exact JH 2 rfl)) (j:=100) az oT⟩,fC,(hF.trans aj mv)⟩
 rintro g u ⟨h3,⟨S,h4,hP⟩,hG,hF⟩;rw[Ja h3,Ja h4];clear h3 h4;have lU:=hP.len;refine wp_seq ?_;refine Qw (fun g u=>g 3=.pointer (some ⟨p,0,none⟩)/\(∃S,g 4=.string (aA S)/\ki [0,0,1,1,1,1,1,2,2,2,2] 2660 S)/\GW u p/\Fr [] w u) ?_ ?_
 .refine rx ?_;refine oS ?_;refine Jl (Va p 1 _ hG ab ab) ?_;rintro k1 w1 ⟨ee,fC,aj⟩;have ep:dg k1∈rP:=Wi ab;have fJ:(dg k1).length=1:=rfl;refine rx ?_;refine jg ?_;refine Jl (Va p 2 _ fC ab ab) ?_;rintro k2 w2 ⟨cu,jn,aq⟩;have dV:dg k2∈rP:=Wi ab;have gH:(dg k2).length=1:=rfl;refine rx ?_;refine jg ?_;exact Vh ⟨rfl,⟨_,rfl,hP.add (its:=Jee++[.tk (dg k1)]++(Jed++[.tk (dg k2)]++Jec)) (JiB _ (show[It.tk (dg k1)]∈Ja1 by rcases(show k1=0\/k1=1 by omega)with rfl|rfl<;>first|exact JH 0 rfl|exact JH 1 rfl) _ (show[It.tk (dg k2)]∈Ja0 by rcases(show k2=0\/k2=1\/k2=2 by omega)with rfl|rfl|rfl<;>first|exact JH 0 rfl|exact JH 1 rfl|exact JH 2 rfl)) (j:=41) az oT⟩,jn,((hF.trans aj mv).trans aq mv)⟩
 rintro g u ⟨h3,⟨S,h4,hP⟩,hG,hF⟩;rw[Ja h3,Ja h4];clear h3 h4;have lU:=hP.len;refine wp_seq ?_;refine Qw (fun g u=>g 3=.pointer (some ⟨p,0,none⟩)/\(∃S,g 4=.string (aA S)/\ki [0,0,1,1,1,1,1,2,2,2,2,2] 2739 S)/\GW u p/\Fr [] w u) ?_ ?_
 .refine rx ?_;refine Yfj ?_;rintro z1 w1 ⟨jB,tK,fC,aj⟩;obtain⟨k1,ee⟩:∃j:Nat,2+z1=(j:Int):=⟨(2+z1).toNat,by omega⟩;refine rx ?_;rw[ee];refine YL ?_;rintro _ rfl;have fJ:(dg k1).length=1:=rfl;refine rx ?_;refine jg ?_;exact Vh ⟨rfl,⟨_,rfl,hP.add (its:=Jea++[.tk (dg k1)]++Jd9) (JiA _ (show[It.tk (dg k1)]∈JaZ by rcases(show k1=2\/k1=3 by omega)with rfl|rfl<;>first|exact JH 0 rfl|exact JH 1 rfl)) (j:=79) az oT⟩,fC,(hF.trans aj mv)⟩
 rintro g u ⟨h3,⟨S,h4,hP⟩,hG,hF⟩;rw[Ja h3,Ja h4];clear h3 h4;have lU:=hP.len;refine wp_seq ?_;refine Qw (fun g u=>g 3=.pointer (some ⟨p,0,none⟩)/\(∃S,g 4=.string (aA S)/\ki [0,0,1,1,1,1,1,2,2,2,2,2,3] 2910 S)/\GW u p/\Fr [] w u) ?_ ?_
 .refine rx ?_;refine oS ?_;refine Jl (Va p 2 _ hG ab ab) ?_;rintro k1 w1 ⟨ee,fC,aj⟩;have ep:dg k1∈rP:=Wi ab;have fJ:(dg k1).length=1:=rfl;refine rx ?_;refine jg ?_;refine Jl (Va p 4 _ fC ab ab) ?_;rintro k2 w2 ⟨cu,jn,aq⟩;have dV:dg k2∈rP:=Wi ab;have gH:(dg k2).length=1:=rfl;refine rx ?_;refine jg ?_;exact Vh ⟨rfl,⟨_,rfl,hP.add (its:=Jcx++[.tk (dg k1)]++(Jcw++[.tk (dg k2)]++Jcv)) (JgU _ (show[It.tk (dg k1)]∈Ud by rcases(show k1=0\/k1=1\/k1=2 by omega)with rfl|rfl|rfl<;>first|exact JH 0 rfl|exact JH 1 rfl|exact JH 2 rfl) _ (show[It.tk (dg k2)]∈Uc by rcases(show k2=0\/k2=1\/k2=2\/k2=3\/k2=4 by omega)with rfl|rfl|rfl|rfl|rfl<;>first|exact JH 0 rfl|exact JH 1 rfl|exact JH 2 rfl|exact JH 3 rfl|exact JH 4 rfl)) (j:=171) az oT⟩,jn,((hF.trans aj mv).trans aq mv)⟩
 rintro g u ⟨h3,⟨S,h4,hP⟩,hG,hF⟩;rw[Ja h3,Ja h4];clear h3 h4;have lU:=hP.len;refine wp_seq ?_;refine Qw (fun g u=>g 3=.pointer (some ⟨p,0,none⟩)/\(∃S,g 4=.string (aA S)/\ki [0,0,1,1,1,1,1,2,2,2,2,2,3,3] 3043 S)/\GW u p/\Fr [] w u) ?_ ?_
 .refine rx ?_;refine Yfj ?_;rintro z1 w1 ⟨jB,tK,fC,aj⟩;obtain⟨k1,ee⟩:∃j:Nat,2+z1=(j:Int):=⟨(2+z1).toNat,by omega⟩;refine rx ?_;rw[ee];refine YL ?_;rintro _ rfl;have fJ:(dg k1).length=1:=rfl;refine rx ?_;refine jg ?_;refine Jl (Va p 9 _ fC ab ab) ?_;rintro k2 w2 ⟨cu,jn,aq⟩;have dV:dg k2∈rP:=Wi ab;have gH:(dg k2).length=1:=rfl;refine rx ?_;refine jg ?_;exact Vh ⟨rfl,⟨_,rfl,hP.add (its:=JcH++[.tk (dg k1)]++(JcG++[.tk (dg k2)]++JcF)) (Jg0 _ (show[It.tk (dg k1)]∈Uj by rcases(show k1=2\/k1=3 by omega)with rfl|rfl<;>first|exact JH 0 rfl|exact JH 1 rfl) _ (show[It.tk (dg k2)]∈Ui by rcases(show k2=0\/k2=1\/k2=2\/k2=3\/k2=4\/k2=5\/k2=6\/k2=7\/k2=8\/k2=9 by omega)with rfl|rfl|rfl|rfl|rfl|rfl|rfl|rfl|rfl|rfl<;>first|exact JH 0 rfl|exact JH 1 rfl|exact JH 2 rfl|exact JH 3 rfl|exact JH 4 rfl|exact JH 5 rfl|exact JH 6 rfl|exact JH 7 rfl|exact JH 8 rfl|exact JH 9 rfl)) (j:=133) az oT⟩,jn,((hF.trans aj mv).trans aq mv)⟩
 rintro g u ⟨h3,⟨S,h4,hP⟩,hG,hF⟩;rw[Ja h3,Ja h4];clear h3 h4;have lU:=hP.len;refine wp_seq ?_;refine Qw (fun g u=>g 3=.pointer (some ⟨p,0,none⟩)/\(∃S,g 4=.string (aA S)/\ki [0,0,1,1,1,1,1,2,2,2,2,2,3,3,3] 4505 S)/\GW u p/\Fr [] w u) ?_ ?_
 .refine rx ?_;refine oS ?_;refine J3 [.string (aA [120]),.string (aA [115,99,111,114,101,40,99,41])] rfl rfl rfl rfl (fun v1 ef jf tJ=>?_);refine rx ?_;have wQ:=hG.tr0 jf;refine Jl ((Jht (V:=[vX,vS]) Jbt.2.2 bU bU 2 ab).2 p _ _ wQ ⟨ef.src,hG.off ef rfl⟩) ?_;rintro a1 w1 ⟨jS,fJ,fC,mw,aj⟩;refine AO ?_;have ibB:(bN a1).length<=1368:=jS.len Jbt.2.2;refine oS ?_;exact Vh ⟨rfl,⟨_,rfl,hP.add (its:=Vb++(a1++Qp)) (Jfm jS) (j:=1462) (Dv (by simp only[Ql,Sm];have e0:(bN Vb).length=69:=az;have e2:(bN Qp).length=25:=az;omega)) oT⟩,fC,((hF).Jb jf|>.trans aj mv)⟩
 rintro g u ⟨h3,⟨S,h4,hP⟩,hG,hF⟩;rw[Ja h3,Ja h4];clear h3 h4;have lU:=hP.len;refine wp_seq ?_;refine Qw (fun g u=>g 3=.pointer (some ⟨p,0,none⟩)/\(∃S,g 4=.string (aA S)/\ki [0,0,1,1,1,1,1,2,2,2,2,2,3,3,3,3] 4642 S)/\GW u p/\Fr [] w u) ?_ ?_
 .refine rx ?_;refine oS ?_;refine Jl (Uz p 4 _ hG ab) ?_;rintro z1 w1 ⟨jB,tK,fC,aj⟩;obtain⟨k1,ee⟩:∃j:Nat,1+z1=(j:Int):=⟨(1+z1).toNat,by omega⟩;refine rx ?_;rw[ee];refine YL ?_;rintro _ rfl;have fJ:(dg k1).length=1:=rfl;refine rx ?_;refine jg ?_;exact Vh ⟨rfl,⟨_,rfl,hP.add (its:=JcE++[.tk (dg k1)]++JcD) (JgZ _ (show[It.tk (dg k1)]∈Uh by rcases(show k1=1\/k1=2\/k1=3\/k1=4 by omega)with rfl|rfl|rfl|rfl<;>first|exact JH 0 rfl|exact JH 1 rfl|exact JH 2 rfl|exact JH 3 rfl)) (j:=137) az oT⟩,fC,(hF.trans aj mv)⟩
 rintro g u ⟨h3,⟨S,h4,hP⟩,hG,hF⟩;rw[Ja h3,Ja h4];clear h3 h4;have lU:=hP.len;refine wp_seq ?_;refine Qw (fun g u=>g 3=.pointer (some ⟨p,0,none⟩)/\(∃S,g 4=.string (aA S)/\ki [0,0,1,1,1,1,1,2,2,2,2,2,3,3,3,3,3] 4713 S)/\GW u p/\Fr [] w u) ?_ ?_
 .refine rx ?_;refine Yfi ?_;rintro z1 w1 ⟨jB,tK,fC,aj⟩;obtain⟨k1,ee⟩:∃j:Nat,1+z1=(j:Int):=⟨(1+z1).toNat,by omega⟩;refine rx ?_;rw[ee];refine YL ?_;rintro _ rfl;have fJ:(dg k1).length=1:=rfl;refine rx ?_;refine jg ?_;exact Vh ⟨rfl,⟨_,rfl,hP.add (its:=JcJ++[.tk (dg k1)]++JcI) (Jg1 _ (show[It.tk (dg k1)]∈Uk by rcases(show k1=1\/k1=2\/k1=3 by omega)with rfl|rfl|rfl<;>first|exact JH 0 rfl|exact JH 1 rfl|exact JH 2 rfl)) (j:=71) az oT⟩,fC,(hF.trans aj mv)⟩
 rintro g u ⟨h3,⟨S,h4,hP⟩,hG,hF⟩;rw[Ja h3,Ja h4];clear h3 h4;have lU:=hP.len;refine wp_seq ?_;refine Qw (fun g u=>g 3=.pointer (some ⟨p,0,none⟩)/\(∃S,g 4=.string (aA S)/\ki [0,0,1,1,1,1,1,2,2,2,2,2,3,3,3,3,3,4] 4888 S)/\GW u p/\Fr [] w u) ?_ ?_
 .refine rx ?_;refine oS ?_;exact Vh ⟨rfl,⟨_,rfl,hP.add (its:=JcC) (JgX) (j:=175) az oT⟩,hG,hF⟩
 rintro g u ⟨h3,⟨S,h4,hP⟩,hG,hF⟩;rw[Ja h3,Ja h4];clear h3 h4;have lU:=hP.len;refine wp_seq ?_;refine Qw (fun g u=>g 3=.pointer (some ⟨p,0,none⟩)/\(∃S,g 4=.string (aA S)/\ki [0,0,1,1,1,1,1,2,2,2,2,2,3,3,3,3,3,4] 4888 S)/\(∃y,y∈MX/\(bN y).length<=46/\g 5=.string (aA (bN y)))/\GW u p/\Fr [] w u) ?_ ?_
 .refine rx ?_;refine J3 [.string (aA [115,116,101,112,32,100,114,111,112,40,115,44,32,49,41,44,32,97,116,40,115,44,32,48,41,59]),.string (aA [115,116,101,112,32,116,97,107,101,40,115,44,32,115,105,122,101,40,115,41,32,45,32,49,41,44,32,97,116,40,115,44,32,115,105,122,101,40,115,41,32,45,32,49,41,59]),.string (aA [115,116,101,112,32,115,44,32,97,116,40,115,44,32,48,41,59,32,115,116,101,112,32,100,114,111,112,40,115,44,32,49,41,44,32,108,59]),.string (aA [115,116,101,112,32,100,114,111,112,40,115,44,32,49,41,44,32,97,116,40,115,44,32,48,41,59])] rfl rfl rfl rfl (fun v1 ef jf tJ=>?_);refine rx ?_;refine aT (XQ p _ [[115,116,101,112,32,100,114,111,112,40,115,44,32,49,41,44,32,97,116,40,115,44,32,48,41,59],[115,116,101,112,32,116,97,107,101,40,115,44,32,115,105,122,101,40,115,41,32,45,32,49,41,44,32,97,116,40,115,44,32,115,105,122,101,40,115,41,32,45,32,49,41,59],[115,116,101,112,32,115,44,32,97,116,40,115,44,32,48,41,59,32,115,116,101,112,32,100,114,111,112,40,115,44,32,49,41,44,32,108,59],[115,116,101,112,32,100,114,111,112,40,115,44,32,49,41,44,32,97,116,40,115,44,32,48,41,59]] _ (hG.tr0 jf) ef.src (hG.off ef rfl) ap ap) rfl ?_;rintro _ w1 ⟨t1,uf,rfl,fC,aj⟩;refine⟨_,rfl,?_⟩;obtain⟨y1,yZ,rfl,y6⟩:∃y,y∈MX/\t1=bN y/\(bN y).length<=46:=by
   simp only[SC,S9,CU]at uf;rcases uf with rfl|rfl|rfl|rfl
   .exact ⟨_,JH 0 rfl,by kernel_rfl,by decide⟩
   .exact ⟨_,JH 1 rfl,by kernel_rfl,by decide⟩
   .exact ⟨_,JH 2 rfl,by kernel_rfl,by decide⟩
   .exact ⟨_,JH 0 rfl,by kernel_rfl,by decide⟩
  exact Ycu
 rintro g u ⟨h3,⟨S,h4,hP⟩,⟨y,hy,hyl,h5⟩,hG,hF⟩;rw[Ja h3,Ja h4,Ja h5];clear h3 h4 h5;have lU:=hP.len;refine wp_seq ?_;refine Qw (fun g u=>g 3=.pointer (some ⟨p,0,none⟩)/\(∃S,g 4=.string (aA S)/\ki [0,0,1,1,1,1,1,2,2,2,2,2,3,3,3,3,3,4,5] 5067 S)/\GW u p/\Fr [] w u) ?_ ?_
 .refine rx ?_;refine oS ?_;refine J3 [.string (aA [115,116,101,112,32,112,117,115,104,40,115,44,32,120,41,44,32,48,59]),.string (aA [115,116,101,112,32,112,117,115,104,40,115,44,32,120,41,44,32,48,59]),.string (aA [115,116,101,112,32,115,44,32,115,105,122,101,40,115,41,59,32,115,116,101,112,32,112,117,115,104,40,115,44,32,120,41,44,32,105,102,32,108,32,60,32,50,32,116,104,101,110,32,48,32,101,108,115,101,32,49,59])] rfl rfl rfl rfl (fun v1 ef jf tJ=>?_);refine rx ?_;refine aT (XQ p _ [[115,116,101,112,32,112,117,115,104,40,115,44,32,120,41,44,32,48,59],[115,116,101,112,32,112,117,115,104,40,115,44,32,120,41,44,32,48,59],[115,116,101,112,32,115,44,32,115,105,122,101,40,115,41,59,32,115,116,101,112,32,112,117,115,104,40,115,44,32,120,41,44,32,105,102,32,108,32,60,32,50,32,116,104,101,110,32,48,32,101,108,115,101,32,49,59]] _ (hG.tr0 jf) ef.src (hG.off ef rfl) ap ap) rfl ?_;rintro _ w1 ⟨t1,uf,rfl,fC,aj⟩;refine⟨_,rfl,?_⟩;obtain⟨y1,yZ,rfl,y6⟩:∃y,y∈JaY/\t1=bN y/\(bN y).length<=57:=by
   simp only[SC,S9,CU]at uf;rcases uf with rfl|rfl|rfl
   .exact ⟨_,JH 0 rfl,by kernel_rfl,by decide⟩
   .exact ⟨_,JH 0 rfl,by kernel_rfl,by decide⟩
   .exact ⟨_,JH 1 rfl,by kernel_rfl,by decide⟩
  refine rx ?_;refine jg ?_;refine jg ?_;exact Vh ⟨rfl,⟨_,rfl,hP.add (its:=Jbf++(y1++(Jbe++(y++Jbd)))) (Jiz _ yZ _ hy) (j:=179) (Dv (by simp only[Ql,Sm];have e0:(bN Jbf).length=57:=az;have e2:(bN Jbe).length=14:=az;have e4:(bN Jbd).length=5:=az;omega)) oT⟩,fC,((hF).Jb jf|>.trans aj mv)⟩
 rintro g u ⟨h3,⟨S,h4,hP⟩,hG,hF⟩;rw[Ja h3,Ja h4];clear h3 h4;have lU:=hP.len;refine wp_seq ?_;refine Qw (fun g u=>g 3=.pointer (some ⟨p,0,none⟩)/\(∃S,g 4=.string (aA S)/\ki [0,0,1,1,1,1,1,2,2,2,2,2,3,3,3,3,3,4,5,4] 5290 S)/\GW u p/\Fr [] w u) ?_ ?_
 .refine rx ?_;refine oS ?_;exact Vh ⟨rfl,⟨_,rfl,hP.add (its:=UM) (Jep) (j:=223) az oT⟩,hG,hF⟩
 rintro g u ⟨h3,⟨S,h4,hP⟩,hG,hF⟩;rw[Ja h3,Ja h4];clear h3 h4;have lU:=hP.len;refine wp_seq ?_;refine Qw (fun g u=>g 3=.pointer (some ⟨p,0,none⟩)/\(∃S,g 4=.string (aA S)/\ki [0,0,1,1,1,1,1,2,2,2,2,2,3,3,3,3,3,4,5,4] 5290 S)/\(∃y,y∈MZ/\(bN y).length<=45/\g 6=.string (aA (bN y)))/\GW u p/\Fr [] w u) ?_ ?_
 .refine rx ?_;refine J3 [.string (aA [115,116,101,112,32,115,32,43,32,49,44,32,115,32,43,32,49,59]),.string (aA [115,116,101,112,32,115,44,32,115,59,32,115,116,101,112,32,108,32,43,32,49,44,32,108,32,43,32,49,59]),.string (aA [115,116,101,112,32,115,44,32,115,59,32,115,116,101,112,32,115,32,43,32,49,44,32,115,32,43,32,49,59]),.string (aA [115,116,101,112,32,115,32,43,32,49,44,32,105,102,32,102,108,105,112,40,53,41,32,60,32,52,32,116,104,101,110,32,115,32,43,32,49,32,101,108,115,101,32,115,59])] rfl rfl rfl rfl (fun v1 ef jf tJ=>?_);refine rx ?_;refine aT (XQ p _ [[115,116,101,112,32,115,32,43,32,49,44,32,115,32,43,32,49,59],[115,116,101,112,32,115,44,32,115,59,32,115,116,101,112,32,108,32,43,32,49,44,32,108,32,43,32,49,59],[115,116,101,112,32,115,44,32,115,59,32,115,116,101,112,32,115,32,43,32,49,44,32,115,32,43,32,49,59],[115,116,101,112,32,115,32,43,32,49,44,32,105,102,32,102,108,105,112,40,53,41,32,60,32,52,32,116,104,101,110,32,115,32,43,32,49,32,101,108,115,101,32,115,59]] _ (hG.tr0 jf) ef.src (hG.off ef rfl) ap ap) rfl ?_;rintro _ w1 ⟨t1,uf,rfl,fC,aj⟩;refine⟨_,rfl,?_⟩;obtain⟨y1,yZ,rfl,y6⟩:∃y,y∈MZ/\t1=bN y/\(bN y).length<=45:=by
   simp only[SC,S9,CU]at uf;rcases uf with rfl|rfl|rfl|rfl
   .exact ⟨_,JH 0 rfl,by kernel_rfl,by decide⟩
   .exact ⟨_,JH 1 rfl,by kernel_rfl,by decide⟩
   .exact ⟨_,JH 2 rfl,by kernel_rfl,by decide⟩
   .exact ⟨_,JH 3 rfl,by kernel_rfl,by decide⟩
  exact Ycu
 rintro g u ⟨h3,⟨S,h4,hP⟩,⟨y,hy,hyl,h5⟩,hG,hF⟩;rw[Ja h3,Ja h4,Ja h5];clear h3 h4 h5;have lU:=hP.len;refine wp_seq ?_;refine Qw (fun g u=>g 3=.pointer (some ⟨p,0,none⟩)/\(∃S,g 4=.string (aA S)/\ki [0,0,1,1,1,1,1,2,2,2,2,2,3,3,3,3,3,4,5,4,5] 5466 S)/\GW u p/\Fr [] w u) ?_ ?_
 .refine rx ?_;refine oS ?_;refine J3 [.string (aA [48]),.string (aA [115])] rfl rfl rfl rfl (fun v1 ef jf tJ=>?_);refine rx ?_;refine aT (XQ p _ [[48],[115]] _ (hG.tr0 jf) ef.src (hG.off ef rfl) ap ap) rfl ?_;rintro _ w1 ⟨t1,uf,rfl,fC,aj⟩;refine⟨_,rfl,?_⟩;obtain⟨y1,yZ,rfl,y6⟩:∃y,y∈Ja2/\t1=bN y/\(bN y).length<=1:=by
   simp only[SC,S9,CU]at uf;rcases uf with rfl|rfl
   .exact ⟨_,JH 0 rfl,by kernel_rfl,by decide⟩
   .exact ⟨_,JH 1 rfl,by kernel_rfl,by decide⟩
  refine rx ?_;refine jg ?_;refine jg ?_;exact Vh ⟨rfl,⟨_,rfl,hP.add (its:=Jbk++(y1++(Jbj++(y++Jbi)))) (JiG _ yZ _ hy) (j:=176) (Dv (by simp only[Ql,Sm];have e0:(bN Jbk).length=32:=az;have e2:(bN Jbj).length=14:=az;have e4:(bN Jbi).length=84:=az;omega)) oT⟩,fC,((hF).Jb jf|>.trans aj mv)⟩
 rintro g u ⟨h3,⟨S,h4,hP⟩,hG,hF⟩;rw[Ja h3,Ja h4];refine bM ?_;exact⟨S,rfl,hP,hF⟩
end Go.Proofs.YtggmccicdhnkgaaGreat
namespace Go.Rf
open Go.RowKit
def TkK(t:List Tk):Prop:=t.length<=5500/\∀x∈t,(0<=x.at_/\x.at_<=8192)/\x.text.length<=8192
theorem JdS(p:Int)(t:Bs):(JY p t).at_=p/\(JY p t).text=t:=by cases t<;>exact⟨rfl,rfl⟩
theorem G6:∀(a:List It) (p:Int) (nx:Option UInt8),iu nx a=true->0<=p->p+(bN a).length<=8192->(JA p a).length<=(bN a).length/\∀x∈JA p a,(0<=x.at_/\x.at_<=8192)/\x.text.length<=8192
 |[],p,nx,_,_,_=>⟨SX _,by simp[JA]⟩
 |.bl b::r,p,nx,h,hp,hm=>by
  simp only[iu,CV]at h;simp only[bN,SI]at hm ⊢;have:=G6 r (p+1) nx h.2 ab ab;simp only[JA];exact⟨by omega,this.2⟩
 |.tk t::r,p,nx,h,hp,hm=>by
  simp only[iu,CV]at h;simp only[bN,Sm]at hm ⊢;have:=G6 r (p+t.length) nx h.2 ab ab;simp only[JA,SI];have ht:1<=t.length:=by
   cases t with
   |nil=>exact absurd h.1 (by simp[p8])
   |cons b t=>simp
  refine⟨by omega,fun x hx=>?_⟩;rcases SC.1 hx with rfl|hx
  .rw [(JdS p t).1,(JdS p t).2];exact⟨by omega,by omega⟩
  .exact this.2 x hx
theorem ki.JjW{ks:List Int}{m:Nat}{S:Bs}(h:ki ks m S)(yz:ks.length<=64)(hm:m<=5500)(n:Int):S.length<=m/\∃(t:List Tk) (ds:List De),BG S=.ok t/\ds.map De.kind=ks/\(∀d∈ds,AW d)/\Pn ds=false/\(∀f,ks.length<f->Xc n 200 f t=some ds)/\TkK t:=by
 obtain⟨a,h1,h2,rfl⟩:=h;obtain⟨ds,h3,h4,h5,h6⟩:=h1.mod yz n;have hk:=G6 a 0 none (h1.ok none) ab ab;exact⟨h2,JA 0 a,ds,BF (h1.ok none) ab,h3,h4,h5,h6,by omega,hk.2⟩
end Go.Rf
