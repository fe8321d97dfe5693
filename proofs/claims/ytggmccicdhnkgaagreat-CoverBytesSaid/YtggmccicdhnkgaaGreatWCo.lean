/-
 The closure that follows calls.
-/
import Derived.Test.YtggmccicdhnkgaaGreatWMp
import Derived.Test.YtggmccicdhnkgaaGreatWQy
import Derived.Test.YtggmccicdhnkgaaGreatWPi
import Derived.Test.YtggmccicdhnkgaaGreatWFgu
set_option linter.all false
set_option maxHeartbeats 64000000
namespace Go.Rf
open Go.RowKit
variable{S:Bs}{m:Nat}
def PrL(ks:List Int)(m:Nat)(S:Bs):Prop:=∃a,Dls ks a/\(rnd a).length<=m/\S=rnd a
theorem PrL.add{ks:List Int}{T:Bs}{k:Int}{its:List It}{j:Nat}(h:PrL ks m S)(hs:WC k its)(hl:Nat.ble (rnd its).length j=true)(hT:T=S++rnd its):PrL (ks++[k]) (m+j) T:=by
 obtain⟨a,h1,h2,rfl⟩:=h;have:=Dy hl;exact⟨a++its,.snoc h1 hs,by rw[Ql,Sm];omega,by rw[Ql,hT]⟩
theorem PrL.len{ks:List Int}(h:PrL ks m S):S.length<=m:=by
 obtain⟨a,h1,h2,rfl⟩:=h;exact h2
theorem PrL.read{ks:List Int}(h:PrL ks m S)(h64:ks.length<=64)(hm:m<=8192)(n:Int):S.length<=m/\∃(t:List Tk) (ds:List De),BG S=.ok t/\ds.map De.kind=ks/\(∀d∈ds,okD d)/\Jb3 ds=false/\∀f,ks.length<f->Xc n 200 f t=some ds:=by
 obtain⟨a,h1,h2,rfl⟩:=h;obtain⟨ds,h3,h4,h5,h6⟩:=h1.mod h64 n;exact⟨h2,JA 0 a,ds,BF (h1.ok none) Yhn,h3,h4,h5,h6⟩
theorem JH{α:Type}{l:List α}{x:α}(i:Nat)(h:l[i]?=some x):x∈l:=Hz h
end Go.Rf
namespace Go.Proofs.YtggmccicdhnkgaaGreat
open Go.Proofs.Tryz
open Go.Rf Go.RowKit
attribute [local irreducible] Code.wp wpList Exit.then Exit.inBlock bodyPost A Calls execOp Addr.add
set_option maxRecDepth 4000 in
theorem program(x:Value)(l:List Int)(w:World)(hx:Src w x l.length (l.map (.int .i64)))(hl:∀n∈l,VE n):
 Calls prog 38 #[x] w fun e w'=>∃S,e=.returned (.string (bst S))/\PrL [0,0,1,1,1,1,1,2,2,2,2,2,3,3,3,3,3,4,5,4,5] 5466 S/\Fr [] w w':=by
 refine enter func38 rfl ntmps38 rfl ?_;refine rx ?_;refine Jl (Jge x l 60 w hx Yhn) ?_;rintro sv w1 ⟨hown,hf1,hfresh⟩;refine rx ?_;obtain⟨as_,cs_,rfl,_⟩:=id hown.src;refine JF [.slice as_ (l.take 60).length cs_,zI] rfl ?_;refine rx ?_;refine Ju rfl rfl (fun w2 p hpe hb2 hf2 hs2=>?_);have hpw:w.heap.size<=p:=by have:=hf1.size;omega
 have hG2:GW w2 p:=⟨_,l.take 60,0,hb2,hown.src.tr0 hf2,fun ad n c e h hm=>by
  simp only[Sv]at hm;have h1:=hown.lt ad.block Yio;omega,fun n hn=>hl n (E5 hn)⟩
 refine rr ?_;refine wpList_nil ?_;refine QG ?_;refine wp_seq ?_;refine Qw (fun g u=>g 3=.pointer (some ⟨p,0,none⟩)/\(∃S,g 4=.string (bst S)/\PrL [0,0] 80 S)/\GW u p/\Fr [] w u) ?_ ?_
 .refine rx ?_;exact Vh ⟨rfl,⟨_,rfl,JcO++Jef,.snoc (.snoc .nil Jg4) JiI,by decide,by kernel_rfl⟩,hG2,hf1.Jb hf2⟩
 rintro g u ⟨h3,⟨S,h4,hP⟩,hG,hF⟩;rw[Ja h3,Ja h4];clear h3 h4;have hSl:=hP.len;refine wp_seq ?_;refine Qw (fun g u=>g 3=.pointer (some ⟨p,0,none⟩)/\(∃S,g 4=.string (bst S)/\PrL [0,0,1] 175 S)/\GW u p/\Fr [] w u) ?_ ?_
 .refine rx ?_;refine Yge ?_;exact Vh ⟨rfl,⟨_,rfl,hP.add (its:=JcK) (Jg2) (j:=95) Yhp Yhx⟩,hG,hF⟩
 rintro g u ⟨h3,⟨S,h4,hP⟩,hG,hF⟩;rw[Ja h3,Ja h4];clear h3 h4;have hSl:=hP.len;refine wp_seq ?_;refine Qw (fun g u=>g 3=.pointer (some ⟨p,0,none⟩)/\(∃S,g 4=.string (bst S)/\PrL [0,0,1,1] 260 S)/\GW u p/\Fr [] w u) ?_ ?_
 .refine rx ?_;refine Yge ?_;refine Jl (Va p 1 _ hG Yhn Yhn) ?_;rintro k1 w1 ⟨hk1,hG1,hf1⟩;have hd1:dg k1∈dgs:=Wi Yhn;have hl1:(dg k1).length=1:=rfl;refine rx ?_;refine Yen ?_;exact Vh ⟨rfl,⟨_,rfl,hP.add (its:=JgC++[.tk (dg k1)]++JgB) (JjQ _ (show[It.tk (dg k1)]∈Jc8 by rcases(show k1=0\/k1=1 by omega)with rfl|rfl<;>first|exact JH 0 rfl|exact JH 1 rfl)) (j:=85) Yhp Yhx⟩,hG1,(hF.trans hf1 Yie)⟩
 rintro g u ⟨h3,⟨S,h4,hP⟩,hG,hF⟩;rw[Ja h3,Ja h4];clear h3 h4;have hSl:=hP.len;refine wp_seq ?_;refine Qw (fun g u=>g 3=.pointer (some ⟨p,0,none⟩)/\(∃S,g 4=.string (bst S)/\PrL [0,0,1,1,1] 339 S)/\GW u p/\Fr [] w u) ?_ ?_
 .refine rx ?_;refine Yge ?_;refine Jl (Va p 2 _ hG Yhn Yhn) ?_;rintro k1 w1 ⟨hk1,hG1,hf1⟩;have hd1:dg k1∈dgs:=Wi Yhn;have hl1:(dg k1).length=1:=rfl;refine rx ?_;refine Yen ?_;refine Jl (Va p 3 _ hG1 Yhn Yhn) ?_;rintro k2 w2 ⟨hk2,hG2,hf2⟩;have hd2:dg k2∈dgs:=Wi Yhn;have hl2:(dg k2).length=1:=rfl;refine rx ?_;refine Yen ?_;refine Jl (Va p 3 _ hG2 Yhn Yhn) ?_;rintro k3 w3 ⟨hk3,hG3,hf3⟩;have hd3:dg k3∈dgs:=Wi Yhn;have hl3:(dg k3).length=1:=rfl;refine rx ?_;refine Yen ?_;exact Vh ⟨rfl,⟨_,rfl,hP.add (its:=JcB++[.tk (dg k1)]++(JcA++[.tk (dg k2)]++(Jcz++[.tk (dg k3)]++Jcy))) (JgW _ (show[It.tk (dg k1)]∈Ug by rcases(show k1=0\/k1=1\/k1=2 by omega)with rfl|rfl|rfl<;>first|exact JH 0 rfl|exact JH 1 rfl|exact JH 2 rfl) _ (show[It.tk (dg k2)]∈Uf by rcases(show k2=0\/k2=1\/k2=2\/k2=3 by omega)with rfl|rfl|rfl|rfl<;>first|exact JH 0 rfl|exact JH 1 rfl|exact JH 2 rfl|exact JH 3 rfl) _ (show[It.tk (dg k3)]∈Ue by rcases(show k3=0\/k3=1\/k3=2\/k3=3 by omega)with rfl|rfl|rfl|rfl<;>first|exact JH 0 rfl|exact JH 1 rfl|exact JH 2 rfl|exact JH 3 rfl)) (j:=79) Yhp Yhx⟩,hG3,(((hF.trans hf1 Yie).trans hf2 Yie).trans hf3 Yie)⟩
 rintro g u ⟨h3,⟨S,h4,hP⟩,hG,hF⟩;rw[Ja h3,Ja h4];clear h3 h4;have hSl:=hP.len;refine wp_seq ?_;refine Qw (fun g u=>g 3=.pointer (some ⟨p,0,none⟩)/\(∃S,g 4=.string (bst S)/\PrL [0,0,1,1,1,1] 946 S)/\GW u p/\Fr [] w u) ?_ ?_
 .refine rx ?_;refine Yge ?_;refine J3 [.string (bst [120]),.string (bst [121])] rfl rfl rfl rfl (fun v1 ho1 hfv1 hsv1=>?_);refine rx ?_;have hGv1:=hG.tr0 hfv1;refine Jl ((Jht (V:=[vX,vY]) Jbu.2.2 Yhy Yhy 2 Yhn).1 p _ _ hGv1 ⟨ho1.src,hG.off ho1 rfl⟩) ?_;rintro a1 w1 ⟨ha1,hl1,hG1,hV1,hf1⟩;refine Yer ?_;have hle1:(rnd a1).length<=576:=ha1.len Jbu.2.2;refine Yge ?_;exact Vh ⟨rfl,⟨_,rfl,hP.add (its:=JhY++(a1++Jjv)) (s_f ha1) (j:=607) (Dv (by simp only[Ql,Sm];have e0:(rnd JhY).length=29:=Yhp;have e2:(rnd Jjv).length=2:=Yhp;omega)) Yhx⟩,hG1,((hF).Jb hfv1|>.trans hf1 Yie)⟩
 rintro g u ⟨h3,⟨S,h4,hP⟩,hG,hF⟩;rw[Ja h3,Ja h4];clear h3 h4;have hSl:=hP.len;refine wp_seq ?_;refine Qw (fun g u=>g 3=.pointer (some ⟨p,0,none⟩)/\(∃S,g 4=.string (bst S)/\PrL [0,0,1,1,1,1,1] 2339 S)/\GW u p/\Fr [] w u) ?_ ?_
 .refine rx ?_;refine Yge ?_;refine J3 [.string (bst [120])] rfl rfl rfl rfl (fun v1 ho1 hfv1 hsv1=>?_);refine rx ?_;have hGv1:=hG.tr0 hfv1;refine Jl ((Jht (V:=[vX]) vars2.2.2 Yhy Yhy 2 Yhn).2 p _ _ hGv1 ⟨ho1.src,hG.off ho1 rfl⟩) ?_;rintro a1 w1 ⟨ha1,hl1,hG1,hV1,hf1⟩;refine Yer ?_;have hle1:(rnd a1).length<=1368:=ha1.len vars2.2.2;refine Yge ?_;exact Vh ⟨rfl,⟨_,rfl,hP.add (its:=Jeb++(a1++JgD)) (JkA ha1) (j:=1393) (Dv (by simp only[Ql,Sm];have e0:(rnd Jeb).length=23:=Yhp;have e2:(rnd JgD).length=2:=Yhp;omega)) Yhx⟩,hG1,((hF).Jb hfv1|>.trans hf1 Yie)⟩
 rintro g u ⟨h3,⟨S,h4,hP⟩,hG,hF⟩;rw[Ja h3,Ja h4];clear h3 h4;have hSl:=hP.len;refine wp_seq ?_;refine Qw (fun g u=>g 3=.pointer (some ⟨p,0,none⟩)/\(∃S,g 4=.string (bst S)/\PrL [0,0,1,1,1,1,1,2] 2436 S)/\GW u p/\Fr [] w u) ?_ ?_
 .refine rx ?_;refine Yfi ?_;rintro z1 w1 ⟨hz1,hzk1,hG1,hf1⟩;obtain⟨k1,hk1⟩:∃j:Nat,1+z1=(j:Int):=⟨(1+z1).toNat,by omega⟩;refine rx ?_;rw[hk1];refine Yhc ?_;rintro _ rfl;have hl1:(dg k1).length=1:=rfl;refine rx ?_;refine Yen ?_;refine Jl (Va p 3 _ hG1 Yhn Yhn) ?_;rintro k2 w2 ⟨hk2,hG2,hf2⟩;have hd2:dg k2∈dgs:=Wi Yhn;have hl2:(dg k2).length=1:=rfl;refine rx ?_;refine Yen ?_;exact Vh ⟨rfl,⟨_,rfl,hP.add (its:=JgG++[.tk (dg k1)]++(JgF++[.tk (dg k2)]++JgE)) (JjR _ (show[It.tk (dg k1)]∈Jda by rcases(show k1=1\/k1=2\/k1=3 by omega)with rfl|rfl|rfl<;>first|exact JH 0 rfl|exact JH 1 rfl|exact JH 2 rfl) _ (show[It.tk (dg k2)]∈Jc9 by rcases(show k2=0\/k2=1\/k2=2\/k2=3 by omega)with rfl|rfl|rfl|rfl<;>first|exact JH 0 rfl|exact JH 1 rfl|exact JH 2 rfl|exact JH 3 rfl)) (j:=97) Yhp Yhx⟩,hG2,((hF.trans hf1 Yie).trans hf2 Yie)⟩
 rintro g u ⟨h3,⟨S,h4,hP⟩,hG,hF⟩;rw[Ja h3,Ja h4];clear h3 h4;have hSl:=hP.len;refine wp_seq ?_;refine Qw (fun g u=>g 3=.pointer (some ⟨p,0,none⟩)/\(∃S,g 4=.string (bst S)/\PrL [0,0,1,1,1,1,1,2,2] 2519 S)/\GW u p/\Fr [] w u) ?_ ?_
 .refine rx ?_;refine Yfj ?_;rintro z1 w1 ⟨hz1,hzk1,hG1,hf1⟩;obtain⟨k1,hk1⟩:∃j:Nat,1+z1=(j:Int):=⟨(1+z1).toNat,by omega⟩;refine rx ?_;rw[hk1];refine Yhc ?_;rintro _ rfl;have hl1:(dg k1).length=1:=rfl;refine rx ?_;refine Yen ?_;refine Jl (Va p 2 _ hG1 Yhn Yhn) ?_;rintro k2 w2 ⟨hk2,hG2,hf2⟩;have hd2:dg k2∈dgs:=Wi Yhn;have hl2:(dg k2).length=1:=rfl;refine rx ?_;refine Yen ?_;exact Vh ⟨rfl,⟨_,rfl,hP.add (its:=JcN++[.tk (dg k1)]++(JcM++[.tk (dg k2)]++JcL)) (Jg3 _ (show[It.tk (dg k1)]∈Um by rcases(show k1=1\/k1=2 by omega)with rfl|rfl<;>first|exact JH 0 rfl|exact JH 1 rfl) _ (show[It.tk (dg k2)]∈Ul by rcases(show k2=0\/k2=1\/k2=2 by omega)with rfl|rfl|rfl<;>first|exact JH 0 rfl|exact JH 1 rfl|exact JH 2 rfl)) (j:=83) Yhp Yhx⟩,hG2,((hF.trans hf1 Yie).trans hf2 Yie)⟩
 rintro g u ⟨h3,⟨S,h4,hP⟩,hG,hF⟩;rw[Ja h3,Ja h4];clear h3 h4;have hSl:=hP.len;refine wp_seq ?_;refine Qw (fun g u=>g 3=.pointer (some ⟨p,0,none⟩)/\(∃S,g 4=.string (bst S)/\PrL [0,0,1,1,1,1,1,2,2,2] 2619 S)/\GW u p/\Fr [] w u) ?_ ?_
 .refine rx ?_;refine Yfi ?_;rintro z1 w1 ⟨hz1,hzk1,hG1,hf1⟩;obtain⟨k1,hk1⟩:∃j:Nat,1+z1=(j:Int):=⟨(1+z1).toNat,by omega⟩;refine rx ?_;rw[hk1];refine Yhc ?_;rintro _ rfl;have hl1:(dg k1).length=1:=rfl;refine rx ?_;refine Yen ?_;exact Vh ⟨rfl,⟨_,rfl,hP.add (its:=Jd8++[.tk (dg k1)]++Jd7) (Jiy _ (show[It.tk (dg k1)]∈JaX by rcases(show k1=1\/k1=2\/k1=3 by omega)with rfl|rfl|rfl<;>first|exact JH 0 rfl|exact JH 1 rfl|exact JH 2 rfl)) (j:=100) Yhp Yhx⟩,hG1,(hF.trans hf1 Yie)⟩
 rintro g u ⟨h3,⟨S,h4,hP⟩,hG,hF⟩;rw[Ja h3,Ja h4];clear h3 h4;have hSl:=hP.len;refine wp_seq ?_;refine Qw (fun g u=>g 3=.pointer (some ⟨p,0,none⟩)/\(∃S,g 4=.string (bst S)/\PrL [0,0,1,1,1,1,1,2,2,2,2] 2660 S)/\GW u p/\Fr [] w u) ?_ ?_
 .refine rx ?_;refine Yge ?_;refine Jl (Va p 1 _ hG Yhn Yhn) ?_;rintro k1 w1 ⟨hk1,hG1,hf1⟩;have hd1:dg k1∈dgs:=Wi Yhn;have hl1:(dg k1).length=1:=rfl;refine rx ?_;refine Yen ?_;refine Jl (Va p 2 _ hG1 Yhn Yhn) ?_;rintro k2 w2 ⟨hk2,hG2,hf2⟩;have hd2:dg k2∈dgs:=Wi Yhn;have hl2:(dg k2).length=1:=rfl;refine rx ?_;refine Yen ?_;exact Vh ⟨rfl,⟨_,rfl,hP.add (its:=Jee++[.tk (dg k1)]++(Jed++[.tk (dg k2)]++Jec)) (JiB _ (show[It.tk (dg k1)]∈Ja1 by rcases(show k1=0\/k1=1 by omega)with rfl|rfl<;>first|exact JH 0 rfl|exact JH 1 rfl) _ (show[It.tk (dg k2)]∈Ja0 by rcases(show k2=0\/k2=1\/k2=2 by omega)with rfl|rfl|rfl<;>first|exact JH 0 rfl|exact JH 1 rfl|exact JH 2 rfl)) (j:=41) Yhp Yhx⟩,hG2,((hF.trans hf1 Yie).trans hf2 Yie)⟩
 rintro g u ⟨h3,⟨S,h4,hP⟩,hG,hF⟩;rw[Ja h3,Ja h4];clear h3 h4;have hSl:=hP.len;refine wp_seq ?_;refine Qw (fun g u=>g 3=.pointer (some ⟨p,0,none⟩)/\(∃S,g 4=.string (bst S)/\PrL [0,0,1,1,1,1,1,2,2,2,2,2] 2739 S)/\GW u p/\Fr [] w u) ?_ ?_
 .refine rx ?_;refine Yfj ?_;rintro z1 w1 ⟨hz1,hzk1,hG1,hf1⟩;obtain⟨k1,hk1⟩:∃j:Nat,2+z1=(j:Int):=⟨(2+z1).toNat,by omega⟩;refine rx ?_;rw[hk1];refine Yhc ?_;rintro _ rfl;have hl1:(dg k1).length=1:=rfl;refine rx ?_;refine Yen ?_;exact Vh ⟨rfl,⟨_,rfl,hP.add (its:=Jea++[.tk (dg k1)]++Jd9) (JiA _ (show[It.tk (dg k1)]∈JaZ by rcases(show k1=2\/k1=3 by omega)with rfl|rfl<;>first|exact JH 0 rfl|exact JH 1 rfl)) (j:=79) Yhp Yhx⟩,hG1,(hF.trans hf1 Yie)⟩
 rintro g u ⟨h3,⟨S,h4,hP⟩,hG,hF⟩;rw[Ja h3,Ja h4];clear h3 h4;have hSl:=hP.len;refine wp_seq ?_;refine Qw (fun g u=>g 3=.pointer (some ⟨p,0,none⟩)/\(∃S,g 4=.string (bst S)/\PrL [0,0,1,1,1,1,1,2,2,2,2,2,3] 2910 S)/\GW u p/\Fr [] w u) ?_ ?_
 .refine rx ?_;refine Yge ?_;refine Jl (Va p 2 _ hG Yhn Yhn) ?_;rintro k1 w1 ⟨hk1,hG1,hf1⟩;have hd1:dg k1∈dgs:=Wi Yhn;have hl1:(dg k1).length=1:=rfl;refine rx ?_;refine Yen ?_;refine Jl (Va p 4 _ hG1 Yhn Yhn) ?_;rintro k2 w2 ⟨hk2,hG2,hf2⟩;have hd2:dg k2∈dgs:=Wi Yhn;have hl2:(dg k2).length=1:=rfl;refine rx ?_;refine Yen ?_;exact Vh ⟨rfl,⟨_,rfl,hP.add (its:=Jcx++[.tk (dg k1)]++(Jcw++[.tk (dg k2)]++Jcv)) (JgU _ (show[It.tk (dg k1)]∈Ud by rcases(show k1=0\/k1=1\/k1=2 by omega)with rfl|rfl|rfl<;>first|exact JH 0 rfl|exact JH 1 rfl|exact JH 2 rfl) _ (show[It.tk (dg k2)]∈Uc by rcases(show k2=0\/k2=1\/k2=2\/k2=3\/k2=4 by omega)with rfl|rfl|rfl|rfl|rfl<;>first|exact JH 0 rfl|exact JH 1 rfl|exact JH 2 rfl|exact JH 3 rfl|exact JH 4 rfl)) (j:=171) Yhp Yhx⟩,hG2,((hF.trans hf1 Yie).trans hf2 Yie)⟩
 rintro g u ⟨h3,⟨S,h4,hP⟩,hG,hF⟩;rw[Ja h3,Ja h4];clear h3 h4;have hSl:=hP.len;refine wp_seq ?_;refine Qw (fun g u=>g 3=.pointer (some ⟨p,0,none⟩)/\(∃S,g 4=.string (bst S)/\PrL [0,0,1,1,1,1,1,2,2,2,2,2,3,3] 3043 S)/\GW u p/\Fr [] w u) ?_ ?_
 .refine rx ?_;refine Yfj ?_;rintro z1 w1 ⟨hz1,hzk1,hG1,hf1⟩;obtain⟨k1,hk1⟩:∃j:Nat,2+z1=(j:Int):=⟨(2+z1).toNat,by omega⟩;refine rx ?_;rw[hk1];refine Yhc ?_;rintro _ rfl;have hl1:(dg k1).length=1:=rfl;refine rx ?_;refine Yen ?_;refine Jl (Va p 9 _ hG1 Yhn Yhn) ?_;rintro k2 w2 ⟨hk2,hG2,hf2⟩;have hd2:dg k2∈dgs:=Wi Yhn;have hl2:(dg k2).length=1:=rfl;refine rx ?_;refine Yen ?_;exact Vh ⟨rfl,⟨_,rfl,hP.add (its:=JcH++[.tk (dg k1)]++(JcG++[.tk (dg k2)]++JcF)) (Jg0 _ (show[It.tk (dg k1)]∈Uj by rcases(show k1=2\/k1=3 by omega)with rfl|rfl<;>first|exact JH 0 rfl|exact JH 1 rfl) _ (show[It.tk (dg k2)]∈Ui by rcases(show k2=0\/k2=1\/k2=2\/k2=3\/k2=4\/k2=5\/k2=6\/k2=7\/k2=8\/k2=9 by omega)with rfl|rfl|rfl|rfl|rfl|rfl|rfl|rfl|rfl|rfl<;>first|exact JH 0 rfl|exact JH 1 rfl|exact JH 2 rfl|exact JH 3 rfl|exact JH 4 rfl|exact JH 5 rfl|exact JH 6 rfl|exact JH 7 rfl|exact JH 8 rfl|exact JH 9 rfl)) (j:=133) Yhp Yhx⟩,hG2,((hF.trans hf1 Yie).trans hf2 Yie)⟩
 rintro g u ⟨h3,⟨S,h4,hP⟩,hG,hF⟩;rw[Ja h3,Ja h4];clear h3 h4;have hSl:=hP.len;refine wp_seq ?_;refine Qw (fun g u=>g 3=.pointer (some ⟨p,0,none⟩)/\(∃S,g 4=.string (bst S)/\PrL [0,0,1,1,1,1,1,2,2,2,2,2,3,3,3] 4505 S)/\GW u p/\Fr [] w u) ?_ ?_
 .refine rx ?_;refine Yge ?_;refine J3 [.string (bst [120]),.string (bst [115,99,111,114,101,40,99,41])] rfl rfl rfl rfl (fun v1 ho1 hfv1 hsv1=>?_);refine rx ?_;have hGv1:=hG.tr0 hfv1;refine Jl ((Jht (V:=[vX,vS]) Jbt.2.2 Yhy Yhy 2 Yhn).2 p _ _ hGv1 ⟨ho1.src,hG.off ho1 rfl⟩) ?_;rintro a1 w1 ⟨ha1,hl1,hG1,hV1,hf1⟩;refine Yer ?_;have hle1:(rnd a1).length<=1368:=ha1.len Jbt.2.2;refine Yge ?_;exact Vh ⟨rfl,⟨_,rfl,hP.add (its:=Vb++(a1++Qp)) (Jfm ha1) (j:=1462) (Dv (by simp only[Ql,Sm];have e0:(rnd Vb).length=69:=Yhp;have e2:(rnd Qp).length=25:=Yhp;omega)) Yhx⟩,hG1,((hF).Jb hfv1|>.trans hf1 Yie)⟩
 rintro g u ⟨h3,⟨S,h4,hP⟩,hG,hF⟩;rw[Ja h3,Ja h4];clear h3 h4;have hSl:=hP.len;refine wp_seq ?_;refine Qw (fun g u=>g 3=.pointer (some ⟨p,0,none⟩)/\(∃S,g 4=.string (bst S)/\PrL [0,0,1,1,1,1,1,2,2,2,2,2,3,3,3,3] 4642 S)/\GW u p/\Fr [] w u) ?_ ?_
 .refine rx ?_;refine Yge ?_;refine Jl (Uz p 4 _ hG Yhn) ?_;rintro z1 w1 ⟨hz1,hzk1,hG1,hf1⟩;obtain⟨k1,hk1⟩:∃j:Nat,1+z1=(j:Int):=⟨(1+z1).toNat,by omega⟩;refine rx ?_;rw[hk1];refine Yhc ?_;rintro _ rfl;have hl1:(dg k1).length=1:=rfl;refine rx ?_;refine Yen ?_;exact Vh ⟨rfl,⟨_,rfl,hP.add (its:=JcE++[.tk (dg k1)]++JcD) (JgZ _ (show[It.tk (dg k1)]∈Uh by rcases(show k1=1\/k1=2\/k1=3\/k1=4 by omega)with rfl|rfl|rfl|rfl<;>first|exact JH 0 rfl|exact JH 1 rfl|exact JH 2 rfl|exact JH 3 rfl)) (j:=137) Yhp Yhx⟩,hG1,(hF.trans hf1 Yie)⟩
 rintro g u ⟨h3,⟨S,h4,hP⟩,hG,hF⟩;rw[Ja h3,Ja h4];clear h3 h4;have hSl:=hP.len;refine wp_seq ?_;refine Qw (fun g u=>g 3=.pointer (some ⟨p,0,none⟩)/\(∃S,g 4=.string (bst S)/\PrL [0,0,1,1,1,1,1,2,2,2,2,2,3,3,3,3,3] 4713 S)/\GW u p/\Fr [] w u) ?_ ?_
 .refine rx ?_;refine Yfi ?_;rintro z1 w1 ⟨hz1,hzk1,hG1,hf1⟩;obtain⟨k1,hk1⟩:∃j:Nat,1+z1=(j:Int):=⟨(1+z1).toNat,by omega⟩;refine rx ?_;rw[hk1];refine Yhc ?_;rintro _ rfl;have hl1:(dg k1).length=1:=rfl;refine rx ?_;refine Yen ?_;exact Vh ⟨rfl,⟨_,rfl,hP.add (its:=JcJ++[.tk (dg k1)]++JcI) (Jg1 _ (show[It.tk (dg k1)]∈Uk by rcases(show k1=1\/k1=2\/k1=3 by omega)with rfl|rfl|rfl<;>first|exact JH 0 rfl|exact JH 1 rfl|exact JH 2 rfl)) (j:=71) Yhp Yhx⟩,hG1,(hF.trans hf1 Yie)⟩
 rintro g u ⟨h3,⟨S,h4,hP⟩,hG,hF⟩;rw[Ja h3,Ja h4];clear h3 h4;have hSl:=hP.len;refine wp_seq ?_;refine Qw (fun g u=>g 3=.pointer (some ⟨p,0,none⟩)/\(∃S,g 4=.string (bst S)/\PrL [0,0,1,1,1,1,1,2,2,2,2,2,3,3,3,3,3,4] 4888 S)/\GW u p/\Fr [] w u) ?_ ?_
 .refine rx ?_;refine Yge ?_;exact Vh ⟨rfl,⟨_,rfl,hP.add (its:=JcC) (JgX) (j:=175) Yhp Yhx⟩,hG,hF⟩
 rintro g u ⟨h3,⟨S,h4,hP⟩,hG,hF⟩;rw[Ja h3,Ja h4];clear h3 h4;have hSl:=hP.len;refine wp_seq ?_;refine Qw (fun g u=>g 3=.pointer (some ⟨p,0,none⟩)/\(∃S,g 4=.string (bst S)/\PrL [0,0,1,1,1,1,1,2,2,2,2,2,3,3,3,3,3,4] 4888 S)/\(∃y,y∈MX/\(rnd y).length<=46/\g 5=.string (bst (rnd y)))/\GW u p/\Fr [] w u) ?_ ?_
 .refine rx ?_;refine J3 [.string (bst [115,116,101,112,32,100,114,111,112,40,115,44,32,49,41,44,32,97,116,40,115,44,32,48,41,59]),.string (bst [115,116,101,112,32,116,97,107,101,40,115,44,32,115,105,122,101,40,115,41,32,45,32,49,41,44,32,97,116,40,115,44,32,115,105,122,101,40,115,41,32,45,32,49,41,59]),.string (bst [115,116,101,112,32,115,44,32,97,116,40,115,44,32,48,41,59,32,115,116,101,112,32,100,114,111,112,40,115,44,32,49,41,44,32,108,59]),.string (bst [115,116,101,112,32,100,114,111,112,40,115,44,32,49,41,44,32,97,116,40,115,44,32,48,41,59])] rfl rfl rfl rfl (fun v1 ho1 hfv1 hsv1=>?_);refine rx ?_;refine s_call (XQ p _ [[115,116,101,112,32,100,114,111,112,40,115,44,32,49,41,44,32,97,116,40,115,44,32,48,41,59],[115,116,101,112,32,116,97,107,101,40,115,44,32,115,105,122,101,40,115,41,32,45,32,49,41,44,32,97,116,40,115,44,32,115,105,122,101,40,115,41,32,45,32,49,41,59],[115,116,101,112,32,115,44,32,97,116,40,115,44,32,48,41,59,32,115,116,101,112,32,100,114,111,112,40,115,44,32,49,41,44,32,108,59],[115,116,101,112,32,100,114,111,112,40,115,44,32,49,41,44,32,97,116,40,115,44,32,48,41,59]] _ (hG.tr0 hfv1) ho1.src (hG.off ho1 rfl) Yhs Yhs) rfl ?_;rintro _ w1 ⟨t1,ht1,rfl,hG1,hf1⟩;refine⟨_,rfl,?_⟩;obtain⟨y1,hy1,rfl,hyl1⟩:∃y,y∈MX/\t1=rnd y/\(rnd y).length<=46:=by
   simp only[SC,S9,CU]at ht1;rcases ht1 with rfl|rfl|rfl|rfl
   .exact ⟨_,JH 0 rfl,by kernel_rfl,by decide⟩
   .exact ⟨_,JH 1 rfl,by kernel_rfl,by decide⟩
   .exact ⟨_,JH 2 rfl,by kernel_rfl,by decide⟩
   .exact ⟨_,JH 0 rfl,by kernel_rfl,by decide⟩
  exact Ycu
 rintro g u ⟨h3,⟨S,h4,hP⟩,⟨y,hy,hyl,h5⟩,hG,hF⟩;rw[Ja h3,Ja h4,Ja h5];clear h3 h4 h5;have hSl:=hP.len;refine wp_seq ?_;refine Qw (fun g u=>g 3=.pointer (some ⟨p,0,none⟩)/\(∃S,g 4=.string (bst S)/\PrL [0,0,1,1,1,1,1,2,2,2,2,2,3,3,3,3,3,4,5] 5067 S)/\GW u p/\Fr [] w u) ?_ ?_
 .refine rx ?_;refine Yge ?_;refine J3 [.string (bst [115,116,101,112,32,112,117,115,104,40,115,44,32,120,41,44,32,48,59]),.string (bst [115,116,101,112,32,112,117,115,104,40,115,44,32,120,41,44,32,48,59]),.string (bst [115,116,101,112,32,115,44,32,115,105,122,101,40,115,41,59,32,115,116,101,112,32,112,117,115,104,40,115,44,32,120,41,44,32,105,102,32,108,32,60,32,50,32,116,104,101,110,32,48,32,101,108,115,101,32,49,59])] rfl rfl rfl rfl (fun v1 ho1 hfv1 hsv1=>?_);refine rx ?_;refine s_call (XQ p _ [[115,116,101,112,32,112,117,115,104,40,115,44,32,120,41,44,32,48,59],[115,116,101,112,32,112,117,115,104,40,115,44,32,120,41,44,32,48,59],[115,116,101,112,32,115,44,32,115,105,122,101,40,115,41,59,32,115,116,101,112,32,112,117,115,104,40,115,44,32,120,41,44,32,105,102,32,108,32,60,32,50,32,116,104,101,110,32,48,32,101,108,115,101,32,49,59]] _ (hG.tr0 hfv1) ho1.src (hG.off ho1 rfl) Yhs Yhs) rfl ?_;rintro _ w1 ⟨t1,ht1,rfl,hG1,hf1⟩;refine⟨_,rfl,?_⟩;obtain⟨y1,hy1,rfl,hyl1⟩:∃y,y∈JaY/\t1=rnd y/\(rnd y).length<=57:=by
   simp only[SC,S9,CU]at ht1;rcases ht1 with rfl|rfl|rfl
   .exact ⟨_,JH 0 rfl,by kernel_rfl,by decide⟩
   .exact ⟨_,JH 0 rfl,by kernel_rfl,by decide⟩
   .exact ⟨_,JH 1 rfl,by kernel_rfl,by decide⟩
  refine rx ?_;refine Yen ?_;refine Yen ?_;exact Vh ⟨rfl,⟨_,rfl,hP.add (its:=Jbf++(y1++(Jbe++(y++Jbd)))) (Jiz _ hy1 _ hy) (j:=179) (Dv (by simp only[Ql,Sm];have e0:(rnd Jbf).length=57:=Yhp;have e2:(rnd Jbe).length=14:=Yhp;have e4:(rnd Jbd).length=5:=Yhp;omega)) Yhx⟩,hG1,((hF).Jb hfv1|>.trans hf1 Yie)⟩
 rintro g u ⟨h3,⟨S,h4,hP⟩,hG,hF⟩;rw[Ja h3,Ja h4];clear h3 h4;have hSl:=hP.len;refine wp_seq ?_;refine Qw (fun g u=>g 3=.pointer (some ⟨p,0,none⟩)/\(∃S,g 4=.string (bst S)/\PrL [0,0,1,1,1,1,1,2,2,2,2,2,3,3,3,3,3,4,5,4] 5290 S)/\GW u p/\Fr [] w u) ?_ ?_
 .refine rx ?_;refine Yge ?_;exact Vh ⟨rfl,⟨_,rfl,hP.add (its:=UM) (Jep) (j:=223) Yhp Yhx⟩,hG,hF⟩
 rintro g u ⟨h3,⟨S,h4,hP⟩,hG,hF⟩;rw[Ja h3,Ja h4];clear h3 h4;have hSl:=hP.len;refine wp_seq ?_;refine Qw (fun g u=>g 3=.pointer (some ⟨p,0,none⟩)/\(∃S,g 4=.string (bst S)/\PrL [0,0,1,1,1,1,1,2,2,2,2,2,3,3,3,3,3,4,5,4] 5290 S)/\(∃y,y∈MZ/\(rnd y).length<=45/\g 6=.string (bst (rnd y)))/\GW u p/\Fr [] w u) ?_ ?_
 .refine rx ?_;refine J3 [.string (bst [115,116,101,112,32,115,32,43,32,49,44,32,115,32,43,32,49,59]),.string (bst [115,116,101,112,32,115,44,32,115,59,32,115,116,101,112,32,108,32,43,32,49,44,32,108,32,43,32,49,59]),.string (bst [115,116,101,112,32,115,44,32,115,59,32,115,116,101,112,32,115,32,43,32,49,44,32,115,32,43,32,49,59]),.string (bst [115,116,101,112,32,115,32,43,32,49,44,32,105,102,32,102,108,105,112,40,53,41,32,60,32,52,32,116,104,101,110,32,115,32,43,32,49,32,101,108,115,101,32,115,59])] rfl rfl rfl rfl (fun v1 ho1 hfv1 hsv1=>?_);refine rx ?_;refine s_call (XQ p _ [[115,116,101,112,32,115,32,43,32,49,44,32,115,32,43,32,49,59],[115,116,101,112,32,115,44,32,115,59,32,115,116,101,112,32,108,32,43,32,49,44,32,108,32,43,32,49,59],[115,116,101,112,32,115,44,32,115,59,32,115,116,101,112,32,115,32,43,32,49,44,32,115,32,43,32,49,59],[115,116,101,112,32,115,32,43,32,49,44,32,105,102,32,102,108,105,112,40,53,41,32,60,32,52,32,116,104,101,110,32,115,32,43,32,49,32,101,108,115,101,32,115,59]] _ (hG.tr0 hfv1) ho1.src (hG.off ho1 rfl) Yhs Yhs) rfl ?_;rintro _ w1 ⟨t1,ht1,rfl,hG1,hf1⟩;refine⟨_,rfl,?_⟩;obtain⟨y1,hy1,rfl,hyl1⟩:∃y,y∈MZ/\t1=rnd y/\(rnd y).length<=45:=by
   simp only[SC,S9,CU]at ht1;rcases ht1 with rfl|rfl|rfl|rfl
   .exact ⟨_,JH 0 rfl,by kernel_rfl,by decide⟩
   .exact ⟨_,JH 1 rfl,by kernel_rfl,by decide⟩
   .exact ⟨_,JH 2 rfl,by kernel_rfl,by decide⟩
   .exact ⟨_,JH 3 rfl,by kernel_rfl,by decide⟩
  exact Ycu
 rintro g u ⟨h3,⟨S,h4,hP⟩,⟨y,hy,hyl,h5⟩,hG,hF⟩;rw[Ja h3,Ja h4,Ja h5];clear h3 h4 h5;have hSl:=hP.len;refine wp_seq ?_;refine Qw (fun g u=>g 3=.pointer (some ⟨p,0,none⟩)/\(∃S,g 4=.string (bst S)/\PrL [0,0,1,1,1,1,1,2,2,2,2,2,3,3,3,3,3,4,5,4,5] 5466 S)/\GW u p/\Fr [] w u) ?_ ?_
 .refine rx ?_;refine Yge ?_;refine J3 [.string (bst [48]),.string (bst [115])] rfl rfl rfl rfl (fun v1 ho1 hfv1 hsv1=>?_);refine rx ?_;refine s_call (XQ p _ [[48],[115]] _ (hG.tr0 hfv1) ho1.src (hG.off ho1 rfl) Yhs Yhs) rfl ?_;rintro _ w1 ⟨t1,ht1,rfl,hG1,hf1⟩;refine⟨_,rfl,?_⟩;obtain⟨y1,hy1,rfl,hyl1⟩:∃y,y∈Ja2/\t1=rnd y/\(rnd y).length<=1:=by
   simp only[SC,S9,CU]at ht1;rcases ht1 with rfl|rfl
   .exact ⟨_,JH 0 rfl,by kernel_rfl,by decide⟩
   .exact ⟨_,JH 1 rfl,by kernel_rfl,by decide⟩
  refine rx ?_;refine Yen ?_;refine Yen ?_;exact Vh ⟨rfl,⟨_,rfl,hP.add (its:=Jbk++(y1++(Jbj++(y++Jbi)))) (JiG _ hy1 _ hy) (j:=176) (Dv (by simp only[Ql,Sm];have e0:(rnd Jbk).length=32:=Yhp;have e2:(rnd Jbj).length=14:=Yhp;have e4:(rnd Jbi).length=84:=Yhp;omega)) Yhx⟩,hG1,((hF).Jb hfv1|>.trans hf1 Yie)⟩
 rintro g u ⟨h3,⟨S,h4,hP⟩,hG,hF⟩;rw[Ja h3,Ja h4];refine Yeo ?_;exact⟨S,rfl,hP,hF⟩
end Go.Proofs.YtggmccicdhnkgaaGreat
namespace Go.Rf
open Go.RowKit
def TkK(t:List Tk):Prop:=t.length<=5500/\∀x∈t,(0<=x.at_/\x.at_<=8192)/\x.text.length<=8192
theorem JdS(p:Int)(t:Bs):(JY p t).at_=p/\(JY p t).text=t:=by cases t<;>exact⟨rfl,rfl⟩
theorem G6:∀(a:List It) (p:Int) (nx:Option UInt8),okI nx a=true->0<=p->p+(rnd a).length<=8192->(JA p a).length<=(rnd a).length/\∀x∈JA p a,(0<=x.at_/\x.at_<=8192)/\x.text.length<=8192
 |[],p,nx,_,_,_=>⟨SX _,by simp[JA]⟩
 |.bl b::r,p,nx,h,hp,hm=>by
  simp only[okI,CV]at h;simp only[rnd,SI]at hm ⊢;have:=G6 r (p+1) nx h.2 Yhn Yhn;simp only[JA];exact⟨by omega,this.2⟩
 |.tk t::r,p,nx,h,hp,hm=>by
  simp only[okI,CV]at h;simp only[rnd,Sm]at hm ⊢;have:=G6 r (p+t.length) nx h.2 Yhn Yhn;simp only[JA,SI];have ht:1<=t.length:=by
   cases t with
   |nil=>exact absurd h.1 (by simp[okT])
   |cons b t=>simp
  refine⟨by omega,fun x hx=>?_⟩;rcases SC.1 hx with rfl|hx
  .rw [(JdS p t).1,(JdS p t).2];exact⟨by omega,by omega⟩
  .exact this.2 x hx
theorem PrL.JjW{ks:List Int}{m:Nat}{S:Bs}(h:PrL ks m S)(h64:ks.length<=64)(hm:m<=5500)(n:Int):S.length<=m/\∃(t:List Tk) (ds:List De),BG S=.ok t/\ds.map De.kind=ks/\(∀d∈ds,okD d)/\Jb3 ds=false/\(∀f,ks.length<f->Xc n 200 f t=some ds)/\TkK t:=by
 obtain⟨a,h1,h2,rfl⟩:=h;obtain⟨ds,h3,h4,h5,h6⟩:=h1.mod h64 n;have hk:=G6 a 0 none (h1.ok none) Yhn Yhn;exact⟨h2,JA 0 a,ds,BF (h1.ok none) Yhn,h3,h4,h5,h6,by omega,hk.2⟩
theorem JjT{P:Program}{fn:Func}{R:Ending->World->Prop}{n:Nat}{f:Env}{w:World}{t ty m q tb u s:Nat}{cs:List Value}{x y:Value}[G:AggT P ty m](hr:fn.results=#[.cell t ty,.tmp u,.tmp s])(hv:ev n f (.tmp t)=.pointer (some ⟨q,0,none⟩))(hb:Blk w q cs tb)(hl:cs.length=m)(hx:ev n f (.tmp u)=x)(hy:ev n f (.tmp s)=y)
 (h:R (.returned (.tuple #[.agg cs.toArray,x,y])) w):bodyPost P fn R .ret (A n f) w:=
 ⟨rfl,.tuple #[.agg cs.toArray,x,y],by
  have hld:(loadVar ty ⟨q,0,none⟩).run P w=.ok (.agg cs.toArray) w:=AggT.load _ cs hl Yjn;have e:(A n f).tmps.getD t undef=.pointer (some ⟨q,0,none⟩):=by rw[Wl];exact hv
  have e2:(A n f).tmps.getD u undef=x:=by rw[Wl];exact hx
  have e3:(A n f).tmps.getD s undef=y:=by rw[Wl];exact hy
  rw[DU]at e e2 e3;simp[results,hr,e,e2,e3,asAddr,hld],h⟩
theorem Jaw:∀(f:Nat) (a:Int) (r:Bs) (T:List Tk),V3 f a r=.ok T->T.length<=f
 |0,a,r,T,h=>by simp[V3]at h
 |f+1,a,r,T,h=>by
  simp only[V3]at h
  split at h
  .simp only[HY]at h;subst h;simp
  .split at h
   .cases h
   .split at h
    .cases h
    .split at h
     .rename_i l hl;simp only[HY]at h;subst h;have:=Jaw f _ _ _ hl;simp only[SI];omega
     .cases h
theorem Jgb{s:Bs}{T:List Tk}(h:BG s=.ok T):T.length<=1000000:=by
 unfold BG at h
 split at h
 .cases h
 .have:=Jaw _ _ _ _ h;omega
end Go.Rf
namespace Go.Proofs.YtggmccicdhnkgaaGreat
open Go.Proofs.Tryz
open Go.Rf Go.RowKit
attribute [local irreducible] Code.wp wpList Exit.then Exit.inBlock bodyPost A Calls execOp Addr.add
instance:RowZ prog 23 105 45 768 [zI,.string .empty,zI,zS,zS,zI,.string .empty,zS,zI,.string .empty,zI,zS,zS,zS,zI,zI,zI,.string .empty,zS,zS,zS,zI,zS,zS,zS,zS,zI,.string .empty,zS,zI,.string .empty,zI,zS,zS,zS,zI,zS,zS,zI,.string .empty,zI,zS,zS,zS,zI]:=⟨inferInstance,KT (v:=.agg #[zI,.string .empty,zI,zS,zS,zI,.string .empty,zS,zI,.string .empty,zI,zS,zS,zS,zI,zI,zI,.string .empty,zS,zS,zS,zI,zS,zS,zS,zS,zI,.string .empty,zS,zI,.string .empty,zI,zS,zS,zS,zI,zS,zS,zI,.string .empty,zI,zS,zS,zS,zI]) Yhp rfl rfl⟩
theorem JkK(p:Nat)(n:Int)(w:World){bd:Nat}(h:PS bd w p n []):
 Calls prog 80 #[.pointer (some ⟨p,0,none⟩),.bool false] w fun e w'=>e=.returned (.tuple #[zI,zI])/\Fr [] w w':=by
 obtain⟨S,T,ao,c,i,hb,hs,ho,hr,hi,hn,hT,hpb,hbw,hab⟩:=h;have hlt:T.length<=i:=by
  have:=CZ List.length hr;simp at this;omega
 refine enter func80 rfl ntmps80 rfl ?_;refine Yfs ?_;have hS:Fr [] w w.drew:=Fr.drew _ _;refine Jj 0 1 2 3 hS ?_;refine Jj 4 5 6 7 hS ?_;refine Jj 8 9 10 11 hS ?_;refine Jj 12 13 14 15 hS ?_;refine Yev ?_;refine Yhd ?_;exact⟨rfl,hS⟩
theorem JiT(S:Bs)(T:List Tk)(ds:List De)(hS:S.length<=8192)(hl:BG S=.ok T)(hm:∀f,100<f->Xc (S.length:Int) 200 f T=some ds)(hlim:Jb3 ds=false)(hk:∀d∈ds,0<=d.kind/\d.kind<=5)(w:World):
 Calls prog 37 #[.string (bst S)] w fun e w'=>∃v,e=.returned (.tuple #[.agg ([v]:List Value).toArray,zI,zI])/\DR w' (rg w) (.l (ds.map deC)) v/\Fr [] w w':=by
 have hTl:=Jgb hl;have hTn:=Jga hl;refine enter func37 rfl ntmps37 rfl ?_;refine rx ?_;refine Jm (l:=[zS]) rfl (fun w1 rr hrr hbr hf1 hs1=>?_);refine rx ?_;refine s_call (Jdq S w1 Yhn) rfl ?_;rintro _ w2 ⟨v,a,er,rfl,hf2,hr⟩;refine⟨_,rfl,?_⟩;rw[hl]at hr;obtain⟨ho,hbl,rfl,rfl⟩:=hr;obtain⟨ao,c,rfl⟩:=ho.slice;have hbr:=hbr.tr0 hf2;have hs2:=hf2.size;refine rx ?_;refine JF [.string (bst S),.slice ao T.length c,zI,.bool false] rfl ?_;refine rx ?_;refine Ju rfl rfl (fun w3 p hp hbp hf3 hs3=>?_);have hbr:=hbr.tr0 hf3;refine rx ?_;refine Jm (l:=[zS]) rfl (fun w4 a ha hba hf4 hs4=>?_);have hbr:=hbr.tr0 hf4;have hbp:=hbp.tr0 hf4;have hlt2:=ho.lt;have hP4:PS w3.heap.size w4 p (S.length:Int) T:=⟨S,T,ao,c,0,hbp,((ho.src.tr0 hf3).tr0 hf4),fun ad n c' e _ hm=>by
  have h1:=hlt2 ad.block Yio;rw[Sv.1 hm]at h1;omega,by simp,by omega,rfl,⟨hTl,hTn⟩,by omega,by omega,fun ad e=>by
  have h1:=hlt2 ad.block Yio;omega⟩
 have hF4:Fr [] w w4:=((hf1.Jb hf2).Jb hf3).Jb hf4;have hbd:=hP4.le;have hpw4:p<w4.heap.size:=by omega
 refine rx ?_;refine Jh 11 [] (σ:=Nat×List De×List Tk) (fun s g u=>PS w3.heap.size u p (S.length:Int) s.2.2/\Fr [p,a] w4 u/\s.2.1.length+s.1<=1000001/\Blk u rr [zS] 25/\(∃l',Xc (S.length:Int) 200 s.1 s.2.2=some l'/\s.2.1++l'=ds)/\∃v,Blk u a [v] 25/\LS (rg w4) u 105 45 deC s.2.1 v) (fun s=>s.1) (1000001,[],T) ⟨hP4,Fr.refl _ _,by simp,hbr,⟨ds,hm _ Yhn,rfl⟩,_,hba,LS.nil⟩ ?_;clear hP4 hbr hba hbp;rintro⟨f,acc,r⟩ g w5 ⟨hP5,hF5,hla,hbr,⟨l',hgo,hacc⟩,v,hba,hL⟩;simp only at hP5 hF5 hla hgo hacc hL;obtain⟨ao2,c2,rfl⟩:=hL.slice;cases f with
 |zero=>simp[Xc]at hgo
 |succ f=>
 have hs5:=hF5.size;obtain⟨S0,T0,ao0,c0,i0,hb0,hs0,ho0,hr0,hi0,hn0,hT0,hrest⟩:=id hP5;have hTl0:=hT0.1;cases r with
 |nil=>
  simp only[Xc,Sj]at hgo;subst hgo;have hlt:T0.length<=i0:=by
   have:=CZ List.length hr0;simp at this;omega
  refine rx ?_;refine Ynd ?_;have hS5:Fr [] w5 w5.drew:=Fr.drew _ _;refine Jj 0 1 2 3 hS5 ?_;refine Jj 4 5 6 7 hS5 ?_;refine Jj 8 9 10 11 hS5 ?_;refine Jj 12 13 14 15 hS5 ?_;refine d_z 16 hS5 ?_;refine Yfx ?_;obtain⟨w6,hw6⟩:=exq w5.drew;rw[<-hw6]at hS5 ⊢;have hP6:=hP5.tr0 hS5;have hbr:=hbr.tr0 hS5;have hba:=hba.tr0 hS5;have hL:=hL.tr0 hS5;refine rx ?_;have hd6:=hL.dr KL Yhn;have hd7:DR w6 (rg w4) (.l (ds.map deC)) (.slice ao2 acc.length c2):=by rw[<-hacc,Ce];exact hd6
  refine s_call (JhA ds hlim hk w6 _ _ hd7) rfl ?_;rintro _ w7 ⟨⟨b1,b2,b3,rfl⟩,hf7⟩;refine⟨_,rfl,?_⟩;refine rx ?_;refine KR (l:=[.bool false,.bool false,.bool false,.bool false]) (cs:=[.bool false,.bool b1,.bool b2,.bool b3]) rfl rfl rfl Yhu rfl (fun v=>rfl) (fun w8 fb hqf hbf hf8 hs8=>?_);refine rx ?_;have hP8:=(hP6.tr0 hf7).tr0 hf8;have hbr:=(hbr.tr0 hf7).tr0 hf8;have hba:=(hba.tr0 hf7).tr0 hf8;have hd8:=(hd7.tr0 hf7).tr0 hf8;refine Jg (JkK p _ w8 hP8) ?_;rintro w9 hf9;have hbr:=hbr.tr0 hf9;have hba:=hba.tr0 hf9;have hd9:=hd8.tr0 hf9;refine rx ?_;refine Jd (cs:=[.slice ao2 acc.length c2]) rfl rfl hbr Yhu rfl rfl (fun w10 hbr2 hf10 hs10=>?_);refine rx ?_;have hr4:rr∈rg w4:=Jk.2 Yhn;refine JjT rfl rfl hbr2 rfl rfl rfl ⟨_,rfl,(hd9.old hf10 (Je hr4)).down Yhn,?_⟩;have hF9:Fr [p,a] w4 w9:=(((hF5.Jb hS5).Jb hf7).Jb hf8).Jb hf9;exact((hF4.trans hF9 (fun x hx=>.inr (by simp at hx;omega))).trans hf10 (fun x hx=>.inr (by simp at hx;omega)))
 |cons t r=>
 have hlt:i0<T0.length:=by
  rcases DF i0 T0.length with h|h
  .exact h
  .rw [Ci h]at hr0;cases hr0
 simp only[Xc]at hgo;obtain⟨⟨d,r1⟩,g1,hgo⟩:=bind_some hgo;obtain⟨l2,g2,hgo⟩:=bind_some hgo;simp only[Sj]at hgo;subst hgo;refine rx ?_;refine Ynd ?_;have hS5:Fr [] w5 w5.drew:=Fr.drew _ _;refine Jj 0 1 2 3 hS5 ?_;refine Jj 4 5 6 7 hS5 ?_;refine Jj 8 9 10 11 hS5 ?_;refine Jj 12 13 14 15 hS5 ?_;refine d_z 16 hS5 ?_;refine Yfx ?_;obtain⟨w6,hw6⟩:=exq w5.drew;rw[<-hw6]at hS5 ⊢;have hP6:=hP5.tr0 hS5;have hF6:=hF5.Jb hS5;have hbr:=hbr.tr0 hS5;have hba:=hba.tr0 hS5;have hL:=hL.tr0 hS5;have hs6:=hS5.size;refine rx ?_
 ((refine Kr 7 (fun z=>True/\Blk z a [.slice ao2 acc.length c2] 25) Yhp rfl ?_);obtain⟨w7,hw7⟩:=exq w6.drew;rw[<-hw7];have hf7:Fr [] w6 w7:=hw7▸Fr.drew _ _;have hP7:=hP6.tr0 hf7;have hF7:=hF6.Jb hf7;have hs7:=hf7.size)
 have hbr:=hbr.tr0 hf7;have hba:=hba.tr0 hf7;have hL:=hL.keep hf7 Yhs;have ha4:a∈rg w4:=Jk.2 Yhn;have hp4:p∈rg w4:=Jk.2 Yhn
 ((refine Jp 0 (And.intro trivial hba) ?_);(refine Jp 1 (And.intro trivial hba) ?_);(refine Jp 2 (And.intro trivial hba) ?_))
 refine Ygr ?_;have hz1:=hL.lt;refine Jl (Ji3 200 Yhn _ p _ _ w7 d r1 hP7 g1) ?_;rintro cs w8 ⟨hd,hP8,hf8⟩;have hF8:=hF7.trans hf8 (fun x hx=>.inl Yiq);have hs8:=hf8.size;have hl:cs.length=45:=by rw[hd.len,KL]
 have hbr:=hbr.tr hf8 Yht;have hba:=hba.tr hf8 Yht;have hL:=hL.keep hf8 (Je hp4);refine Yfb ?_;refine JQ rfl hl rfl (fun w9 k5 hk5 ho9 hf9 hs9=>?_);have hP9:=hP8.tr0 hf9;have hF9:=hF8.Jb hf9;have hbr:=hbr.tr0 hf9;have hba:=hba.tr0 hf9;have hL:=hL.keep hf9 Yhs;have hd:=hd.tr0 hf9;refine Yfe ?_;refine V7 hL KL rfl rfl ho9.src hd (fun b hb=>.inl (Jk.2 (hb.elim (hz1 b) (fun h=>by have:=Jk.1 h;omega)))) Yhv Yhn Yjy (fun v' w10 hL' hf10 hk10=>?_);have hge:=LS.ge hL (w0:=w4) (fun b hb=>Jk.2 hb);have hP10:=hP9.tr hf10 (fun k hk=>CG hbd (hge k hk));have hF10:=hF9.trans hf10 (fun k hk=>.inr (hge k hk));have hbr:=hbr.tr hf10 (fun h=>by have:=hge _ h;omega);have hba:=hba.tr hf10 (fun h=>by have:=hge _ h;omega);have h1c:=hL'.1.one;refine Ygs ?_
 ((refine Jp 6 (And.intro trivial hba) ?_))
 refine Ygm ?_
 ((with_reducible apply Ji);exact rfl;(conv=>lhs;whnf);exact h1c;exact hba;exact rfl)
 intro w11 hba hf11 hs11;replace hba:Blk w11 a [v'] 25:=hba;have hP11:=hP10.tr hf11 Yht;have hF11:=hF10.trans hf11 (fun x hx=>.inl Yiq);have hbr:=hbr.tr hf11 Yht;have hL:=hL'.keep hf11 (Je ha4);refine Yeu ?_;refine rx ?_;refine Jc (f,acc++[d],r1) Yhl ?_ ?_
 .refine ⟨hP11,hF11,?_,hbr,⟨l2,g2,?_⟩,_,hba,hL⟩
  .simp only[Sm,SI,SY]<;>omega
  .simpa using hacc
 .simp only;omega
def kinds:List Int:=[0,0,1,1,1,1,1,2,2,2,2,2,3,3,3,3,3,4,5,4,5]
def MD(ds:List De):Prop:=ds.map De.kind=kinds/\(∀d∈ds,okD d)/\∃n f t,(0<=n/\n<=8192)/\TkK t/\Xc n 200 f t=some ds
theorem Jhp(x:Value)(l:List Int)(w:World)(hx:Src w x l.length (l.map (.int .i64)))(hl:∀n∈l,VE n):
 Calls prog 9 #[x] w fun e w'=>∃ds v,e=.returned (.agg ([v]:List Value).toArray)/\DR w' (rg w) (.l (ds.map deC)) v/\Fr [] w w'/\MD ds:=by
 refine enter func9 rfl ntmps9 rfl ?_;refine rx ?_;refine Jm (l:=[zS]) rfl (fun w1 rr hrr hbr hf1 hs1=>?_);refine rx ?_;refine Jl (program x l w1 (hx.tr0 hf1) hl) ?_;rintro S w2 ⟨hP,hf2⟩;have hbr:=hbr.tr0 hf2;obtain⟨hSl,T,ds,h1,h2,h3,h4,h5,h6⟩:=hP.JjW Yhy Yhn (S.length:Int);have hk:∀d∈ds,0<=d.kind/\d.kind<=5:=fun d hd=>by
  have h:=Fg (f:=De.kind) hd;rw[h2]at h;simp only[SC,S9,CU]at h;omega
 refine rx ?_;refine Jl (JiT S T ds Yhn h1 (fun f hf=>h5 f (Nat.lt_trans Yhy hf)) h4 hk w2) ?_;rintro v w3 ⟨hd,hf3⟩;have hbr:=hbr.tr0 hf3;have hs2:=hf2.size;have hs3:=hf3.size;obtain⟨ao,c,rfl,_⟩:=hd.slice;refine rx ?_;refine KR (l:=[zS]) (cs:=[.slice ao (ds.map deC).length c]) rfl rfl rfl Yhu rfl (fun v=>rfl) (fun w4 m hm hbm hf4 hs4=>?_);have hbr:=hbr.tr0 hf4;have hd:=hd.tr0 hf4;refine rx ?_;refine Jd (cs:=[.slice ao (ds.map deC).length c]) rfl rfl hbr Yhu rfl rfl (fun w5 hbr2 hf5 hs5=>?_);refine rx ?_;refine Qc rfl rfl hbr2 rfl ⟨ds,_,rfl,(hd.old hf5 (Jf Yhn)).down Yhn,?_,h2,h3,(S.length:Int),40,T,⟨by omega,by omega⟩,h6,h5 40 Yhy⟩;exact((((hf1.Jb hf2).Jb hf3).Jb hf4).trans hf5 (fun x hx=>.inr Yhq))
end Go.Proofs.YtggmccicdhnkgaaGreat
namespace Go.Rf
open Go.RowKit
variable{c:ByteArray}{l:List ByteArray}
theorem Ls{a:ByteArray}:Vu c (a::l)=(decide (a=c)||Vu c l):=rfl
theorem JeJ:getM (l.map (fun x=>(x,true))) c=if Vu c l=true then some true else none:=by
 induction l with
 |nil=>rfl
 |cons a l ih=>
  simp only[DL,getM,ih,Ls];by_cases h:c=a
  .subst h;simp
  .have:decide (a=c)=false:=by simp;exact fun e=>h e.symm
   have hm:Vu c (a::l)=Vu c l:=by rw[Ls,this];rfl
   simp only[Ls]at hm;rw[SH h];simp only[hm]
theorem Jey(h:Vu c l=false):VJ (l.map (fun x=>(x,true))) c true=(l++[c]).map (fun x=>(x,true)):=by
 rw[Gm]
 .simp
 .simp only[Io,Du,Function.comp];rintro⟨x,hx,rfl⟩;have:=Jf3.2 hx;rw[h]at this;cases this
end Go.Rf
namespace Go.Proofs.YtggmccicdhnkgaaGreat
open Go.Proofs.Tryz
open Go.Rf Go.RowKit
variable{c:ByteArray}{l:List ByteArray}{q:List De}{S:List Nat}{u u' w:World}
attribute [local irreducible] Code.wp wpList Exit.then Exit.inBlock bodyPost A Calls execOp Addr.add
instance:MapT prog 107 9 4:=⟨underlying107⟩
def QW(S:List Nat)(u:World)(q:List De)(v:Value):Prop:=∃xs,XC u 105 45 v q.length xs/\Rws (fun d cs=>RD u (S++blks v) (deC d) cs) q xs
theorem QW.tr{T:List Nat}{v:Value}(h:QW S u q v)(hf:Fr T u u')(hT:∀x∈T,x∈S\/u.heap.size<=x)(hv:∀x∈blks v,x∉T):QW S u' q v:=by
 obtain⟨xs,h1,h2⟩:=h;exact⟨xs,h1.tr hf hv,h2.imp (fun d cs _ hr=>RD.old hr hf (fun b hb=>(hT b hb).imp (SA _) id))⟩
theorem QW.tr0{v:Value}(h:QW S u q v)(hf:Fr [] u u'):QW S u' q v:=h.tr hf Yhs Yhs
def LW(l:List ByteArray):List (ByteArray×Bool):=l.map (fun x=>(x,true))
theorem JfB{n:Nat}{f:Env}{d:Nat}{ty:TypeId}{ps:String}{af:Array Edge}{gd:Option (Nat×Bool)}{x y:Operand}{mb:Nat}{b:Bool}(hx:ev n f x=.map (some mb))(hy:ev n f y=.string c)(hm:Mp Value.string Value.bool w mb (LW l))(hb:Vu c l=b):
 (execOp (ev n f) ⟨some d,.lookup 107 x y false,ty,ps,af,gd⟩).run prog w=.ok (.value (.bool b)) w:=by
 have:=Jc3 (P:=prog) (t:=107) (d:=d) (ty:=ty) (ps:=ps) (af:=af) (gd:=gd) (ok:=false) (key:=Value.string) (val:=Value.bool) (a:=c) hx hy hm;rw[LW,JeJ,hb]at this;cases b<;>exact this
theorem fdX{w':World}{r:Option De}{e:Ending}(h:FdR w r e w'):∃(cs:List Value) (b:Bool),e=.returned (.tuple #[.agg cs.toArray,.bool b])/\cs.length=45/\(∀c∈cs,c.oneCell'=true)/\Fr [] w w'/\((r=none/\b=false)\/∃d,r=some d/\b=true/\RD w' (rg w) (deC d) cs):=by
 exact Ybq
def RcI(ds:List De)(mb ql tq:Nat)(w0:World)(S T:List Nat)(Z:List Nat)(s:List ByteArray×List De)(u:World):Prop:=
 Mp Value.string Value.bool u mb (LW s.1)/\(∃v,Blk u ql [v] tq/\QW S u s.2 v/\(∀x∈blks v,x∈T\/w0.heap.size<=x)/\(∀x∈blks v,x∉Z)/\mb∉blks v/\ql∉blks v)/\mb∉Z/\ql∉Z/\(∀x∈Z,x<u.heap.size)/\mu ds s<=1000
theorem Jg9(ds:List De)(h6:∀d∈ds,d.cmds.length<=1000000)(mb ql tq tm ttm bm tbm:Nat)(S T:List Nat)(w0:World)(vM:Value)(hTS:∀x∈T,x∈S)(hSlt:∀x∈S,x<w0.heap.size)(hmT:mb∈T)(hqT:ql∈T)(hmq:mb≠ql)(htm:Blk w0 tm [.map (some mb)] ttm)(htmT:tm∉T)(hbm:Blk w0 bm [vM] tbm)(hbmT:bm∉T)(hdM:DR w0 S (.l (ds.map deC)) vM):
 SeeC 45 [.pointer (some ⟨tm,0,none⟩),.pointer (some ⟨bm,0,none⟩),.pointer (some ⟨ql,0,none⟩)] (RcI ds mb ql tq w0 S T) (fun _ _=>True) (Xy ds) T S w0 where
 sub:=hTS
 lt:=fun x hx=>hSlt x (hTS x hx)
 more:=fun Z Z' s u u' ⟨h1,⟨v,h2,h3,h4,h5,h5',h5''⟩,h7,h8,h9,h10⟩ hf hZ=>by
  have hsz:=hf.size;have hlt:∀x,x<u.heap.size->x∉Z->x∉Z':=fun x hx hn hm=>by
   rcases hZ x hm with h|h
   .exact hn h
   .omega
  obtain⟨xs,hw,hr⟩:=h3;refine⟨h1.tr0 hf,⟨v,h2.tr0 hf,QW.tr0 ⟨xs,hw,hr⟩ hf,h4,fun x hx=>hlt x (hw.lt x hx) (h5 x hx),h5',h5''⟩,hlt _ h1.lt h7,hlt _ h2.lt h8,fun x hx=>?_,h10⟩;rcases hZ x hx with h|h
  .have:=h9 x h;omega
  .exact h.2
 fn:=inferInstance
 call:=by
  rintro Z s e u a cs ⟨hM,⟨v,hbv,hQ,hvT,hvZ,hmv,hqv⟩,hmZ,hqZ,hZlt,hmu⟩ _ hF0 hd hc haS;have haT:a.block∉T:=fun h=>haS (hTS _ h)
  obtain⟨s1,s2,s3,rfl,hk1,hk2,hk⟩:=exR.1 hd;have hc:Cells w0 a [iV e.kind,.string e.name,iV e.n,s1,s2,s3,iV e.at_]:=hc;have hcu:=hc.tr hF0 haT;have htu:=htm.tr hF0 htmT;have hbmu:=hbm.tr hF0 hbmT;have hsz0:=hF0.size;refine enter func45 rfl ntmps45 rfl ?_;refine rx ?_;refine JE (fun z=>Fr [] u z) Yhp rfl ?_;obtain⟨u1,hu1⟩:=exq u.drew;rw[<-hu1];have hS:Fr [] u u1:=hu1▸Fr.drew _ _;have keep:∀u',Fr [] u u'->RcI ds mb ql tq w0 S T Z s u'/\FZ Z u u'/\Fr T w0 u':=fun u' hf=>⟨⟨hM.tr0 hf,⟨v,hbv.tr0 hf,hQ.tr0 hf,hvT,hvZ,hmv,hqv⟩,hmZ,hqZ,fun x hx=>by have:=hZlt x hx;have:=hf.size;omega,hmu⟩,.of0 hf,hF0.Jb hf⟩
  by_cases h3:e.kind=3
  case neg=>
   refine Jj 0 1 2 3 hS ?_;refine Jj 4 5 6 7 hS ?_;refine Jj 8 9 10 11 hS ?_;refine d_z 12 hS ?_;refine Yev ?_;have he:Xy ds s e=s:=by unfold Xy;rw[SH h3]
   rw[he];exact JjV rfl ⟨rfl,keep _ hS⟩
  refine Jj 0 1 2 3 hS ?_;refine Jj 4 5 6 7 hS ?_;refine JX 8 9 hS ?_;refine d_z 10 hS ?_;cases hbv':Vu e.name s.1 with
  |true=>
   refine Kz 11 hS ?_ (hrun:=by(intro u hu;exact(JfB rfl rfl (hM.tr0 hu) hbv')));refine d_z 12 hS ?_;refine Yev ?_;have he:Xy ds s e=s:=by unfold Xy rst;rw[Cb h3,Cb hbv']
   rw[he];exact JjV rfl ⟨rfl,keep _ hS⟩
  |false=>
  refine Kz 11 hS ?_ (hrun:=by(intro u hu;exact(JfB rfl rfl (hM.tr0 hu) hbv')));refine d_z 12 hS ?_;refine Yfx ?_;have htu:=htu.tr0 hS;have hcu:=hcu.tr0 hS;have hbmu:=hbmu.tr0 hS;refine rx ?_;refine Kr 5 (fun z=>Fr [] u1 z) Yhp rfl ?_;obtain⟨u2,hu2⟩:=exq u1.drew;rw[<-hu2];have hS2:Fr [] u1 u2:=hu2▸Fr.drew _ _;have hf02:=hS.Jb hS2
  ((refine Jp 0 hS2 ?_);(refine Jp 1 hS2 ?_);(refine Jp 2 hS2 ?_);(refine Jp 3 hS2 ?_);(refine Jp 4 hS2 ?_))
  refine Ygl ?_;refine BX (key:=Value.string) (val:=Value.bool) (a:=e.name) (v:=true) (hM.tr0 hf02) rfl rfl rfl (fun u3 hM3 hf3 hs3=>?_);refine Yeu ?_;have hM3:Mp Value.string Value.bool u3 mb (LW (s.1++[e.name])):=by
   have:=hM3;unfold LW at this;rw[Jey hbv']at this;exact this
  have hbv3:Blk u3 ql [v] tq:=(hbv.tr0 hf02).tr hf3 (by simpa using fun h=>hmq h.symm);have hQ3:QW S u3 s.2 v:=(hQ.tr0 hf02).tr hf3 (fun x hx=>.inl (by rw[Sv.1 hx];exact hTS _ hmT)) (fun x hx hm=>hmv Yia);have hF3:Fr T w0 u3:=(hF0.Jb hf02).trans hf3 (fun x hx=>.inl (by rw[Sv.1 hx];exact hmT));have hZ3:FZ Z u u3:=(FZ.of0 hf02).trans ⟨_,hf3,fun x hx=>by rw[Sv.1 hx];exact hmZ⟩;have hsz3:=hf3.size;have hsz02:=hf02.size;have hvlt:∀x∈blks v,x<u.heap.size:=by obtain⟨xs,hw,_⟩:=hQ;exact hw.lt
  have hmlt:=hM.lt;have hqlt:=hbv.lt;have hmu2:mu ds (Xy ds s e)<=1000:=CG (JdR ds s e) hmu;have hqlen:s.2.length<=1000:=by unfold mu at hmu;omega
  clear htu hcu hbmu;have hcu:=hc.tr hF3 haT;have hbmu:=hbm.tr hF3 hbmT;have hd3:DR u3 S (.l (ds.map deC)) vM:=hdM.old hF3 (fun b hb=>.inl (hTS b hb));refine rx ?_;refine JE (fun z=>Fr [] u3 z) Yhp rfl ?_;obtain⟨u4,hu4⟩:=exq u3.drew;rw[<-hu4];have hS4:Fr [] u3 u4:=hu4▸Fr.drew _ _;have hs34:=hS4.size;have hd4:=hd3.tr0 hS4;refine Jj 0 1 2 3 hS4 ?_;refine d_z 4 hS4 ?_;refine Xt (i:=5) (j:=9) rfl rfl Yhp ?_ ?_
  .refine s_call (NW ds 1 e.name vM u4 S h6 hd4) rfl ?_;rintro en u5 hfd;obtain⟨cs5,b5,rfl,hl5,h15,hf5,hcase⟩:=fdX hfd;refine⟨_,rfl,?_⟩;have hS5:=hS4.Jb hf5;refine wpList_nil (Jv hS5 ?_);refine JX 6 7 hS5 ?_;refine d_z 8 hS5 ?_;refine Ygx ?_;refine Jm (l:=[zI,zT,zI,zS,zS,zI,zT,zS,zI,zT,zI,zS,zS,zS,zI,zI,zI,zT,zS,zS,zS,zI,zS,zS,zS,zS,zI,zT,zS,zI,zT,zI,zS,zS,zS,zI,zS,zS,zI,zT,zI,zS,zS,zS,zI]) rfl (fun u6 q hqe hq6 hf6 hs6=>?_);have hS6:=hS5.Jb hf6;refine wpList_nil (Jv hS6 ?_);refine Ylq ?_;refine Jd (cs:=cs5) rfl rfl hq6 h15 rfl hl5 (fun u7 hq7 hf7 hs7=>?_);have hs5:=hf5.size;have hS7:Fr [] u3 u7:=hS6.trans hf7 (fun x hx=>.inr Yhq);refine wpList_nil (Jv hS7 ?_);refine JJ (i:=11) rfl Yhp ?_;refine rx ?_;refine Jv hS7 ?_;refine Yfx ?_;have hcase:(fdD ds 1 e.name=none/\b5=false)\/∃d,fdD ds 1 e.name=some d/\b5=true/\RD u7 (rg u3) (deC d) cs5:=hcase.imp id (fun⟨d,h1,h2,h3⟩=>⟨d,h1,h2,(((h3.mono (KU (a:=q) Yhn)).tr0 hf6).old hf7 (fun b hb=>.inl Yjq)).mono (fun b hb=>.inl (CY _ (Jk.2 (by have:=Jk.1 hb;omega))))⟩);exact Yj
  .refine Jm (l:=[zI,zT,zI,zS,zS,zI,zT,zS,zI,zT,zI,zS,zS,zS,zI,zI,zI,zT,zS,zS,zS,zI,zS,zS,zS,zS,zI,zT,zS,zI,zT,zI,zS,zS,zS,zI,zS,zS,zI,zT,zI,zS,zS,zS,zI]) rfl (fun u5 q hqe hq5 hf5 hs5=>?_);have hS5:=hS4.Jb hf5;refine wpList_nil (Jv hS5 ?_);refine Ync ?_;refine s_call (NW ds 1 e.name vM u5 S h6 (hd4.tr0 hf5)) rfl ?_;rintro en u6 hfd;obtain⟨cs5,b5,rfl,hl5,h15,hf6,hcase⟩:=fdX hfd;refine⟨_,rfl,?_⟩;have hS6:=hS5.Jb hf6;have hq6:=hq5.tr0 hf6;refine wpList_nil (Jv hS6 ?_);refine JX 6 7 hS6 ?_;refine d_z 8 hS6 ?_;refine Ylq ?_;refine Jd (cs:=cs5) rfl rfl hq6 h15 rfl hl5 (fun u7 hq7 hf7 hs7=>?_);have hs6:=hf6.size;have hS7:Fr [] u3 u7:=hS6.trans hf7 (fun x hx=>.inr Yhq);refine wpList_nil (Jv hS7 ?_);refine JJ (i:=11) rfl Yhp ?_;refine rx ?_;refine Jv hS7 ?_;refine Yfx ?_;have hcase:(fdD ds 1 e.name=none/\b5=false)\/∃d,fdD ds 1 e.name=some d/\b5=true/\RD u7 (rg u3) (deC d) cs5:=hcase.imp id (fun⟨d,h1,h2,h3⟩=>⟨d,h1,h2,(h3.old hf7 (Jf Yhn)).down Yhn⟩);exact Yj
end Go.Proofs.YtggmccicdhnkgaaGreat
