/-
 The reference's parser:the end,whole modules;the generator of modules.
-/
import Derived.Test.YtmlpcmjmniobdaaGreatZFd
import Derived.Test.YtmlpcmjmniobdaaGreatZQy
import Derived.Test.YtmlpcmjmniobdaaGreatZPi
set_option linter.all false
set_option maxHeartbeats 64000000
namespace Go.Rf
open Go.RowKit
variable{S:Bs}{ks:List Int}{m:Nat}
def PrL(ks:List Int)(m:Nat)(S:Bs):Prop:=∃a,Dls ks a/\(rnd a).length<=m/\S=rnd a
theorem PrL.add{T:Bs}{k:Int}{its:List It}{j:Nat}(h:PrL ks m S)(hs:SegP k its)(hl:Nat.ble (rnd its).length j=true)(hT:T=S++rnd its):PrL (ks++[k]) (m+j) T:=by
 obtain⟨a,h1,h2,rfl⟩:=h;have:=Nat.le_of_ble_eq_true hl;exact⟨a++its,.snoc h1 hs,by rw[rnd_app,List.length_append];omega,by rw[rnd_app,hT]⟩
theorem PrL.len(h:PrL ks m S):S.length<=m:=by
 obtain⟨a,h1,h2,rfl⟩:=h;exact h2
theorem PrL.read(h:PrL ks m S)(h64:ks.length<=64)(hm:m<=8192)(n:Int):S.length<=m/\∃(t:List Tk) (ds:List De),lexF S=.ok t/\ds.map De.kind=ks/\(∀d∈ds,okD d)/\limM ds=false/\∀f,ks.length<f->pMod n 200 f t=some ds:=by
 obtain⟨a,h1,h2,rfl⟩:=h;obtain⟨ds,h3,h4,h5,h6⟩:=h1.mod h64 n;exact⟨h2,tksI 0 a,ds,lexF_items (h1.ok none) Yhn,h3,h4,h5,h6⟩
theorem mem_i{α:Type}{l:List α}{x:α}(i:Nat)(h:l[i]?=some x):x∈l:=List.mem_of_getElem? h
end Go.Rf
namespace Go.Proofs.YtmlpcmjmniobdaaGreat
open Go.Proofs.Tryz
open Go.Rf Go.RowKit
attribute [local irreducible] Code.wp wpList Exit.then Exit.inBlock bodyPost A Calls execOp Addr.add
set_option maxRecDepth 4000 in
theorem program(x:Value)(l:List Int)(w:World)(hx:Src w x l.length (l.map (.int .i64)))(hl:∀n∈l,InI64 n):
 Calls prog 12 #[x] w fun e w'=>∃S,e=.returned (.string (bst S))/\PrL [0,0,1,1,1,1,1,2,2,2,2,2,3,3,3,3,3,4,5,4,5] 5466 S/\Fr [] w w':=by
 refine enter func12 rfl ntmps12 rfl ?_;refine rx ?_;refine s_c1 (intsCopy x l 60 w hx Yhn) ?_;rintro sv w1 ⟨hown,hf1,hfresh⟩;refine rx ?_;obtain⟨as_,cs_,rfl,_⟩:=id hown.src;refine s_build [.slice as_ (l.take 60).length cs_,zI] rfl ?_;refine rx ?_;refine s_boxN rfl rfl (fun w2 p hpe hb2 hf2 hs2=>?_);have hpw:w.heap.size<=p:=by have:=hf1.size;omega
 have hG2:GW w2 p:=⟨_,l.take 60,0,hb2,hown.src.tr0 hf2,fun ad n c e h hm=>by
  simp only[List.mem_singleton]at hm;have h1:=hown.lt ad.block Yio;omega,fun n hn=>hl n (List.mem_of_mem_take hn)⟩
 refine rr ?_;refine wpList_nil ?_;refine q_then ?_;refine wp_seq ?_;refine c_cut (fun g u=>g 3=.pointer (some ⟨p,0,none⟩)/\(∃S,g 4=.string (bst S)/\PrL [0,0] 80 S)/\GW u p/\Fr [] w u) ?_ ?_
 .refine rx ?_;exact q_cut ⟨rfl,⟨_,rfl,c_Color0++c_Tree0,.snoc (.snoc .nil s_Color) s_Tree,by decide,by kernel_rfl⟩,hG2,hf1.trans0 hf2⟩
 rintro g u ⟨h3,⟨S,h4,hP⟩,hG,hF⟩;rw[eq_upd h3,eq_upd h4];clear h3 h4;have hSl:=hP.len;refine wp_seq ?_;refine c_cut (fun g u=>g 3=.pointer (some ⟨p,0,none⟩)/\(∃S,g 4=.string (bst S)/\PrL [0,0,1] 175 S)/\GW u p/\Fr [] w u) ?_ ?_
 .refine rx ?_;refine Yge ?_;exact q_cut ⟨rfl,⟨_,rfl,hP.add (its:=c_depth0) (s_depth) (j:=95) Yhp Yhx⟩,hG,hF⟩
 rintro g u ⟨h3,⟨S,h4,hP⟩,hG,hF⟩;rw[eq_upd h3,eq_upd h4];clear h3 h4;have hSl:=hP.len;refine wp_seq ?_;refine c_cut (fun g u=>g 3=.pointer (some ⟨p,0,none⟩)/\(∃S,g 4=.string (bst S)/\PrL [0,0,1,1] 260 S)/\GW u p/\Fr [] w u) ?_ ?_
 .refine rx ?_;refine Yge ?_;refine s_c1 (gNumber p 1 _ hG Yhn Yhn) ?_;rintro k1 w1 ⟨hk1,hG1,hf1⟩;have hd1:dg k1∈dgs:=dg_mem Yhn;have hl1:(dg k1).length=1:=rfl;refine rx ?_;refine Yen ?_;exact q_cut ⟨rfl,⟨_,rfl,hP.add (its:=c_sum0++[.tk (dg k1)]++c_sum2) (s_sum _ (show[It.tk (dg k1)]∈o_sum1 by rcases(show k1=0\/k1=1 by omega)with rfl|rfl<;>first|exact mem_i 0 rfl|exact mem_i 1 rfl)) (j:=85) Yhp Yhx⟩,hG1,(hF.trans hf1 Yie)⟩
 rintro g u ⟨h3,⟨S,h4,hP⟩,hG,hF⟩;rw[eq_upd h3,eq_upd h4];clear h3 h4;have hSl:=hP.len;refine wp_seq ?_;refine c_cut (fun g u=>g 3=.pointer (some ⟨p,0,none⟩)/\(∃S,g 4=.string (bst S)/\PrL [0,0,1,1,1] 339 S)/\GW u p/\Fr [] w u) ?_ ?_
 .refine rx ?_;refine Yge ?_;refine s_c1 (gNumber p 2 _ hG Yhn Yhn) ?_;rintro k1 w1 ⟨hk1,hG1,hf1⟩;have hd1:dg k1∈dgs:=dg_mem Yhn;have hl1:(dg k1).length=1:=rfl;refine rx ?_;refine Yen ?_;refine s_c1 (gNumber p 3 _ hG1 Yhn Yhn) ?_;rintro k2 w2 ⟨hk2,hG2,hf2⟩;have hd2:dg k2∈dgs:=dg_mem Yhn;have hl2:(dg k2).length=1:=rfl;refine rx ?_;refine Yen ?_;refine s_c1 (gNumber p 3 _ hG2 Yhn Yhn) ?_;rintro k3 w3 ⟨hk3,hG3,hf3⟩;have hd3:dg k3∈dgs:=dg_mem Yhn;have hl3:(dg k3).length=1:=rfl;refine rx ?_;refine Yen ?_;exact q_cut ⟨rfl,⟨_,rfl,hP.add (its:=c_score0++[.tk (dg k1)]++(c_score2++[.tk (dg k2)]++(c_score4++[.tk (dg k3)]++c_score6))) (s_score _ (show[It.tk (dg k1)]∈o_score1 by rcases(show k1=0\/k1=1\/k1=2 by omega)with rfl|rfl|rfl<;>first|exact mem_i 0 rfl|exact mem_i 1 rfl|exact mem_i 2 rfl) _ (show[It.tk (dg k2)]∈o_score3 by rcases(show k2=0\/k2=1\/k2=2\/k2=3 by omega)with rfl|rfl|rfl|rfl<;>first|exact mem_i 0 rfl|exact mem_i 1 rfl|exact mem_i 2 rfl|exact mem_i 3 rfl) _ (show[It.tk (dg k3)]∈o_score5 by rcases(show k3=0\/k3=1\/k3=2\/k3=3 by omega)with rfl|rfl|rfl|rfl<;>first|exact mem_i 0 rfl|exact mem_i 1 rfl|exact mem_i 2 rfl|exact mem_i 3 rfl)) (j:=79) Yhp Yhx⟩,hG3,(((hF.trans hf1 Yie).trans hf2 Yie).trans hf3 Yie)⟩
 rintro g u ⟨h3,⟨S,h4,hP⟩,hG,hF⟩;rw[eq_upd h3,eq_upd h4];clear h3 h4;have hSl:=hP.len;refine wp_seq ?_;refine c_cut (fun g u=>g 3=.pointer (some ⟨p,0,none⟩)/\(∃S,g 4=.string (bst S)/\PrL [0,0,1,1,1,1] 946 S)/\GW u p/\Fr [] w u) ?_ ?_
 .refine rx ?_;refine Yge ?_;refine s_buildS [.string (bst [120]),.string (bst [121])] rfl rfl rfl rfl (fun v1 ho1 hfv1 hsv1=>?_);refine rx ?_;have hGv1:=hG.tr0 hfv1;refine s_c1 ((gens (V:=[vX,vY]) vars1.2.2 Yhy Yhy 2 Yhn).1 p _ _ hGv1 ⟨ho1.src,hG.off ho1 rfl⟩) ?_;rintro a1 w1 ⟨ha1,hl1,hG1,hV1,hf1⟩;refine Yer ?_;have hle1:(rnd a1).length<=576:=ha1.len vars1.2.2;refine Yge ?_;exact q_cut ⟨rfl,⟨_,rfl,hP.add (its:=c_f0++(a1++c_f2)) (s_f ha1) (j:=607) (Nat.ble_eq_true_of_le (by simp only[rnd_app,List.length_append];have e0:(rnd c_f0).length=29:=Yhp;have e2:(rnd c_f2).length=2:=Yhp;omega)) Yhx⟩,hG1,((hF).trans0 hfv1|>.trans hf1 Yie)⟩
 rintro g u ⟨h3,⟨S,h4,hP⟩,hG,hF⟩;rw[eq_upd h3,eq_upd h4];clear h3 h4;have hSl:=hP.len;refine wp_seq ?_;refine c_cut (fun g u=>g 3=.pointer (some ⟨p,0,none⟩)/\(∃S,g 4=.string (bst S)/\PrL [0,0,1,1,1,1,1] 2339 S)/\GW u p/\Fr [] w u) ?_ ?_
 .refine rx ?_;refine Yge ?_;refine s_buildS [.string (bst [120])] rfl rfl rfl rfl (fun v1 ho1 hfv1 hsv1=>?_);refine rx ?_;have hGv1:=hG.tr0 hfv1;refine s_c1 ((gens (V:=[vX]) vars2.2.2 Yhy Yhy 2 Yhn).2 p _ _ hGv1 ⟨ho1.src,hG.off ho1 rfl⟩) ?_;rintro a1 w1 ⟨ha1,hl1,hG1,hV1,hf1⟩;refine Yer ?_;have hle1:(rnd a1).length<=1368:=ha1.len vars2.2.2;refine Yge ?_;exact q_cut ⟨rfl,⟨_,rfl,hP.add (its:=c_ok0++(a1++c_ok2)) (s_ok ha1) (j:=1393) (Nat.ble_eq_true_of_le (by simp only[rnd_app,List.length_append];have e0:(rnd c_ok0).length=23:=Yhp;have e2:(rnd c_ok2).length=2:=Yhp;omega)) Yhx⟩,hG1,((hF).trans0 hfv1|>.trans hf1 Yie)⟩
 rintro g u ⟨h3,⟨S,h4,hP⟩,hG,hF⟩;rw[eq_upd h3,eq_upd h4];clear h3 h4;have hSl:=hP.len;refine wp_seq ?_;refine c_cut (fun g u=>g 3=.pointer (some ⟨p,0,none⟩)/\(∃S,g 4=.string (bst S)/\PrL [0,0,1,1,1,1,1,2] 2436 S)/\GW u p/\Fr [] w u) ?_ ?_
 .refine rx ?_;refine Yfi ?_;rintro z1 w1 ⟨hz1,hzk1,hG1,hf1⟩;obtain⟨k1,hk1⟩:∃j:Nat,1+z1=(j:Int):=⟨(1+z1).toNat,by omega⟩;refine rx ?_;rw[hk1];refine Yhc ?_;rintro _ rfl;have hl1:(dg k1).length=1:=rfl;refine rx ?_;refine Yen ?_;refine s_c1 (gNumber p 3 _ hG1 Yhn Yhn) ?_;rintro k2 w2 ⟨hk2,hG2,hf2⟩;have hd2:dg k2∈dgs:=dg_mem Yhn;have hl2:(dg k2).length=1:=rfl;refine rx ?_;refine Yen ?_;exact q_cut ⟨rfl,⟨_,rfl,hP.add (its:=c_num0++[.tk (dg k1)]++(c_num2++[.tk (dg k2)]++c_num4)) (s_num _ (show[It.tk (dg k1)]∈o_num1 by rcases(show k1=1\/k1=2\/k1=3 by omega)with rfl|rfl|rfl<;>first|exact mem_i 0 rfl|exact mem_i 1 rfl|exact mem_i 2 rfl) _ (show[It.tk (dg k2)]∈o_num3 by rcases(show k2=0\/k2=1\/k2=2\/k2=3 by omega)with rfl|rfl|rfl|rfl<;>first|exact mem_i 0 rfl|exact mem_i 1 rfl|exact mem_i 2 rfl|exact mem_i 3 rfl)) (j:=97) Yhp Yhx⟩,hG2,((hF.trans hf1 Yie).trans hf2 Yie)⟩
 rintro g u ⟨h3,⟨S,h4,hP⟩,hG,hF⟩;rw[eq_upd h3,eq_upd h4];clear h3 h4;have hSl:=hP.len;refine wp_seq ?_;refine c_cut (fun g u=>g 3=.pointer (some ⟨p,0,none⟩)/\(∃S,g 4=.string (bst S)/\PrL [0,0,1,1,1,1,1,2,2] 2519 S)/\GW u p/\Fr [] w u) ?_ ?_
 .refine rx ?_;refine Yfj ?_;rintro z1 w1 ⟨hz1,hzk1,hG1,hf1⟩;obtain⟨k1,hk1⟩:∃j:Nat,1+z1=(j:Int):=⟨(1+z1).toNat,by omega⟩;refine rx ?_;rw[hk1];refine Yhc ?_;rintro _ rfl;have hl1:(dg k1).length=1:=rfl;refine rx ?_;refine Yen ?_;refine s_c1 (gNumber p 2 _ hG1 Yhn Yhn) ?_;rintro k2 w2 ⟨hk2,hG2,hf2⟩;have hd2:dg k2∈dgs:=dg_mem Yhn;have hl2:(dg k2).length=1:=rfl;refine rx ?_;refine Yen ?_;exact q_cut ⟨rfl,⟨_,rfl,hP.add (its:=c_color0++[.tk (dg k1)]++(c_color2++[.tk (dg k2)]++c_color4)) (s_color _ (show[It.tk (dg k1)]∈o_color1 by rcases(show k1=1\/k1=2 by omega)with rfl|rfl<;>first|exact mem_i 0 rfl|exact mem_i 1 rfl) _ (show[It.tk (dg k2)]∈o_color3 by rcases(show k2=0\/k2=1\/k2=2 by omega)with rfl|rfl|rfl<;>first|exact mem_i 0 rfl|exact mem_i 1 rfl|exact mem_i 2 rfl)) (j:=83) Yhp Yhx⟩,hG2,((hF.trans hf1 Yie).trans hf2 Yie)⟩
 rintro g u ⟨h3,⟨S,h4,hP⟩,hG,hF⟩;rw[eq_upd h3,eq_upd h4];clear h3 h4;have hSl:=hP.len;refine wp_seq ?_;refine c_cut (fun g u=>g 3=.pointer (some ⟨p,0,none⟩)/\(∃S,g 4=.string (bst S)/\PrL [0,0,1,1,1,1,1,2,2,2] 2619 S)/\GW u p/\Fr [] w u) ?_ ?_
 .refine rx ?_;refine Yfi ?_;rintro z1 w1 ⟨hz1,hzk1,hG1,hf1⟩;obtain⟨k1,hk1⟩:∃j:Nat,1+z1=(j:Int):=⟨(1+z1).toNat,by omega⟩;refine rx ?_;rw[hk1];refine Yhc ?_;rintro _ rfl;have hl1:(dg k1).length=1:=rfl;refine rx ?_;refine Yen ?_;exact q_cut ⟨rfl,⟨_,rfl,hP.add (its:=c_tree0++[.tk (dg k1)]++c_tree2) (s_tree _ (show[It.tk (dg k1)]∈o_tree1 by rcases(show k1=1\/k1=2\/k1=3 by omega)with rfl|rfl|rfl<;>first|exact mem_i 0 rfl|exact mem_i 1 rfl|exact mem_i 2 rfl)) (j:=100) Yhp Yhx⟩,hG1,(hF.trans hf1 Yie)⟩
 rintro g u ⟨h3,⟨S,h4,hP⟩,hG,hF⟩;rw[eq_upd h3,eq_upd h4];clear h3 h4;have hSl:=hP.len;refine wp_seq ?_;refine c_cut (fun g u=>g 3=.pointer (some ⟨p,0,none⟩)/\(∃S,g 4=.string (bst S)/\PrL [0,0,1,1,1,1,1,2,2,2,2] 2660 S)/\GW u p/\Fr [] w u) ?_ ?_
 .refine rx ?_;refine Yge ?_;refine s_c1 (gNumber p 1 _ hG Yhn Yhn) ?_;rintro k1 w1 ⟨hk1,hG1,hf1⟩;have hd1:dg k1∈dgs:=dg_mem Yhn;have hl1:(dg k1).length=1:=rfl;refine rx ?_;refine Yen ?_;refine s_c1 (gNumber p 2 _ hG1 Yhn Yhn) ?_;rintro k2 w2 ⟨hk2,hG2,hf2⟩;have hd2:dg k2∈dgs:=dg_mem Yhn;have hl2:(dg k2).length=1:=rfl;refine rx ?_;refine Yen ?_;exact q_cut ⟨rfl,⟨_,rfl,hP.add (its:=c_nums0++[.tk (dg k1)]++(c_nums2++[.tk (dg k2)]++c_nums4)) (s_nums _ (show[It.tk (dg k1)]∈o_nums1 by rcases(show k1=0\/k1=1 by omega)with rfl|rfl<;>first|exact mem_i 0 rfl|exact mem_i 1 rfl) _ (show[It.tk (dg k2)]∈o_nums3 by rcases(show k2=0\/k2=1\/k2=2 by omega)with rfl|rfl|rfl<;>first|exact mem_i 0 rfl|exact mem_i 1 rfl|exact mem_i 2 rfl)) (j:=41) Yhp Yhx⟩,hG2,((hF.trans hf1 Yie).trans hf2 Yie)⟩
 rintro g u ⟨h3,⟨S,h4,hP⟩,hG,hF⟩;rw[eq_upd h3,eq_upd h4];clear h3 h4;have hSl:=hP.len;refine wp_seq ?_;refine c_cut (fun g u=>g 3=.pointer (some ⟨p,0,none⟩)/\(∃S,g 4=.string (bst S)/\PrL [0,0,1,1,1,1,1,2,2,2,2,2] 2739 S)/\GW u p/\Fr [] w u) ?_ ?_
 .refine rx ?_;refine Yfj ?_;rintro z1 w1 ⟨hz1,hzk1,hG1,hf1⟩;obtain⟨k1,hk1⟩:∃j:Nat,2+z1=(j:Int):=⟨(2+z1).toNat,by omega⟩;refine rx ?_;rw[hk1];refine Yhc ?_;rintro _ rfl;have hl1:(dg k1).length=1:=rfl;refine rx ?_;refine Yen ?_;exact q_cut ⟨rfl,⟨_,rfl,hP.add (its:=c_pair0++[.tk (dg k1)]++c_pair2) (s_pair _ (show[It.tk (dg k1)]∈o_pair1 by rcases(show k1=2\/k1=3 by omega)with rfl|rfl<;>first|exact mem_i 0 rfl|exact mem_i 1 rfl)) (j:=79) Yhp Yhx⟩,hG1,(hF.trans hf1 Yie)⟩
 rintro g u ⟨h3,⟨S,h4,hP⟩,hG,hF⟩;rw[eq_upd h3,eq_upd h4];clear h3 h4;have hSl:=hP.len;refine wp_seq ?_;refine c_cut (fun g u=>g 3=.pointer (some ⟨p,0,none⟩)/\(∃S,g 4=.string (bst S)/\PrL [0,0,1,1,1,1,1,2,2,2,2,2,3] 2910 S)/\GW u p/\Fr [] w u) ?_ ?_
 .refine rx ?_;refine Yge ?_;refine s_c1 (gNumber p 2 _ hG Yhn Yhn) ?_;rintro k1 w1 ⟨hk1,hG1,hf1⟩;have hd1:dg k1∈dgs:=dg_mem Yhn;have hl1:(dg k1).length=1:=rfl;refine rx ?_;refine Yen ?_;refine s_c1 (gNumber p 4 _ hG1 Yhn Yhn) ?_;rintro k2 w2 ⟨hk2,hG2,hf2⟩;have hd2:dg k2∈dgs:=dg_mem Yhn;have hl2:(dg k2).length=1:=rfl;refine rx ?_;refine Yen ?_;exact q_cut ⟨rfl,⟨_,rfl,hP.add (its:=c_small0++[.tk (dg k1)]++(c_small2++[.tk (dg k2)]++c_small4)) (s_small _ (show[It.tk (dg k1)]∈o_small1 by rcases(show k1=0\/k1=1\/k1=2 by omega)with rfl|rfl|rfl<;>first|exact mem_i 0 rfl|exact mem_i 1 rfl|exact mem_i 2 rfl) _ (show[It.tk (dg k2)]∈o_small3 by rcases(show k2=0\/k2=1\/k2=2\/k2=3\/k2=4 by omega)with rfl|rfl|rfl|rfl|rfl<;>first|exact mem_i 0 rfl|exact mem_i 1 rfl|exact mem_i 2 rfl|exact mem_i 3 rfl|exact mem_i 4 rfl)) (j:=171) Yhp Yhx⟩,hG2,((hF.trans hf1 Yie).trans hf2 Yie)⟩
 rintro g u ⟨h3,⟨S,h4,hP⟩,hG,hF⟩;rw[eq_upd h3,eq_upd h4];clear h3 h4;have hSl:=hP.len;refine wp_seq ?_;refine c_cut (fun g u=>g 3=.pointer (some ⟨p,0,none⟩)/\(∃S,g 4=.string (bst S)/\PrL [0,0,1,1,1,1,1,2,2,2,2,2,3,3] 3043 S)/\GW u p/\Fr [] w u) ?_ ?_
 .refine rx ?_;refine Yfj ?_;rintro z1 w1 ⟨hz1,hzk1,hG1,hf1⟩;obtain⟨k1,hk1⟩:∃j:Nat,2+z1=(j:Int):=⟨(2+z1).toNat,by omega⟩;refine rx ?_;rw[hk1];refine Yhc ?_;rintro _ rfl;have hl1:(dg k1).length=1:=rfl;refine rx ?_;refine Yen ?_;refine s_c1 (gNumber p 9 _ hG1 Yhn Yhn) ?_;rintro k2 w2 ⟨hk2,hG2,hf2⟩;have hd2:dg k2∈dgs:=dg_mem Yhn;have hl2:(dg k2).length=1:=rfl;refine rx ?_;refine Yen ?_;exact q_cut ⟨rfl,⟨_,rfl,hP.add (its:=c_lists0++[.tk (dg k1)]++(c_lists2++[.tk (dg k2)]++c_lists4)) (s_lists _ (show[It.tk (dg k1)]∈o_lists1 by rcases(show k1=2\/k1=3 by omega)with rfl|rfl<;>first|exact mem_i 0 rfl|exact mem_i 1 rfl) _ (show[It.tk (dg k2)]∈o_lists3 by rcases(show k2=0\/k2=1\/k2=2\/k2=3\/k2=4\/k2=5\/k2=6\/k2=7\/k2=8\/k2=9 by omega)with rfl|rfl|rfl|rfl|rfl|rfl|rfl|rfl|rfl|rfl<;>first|exact mem_i 0 rfl|exact mem_i 1 rfl|exact mem_i 2 rfl|exact mem_i 3 rfl|exact mem_i 4 rfl|exact mem_i 5 rfl|exact mem_i 6 rfl|exact mem_i 7 rfl|exact mem_i 8 rfl|exact mem_i 9 rfl)) (j:=133) Yhp Yhx⟩,hG2,((hF.trans hf1 Yie).trans hf2 Yie)⟩
 rintro g u ⟨h3,⟨S,h4,hP⟩,hG,hF⟩;rw[eq_upd h3,eq_upd h4];clear h3 h4;have hSl:=hP.len;refine wp_seq ?_;refine c_cut (fun g u=>g 3=.pointer (some ⟨p,0,none⟩)/\(∃S,g 4=.string (bst S)/\PrL [0,0,1,1,1,1,1,2,2,2,2,2,3,3,3] 4505 S)/\GW u p/\Fr [] w u) ?_ ?_
 .refine rx ?_;refine Yge ?_;refine s_buildS [.string (bst [120]),.string (bst [115,99,111,114,101,40,99,41])] rfl rfl rfl rfl (fun v1 ho1 hfv1 hsv1=>?_);refine rx ?_;have hGv1:=hG.tr0 hfv1;refine s_c1 ((gens (V:=[vX,vS]) vars3.2.2 Yhy Yhy 2 Yhn).2 p _ _ hGv1 ⟨ho1.src,hG.off ho1 rfl⟩) ?_;rintro a1 w1 ⟨ha1,hl1,hG1,hV1,hf1⟩;refine Yer ?_;have hle1:(rnd a1).length<=1368:=ha1.len vars3.2.2;refine Yge ?_;exact q_cut ⟨rfl,⟨_,rfl,hP.add (its:=c_colors0++(a1++c_colors2)) (s_colors ha1) (j:=1462) (Nat.ble_eq_true_of_le (by simp only[rnd_app,List.length_append];have e0:(rnd c_colors0).length=69:=Yhp;have e2:(rnd c_colors2).length=25:=Yhp;omega)) Yhx⟩,hG1,((hF).trans0 hfv1|>.trans hf1 Yie)⟩
 rintro g u ⟨h3,⟨S,h4,hP⟩,hG,hF⟩;rw[eq_upd h3,eq_upd h4];clear h3 h4;have hSl:=hP.len;refine wp_seq ?_;refine c_cut (fun g u=>g 3=.pointer (some ⟨p,0,none⟩)/\(∃S,g 4=.string (bst S)/\PrL [0,0,1,1,1,1,1,2,2,2,2,2,3,3,3,3] 4642 S)/\GW u p/\Fr [] w u) ?_ ?_
 .refine rx ?_;refine Yge ?_;refine s_c1 (gNext p 4 _ hG Yhn) ?_;rintro z1 w1 ⟨hz1,hzk1,hG1,hf1⟩;obtain⟨k1,hk1⟩:∃j:Nat,1+z1=(j:Int):=⟨(1+z1).toNat,by omega⟩;refine rx ?_;rw[hk1];refine Yhc ?_;rintro _ rfl;have hl1:(dg k1).length=1:=rfl;refine rx ?_;refine Yen ?_;exact q_cut ⟨rfl,⟨_,rfl,hP.add (its:=c_pairs0++[.tk (dg k1)]++c_pairs2) (s_pairs _ (show[It.tk (dg k1)]∈o_pairs1 by rcases(show k1=1\/k1=2\/k1=3\/k1=4 by omega)with rfl|rfl|rfl|rfl<;>first|exact mem_i 0 rfl|exact mem_i 1 rfl|exact mem_i 2 rfl|exact mem_i 3 rfl)) (j:=137) Yhp Yhx⟩,hG1,(hF.trans hf1 Yie)⟩
 rintro g u ⟨h3,⟨S,h4,hP⟩,hG,hF⟩;rw[eq_upd h3,eq_upd h4];clear h3 h4;have hSl:=hP.len;refine wp_seq ?_;refine c_cut (fun g u=>g 3=.pointer (some ⟨p,0,none⟩)/\(∃S,g 4=.string (bst S)/\PrL [0,0,1,1,1,1,1,2,2,2,2,2,3,3,3,3,3] 4713 S)/\GW u p/\Fr [] w u) ?_ ?_
 .refine rx ?_;refine Yfi ?_;rintro z1 w1 ⟨hz1,hzk1,hG1,hf1⟩;obtain⟨k1,hk1⟩:∃j:Nat,1+z1=(j:Int):=⟨(1+z1).toNat,by omega⟩;refine rx ?_;rw[hk1];refine Yhc ?_;rintro _ rfl;have hl1:(dg k1).length=1:=rfl;refine rx ?_;refine Yen ?_;exact q_cut ⟨rfl,⟨_,rfl,hP.add (its:=c_flaky0++[.tk (dg k1)]++c_flaky2) (s_flaky _ (show[It.tk (dg k1)]∈o_flaky1 by rcases(show k1=1\/k1=2\/k1=3 by omega)with rfl|rfl|rfl<;>first|exact mem_i 0 rfl|exact mem_i 1 rfl|exact mem_i 2 rfl)) (j:=71) Yhp Yhx⟩,hG1,(hF.trans hf1 Yie)⟩
 rintro g u ⟨h3,⟨S,h4,hP⟩,hG,hF⟩;rw[eq_upd h3,eq_upd h4];clear h3 h4;have hSl:=hP.len;refine wp_seq ?_;refine c_cut (fun g u=>g 3=.pointer (some ⟨p,0,none⟩)/\(∃S,g 4=.string (bst S)/\PrL [0,0,1,1,1,1,1,2,2,2,2,2,3,3,3,3,3,4] 4888 S)/\GW u p/\Fr [] w u) ?_ ?_
 .refine rx ?_;refine Yge ?_;exact q_cut ⟨rfl,⟨_,rfl,hP.add (its:=c_queue0) (s_queue) (j:=175) Yhp Yhx⟩,hG,hF⟩
 rintro g u ⟨h3,⟨S,h4,hP⟩,hG,hF⟩;rw[eq_upd h3,eq_upd h4];clear h3 h4;have hSl:=hP.len;refine wp_seq ?_;refine c_cut (fun g u=>g 3=.pointer (some ⟨p,0,none⟩)/\(∃S,g 4=.string (bst S)/\PrL [0,0,1,1,1,1,1,2,2,2,2,2,3,3,3,3,3,4] 4888 S)/\(∃y,y∈o_ring3/\(rnd y).length<=46/\g 5=.string (bst (rnd y)))/\GW u p/\Fr [] w u) ?_ ?_
 .refine rx ?_;refine s_buildS [.string (bst [115,116,101,112,32,100,114,111,112,40,115,44,32,49,41,44,32,97,116,40,115,44,32,48,41,59]),.string (bst [115,116,101,112,32,116,97,107,101,40,115,44,32,115,105,122,101,40,115,41,32,45,32,49,41,44,32,97,116,40,115,44,32,115,105,122,101,40,115,41,32,45,32,49,41,59]),.string (bst [115,116,101,112,32,115,44,32,97,116,40,115,44,32,48,41,59,32,115,116,101,112,32,100,114,111,112,40,115,44,32,49,41,44,32,108,59]),.string (bst [115,116,101,112,32,100,114,111,112,40,115,44,32,49,41,44,32,97,116,40,115,44,32,48,41,59])] rfl rfl rfl rfl (fun v1 ho1 hfv1 hsv1=>?_);refine rx ?_;refine s_call (gChoose p _ [[115,116,101,112,32,100,114,111,112,40,115,44,32,49,41,44,32,97,116,40,115,44,32,48,41,59],[115,116,101,112,32,116,97,107,101,40,115,44,32,115,105,122,101,40,115,41,32,45,32,49,41,44,32,97,116,40,115,44,32,115,105,122,101,40,115,41,32,45,32,49,41,59],[115,116,101,112,32,115,44,32,97,116,40,115,44,32,48,41,59,32,115,116,101,112,32,100,114,111,112,40,115,44,32,49,41,44,32,108,59],[115,116,101,112,32,100,114,111,112,40,115,44,32,49,41,44,32,97,116,40,115,44,32,48,41,59]] _ (hG.tr0 hfv1) ho1.src (hG.off ho1 rfl) Yhs Yhs) rfl ?_;rintro _ w1 ⟨t1,ht1,rfl,hG1,hf1⟩;refine⟨_,rfl,?_⟩;obtain⟨y1,hy1,rfl,hyl1⟩:∃y,y∈o_ring3/\t1=rnd y/\(rnd y).length<=46:=by
   simp only[List.mem_cons,List.not_mem_nil,or_false]at ht1;rcases ht1 with rfl|rfl|rfl|rfl
   .exact ⟨_,mem_i 0 rfl,by kernel_rfl,by decide⟩
   .exact ⟨_,mem_i 1 rfl,by kernel_rfl,by decide⟩
   .exact ⟨_,mem_i 2 rfl,by kernel_rfl,by decide⟩
   .exact ⟨_,mem_i 0 rfl,by kernel_rfl,by decide⟩
  exact Ycu
 rintro g u ⟨h3,⟨S,h4,hP⟩,⟨y,hy,hyl,h5⟩,hG,hF⟩;rw[eq_upd h3,eq_upd h4,eq_upd h5];clear h3 h4 h5;have hSl:=hP.len;refine wp_seq ?_;refine c_cut (fun g u=>g 3=.pointer (some ⟨p,0,none⟩)/\(∃S,g 4=.string (bst S)/\PrL [0,0,1,1,1,1,1,2,2,2,2,2,3,3,3,3,3,4,5] 5067 S)/\GW u p/\Fr [] w u) ?_ ?_
 .refine rx ?_;refine Yge ?_;refine s_buildS [.string (bst [115,116,101,112,32,112,117,115,104,40,115,44,32,120,41,44,32,48,59]),.string (bst [115,116,101,112,32,112,117,115,104,40,115,44,32,120,41,44,32,48,59]),.string (bst [115,116,101,112,32,115,44,32,115,105,122,101,40,115,41,59,32,115,116,101,112,32,112,117,115,104,40,115,44,32,120,41,44,32,105,102,32,108,32,60,32,50,32,116,104,101,110,32,48,32,101,108,115,101,32,49,59])] rfl rfl rfl rfl (fun v1 ho1 hfv1 hsv1=>?_);refine rx ?_;refine s_call (gChoose p _ [[115,116,101,112,32,112,117,115,104,40,115,44,32,120,41,44,32,48,59],[115,116,101,112,32,112,117,115,104,40,115,44,32,120,41,44,32,48,59],[115,116,101,112,32,115,44,32,115,105,122,101,40,115,41,59,32,115,116,101,112,32,112,117,115,104,40,115,44,32,120,41,44,32,105,102,32,108,32,60,32,50,32,116,104,101,110,32,48,32,101,108,115,101,32,49,59]] _ (hG.tr0 hfv1) ho1.src (hG.off ho1 rfl) Yhs Yhs) rfl ?_;rintro _ w1 ⟨t1,ht1,rfl,hG1,hf1⟩;refine⟨_,rfl,?_⟩;obtain⟨y1,hy1,rfl,hyl1⟩:∃y,y∈o_ring1/\t1=rnd y/\(rnd y).length<=57:=by
   simp only[List.mem_cons,List.not_mem_nil,or_false]at ht1;rcases ht1 with rfl|rfl|rfl
   .exact ⟨_,mem_i 0 rfl,by kernel_rfl,by decide⟩
   .exact ⟨_,mem_i 0 rfl,by kernel_rfl,by decide⟩
   .exact ⟨_,mem_i 1 rfl,by kernel_rfl,by decide⟩
  refine rx ?_;refine Yen ?_;refine Yen ?_;exact q_cut ⟨rfl,⟨_,rfl,hP.add (its:=c_ring0++(y1++(c_ring2++(y++c_ring4)))) (s_ring _ hy1 _ hy) (j:=179) (Nat.ble_eq_true_of_le (by simp only[rnd_app,List.length_append];have e0:(rnd c_ring0).length=57:=Yhp;have e2:(rnd c_ring2).length=14:=Yhp;have e4:(rnd c_ring4).length=5:=Yhp;omega)) Yhx⟩,hG1,((hF).trans0 hfv1|>.trans hf1 Yie)⟩
 rintro g u ⟨h3,⟨S,h4,hP⟩,hG,hF⟩;rw[eq_upd h3,eq_upd h4];clear h3 h4;have hSl:=hP.len;refine wp_seq ?_;refine c_cut (fun g u=>g 3=.pointer (some ⟨p,0,none⟩)/\(∃S,g 4=.string (bst S)/\PrL [0,0,1,1,1,1,1,2,2,2,2,2,3,3,3,3,3,4,5,4] 5290 S)/\GW u p/\Fr [] w u) ?_ ?_
 .refine rx ?_;refine Yge ?_;exact q_cut ⟨rfl,⟨_,rfl,hP.add (its:=c_counter0) (s_counter) (j:=223) Yhp Yhx⟩,hG,hF⟩
 rintro g u ⟨h3,⟨S,h4,hP⟩,hG,hF⟩;rw[eq_upd h3,eq_upd h4];clear h3 h4;have hSl:=hP.len;refine wp_seq ?_;refine c_cut (fun g u=>g 3=.pointer (some ⟨p,0,none⟩)/\(∃S,g 4=.string (bst S)/\PrL [0,0,1,1,1,1,1,2,2,2,2,2,3,3,3,3,3,4,5,4] 5290 S)/\(∃y,y∈o_cell3/\(rnd y).length<=45/\g 6=.string (bst (rnd y)))/\GW u p/\Fr [] w u) ?_ ?_
 .refine rx ?_;refine s_buildS [.string (bst [115,116,101,112,32,115,32,43,32,49,44,32,115,32,43,32,49,59]),.string (bst [115,116,101,112,32,115,44,32,115,59,32,115,116,101,112,32,108,32,43,32,49,44,32,108,32,43,32,49,59]),.string (bst [115,116,101,112,32,115,44,32,115,59,32,115,116,101,112,32,115,32,43,32,49,44,32,115,32,43,32,49,59]),.string (bst [115,116,101,112,32,115,32,43,32,49,44,32,105,102,32,102,108,105,112,40,53,41,32,60,32,52,32,116,104,101,110,32,115,32,43,32,49,32,101,108,115,101,32,115,59])] rfl rfl rfl rfl (fun v1 ho1 hfv1 hsv1=>?_);refine rx ?_;refine s_call (gChoose p _ [[115,116,101,112,32,115,32,43,32,49,44,32,115,32,43,32,49,59],[115,116,101,112,32,115,44,32,115,59,32,115,116,101,112,32,108,32,43,32,49,44,32,108,32,43,32,49,59],[115,116,101,112,32,115,44,32,115,59,32,115,116,101,112,32,115,32,43,32,49,44,32,115,32,43,32,49,59],[115,116,101,112,32,115,32,43,32,49,44,32,105,102,32,102,108,105,112,40,53,41,32,60,32,52,32,116,104,101,110,32,115,32,43,32,49,32,101,108,115,101,32,115,59]] _ (hG.tr0 hfv1) ho1.src (hG.off ho1 rfl) Yhs Yhs) rfl ?_;rintro _ w1 ⟨t1,ht1,rfl,hG1,hf1⟩;refine⟨_,rfl,?_⟩;obtain⟨y1,hy1,rfl,hyl1⟩:∃y,y∈o_cell3/\t1=rnd y/\(rnd y).length<=45:=by
   simp only[List.mem_cons,List.not_mem_nil,or_false]at ht1;rcases ht1 with rfl|rfl|rfl|rfl
   .exact ⟨_,mem_i 0 rfl,by kernel_rfl,by decide⟩
   .exact ⟨_,mem_i 1 rfl,by kernel_rfl,by decide⟩
   .exact ⟨_,mem_i 2 rfl,by kernel_rfl,by decide⟩
   .exact ⟨_,mem_i 3 rfl,by kernel_rfl,by decide⟩
  exact Ycu
 rintro g u ⟨h3,⟨S,h4,hP⟩,⟨y,hy,hyl,h5⟩,hG,hF⟩;rw[eq_upd h3,eq_upd h4,eq_upd h5];clear h3 h4 h5;have hSl:=hP.len;refine wp_seq ?_;refine c_cut (fun g u=>g 3=.pointer (some ⟨p,0,none⟩)/\(∃S,g 4=.string (bst S)/\PrL [0,0,1,1,1,1,1,2,2,2,2,2,3,3,3,3,3,4,5,4,5] 5466 S)/\GW u p/\Fr [] w u) ?_ ?_
 .refine rx ?_;refine Yge ?_;refine s_buildS [.string (bst [48]),.string (bst [115])] rfl rfl rfl rfl (fun v1 ho1 hfv1 hsv1=>?_);refine rx ?_;refine s_call (gChoose p _ [[48],[115]] _ (hG.tr0 hfv1) ho1.src (hG.off ho1 rfl) Yhs Yhs) rfl ?_;rintro _ w1 ⟨t1,ht1,rfl,hG1,hf1⟩;refine⟨_,rfl,?_⟩;obtain⟨y1,hy1,rfl,hyl1⟩:∃y,y∈o_cell1/\t1=rnd y/\(rnd y).length<=1:=by
   simp only[List.mem_cons,List.not_mem_nil,or_false]at ht1;rcases ht1 with rfl|rfl
   .exact ⟨_,mem_i 0 rfl,by kernel_rfl,by decide⟩
   .exact ⟨_,mem_i 1 rfl,by kernel_rfl,by decide⟩
  refine rx ?_;refine Yen ?_;refine Yen ?_;exact q_cut ⟨rfl,⟨_,rfl,hP.add (its:=c_cell0++(y1++(c_cell2++(y++c_cell4)))) (s_cell _ hy1 _ hy) (j:=176) (Nat.ble_eq_true_of_le (by simp only[rnd_app,List.length_append];have e0:(rnd c_cell0).length=32:=Yhp;have e2:(rnd c_cell2).length=14:=Yhp;have e4:(rnd c_cell4).length=84:=Yhp;omega)) Yhx⟩,hG1,((hF).trans0 hfv1|>.trans hf1 Yie)⟩
 rintro g u ⟨h3,⟨S,h4,hP⟩,hG,hF⟩;rw[eq_upd h3,eq_upd h4];refine Yeo ?_;exact⟨S,rfl,hP,hF⟩
end Go.Proofs.YtmlpcmjmniobdaaGreat
namespace Go.Rf
open Go.RowKit
def TkK(t:List Tk):Prop:=t.length<=5500/\∀x∈t,(0<=x.at_/\x.at_<=8192)/\x.text.length<=8192
theorem mkTk_at(p:Int)(t:Bs):(mkTk p t).at_=p/\(mkTk p t).text=t:=by cases t<;>exact⟨rfl,rfl⟩
theorem tks_known:∀(a:List It) (p:Int) (nx:Option UInt8),okI nx a=true->0<=p->p+(rnd a).length<=8192->(tksI p a).length<=(rnd a).length/\∀x∈tksI p a,(0<=x.at_/\x.at_<=8192)/\x.text.length<=8192
 |[],p,nx,_,_,_=>⟨Nat.le_refl _,by simp[tksI]⟩
 |.bl b::r,p,nx,h,hp,hm=>by
  simp only[okI,Bool.and_eq_true]at h;simp only[rnd,List.length_cons]at hm ⊢;have:=tks_known r (p+1) nx h.2 Yhn Yhn;simp only[tksI];exact⟨by omega,this.2⟩
 |.tk t::r,p,nx,h,hp,hm=>by
  simp only[okI,Bool.and_eq_true]at h;simp only[rnd,List.length_append]at hm ⊢;have:=tks_known r (p+t.length) nx h.2 Yhn Yhn;simp only[tksI,List.length_cons];have ht:1<=t.length:=by
   cases t with
   |nil=>exact absurd h.1 (by simp[okT])
   |cons b t=>simp
  refine⟨by omega,fun x hx=>?_⟩;rcases List.mem_cons.1 hx with rfl|hx
  .rw [(mkTk_at p t).1,(mkTk_at p t).2];exact⟨by omega,by omega⟩
  .exact this.2 x hx
theorem PrL.read2{ks:List Int}{m:Nat}{S:Bs}(h:PrL ks m S)(h64:ks.length<=64)(hm:m<=5500)(n:Int):S.length<=m/\∃(t:List Tk) (ds:List De),lexF S=.ok t/\ds.map De.kind=ks/\(∀d∈ds,okD d)/\limM ds=false/\(∀f,ks.length<f->pMod n 200 f t=some ds)/\TkK t:=by
 obtain⟨a,h1,h2,rfl⟩:=h;obtain⟨ds,h3,h4,h5,h6⟩:=h1.mod h64 n;have hk:=tks_known a 0 none (h1.ok none) Yhn Yhn;exact⟨h2,tksI 0 a,ds,lexF_items (h1.ok none) Yhn,h3,h4,h5,h6,by omega,hk.2⟩
theorem retc3{P:Program}{fn:Func}{R:Ending->World->Prop}{n:Nat}{f:Env}{w:World}{t ty m q tb u s:Nat}{cs:List Value}{x y:Value}[G:AggT P ty m](hr:fn.results=#[.cell t ty,.tmp u,.tmp s])(hv:ev n f (.tmp t)=.pointer (some ⟨q,0,none⟩))(hb:Blk w q cs tb)(hl:cs.length=m)(hx:ev n f (.tmp u)=x)(hy:ev n f (.tmp s)=y)
 (h:R (.returned (.tuple #[.agg cs.toArray,x,y])) w):bodyPost P fn R .ret (A n f) w:=
 ⟨rfl,.tuple #[.agg cs.toArray,x,y],by
  have hld:(loadVar ty ⟨q,0,none⟩).run P w=.ok (.agg cs.toArray) w:=AggT.load _ cs hl (fun j x hx=>by rw[add_lit];exact hb.cell (by simpa using hx));have e:(A n f).tmps.getD t undef=.pointer (some ⟨q,0,none⟩):=by rw[A_getD];exact hv
  have e2:(A n f).tmps.getD u undef=x:=by rw[A_getD];exact hx
  have e3:(A n f).tmps.getD s undef=y:=by rw[A_getD];exact hy
  rw[Array.getD_eq_getD_getElem?]at e e2 e3;simp[results,hr,e,e2,e3,asAddr,hld],h⟩
theorem lexGo_len:∀(f:Nat) (a:Int) (r:Bs) (T:List Tk),lexGo f a r=.ok T->T.length<=f
 |0,a,r,T,h=>by simp[lexGo]at h
 |f+1,a,r,T,h=>by
  simp only[lexGo]at h
  split at h
  .simp only[Except.ok.injEq]at h;subst h;simp
  .split at h
   .cases h
   .split at h
    .cases h
    .split at h
     .rename_i l hl;simp only[Except.ok.injEq]at h;subst h;have:=lexGo_len f _ _ _ hl;simp only[List.length_cons];omega
     .cases h
theorem lexF_len{s:Bs}{T:List Tk}(h:lexF s=.ok T):T.length<=1000000:=by
 unfold lexF at h
 split at h
 .cases h
 .have:=lexGo_len _ _ _ _ h;omega
end Go.Rf
namespace Go.Proofs.YtmlpcmjmniobdaaGreat
open Go.Proofs.Tryz
open Go.Rf Go.RowKit
attribute [local irreducible] Code.wp wpList Exit.then Exit.inBlock bodyPost A Calls execOp Addr.add
instance:RowZ prog 23 53 45 768 [zI,.string .empty,zI,zS,zS,zI,.string .empty,zS,zI,.string .empty,zI,zS,zS,zS,zI,zI,zI,.string .empty,zS,zS,zS,zI,zS,zS,zS,zS,zI,.string .empty,zS,zI,.string .empty,zI,zS,zS,zS,zI,zS,zS,zI,.string .empty,zI,zS,zS,zS,zI]:=⟨inferInstance,rowz_of (v:=.agg #[zI,.string .empty,zI,zS,zS,zI,.string .empty,zS,zI,.string .empty,zI,zS,zS,zS,zI,zI,zI,.string .empty,zS,zS,zS,zI,zS,zS,zS,zS,zI,.string .empty,zS,zI,.string .empty,zI,zS,zS,zS,zI,zS,zS,zI,.string .empty,zI,zS,zS,zS,zI]) Yhp rfl rfl⟩
theorem pEnd(p:Nat)(n:Int)(w:World){bd:Nat}(h:PS bd w p n []):
 Calls prog 26 #[.pointer (some ⟨p,0,none⟩),.bool false] w fun e w'=>e=.returned (.tuple #[zI,zI])/\Fr [] w w':=by
 obtain⟨S,T,ao,c,i,hb,hs,ho,hr,hi,hn,hT,hpb,hbw,hab⟩:=h;have hlt:T.length<=i:=by
  have:=congrArg List.length hr;simp at this;omega
 refine enter func26 rfl ntmps26 rfl ?_;refine Yfs ?_;have hS:Fr [] w w.drew:=Fr.drew _ _;refine d_z4 0 1 2 3 hS ?_;refine d_z4 4 5 6 7 hS ?_;refine d_z4 8 9 10 11 hS ?_;refine d_z4 12 13 14 15 hS ?_;refine Yfx ?_;refine rx ?_;apply ret2;exact rfl;(conv=>lhs;whnf);(conv=>lhs;whnf);exact⟨rfl,hS⟩
theorem parseC(S:Bs)(T:List Tk)(ds:List De)(hS:S.length<=8192)(hl:lexF S=.ok T)(hm:∀f,100<f->pMod (S.length:Int) 200 f T=some ds)(hlim:limM ds=false)(hk:∀d∈ds,0<=d.kind/\d.kind<=5)(w:World):
 Calls prog 11 #[.string (bst S)] w fun e w'=>∃v,e=.returned (.tuple #[.agg ([v]:List Value).toArray,zI,zI])/\DR w' (rg w) (.l (ds.map deC)) v/\Fr [] w w':=by
 have hTl:=lexF_len hl;have hTn:=lexF_num hl;refine enter func11 rfl ntmps11 rfl ?_;refine rx ?_;refine s_allocN (l:=[zS]) rfl (fun w1 rr hrr hbr hf1 hs1=>?_);refine rx ?_;refine s_call (tokensP S w1 Yhn) rfl ?_;rintro _ w2 ⟨v,a,er,rfl,hf2,hr⟩;refine⟨_,rfl,?_⟩;rw[hl]at hr;obtain⟨ho,hbl,rfl,rfl⟩:=hr;obtain⟨ao,c,rfl⟩:=ho.slice;have hbr:=hbr.tr0 hf2;have hs2:=hf2.size;refine rx ?_;refine s_build [.string (bst S),.slice ao T.length c,zI,.bool false] rfl ?_;refine rx ?_;refine s_boxN rfl rfl (fun w3 p hp hbp hf3 hs3=>?_);have hbr:=hbr.tr0 hf3;refine rx ?_;refine s_allocN (l:=[zS]) rfl (fun w4 a ha hba hf4 hs4=>?_);have hbr:=hbr.tr0 hf4;have hbp:=hbp.tr0 hf4;have hlt2:=ho.lt;have hP4:PS w3.heap.size w4 p (S.length:Int) T:=⟨S,T,ao,c,0,hbp,((ho.src.tr0 hf3).tr0 hf4),fun ad n c' e _ hm=>by
  have h1:=hlt2 ad.block Yio;rw[List.mem_singleton.1 hm]at h1;omega,by simp,by omega,rfl,⟨hTl,hTn⟩,by omega,by omega,fun ad e=>by
  have h1:=hlt2 ad.block Yio;omega⟩
 have hF4:Fr [] w w4:=((hf1.trans0 hf2).trans0 hf3).trans0 hf4;have hbd:=hP4.le;have hpw4:p<w4.heap.size:=by omega
 refine rx ?_;refine c_loopK 11 [] (σ:=Nat×List De×List Tk) (fun s g u=>PS w3.heap.size u p (S.length:Int) s.2.2/\Fr [p,a] w4 u/\s.2.1.length+s.1<=1000001/\Blk u rr [zS] 25/\(∃l',pMod (S.length:Int) 200 s.1 s.2.2=some l'/\s.2.1++l'=ds)/\∃v,Blk u a [v] 25/\LS (rg w4) u 53 45 deC s.2.1 v) (fun s=>s.1) (1000001,[],T) ⟨hP4,Fr.refl _ _,by simp,hbr,⟨ds,hm _ Yhn,rfl⟩,_,hba,LS.nil⟩ ?_;clear hP4 hbr hba hbp;rintro⟨f,acc,r⟩ g w5 ⟨hP5,hF5,hla,hbr,⟨l',hgo,hacc⟩,v,hba,hL⟩;simp only at hP5 hF5 hla hgo hacc hL;obtain⟨ao2,c2,rfl⟩:=hL.slice;cases f with
 |zero=>simp[pMod]at hgo
 |succ f=>
 have hs5:=hF5.size;obtain⟨S0,T0,ao0,c0,i0,hb0,hs0,ho0,hr0,hi0,hn0,hT0,hrest⟩:=id hP5;have hTl0:=hT0.1;cases r with
 |nil=>
  simp only[pMod,Option.some.injEq]at hgo;subst hgo;have hlt:T0.length<=i0:=by
   have:=congrArg List.length hr0;simp at this;omega
  refine rx ?_;refine d_begin (fun z=>Fr [] w5 z) Yhp rfl ?_;have hS5:Fr [] w5 w5.drew:=Fr.drew _ _;refine d_z4 0 1 2 3 hS5 ?_;refine d_z4 4 5 6 7 hS5 ?_;refine d_z4 8 9 10 11 hS5 ?_;refine d_z4 12 13 14 15 hS5 ?_;refine d_z 16 hS5 ?_;refine Yfx ?_;obtain⟨w6,hw6⟩:=exq w5.drew;rw[<-hw6]at hS5 ⊢;have hP6:=hP5.tr0 hS5;have hbr:=hbr.tr0 hS5;have hba:=hba.tr0 hS5;have hL:=hL.tr0 hS5;refine rx ?_;have hd6:=hL.dr deC_len Yhn;have hd7:DR w6 (rg w4) (.l (ds.map deC)) (.slice ao2 acc.length c2):=by rw[<-hacc,List.append_nil];exact hd6
  refine s_call (faultsC ds hlim hk w6 _ _ hd7) rfl ?_;rintro _ w7 ⟨⟨b1,b2,b3,rfl⟩,hf7⟩;refine⟨_,rfl,?_⟩;refine rx ?_;refine s_var (l:=[.bool false,.bool false,.bool false,.bool false]) (cs:=[.bool false,.bool b1,.bool b2,.bool b3]) rfl rfl rfl Yhu rfl (fun v=>rfl) (fun w8 fb hqf hbf hf8 hs8=>?_);refine rx ?_;have hP8:=(hP6.tr0 hf7).tr0 hf8;have hbr:=(hbr.tr0 hf7).tr0 hf8;have hba:=(hba.tr0 hf7).tr0 hf8;have hd8:=(hd7.tr0 hf7).tr0 hf8;refine s_cE (pEnd p _ w8 hP8) ?_;rintro w9 hf9;have hbr:=hbr.tr0 hf9;have hba:=hba.tr0 hf9;have hd9:=hd8.tr0 hf9;refine rx ?_;refine s_storeAggB (cs:=[.slice ao2 acc.length c2]) rfl rfl hbr Yhu rfl rfl (fun w10 hbr2 hf10 hs10=>?_);refine rx ?_;have hr4:rr∈rg w4:=rg_mem.2 Yhn;refine retc3 rfl rfl hbr2 rfl rfl rfl ⟨_,rfl,(hd9.old hf10 (one_in hr4)).down Yhn,?_⟩;have hF9:Fr [p,a] w4 w9:=(((hF5.trans0 hS5).trans0 hf7).trans0 hf8).trans0 hf9;exact((hF4.trans hF9 (fun x hx=>.inr (by simp at hx;omega))).trans hf10 (fun x hx=>.inr (by simp at hx;omega)))
 |cons t r=>
 have hlt:i0<T0.length:=by
  rcases Nat.lt_or_ge i0 T0.length with h|h
  .exact h
  .rw [List.drop_eq_nil_of_le h]at hr0;cases hr0
 simp only[pMod]at hgo;obtain⟨⟨d,r1⟩,g1,hgo⟩:=bind_some hgo;obtain⟨l2,g2,hgo⟩:=bind_some hgo;simp only[Option.some.injEq]at hgo;subst hgo;refine rx ?_;refine d_begin (fun z=>Fr [] w5 z) Yhp rfl ?_;have hS5:Fr [] w5 w5.drew:=Fr.drew _ _;refine d_z4 0 1 2 3 hS5 ?_;refine d_z4 4 5 6 7 hS5 ?_;refine d_z4 8 9 10 11 hS5 ?_;refine d_z4 12 13 14 15 hS5 ?_;refine d_z 16 hS5 ?_;refine Yfx ?_;obtain⟨w6,hw6⟩:=exq w5.drew;rw[<-hw6]at hS5 ⊢;have hP6:=hP5.tr0 hS5;have hF6:=hF5.trans0 hS5;have hbr:=hbr.tr0 hS5;have hba:=hba.tr0 hS5;have hL:=hL.tr0 hS5;have hs6:=hS5.size;refine rx ?_
 ((refine u_begin 7 (fun z=>True/\Blk z a [.slice ao2 acc.length c2] 25) Yhp rfl ?_);obtain⟨w7,hw7⟩:=exq w6.drew;rw[<-hw7];have hf7:Fr [] w6 w7:=hw7▸Fr.drew _ _;have hP7:=hP6.tr0 hf7;have hF7:=hF6.trans0 hf7;have hs7:=hf7.size)
 have hbr:=hbr.tr0 hf7;have hba:=hba.tr0 hf7;have hL:=hL.keep hf7 Yhs;have ha4:a∈rg w4:=rg_mem.2 Yhn;have hp4:p∈rg w4:=rg_mem.2 Yhn
 ((refine u_tx 0 (And.intro trivial hba) ?_);(refine u_tx 1 (And.intro trivial hba) ?_);(refine u_tx 2 (And.intro trivial hba) ?_))
 refine Ygr ?_;have hz1:=hL.lt;refine s_c1 (pDeclC 200 Yhn _ p _ _ w7 d r1 hP7 g1) ?_;rintro cs w8 ⟨hd,hP8,hf8⟩;have hF8:=hF7.trans hf8 (fun x hx=>.inl Yiq);have hs8:=hf8.size;have hl:cs.length=45:=by rw[hd.len,deC_len]
 have hbr:=hbr.tr hf8 Yht;have hba:=hba.tr hf8 Yht;have hL:=hL.keep hf8 (one_in hp4);refine Yfb ?_;refine s_rows1 rfl hl rfl (fun w9 k5 hk5 ho9 hf9 hs9=>?_);have hP9:=hP8.tr0 hf9;have hF9:=hF8.trans0 hf9;have hbr:=hbr.tr0 hf9;have hba:=hba.tr0 hf9;have hL:=hL.keep hf9 Yhs;have hd:=hd.tr0 hf9;refine Yfe ?_;refine s_appL hL deC_len rfl rfl ho9.src hd (fun b hb=>.inl (rg_mem.2 (hb.elim (hz1 b) (fun h=>by have:=rg_mem.1 h;omega)))) Yhv Yhn Yjy (fun v' w10 hL' hf10 hk10=>?_);have hge:=LS.ge hL (w0:=w4) (fun b hb=>rg_mem.2 hb);have hP10:=hP9.tr hf10 (fun k hk=>Nat.le_trans hbd (hge k hk));have hF10:=hF9.trans hf10 (fun k hk=>.inr (hge k hk));have hbr:=hbr.tr hf10 (fun h=>by have:=hge _ h;omega);have hba:=hba.tr hf10 (fun h=>by have:=hge _ h;omega);have h1c:=hL'.1.one;refine Ygs ?_
 ((refine u_tx 6 (And.intro trivial hba) ?_))
 refine Ygm ?_
 ((with_reducible apply s_storeB);exact rfl;(conv=>lhs;whnf);exact h1c;exact hba;exact rfl)
 intro w11 hba hf11 hs11;replace hba:Blk w11 a [v'] 25:=hba;have hP11:=hP10.tr hf11 Yht;have hF11:=hF10.trans hf11 (fun x hx=>.inl Yiq);have hbr:=hbr.tr hf11 Yht;have hL:=hL'.keep hf11 (one_in ha4);refine Yet ?_;refine q_roundK (f,acc++[d],r1) Yhl ?_ ?_
 .refine ⟨hP11,hF11,?_,hbr,⟨l2,g2,?_⟩,_,hba,hL⟩
  .simp only[List.length_append,List.length_cons,List.length_nil]<;>omega
  .simpa using hacc
 .simp only;omega
def kinds:List Int:=[0,0,1,1,1,1,1,2,2,2,2,2,3,3,3,3,3,4,5,4,5]
def MD(ds:List De):Prop:=ds.map De.kind=kinds/\(∀d∈ds,okD d)/\∃n f t,(0<=n/\n<=8192)/\TkK t/\pMod n 200 f t=some ds
theorem moduleC(x:Value)(l:List Int)(w:World)(hx:Src w x l.length (l.map (.int .i64)))(hl:∀n∈l,InI64 n):
 Calls prog 4 #[x] w fun e w'=>∃ds v,e=.returned (.agg ([v]:List Value).toArray)/\DR w' (rg w) (.l (ds.map deC)) v/\Fr [] w w'/\MD ds:=by
 refine enter func4 rfl ntmps4 rfl ?_;refine rx ?_;refine s_allocN (l:=[zS]) rfl (fun w1 rr hrr hbr hf1 hs1=>?_);refine rx ?_;refine s_c1 (program x l w1 (hx.tr0 hf1) hl) ?_;rintro S w2 ⟨hP,hf2⟩;have hbr:=hbr.tr0 hf2;obtain⟨hSl,T,ds,h1,h2,h3,h4,h5,h6⟩:=hP.read2 Yhy Yhn (S.length:Int);have hk:∀d∈ds,0<=d.kind/\d.kind<=5:=fun d hd=>by
  have h:=List.mem_map_of_mem (f:=De.kind) hd;rw[h2]at h;simp only[List.mem_cons,List.not_mem_nil,or_false]at h;omega
 refine rx ?_;refine s_c1 (parseC S T ds Yhn h1 (fun f hf=>h5 f (Nat.lt_trans Yhy hf)) h4 hk w2) ?_;rintro v w3 ⟨hd,hf3⟩;have hbr:=hbr.tr0 hf3;have hs2:=hf2.size;have hs3:=hf3.size;obtain⟨ao,c,rfl,_⟩:=hd.slice;refine rx ?_;refine s_var (l:=[zS]) (cs:=[.slice ao (ds.map deC).length c]) rfl rfl rfl Yhu rfl (fun v=>rfl) (fun w4 m hm hbm hf4 hs4=>?_);have hbr:=hbr.tr0 hf4;have hd:=hd.tr0 hf4;refine rx ?_;refine s_storeAggB (cs:=[.slice ao (ds.map deC).length c]) rfl rfl hbr Yhu rfl rfl (fun w5 hbr2 hf5 hs5=>?_);refine rx ?_;refine retB rfl rfl hbr2 rfl ⟨ds,_,rfl,(hd.old hf5 (in_rg Yhn)).down Yhn,?_,h2,h3,(S.length:Int),40,T,⟨by omega,by omega⟩,h6,h5 40 Yhy⟩;exact((((hf1.trans0 hf2).trans0 hf3).trans0 hf4).trans hf5 (fun x hx=>.inr Yhq))
end Go.Proofs.YtmlpcmjmniobdaaGreat
