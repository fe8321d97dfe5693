/-
 How values (api.Value) and slices of structs lie in memory. It speaks of no program. Owned slices of rows:a relation that speaks of memory and keeps;appending a row. It speaks of no program. Regions that draw their order and whose last store changes what their loads read:S has to hold until operation number k has come up. It speaks of no program. Regions that draw their order,where a call and the allocation of the variable for its result may come in either order. It speaks of no program.
-/
import Derived.Test.YtmlpcmjmniobdaaGreatZHash2
import Derived.Test.YtmlpcmjmniobdaaGreatZLv
import Derived.Test.YtmlpcmjmniobdaaGreatZK1
set_option linter.all false
namespace Go.Proofs.YtmlpcmjmniobdaaGreat
open Go.Proofs.Tryz
open Go.Rf Go.RowKit
attribute [local irreducible] Code.wp wpList Exit.then Exit.inBlock bodyPost A Calls execOp Addr.add
theorem quoB(x:BitVec 64):(x.toNat:Int)/4294967296=((x>>>32).toNat:Int):=by
 rw[BitVec.toNat_ushiftRight,Nat.shiftRight_eq_div_pow];omega
theorem rmixC(s x:BitVec 64)(w:World):Calls prog 42 #[.int .u64 s.toNat,.int .u64 x.toNat] w fun e w'=>e=.returned (.int .u64 (mixB s x).toNat)/\w=w':=by
 refine enter func42 rfl ntmps42 rfl ?_;refine rn ?_;refine s_xor rfl rfl (xorB s x) ?_;refine s_mul rfl rfl (mulB _) ?_;refine rn ?_;refine s_xor rfl (congrArg (Value.int .u64) (quoB _)) (xorB _ _) ?_;refine rn ?_;exact Yeb
def wdI(l:List Nat):List Value:=l.map fun x=>.int .u64 (x:Nat)
theorem rwordsC(x:Value)(bs:List Int)(w:World)(hx:Src w x bs.length (bs.map (.int .u8)))(hB:Bys bs)(hl:bs.length<=1000000000):
 Calls prog 39 #[x] w fun e w'=>∃v,e=.returned v/\Own w' 58 1 v (gnat bs).length (wdI (gnat bs))/\Fr [] w w'/\∀k∈blks v,w.heap.size<=k:=by
 obtain⟨ao,c,rfl,hc,_⟩:=id hx;have hgl:=gnat_len bs;refine enter func39 rfl ntmps39 rfl ?_;refine rn ?_;refine c_loop (σ:=Nat×Value) (fun s g z=>g 0=.slice ao bs.length c/\g 3=s.2/\g 4=iV ((8*s.1:Nat):Int)/\s.1<=(gnat bs).length/\Own z 58 1 s.2 s.1 (wdI ((gnat bs).take s.1))/\Fr [] w z/\∀k∈blks s.2,w.heap.size<=k) (fun s=>(gnat bs).length-s.1) (0,_) ⟨rfl,rfl,rfl,Nat.zero_le _,Own.nil _ _ _,Fr.refl _ _,by simp[blks,Value.ownBlock]⟩ ?_;rintro⟨k,v⟩ g z ⟨g0,g3,g4,hk,ho,hF,hkb⟩;simp only at g0 g3 g4 hk ho hF hkb;rw[eq_upd g0,eq_upd g3,eq_upd g4];refine rn ?_;refine s_lss rfl rfl (fun hlt=>?_) (fun hge=>?_)
 case refine_2=>
  refine Yll ?_;have:k=(gnat bs).length:=by omega
  subst this;rw[List.take_length]at ho;exact⟨v,rfl,ho,hF,hkb⟩
 have hlt':8*k<bs.length:=by omega
 obtain⟨e,he⟩:∃e:Nat,e=min (8*k+8) bs.length:=⟨_,rfl⟩;refine rn ?_;refine s_min (r:=(e:Int)) rfl rfl Ykk ?_;have he1:8*k+1<=e:=by omega
 have he2:e<=8*k+8:=by omega
 have he3:e<=bs.length:=by omega
 refine rn ?_;refine c_loop (σ:=Nat) (fun q g u=>g 0=.slice ao bs.length c/\g 3=v/\g 4=iV ((8*k:Nat):Int)/\g 5=.int .u64 (wN ((bs.drop q).take (e-q)):Nat)/\g 6=iV ((q:Int)-1)/\8*k<=q/\q<=e/\u=z) (fun q=>q) e ⟨rfl,rfl,rfl,by rw[Nat.sub_self,List.take_zero];rfl,rfl,by omega,Nat.le_refl _,rfl⟩ ?_;rintro q g u ⟨g0,g3,g4,g5,g6,hq1,hq2,rfl⟩;rw[eq_upd g0,eq_upd g3,eq_upd g4,eq_upd g5,eq_upd g6];refine rn ?_;refine s_geq rfl rfl (fun hc=>?_) (fun hc=>?_)
 case refine_2=>
  have hq:q=8*k:=by omega
  subst hq;have hwe:wN ((bs.drop (8*k)).take (e-8*k))=wN ((bs.drop (8*k)).take 8):=by
   by_cases h8:e=8*k+8
   .rw [h8];congr 2;omega
   .have hl:(bs.drop (8*k)).length=e-8*k:=by simp;omega
    rw[List.take_of_length_le Yhn,List.take_of_length_le Yhn]
  rw[hwe];have hgk:=gnat_get hlt';refine rn ?_
  ((with_reducible apply s_build1);(conv=>lhs;whnf);exact rfl)
  intro w1 ho1 hf1 hs1;refine s_append (ho.tr0 hf1) rfl ho1.src rfl rfl Yhu Yhv Yhn (fun v2 w2 ho2 hf2 hk2 _=>?_);refine rn ?_;have hs:=hF.size;refine q_round (k+1,v2) ⟨rfl,rfl,by simp only[upd_same];congr 1<;>omega,by omega,?_,(hF.trans0 hf1).trans hf2 (fun x hx=>.inr (hkb x hx)),fun x hx=>?_⟩ Yhw
  .simp only;unfold wdI;rw[List.take_add_one,hgk,List.map_append];exact ho2
  .rcases hk2 x hx with h|h
   .exact hkb x h
   .omega
 obtain⟨q,rfl⟩:∃p,q=p+1:=⟨q-1,by omega⟩;have hqb:q<bs.length:=by omega
 have hw7:wN ((bs.drop (q+1)).take (e-(q+1)))<72057594037927936:=by
  have h:=wN_lt _ ((hB.drop (q+1)).take (e-(q+1)));have h2:((bs.drop (q+1)).take (e-(q+1))).length<=7:=by simp;omega
  have h3:256^((bs.drop (q+1)).take (e-(q+1))).length<=256^7:=Nat.pow_le_pow_right Yhn h2;have:(256:Nat)^7=72057594037927936:=by decide
  omega
 obtain⟨y,hyv⟩:∃y:Nat,bs[q]=(y:Int):=⟨bs[q].toNat,by have:=(hB _ (List.getElem_mem hqb)).1;omega⟩;have hy256:y<256:=by have:=(hB _ (List.getElem_mem hqb)).2;omega
 obtain⟨ad,rfl,hcell⟩:=src_at (j:=q) (u:=.int .u8 (y:Int)) (hx.tr0 hF) (by simp[hqb,hyv]);obtain⟨wq,hwq⟩:=exq (wN ((bs.drop (q+1)).take (e-(q+1))));rw[<-hwq]at hw7 ⊢;refine rn ?_;refine s_indexAddr (j:=q) rfl rfl Yhn Yhn rfl ?_;rw[Nat.mul_one];refine Ymx ?_;refine rn ?_;refine q_round q ⟨rfl,rfl,rfl,?_,by simp only[upd_same];congr 1;omega,by omega,by omega,rfl⟩ Yhn;have hst:=wN_step (bs:=bs) (q:=q) (m:=e-(q+1)) hqb;rw[show e-(q+1)+1=e-q by omega]at hst;rw[hst,hyv,Int.toNat_natCast,<-hwq];show Value.int _ _=Value.int _ _
 congr 1
 omega
theorem refSumC(s:ByteArray)(ns:List Int)(ao:Option Addr)(c:Nat)(w:World)(hs:s.size<=1000000000)(hn:∀n∈ns,InI64 n)(hc:ns.length<=1000000000)(hsl:Src w (.slice ao ns.length c) ns.length (ns.map (.int .i64))):
 Calls prog 18 #[.string s,.slice ao ns.length c] w fun e w'=>e=.returned (.int .u64 (sumH (sb s) ns).toNat)/\Fr [] w w':=by
 refine enter func18 rfl ntmps18 rfl ?_;refine rn ?_;refine s_fromStr rfl (fun cb w2 hcb hsrc2 hf2=>?_);have hsb:(s.data.toList.map fun b=>Value.int .u8 b.toNat)=(sb s).map (.int .u8):=by simp[sb]
 rw[hsb]at hsrc2;rw[<-sb_len]at hsrc2;refine s_c1 (rwordsC _ (sb s) w2 (by rw[sb_len]at hsrc2 ⊢;exact hsrc2) (sb_bys s) (by rw[sb_len];exact hs)) ?_;rintro v w3 ⟨ho3,hf3,hk3⟩;have hF3:Fr [] w w3:=hf2.trans0 hf3;have hgl:(gnat (sb s)).length=(gB (sb s)).length:=by simp[gB]
 have hgl2:=gnat_len (sb s);rw[sb_len]at hgl2;obtain⟨ao3,c3,rfl⟩:=ho3.slice;refine rn ?_;refine c_loop (σ:=Nat) (fun k g z=>g 0=.string s/\g 1=.slice ao ns.length c/\g 5=.int .u64 (foldM 0 ((gB (sb s)).take k)).toNat/\g 6=.slice ao3 (gnat (sb s)).length c3/\g 7=iV (k:Int)/\k<=(gnat (sb s)).length/\z=w3) (fun k=>(gnat (sb s)).length-k) 0 ⟨rfl,rfl,rfl,rfl,rfl,Nat.zero_le _,rfl⟩ ?_;rintro k g z ⟨g0,g1,g5,g6,g7,hk,rfl⟩;rw[eq_upd g0,eq_upd g1,eq_upd g5,eq_upd g6,eq_upd g7];refine rn ?_;refine s_lss rfl rfl (fun hlt=>?_) (fun hge=>?_)
 case refine_1=>
  have hlt':k<(gnat (sb s)).length:=by omega
  obtain⟨x,hx⟩:∃x,(gnat (sb s))[k]?=some x:=⟨_,List.getElem?_eq_getElem hlt'⟩;have hxl:=gnat_lt (sb_bys s) x (List.mem_of_getElem? hx);have hgx:(gB (sb s))[k]?=some (BitVec.ofNat 64 x):=by simp only[gB,List.getElem?_map,hx];rfl
  obtain⟨ad,rfl,hcell⟩:=src_at (j:=k) (u:=.int .u64 (x:Nat)) ho3.src (by simp only[wdI,List.getElem?_map,hx];rfl);refine Ymw ?_;rw[Nat.mul_one];refine Ymx ?_;have hm:=rmixC (foldM 0 ((gB (sb s)).take k)) (BitVec.ofNat 64 x) z;rw[ofNat_toNat hxl,<-foldM_snoc hgx]at hm;refine s_cE hm ?_;rintro _ rfl;refine rn ?_;exact q_round (k+1) ⟨rfl,rfl,rfl,rfl,rfl,by omega,rfl⟩ Yhn
 have hke:k=(gB (sb s)).length:=by omega
 subst hke;rw[List.take_length];unfold sumH;generalize foldM 0 (gB (sb s))=st;refine rn ?_;have hm:=rmixC st (BitVec.ofNat 64 s.size) z;rw[ofNat_toNat Yhn]at hm;refine s_cE hm ?_;rintro _ rfl;rw[sb_len];generalize mixB st (BitVec.ofNat 64 s.size)=st1;refine rn ?_;have hm:=rmixC st1 (BitVec.ofNat 64 ns.length) z;rw[ofNat_toNat Yhn]at hm;refine s_cE hm ?_;rintro _ rfl;generalize mixB st1 (BitVec.ofNat 64 ns.length)=st2;refine rn ?_;refine c_loop (σ:=Nat) (fun k g u=>g 1=.slice ao ns.length c/\g 5=.int .u64 (foldM st2 ((ns.map (BitVec.ofInt 64)).take k)).toNat/\g 8=iV (k:Int)/\k<=ns.length/\u=z) (fun k=>ns.length-k) 0 ⟨rfl,rfl,rfl,Nat.zero_le _,rfl⟩ ?_;rintro k g u ⟨g1,g5,g8,hk,rfl⟩;rw[eq_upd g1,eq_upd g5,eq_upd g8];refine rn ?_;refine s_lss rfl rfl (fun hlt=>?_) (fun hge=>?_)
 case refine_2=>
  have hke:k=(ns.map (BitVec.ofInt 64)).length:=by simp;omega
  rw[hke,List.take_length];generalize foldM st2 (ns.map (BitVec.ofInt 64))=st3;refine rn ?_;refine s_cE (rmixC st3 0 u) ?_;rintro _ rfl;refine Yll ?_;exact⟨rfl,hF3⟩
 have hkl:k<ns.length:=by omega
 obtain⟨ad,rfl,hcell⟩:=src_at (j:=k) (u:=iV ns[k]) (hsl.tr0 hF3) (by simp[hkl]);have hin:=hn _ (List.getElem_mem hkl);refine Ymw ?_;rw[Nat.mul_one];refine Ymx ?_;refine rn ?_;refine s_conv rfl (u64_ofI _) ?_;have hgk:(ns.map (BitVec.ofInt 64))[k]?=some (BitVec.ofInt 64 ns[k]):=by simp[hkl]
 have hm:=rmixC (foldM st2 ((ns.map (BitVec.ofInt 64)).take k)) (BitVec.ofInt 64 ns[k]) u;rw[<-foldM_snoc hgk]at hm;refine s_cE hm ?_;rintro _ rfl;refine rn ?_;exact q_round (k+1) ⟨rfl,rfl,rfl,hkl,rfl⟩ Yhn
theorem refBytesC(s:ByteArray)(bs:List Int)(x:Value)(w:World)(hs:s.size<=1000000000)(hB:Bys bs)(hl:bs.length<=1000000000)(hsl:Src w x bs.length (bs.map (.int .u8))):
 Calls prog 16 #[.string s,x] w fun e w'=>e=.returned (.int .u64 (sumH (sb s) (wds bs)).toNat)/\Fr [] w w':=by
 obtain⟨ao,c,rfl,hc,_⟩:=id hsl;refine enter func16 rfl ntmps16 rfl ?_;refine rn ?_;refine s_c1 (rwordsC _ bs w hsl hB hl) ?_;rintro v w3 ⟨ho3,hf3,hk3⟩;have hgl:=gnat_len bs;obtain⟨ao3,c3,rfl⟩:=ho3.slice;refine rn ?_;refine c_loop (σ:=Nat×Value) (fun t g z=>g 0=.string s/\g 1=.slice ao bs.length c/\g 5=.slice ao3 (gnat bs).length c3/\g 6=t.2/\g 7=iV (t.1:Int)/\t.1<=(gnat bs).length/\Own z 3 1 t.2 t.1 (((gnat bs).take t.1).map fun x=>iV (toI x))/\Fr [] w3 z/\∀k∈blks t.2,w3.heap.size<=k) (fun t=>(gnat bs).length-t.1) (0,_) ⟨rfl,rfl,rfl,rfl,rfl,Nat.zero_le _,Own.nil _ _ _,Fr.refl _ _,by simp[blks,Value.ownBlock]⟩ ?_;rintro⟨k,v⟩ g z ⟨g0,g1,g5,g6,g7,hk,ho,hF,hkb⟩;simp only at g0 g1 g5 g6 g7 hk ho hF hkb;rw[eq_upd g0,eq_upd g1,eq_upd g5,eq_upd g6,eq_upd g7];have hsz:=hF.size;refine rn ?_;refine s_lss rfl rfl (fun hlt=>?_) (fun hge=>?_)
 case refine_1=>
  have hlt':k<(gnat bs).length:=by omega
  obtain⟨x,hx⟩:∃x,(gnat bs)[k]?=some x:=⟨_,List.getElem?_eq_getElem hlt'⟩;obtain⟨ad,rfl,hcell⟩:=src_at (j:=k) (u:=.int .u64 (x:Nat)) (ho3.src.tr0 hF) (by simp only[wdI,List.getElem?_map,hx];rfl);refine Ymw ?_;rw[Nat.mul_one];refine Ymx ?_;refine rn ?_;refine s_conv (r:=toI x) rfl rfl ?_;refine s_buildS [iV (toI x)] rfl rfl rfl rfl (fun u1 hou1 hfu1 hsu1=>?_);refine s_append (ho.tr0 hfu1) rfl hou1.src rfl rfl Yhu Yhv Yhn (fun v2 u2 ho2 hf2 hk2 _=>?_);refine rn ?_;refine q_round (k+1,v2) ⟨rfl,rfl,rfl,rfl,rfl,hlt',?_,(hF.trans0 hfu1).trans hf2 (fun q hq=>.inr (hkb q hq)),fun q hq=>?_⟩ Yhw
  .simp only;rw[List.take_add_one,hx,List.map_append];exact ho2
  .rcases hk2 q hq with h|h
   .exact hkb q h
   .have:=hfu1.size;omega
 have hke:k=(gnat bs).length:=by omega
 subst hke;rw[List.take_length]at ho;obtain⟨ao5,c5,rfl⟩:=ho.slice;refine rn ?_;refine s_buildS [iV bs.length] rfl rfl rfl rfl (fun u1 hou1 hfu1 hsu1=>?_);refine s_append (ho.tr0 hfu1) rfl hou1.src rfl rfl Yhu Yhv Yhn (fun v2 u2 ho2 hf2 hk2 _=>?_);have hwe:((gnat bs).map (fun x=>Value.int .i64 (toI x))++[iV (bs.length:Int)])=(wds bs).map (.int .i64):=by simp[wds]
 rw[hwe]at ho2;have hwl:(gnat bs).length+1=(wds bs).length:=by simp[wds]
 rw[hwl]at ho2;obtain⟨ao2,c2,rfl⟩:=ho2.slice;refine rn ?_;refine s_cE (refSumC s (wds bs) ao2 c2 u2 hs (wds_in hl) (by rw[wds_len];omega) ho2.src) ?_;rintro u4 hf4;refine Yll ?_;exact⟨rfl,(((hf3.trans0 hF).trans0 hfu1).trans hf2 (fun q hq=>.inr (by have:=hkb q hq;have:=hf3.size;omega))).trans0 hf4⟩
end Go.Proofs.YtmlpcmjmniobdaaGreat
namespace Go.Rf
theorem uv_bys(n:Nat):Bys (uv n):=by
 exact Yme
theorem Bys.append{xs ys:List Int}(h:Bys xs)(k:Bys ys):Bys (xs++ys):=fun b hb=>by
 rcases List.mem_append.1 hb with hb|hb
 .exact h b hb
 .exact k b hb
theorem iv_bys(n:Int):Bys (iv n):=uv_bys _
theorem raw_bys{bs:List Int}(h:Bys bs):Bys (raw bs):=(uv_bys _).append h
end Go.Rf
namespace Go.Proofs.YtmlpcmjmniobdaaGreat
open Go.Proofs.Tryz
open Go.Rf Go.RowKit
attribute [local irreducible] Code.wp wpList Exit.then Exit.inBlock bodyPost A Calls execOp Addr.add
def Out(w w':World)(v':Value)(bs:List Int):Prop:=Own w' 5 1 v' bs.length (bs.map (.int .u8))/\Fr [] w w'/\∀k∈blks v',w.heap.size<=k
theorem Out.nil(w:World):Out w w (zS) []:=⟨Own.nil _ _ _,Fr.refl _ _,by simp[blks,Value.ownBlock]⟩
theorem Out.app{w w1 w2:World}{v v2:Value}{bs cs:List Int}(h:Out w w1 v bs){u:World}(hf:Fr [] w1 u)(ho:Own w2 5 1 v2 (bs.length+cs.length) (bs.map (.int .u8)++cs.map (.int .u8)))(hf2:Fr (blks v) u w2)
 (hk:∀b∈blks v2,b∈blks v\/u.heap.size<=b):Out w w2 v2 (bs++cs):=by
 obtain⟨h1,h2,h3⟩:=h;have z1:=h2.size;have z2:=hf.size;refine⟨by simpa using ho,(h2.trans0 hf).trans hf2 (fun k hk'=>.inr (h3 k hk')),fun k hk'=>?_⟩;rcases hk k hk' with h|h
 .exact h3 k h
 .omega
theorem refUint(n:Nat)(w:World)(hn:n<18446744073709551616):
 Calls prog 77 #[.int .u64 n] w fun e w'=>∃v',e=.returned v'/\Out w w' v' (uv n):=by
 refine enter func77 rfl ntmps77 rfl ?_;refine rn ?_;have hul:=uv_len n hn;refine c_loopK 4 [0,3] (σ:=Nat×Value×List Int) (fun s g u=>g 0=.int .u64 s.1/\g 3=s.2.1/\s.1<18446744073709551616/\uv n=s.2.2++uv s.1/\Out w u s.2.1 s.2.2)
  (fun s=>s.1) (n,zS,[]) ⟨rfl,rfl,hn,rfl,Out.nil w⟩ ?_
 rintro⟨m,vo,bo⟩ g u ⟨h0,h3,hm,hbs,hou⟩;simp only at h0 h3 hm hbs hou;rw[eq_upd h3,eq_upd h0];have hlen:bo.length<=10:=by
  have:=congrArg List.length hbs;simp only[List.length_append]at this;omega
 refine rn ?_;refine s_gtr rfl rfl (fun h=>?_) (fun h=>?_)
 .refine rn ?_
  ((with_reducible apply s_build1);(conv=>lhs;whnf);exact rfl)
  intro w1 ho1 hf1 hs1;refine s_append (hou.1.tr0 hf1) rfl ho1.src rfl rfl Yhu Yhv Yhn (fun v2 w2 ho2 hf2 hk2 _=>?_);have ec:(128+(m:Int)%128)=((m%128+128:Nat):Int):=by omega
  rw[ec]at ho2;refine rn ?_;refine q_roundK (m/128,v2,bo++[((m%128+128:Nat):Int)]) Yhr ⟨rfl,rfl,by simp only;omega,?_,hou.app (cs:=[_]) hf1 ho2 hf2 hk2⟩ Yhw;simp only;rw[hbs,uv_ge Yhn];simp
 .refine rn ?_
  ((with_reducible apply s_build1);(conv=>lhs;whnf);exact rfl)
  intro w1 ho1 hf1 hs1;refine s_append (hou.1.tr0 hf1) rfl ho1.src rfl rfl Yhu Yhv Yhn (fun v2 w2 ho2 hf2 hk2 _=>?_);refine Yll ?_;refine⟨v2,rfl,?_⟩;rw[hbs,uv_lt Yhn];exact hou.app (cs:=[_]) hf1 ho2 hf2 hk2
theorem refZigzag(n:Int)(w:World)(hn:InI64 n):
 Calls prog 78 #[iV n] w fun e w'=>e=.returned (.int .u64 (zz n))/\w=w':=by
 obtain⟨h1,h2⟩:=hn;refine enter func78 rfl ntmps78 rfl ?_;by_cases hz:n<0
 .refine rn ?_;refine Yfw ?_;exact⟨by unfold zz;rw[if_pos hz];congr 2;omega,rfl⟩
 .refine rn ?_;refine Yfw ?_;exact⟨by unfold zz;rw[if_neg hz];congr 2;omega,rfl⟩
theorem refInt(n:Int)(w:World)(hn:InI64 n):
 Calls prog 40 #[iV n] w fun e w'=>∃v',e=.returned v'/\Out w w' v' (iv n):=by
 refine enter func40 rfl ntmps40 rfl ?_;refine rn ?_;refine s_cE (refZigzag n w hn) ?_;rintro _ rfl;refine s_c1 (refUint (zz n) w (zz_lt hn.1 hn.2)) ?_;rintro v1 w1 h1;refine Yll ?_;exact⟨v1,rfl,h1⟩
theorem refRaw(x:Value)(bs:List Int)(w:World)(hx:Src w x bs.length (bs.map (.int .u8)))(hl:bs.length<=1000000000):
 Calls prog 41 #[x] w fun e w'=>∃v',e=.returned v'/\Out w w' v' (raw bs):=by
 obtain⟨ao,c,hxe,_⟩:=id hx;subst hxe;refine enter func41 rfl ntmps41 rfl ?_;refine rn ?_;refine s_c1 (refUint bs.length w Yhn) ?_;rintro v1 w1 h1;have hul:=uv_len bs.length Yhn;refine rn ?_;refine s_append h1.1 rfl (hx.tr0 h1.2.1) rfl Yhs (ints_one _ _) Yhv Yhn (fun v2 w2 ho2 hf2 hk2 _=>?_);refine Yll ?_;exact⟨v2,rfl,h1.app (Fr.refl _ _) ho2 hf2 hk2⟩
end Go.Proofs.YtmlpcmjmniobdaaGreat
namespace Go.Rf
open Go.RowKit
section
variable{S T:List Nat}{cs ys:List Value}{i m:Nat}{ao:Option Addr}{w w':World}
/-! ### rows of cells -/
inductive Rws {α:Type} (R:α->List Value->Prop):List α->List Value->Prop
 |nil:Rws R [] []
 |cons {x:α} {cs:List Value} {l:List α} {ys:List Value}:R x cs->Rws R l ys->Rws R (x::l) (cs++ys)
section
variable{α:Type}{R R':α->List Value->Prop}{l l':List α}{ys ys':List Value}{k:Nat}
theorem Rws.imp(h:∀x cs,x∈l->R x cs->R' x cs)(hr:Rws R l ys):Rws R' l ys:=by
 induction hr with
 |nil=>exact .nil
 |cons h1 _ ih=>exact .cons (h _ _ Yhs h1) (ih (fun x cs hx=>h x cs (by simp[hx])))
theorem Rws.len(hk:∀x cs,R x cs->cs.length=k)(hr:Rws R l ys):ys.length=l.length*k:=by
 induction hr with
 |nil=>simp
 |cons h1 _ ih=>simp[ih,hk _ _ h1,Nat.add_mul];omega
theorem Rws.app(h:Rws R l ys)(h':Rws R l' ys'):Rws R (l++l') (ys++ys'):=by
 induction h with
 |nil=>simpa using h'
 |cons h1 _ ih=>rw[List.append_assoc];exact .cons h1 ih
theorem Rws.one{x:α}(h:R x cs):Rws R [x] cs:=by
 have:=Rws.cons h (Rws.nil (R:=R))
 rwa [List.append_nil]at this
theorem Rws.get(hk:∀x cs,R x cs->cs.length=k)(hr:Rws R l ys):∀{i:Nat} (hi:i<l.length),∃cs,R l[i] cs/\(ys.drop (i*k)).take k=cs:=by
 induction hr with
 |nil=>intro i hi;simp at hi
 |cons h1 _ ih=>
  intro i hi;have hl:=hk _ _ h1;cases i with
  |zero=>exact⟨_,h1,by simp[<-hl]⟩
  |succ i=>
   obtain⟨cs,h2,h3⟩:=ih (i:=i) Yjf;refine⟨cs,by simpa using h2,?_⟩;rw[<-h3,Nat.succ_mul,Nat.add_comm,<-hl,List.drop_append,List.drop_eq_nil_of_le (Nat.le_add_right _ _)];simp
theorem Rws.take(hk:∀x cs,R x cs->cs.length=k)(hr:Rws R l ys):∀(m:Nat),Rws R (l.take m) (ys.take (m*k)):=by
 induction hr with
 |nil=>intro m;simp;exact .nil
 |cons h1 _ ih=>
  intro m;have hl:=hk _ _ h1;cases m with
  |zero=>simp;exact .nil
  |succ m=>
   simp only[List.take_succ_cons];rw[Nat.succ_mul,Nat.add_comm,<-hl,List.take_append];have:(‹List Value›).take (m*(‹List Value›).length)=(‹List Value›).take (m*(‹List Value›).length):=rfl;have e:∀cs:List Value,cs.take (cs.length+m*cs.length)=cs:=fun cs=>List.take_of_length_le Yhn
   rw[e];have:=ih m;rw[<-hl]at this;simpa using Rws.cons h1 this
theorem Rws.drop(hk:∀x cs,R x cs->cs.length=k)(hr:Rws R l ys):∀(m:Nat),Rws R (l.drop m) (ys.drop (m*k)):=by
 induction hr with
 |nil=>intro m;simp;exact .nil
 |cons h1 h2 ih=>
  intro m;have hl:=hk _ _ h1;cases m with
  |zero=>simpa using Rws.cons h1 h2
  |succ m=>
   simp only[List.drop_succ_cons];rw[Nat.succ_mul,Nat.add_comm,<-hl,List.drop_append];simp only[Nat.add_sub_cancel_left];have e:∀cs:List Value,cs.drop (cs.length+m*cs.length)=[]:=fun cs=>List.drop_eq_nil_of_le Yhn
   rw[e,List.nil_append,hl];exact ih m
theorem Rws.set(hk:∀x cs,R x cs->cs.length=k)(hr:Rws R l ys){x:α}(hx:R x cs)(hi:i<l.length):Rws R (l.set i x) (ys.take (i*k)++cs++ys.drop ((i+1)*k)):=by
 rw[List.set_eq_take_append_cons_drop,if_pos hi,List.append_assoc];exact(hr.take hk i).app (.cons hx (hr.drop hk (i+1)))
theorem Rws.mem1(h1:∀x cs,R x cs->∀u∈cs,u.oneCell'=true)(hr:Rws R l ys):∀u∈ys,u.oneCell'=true:=by
 induction hr with
 |nil=>simp
 |cons h2 _ ih=>
  intro u hu;rcases List.mem_append.1 hu with h|h
  .exact h1 _ _ h2 u h
  .exact ih u h
end
/-! ### values -/
structure V where
 kind:Int
 n:Int
 s:ByteArray
 kids:List V
def vc(v:V)(sl:Value):List Value:=[.int .i64 v.kind,.int .i64 v.n,.string v.s,sl]
inductive VS (w:World) (S:List Nat):List V->Value->Prop
 |mk {l:List V} {sl:Value} (sls:List Value) (ys:List Value):l.length<=1000000000000->sls.length=l.length->ys=(List.zipWith vc l sls).flatten->Src w sl l.length ys->Off sl ys S->(∀i (h:i<l.length) (h':i<sls.length),VS w S l[i].kids sls[i])->VS w S l sl
theorem VS.slice{l:List V}{sl:Value}(h:VS w S l sl):∃ao c,sl=.slice ao l.length c/\l.length<=c:=by
 cases h with
 |mk sls ys _ _ _ hs _ _=>obtain⟨ao,c,rfl,h1,_⟩:=hs;exact⟨ao,c,rfl,h1⟩
theorem VS.one{l:List V}{sl:Value}(h:VS w S l sl):sl.oneCell'=true:=by
 obtain⟨ao,c,rfl,_⟩:=h.slice;rfl
theorem VS.nil(w:World)(S:List Nat):VS w S [] (.slice none 0 0):=.mk [] [] Yhs rfl rfl (Src.nil w) (fun _ _ _ e=>by cases e) (fun i h=>by simp at h)
theorem VS.empty{c:Nat}(h:ao=none->c=0):VS w S [] (.slice ao 0 c):=
 .mk [] [] Yhs rfl rfl ⟨ao,c,rfl,Nat.zero_le _,fun e=>⟨rfl,h e,rfl⟩,fun ad _ j u hu=>by simp at hu⟩ (fun _ _ _ _ h=>by simp at h) (fun i h=>by simp at h)
theorem VS.tr{l:List V}{sl:Value}(h:VS w S l sl)(hf:Fr S w w'):VS w' S l sl:=by
 induction h with
 |mk sls ys h0 h1 h2 h3 h4 _ ih=>exact .mk sls ys h0 h1 h2 (h3.tr hf h4) h4 ih
theorem VS.mono{l:List V}{sl:Value}(h:VS w S l sl)(hT:∀k∈T,k∈S\/w.heap.size<=k):VS w T l sl:=by
 induction h with
 |mk sls ys h0 h1 h2 h3 h4 _ ih=>exact .mk sls ys h0 h1 h2 h3 (Off.mono h3 h4 hT) ih
theorem VS.old{l:List V}{sl:Value}(h:VS w S l sl)(hf:Fr T w w')(hT:∀k∈T,k∈S\/w.heap.size<=k):VS w' S l sl:=by
 have h1:VS w (S++T) l sl:=h.mono Ykb;have hf':Fr (S++T) w w':=hf.mono (fun k hk=>.inl (by simp[hk]));have h2:=h1.tr hf';exact h2.mono (fun k hk=>.inl (by simp[hk]))
theorem VS.turn{l:List V}{sl:Value}(h:VS w S l sl)(hf:Fr S w w')(hT:∀k∈T,k∈S\/w.heap.size<=k):VS w' T l sl:=by
 have h1:VS w (S++T) l sl:=h.mono Ykb;have hf':Fr (S++T) w w':=hf.mono (fun k hk=>.inl (by simp[hk]));exact(h1.tr hf').mono (fun k hk=>.inl (by simp[hk]))
theorem VS.tr0{l:List V}{sl:Value}(h:VS w S l sl)(hf:Fr [] w w'):VS w' S l sl:=h.old hf Yhs
theorem VS.off{l:List V}{sl:Value}(h:VS w [] l sl)(hS:∀k∈S,w.heap.size<=k):VS w S l sl:=h.mono (fun k hk=>.inr (hS k hk))
theorem VS.any{l:List V}{sl:Value}(h:VS w S l sl):VS w [] l sl:=h.mono Yhs
def VR(w:World)(S:List Nat)(v:V)(cs:List Value):Prop:=∃sl,cs=vc v sl/\VS w S v.kids sl
theorem VR.len:∀(v:V) (cs:List Value),VR w S v cs->cs.length=4:=by rintro v _ ⟨sl,rfl,_⟩;rfl
theorem VR.mem1:∀(v:V) (cs:List Value),VR w S v cs->∀u∈cs,u.oneCell'=true:=by
 rintro v _ ⟨sl,rfl,h⟩ u hu;simp only[vc,List.mem_cons,List.not_mem_nil,or_false]at hu;rcases hu with rfl|rfl|rfl|rfl
 .rfl
 .rfl
 .rfl
 .exact h.one
theorem rows_zip:∀(l:List V) (sls:List Value),sls.length=l.length->(∀i (h:i<l.length) (h':i<sls.length),VS w S l[i].kids sls[i])->Rws (VR w S) l (List.zipWith vc l sls).flatten
 |[],_,_,_=>by simp;exact .nil
 |v::l,[],h,_=>by simp at h
 |v::l,s::sls,h,hk=>by
  simp only[List.zipWith_cons_cons,List.flatten_cons];exact .cons ⟨s,rfl,hk 0 Yhs Yhs⟩ (rows_zip l sls Yil (fun i h1 h2=>hk (i+1) Yht Yht))
theorem rows_unzip{l:List V}(h:Rws (VR w S) l ys):∃sls:List Value,sls.length=l.length/\ys=(List.zipWith vc l sls).flatten/\∀i (h:i<l.length) (h':i<sls.length),VS w S l[i].kids sls[i]:=by
 induction h with
 |nil=>exact⟨[],rfl,rfl,fun i h=>by simp at h⟩
 |cons h1 _ ih=>
  obtain⟨sl,rfl,hv⟩:=h1;obtain⟨sls,h2,h3,h4⟩:=ih;refine⟨sl::sls,by simp[h2],by simp[h3],fun i h h'=>?_⟩;cases i with
  |zero=>simpa using hv
  |succ i=>simpa using h4 i Yil (by simpa using h')
theorem VS.rows{l:List V}{sl:Value}(h:VS w S l sl):∃ys,Src w sl l.length ys/\Off sl ys S/\Rws (VR w S) l ys:=by
 cases h with
 |mk sls ys h0 h1 h2 h3 h4 h5=>exact⟨ys,h3,h4,by rw[h2];exact rows_zip l sls h1 h5⟩
theorem VS.bound{l:List V}{sl:Value}(h:VS w S l sl):l.length<=1000000000000:=by
 cases h with
 |mk sls ys h0 h1 h2 h3 h4 h5=>exact h0
theorem VS.of{l:List V}{sl:Value}(h0:l.length<=1000000000000)(h1:Src w sl l.length ys)(h2:Off sl ys S)(h3:Rws (VR w S) l ys):VS w S l sl:=by
 obtain⟨sls,h4,h5,h6⟩:=rows_unzip h3;exact .mk sls ys h0 h4 h5 h1 h2 h6
/-! ### slices of rows -/
def Sl{α:Type}(w:World)(S:List Nat)(R:α->List Value->Prop)(l:List α)(sl:Value):Prop:=∃ys,Src w sl l.length ys/\Off sl ys S/\Rws R l ys
section
variable{α:Type}{R R':α->List Value->Prop}{l l':List α}{w w':World}{S:List Nat}{sl:Value}{k:Nat}
theorem Sl.slice(h:Sl w S R l sl):∃ao c,sl=.slice ao l.length c/\l.length<=c:=by
 obtain⟨ys,⟨ao,c,rfl,h1,_⟩,_⟩:=h;exact⟨ao,c,rfl,h1⟩
theorem Sl.one(h:Sl w S R l sl):sl.oneCell'=true:=by obtain⟨ao,c,rfl,_⟩:=h.slice;rfl
theorem Sl.at{c:Nat}(h:Sl w S R l (.slice ao m c))(hk:∀x cs,R x cs->cs.length=k)(hi:i<l.length):∃ad cs,ao=some ad/\R l[i] cs/\Cells w (ad.add (i*k)) cs:=by
 obtain⟨ys,hs,_,hr⟩:=h;obtain⟨cs,h1,h2⟩:=hr.get hk hi;have hm:m=l.length:=by obtain⟨_,_,e,_⟩:=hs;simp only[Value.slice.injEq]at e;exact e.2.1
 subst hm;have hlen:=hr.len hk;cases ao with
 |none=>
  obtain⟨ao',c',e,_,hn,_⟩:=hs;simp only[Value.slice.injEq]at e;obtain⟨h3,_⟩:=hn e.1.symm;omega
 |some ad=>
  refine⟨ad,cs,rfl,h1,?_⟩;have:=(Cells.ofSrc hs).sub (i*k) k
  rwa [h2]at this
theorem Sl.imp(h:∀x cs,x∈l->R x cs->R' x cs)(hs:Sl w S R l sl):Sl w S R' l sl:=by
 obtain⟨ys,h1,h2,h3⟩:=hs;exact⟨ys,h1,h2,h3.imp h⟩
theorem Sl.nil:Sl w S R [] (.slice none 0 0):=⟨[],Src.nil w,(fun _ _ _ e=>by cases e),.nil⟩
theorem Sl.tr(hs:Sl w S R l sl)(hf:Fr S w w'):Sl w' S R l sl:=by obtain⟨ys,h1,h2,h3⟩:=hs;exact⟨ys,h1.tr hf h2,h2,h3⟩
theorem Sl.tr0(hs:Sl w S R l sl)(hf:Fr [] w w'):Sl w' S R l sl:=by obtain⟨ys,h1,h2,h3⟩:=hs;exact⟨ys,h1.tr0 hf,h2,h3⟩
theorem Sl.old(hs:Sl w S R l sl)(hf:Fr T w w')(hT:∀k∈T,w.heap.size<=k):Sl w' S R l sl:=by obtain⟨ys,h1,h2,h3⟩:=hs;exact⟨ys,h1.old hf hT,h2,h3⟩
theorem Sl.mono(hs:Sl w S R l sl)(hT:∀k∈T,k∈S\/w.heap.size<=k):Sl w T R l sl:=by obtain⟨ys,h1,h2,h3⟩:=hs;exact⟨ys,h1,Off.mono h1 h2 hT,h3⟩
end
theorem VS.sl{l:List V}{sl:Value}(h:VS w S l sl):Sl w S (VR w S) l sl:=h.rows
theorem VS.ofSl{l:List V}{sl:Value}(h0:l.length<=1000000000000)(h:Sl w S (VR w S) l sl):VS w S l sl:=by obtain⟨ys,h1,h2,h3⟩:=h;exact VS.of h0 h1 h2 h3
theorem VR.tr{v:V}(h:VR w S v cs)(hf:Fr S w w'):VR w' S v cs:=by obtain⟨sl,h1,h2⟩:=h;exact⟨sl,h1,h2.tr hf⟩
theorem VR.old{v:V}(h:VR w S v cs)(hf:Fr T w w')(hT:∀k∈T,k∈S\/w.heap.size<=k):VR w' S v cs:=by obtain⟨sl,h1,h2⟩:=h;exact⟨sl,h1,h2.old hf hT⟩
theorem VR.mono{v:V}(h:VR w S v cs)(hT:∀k∈T,k∈S\/w.heap.size<=k):VR w T v cs:=by obtain⟨sl,h1,h2⟩:=h;exact⟨sl,h1,h2.mono hT⟩
end
section
variable{S T:List Nat}{cs z:List Value}{by_ m:Nat}{α:Type}{xv:Value}{w w':World}
structure Stab {α:Type} (R:World->List Nat->α->List Value->Prop) (k:Nat):Prop where
 tr:∀{w w' S x cs},R w S x cs->Fr S w w'->R w' S x cs
 mono:∀{w S T x cs},R w S x cs->(∀b∈T,b∈S\/w.heap.size<=b)->R w T x cs
 len:∀{w S x cs},R w S x cs->cs.length=k
 one:∀{w S x cs},R w S x cs->∀u∈cs,u.oneCell'=true
section
variable{α:Type}{R:World->List Nat->α->List Value->Prop}{k:Nat}
theorem Stab.turn(h:Stab R k){x:α}(hr:R w S x cs)(hf:Fr S w w')(hT:∀b∈T,b∈S\/w.heap.size<=b):R w' T x cs:=by
 exact Yby
theorem Stab.old(h:Stab R k){x:α}(hr:R w S x cs)(hf:Fr T w w')(hT:∀b∈T,b∈S\/w.heap.size<=b):R w' S x cs:=by
 exact Yby
theorem Stab.any(h:Stab R k){x:α}(hr:R w S x cs):R w [] x cs:=h.mono hr Yhs
def OwnR(w:World)(e k:Nat)(R:World->List Nat->α->List Value->Prop)(l:List α)(v:Value):Prop:=∃ys,Own w e k v l.length ys/\Rws (R w (blks v)) l ys
variable{w w':World}{e:Nat}{l:List α}{v:Value}
theorem OwnR.nil(w:World)(e k:Nat)(R:World->List Nat->α->List Value->Prop):OwnR w e k R [] (.slice none 0 0):=⟨[],Own.nil _ _ _,.nil⟩
theorem OwnR.old(h:OwnR w e k R l v)(hs:Stab R k)(hf:Fr T w w')(hT:∀b∈T,w.heap.size<=b):OwnR w' e k R l v:=by
 obtain⟨ys,h1,h2⟩:=h;exact⟨ys,h1.old hf hT,h2.imp (fun x cs _ hr=>hs.old hr hf (fun b hb=>.inr (hT b hb)))⟩
theorem OwnR.tr0(h:OwnR w e k R l v)(hs:Stab R k)(hf:Fr [] w w'):OwnR w' e k R l v:=h.old hs hf Yhs
theorem OwnR.slice(h:OwnR w e k R l v):∃ao c,v=.slice ao l.length c:=by obtain⟨ys,h1,_⟩:=h;exact h1.slice
theorem OwnR.one(h:OwnR w e k R l v):v.oneCell'=true:=by obtain⟨ys,h1,_⟩:=h;exact h1.one
theorem OwnR.lt(h:OwnR w e k R l v):∀b∈blks v,b<w.heap.size:=by obtain⟨ys,h1,_⟩:=h;exact h1.lt
theorem OwnR.sl(h:OwnR w e k R l v)(hs:Stab R k):Sl w [] (R w []) l v:=by
 obtain⟨ys,h1,h2⟩:=h;exact⟨ys,h1.src,fun _ _ _ _ _=>by simp,h2.imp (fun x cs _ hr=>hs.any hr)⟩
end
theorem fill_one{size:Nat}{v:Value}(hz:z.length=size)(hc:cs.length=size)(hv:v.cells=cs.toArray):fillL (fun i=>some (i*size,size)) (zeros z 1) [(0,v)]=some cs:=by
 have e:v.cells.toList=cs:=by rw[hv]
 have e2:v.cells.size=size:=by rw[hv];simpa using hc
 have hb:Nat.ble size size=true:=Nat.ble_eq_true_of_le (Nat.le_refl _);simp[fillL,zeros,e,e2,hc,hz,List.drop_eq_nil_of_le,hb]
section
variable{P:Program}{ops:Array Oper}{Q:Exit->Act->World->Prop}{rest:List Oper}{n:Nat}{f:Env}{w:World}
variable{d d2:Nat}{ty ty2:TypeId}{ps ps2:String}{af af2:Array Edge}{x y s:Operand}{t t2:Nat}
theorem s_pushA{R:World->List Nat->α->List Value->Prop}{e size:Nat}{l:List α}{v:Value}{a:α}[RZ:RowZ P t e size by_ z]
 (hR:OwnR w e size R l v) (hs:Stab R size) (hsv:ev n f s=v) (hx:ev n f x=xv) (hxc:xv.cells=cs.toArray) (ha:R w (blks v) a cs) (hd:ev n (upd f d (.slice (some ⟨w.heap.size,0,none⟩) 1 1)) s=v) (hdn:Nat.blt d n=true) (hsz:Nat.ble size 16777216=true)
 (h63:l.length+1<=maxLen) (hb:(l.length+1)*by_<=140737488355328)
 (h:∀v' w',OwnR w' e size R (l++[a]) v'->Fr (blks v) w w'->(∀b∈blks v',b∈blks v\/w.heap.size<=b)->wpList P ops Q rest (A n (upd (upd f d (.slice (some ⟨w.heap.size,0,none⟩) 1 1)) d2 v')) w'):
 wpList P ops Q (⟨some d,.buildSlice t 1 #[(0,x)],ty,ps,af,none⟩::⟨some d2,.call {callee:=.builtin .append,args:=#[s,.tmp d],argTypes:=#[t,t]},ty2,ps2,af2,none⟩::rest) (A n f) w:=by
 obtain⟨ys,ho,hr⟩:=hR;have Rr:=RZ.row;have hzl:z.length=size:=by obtain⟨i,v,_,_,_,h⟩:=RZ.z;exact h
 have hcl:=hs.len ha;subst hx;refine s_buildS (z:=z) (parts:=[(0,x)]) cs (by simpa using hsz) rfl (fill_one hzl hcl hxc) (by simpa using hcl) (fun w1 ho1 hf1 hs1=>?_);have hlen:=Rws.len (k:=size) (fun x cs h=>hs.len h) hr;refine s_append (R:=Rr) (ho.tr0 hf1) hd ho1.src ?_ (by simpa using hcl) (hs.one ha) h63 hb (fun v' w' ho' hf' hk' _=>?_)
 .show cond (Nat.blt d n) (upd f d _ d) undef=_;rw[hdn,upd_same];rfl
 have hF:Fr (blks v) w w':=(hf1.mono Yhs).trans hf' (fun b hb=>.inl hb);refine h v' w' ⟨ys++cs,by rw[List.length_append];exact ho',?_⟩ hF (fun b hb=>?_)
 .have hk2:∀b∈blks v',b∈blks v\/w.heap.size<=b:=fun b hb=>by
   rcases hk' b hb with h|h
   .exact .inl h
   .right;omega
  exact(hr.imp fun x cs _ h=>hs.turn h hF hk2).app (Rws.one (hs.turn ha hF hk2))
 .rcases hk' b hb with h|h
  .exact .inl h
  .right;omega
theorem s_appR{R:World->List Nat->α->List Value->Prop}{e size:Nat}{l al:List α}{v:Value}[Rr:RowT P t e size by_]
 (hR:OwnR w e size R l v) (hs:Stab R size) (hsv:ev n f s=v) (hx:ev n f x=xv) (hsrc:Src w xv m cs) (ha:Rws (R w (blks v)) al cs) (hm:al.length=m) (h63:l.length+m<=maxLen) (hb:(l.length+m)*by_<=140737488355328)
 (h:∀v' w',OwnR w' e size R (l++al) v'->Fr (blks v) w w'->(∀b∈blks v',b∈blks v\/w.heap.size<=b)->(v'=.slice none 0 0↔v=.slice none 0 0/\m=0)->wpList P ops Q rest (A n (upd f d v')) w'):
 wpList P ops Q (⟨some d,.call {callee:=.builtin .append,args:=#[s,x],argTypes:=#[t,t]},ty,ps,af,none⟩::rest) (A n f) w:=by
 obtain⟨ys,ho,hr⟩:=hR;have hlen:=Rws.len (k:=size) (fun x cs h=>hs.len h) ha;refine s_append ho hsv hsrc hx (by rw[hlen,hm]) (Rws.mem1 (fun x cs h=>hs.one h) ha) h63 hb (fun v' w' ho' hf' hk' hn'=>?_);refine h v' w' ⟨ys++cs,by rw[List.length_append,hm];exact ho',?_⟩ hf' hk' hn';exact(hr.imp fun x cs _ h=>hs.turn h hf' hk').app (ha.imp fun x cs _ h=>hs.turn h hf' hk')
end
theorem OwnR.vs{e:Nat}{l:List V}{v:Value}(h:OwnR w e 4 VR l v)(hl:l.length<=1000000000000)(hS:∀b∈blks v,b∉S)(hr:∀x cs,x∈l->VR w (blks v) x cs->VR w S x cs):VS w S l v:=by
 obtain⟨ys,h1,h2⟩:=h;refine VS.of hl h1.src (fun ad n c e hp hm=>?_) (h2.imp hr);refine hS ad.block ?_ hm;rcases h1.2 with⟨hv,h0⟩|⟨g,cap,cur,hv,_⟩
 .rw [hv]at e;cases e
 .subst hv;simp only[Value.slice.injEq,Option.some.injEq]at e;rw[<-e.1];simp[blks,Value.ownBlock]
end
section
variable{K:Act->World->Prop}{x:Bool}{i m:Nat}{w:World}
def wpAnyU(P:Program)(md:Region.Mode)(ops:Array Oper)(Q:Exit->Act->World->Prop)(k:Nat)(S:World->Prop):Nat->Array Bool->Act->World->Prop
 |0,listed,a,w=>Region.ready md ops listed=[]/\Q .normal a w
 |fuel+1,listed,a,w=>
  (Region.ready md ops listed=[]->Q .normal a w)/\
  ∀i∈Region.ready md ops listed,wpOp P ops Q i (fun a' w'=>((listed.setIfInBounds i true).getD k true=true\/S w')/\wpAnyU P md ops Q k S fuel (listed.setIfInBounds i true) a' w') a w
section
variable{P:Program}{ops:Array Oper}{Q:Exit->Act->World->Prop}{md:Region.Mode}{k:Nat}{S:World->Prop}
theorem wpAny_of_u:∀(fuel:Nat) (listed:Array Bool) (a:Act) (w:World),wpAnyU P md ops Q k S fuel listed a w->wpAny P md ops Q fuel listed a w
 |0,_,_,_,h=>h
 |fuel+1,_,_,_,h=>⟨h.1,fun i hi=>wpOp_mono (fun a' w' h'=>wpAny_of_u fuel _ a' w' h'.2) (h.2 i hi)⟩
def waits(md:Region.Mode)(ops:Array Oper)(k i:Nat):Bool:=match ops[k]? with
 |some o=>o.after.any fun e=>Region.binds md e&&e.on==i
 |none=>false
theorem wpAnyU_first{oi:Oper}{v:Value}(hi:ops[i]?=some oi)(hsel:∀(j:Nat) (o:Oper) cs b,ops[j]?=some o->o.op≠.select cs b)
 (hQ:∀c a w,Q (.panic c) (a.put oi.dst v) w->Q (.panic c) a w) (hk:waits md ops k i=true) (hki:k≠i):
 ∀(fuel:Nat) (listed:Array Bool) (a:Act) (w:World),
  (∀j oj,ops[j]?=some oj->j≠i->listed.getD j true=false->(∀e∈oj.after,Region.binds md e=true->e.on≠i)->oi.apart ops oj=true)->
  i∈Region.ready md ops listed->YieldsIf P ops S oi v a->S w->listed.getD k true=false->
  wpAnyU P md ops Q k S fuel (listed.setIfInBounds i true) (a.put oi.dst v) w->wpAnyU P md ops Q k S (fuel+1) listed a w:=by
 intro fuel
 induction fuel with
 |zero=>
  intro listed a w _ hr hy hS hku H;refine⟨fun h=>(by rw[h]at hr;cases hr),fun j hj=>?_⟩;by_cases hji:j=i
  .subst hji;exact hy.wpOp hi hS ⟨.inr hS,H⟩
  .have:=ready_mono hj hji;rw[H.1]at this;cases this
 |succ fuel ih=>
  intro listed a w hfree hr hy hS hku H;refine⟨fun h=>(by rw[h]at hr;cases hr),fun j hj=>?_⟩;by_cases hji:j=i
  .subst hji;exact hy.wpOp hi hS ⟨.inr hS,H⟩
  .have h1:=H.2 j (ready_mono hj hji);obtain⟨hjun,oj,hoj,hall⟩:=mem_ready.1 hj;have hnot:∀e∈oj.after,Region.binds md e=true->e.on≠i:=fun e he hb heq=>by
    have h1:=hall e he hb;have h0:=(mem_ready.1 hr).1;rw[heq]at h1;rcases Nat.lt_or_ge i listed.size with h'|h'
    .simp [h']at h0 h1;rw[h0]at h1;cases h1
    .simp [Array.getElem?_eq_none h']at h1
   have hkj:k≠j:=by
    rintro rfl;unfold waits at hk;rw[hoj]at hk;simp only[Array.any_eq_true']at hk;obtain⟨e,he,hb⟩:=hk;simp only[Bool.and_eq_true,beq_iff_eq]at hb;exact hnot e he hb.1 hb.2
   have h2:=wpOp_putIf hoj (hfree j oj hoj hji hjun hnot) (fun cs b=>hsel i oi cs b hi) (fun cs b=>hsel j oj cs b hoj) hQ hy h1;have hfree':∀k ok,ops[k]?=some ok->k≠i->(listed.setIfInBounds j true).getD k true=false->
    (∀e∈ok.after,Region.binds md e=true->e.on≠i)->oi.apart ops ok=true:=fun k ok hk hki hun hno=>by
    refine hfree k ok hk hki ?_ hno;by_cases hjk:j=k
    .subst hjk;exact hjun
    .rw [getD_set_ne true hjk]at hun;exact hun
   have hku1:(listed.setIfInBounds j true).getD k true=false:=by rw[getD_set_ne true (Ne.symm hkj)];exact hku
   refine wpOp_mono (fun a' w' h3=>?_) h2;obtain⟨h3y,h3s,h3w⟩:=h3;have hS':S w':=by
    rcases h3s with h|h
    .rw [getD_set_ne true (Ne.symm hkj),getD_set_ne true (Ne.symm hki),hku]at h;cases h
    .exact h
   refine⟨.inr hS',ih (listed.setIfInBounds j true) a' w' hfree' (ready_mono hr (Ne.symm hji)) h3y hS' hku1 ?_⟩;rw[Array.setIfInBounds_comm _ _ hji];exact h3w
theorem wpAnyU_all{rs:List Nat}{fuel:Nat}{listed:Array Bool}{a:Act}(hr:Region.ready md ops listed=rs)(hne:rs≠[])
 (h:∀i∈rs,wpOp P ops Q i (fun a' w'=>((listed.setIfInBounds i true).getD k true=true\/S w')/\wpAnyU P md ops Q k S fuel (listed.setIfInBounds i true) a' w') a w):wpAnyU P md ops Q k S (fuel+1) listed a w:=
 ⟨fun h0=>absurd (hr▸h0) hne,hr▸h⟩
theorem wpAnyU_done{listed:Array Bool}{a:Act}(hr:Region.ready md ops listed=[])(h:Q .normal a w):
 ∀fuel,wpAnyU P md ops Q k S fuel listed a w
 |0=>⟨hr,h⟩
 |_+1=>⟨fun _=>h,by rw[hr];simp⟩
end
section
variable{D:Dfs}
variable{P:Program}{Q:Exit->Act->World->Prop}{k:Nat}{S:World->Prop}{n:Nat}{f:Env}{w:World}{l:List Oper}{fuel:Nat}{listed:Array Bool}
theorem u_begin{id:Nat}(k:Nat)(S:World->Prop)(hm:P.follows .mixedOrders=true)(hl:l.length=m)(h:wpAnyU P .any l.toArray Q k S m (Array.replicate m false) (A n f) w.drew):(Code.region id l.toArray true).wp P Q (A n f) w:=by
 subst hl;exact wp_region_any hm (wpAny_of_u _ _ _ _ Yil)
theorem u_tx{d:Nat}{op:Op}{ty:TypeId}{ps:String}{af:Array Edge}{v:Value}[hQ:PanicOk Q](i:Nat)(hS:S w)
 (h:wpAnyU P .any l.toArray Q k S fuel (listed.setIfInBounds i true) (A n (upd f d v)) w)
 (hi:l[i]?=some ⟨some d,op,ty,ps,af,none⟩:=by exact rfl)
 (hs:Region.noSelect l.toArray=true:=by kernel_rfl) (hf:Region.free .any l.toArray listed i=true:=by kernel_rfl) (hr:(Region.ready .any l.toArray listed).contains i=true:=by kernel_rfl)
 (hk:waits .any l.toArray k i=true:=by kernel_rfl) (hki:Nat.beq k i=false:=by kernel_rfl) (hku:listed.getD k true=false:=by kernel_rfl)
 (hrun:∀u,S u->(execOp (ev n f) ⟨some d,op,ty,ps,af,none⟩).run P u=.ok (.value v) u:=by exact dqx):wpAnyU P .any l.toArray Q k S (fuel+1) listed (A n f) w:=by
 have hi':l.toArray[i]?=some ⟨some d,op,ty,ps,af,none⟩:=by simpa using hi
 refine wpAnyU_first (i:=i) (v:=v) hi' (Region.noSelect_spec hs) (fun c a w=>hQ.ok c a w (some d) v) hk (fun e=>by rw[e]at hki;simp at hki) fuel listed _ _ (Region.free_spec hi' hf) (by simpa using hr) ?_ hS hku ?_
 .exact .inl ⟨rfl,fun u hu=>by rw[A_eval];exact hrun u hu⟩
 .rw [A_put];exact h
theorem u_one{o:Oper}(hi:l[i]?=some o)(hr:Region.ready .any l.toArray listed=[i])
 (h:wpList P l.toArray (Exit.then (fun a' w'=>((listed.setIfInBounds i true).getD k true=true\/S w')/\wpAnyU P .any l.toArray Q k S fuel (listed.setIfInBounds i true) a' w') Q) [o] (A n f) w):wpAnyU P .any l.toArray Q k S (fuel+1) listed (A n f) w:=by
 refine wpAnyU_all hr Yhs fun j hj=>?_
 simp only[List.mem_singleton]at hj;subst hj;exact wpOp_of_list hi h
theorem q_uh{a:Act}(hS:S w)(h:K a w):Exit.then (fun a' w'=>(x=true\/S w')/\K a' w') Q .normal a w:=⟨.inr hS,h⟩
theorem q_ue{a:Act}(h:K a w)(hx:x=true:=by kernel_rfl):Exit.then (fun a' w'=>(x=true\/S w')/\K a' w') Q .normal a w:=⟨.inl hx,h⟩
theorem u_done(hr:Region.ready .any l.toArray listed=[])(h:Q .normal (A n f) w):wpAnyU P .any l.toArray Q k S fuel listed (A n f) w:=wpAnyU_done hr h fuel
end
end
section
section
variable{D:Dfs}
variable{P:Program}{Q:Exit->Act->World->Prop}{S:World->Prop}{n:Nat}{f:Env}{w:World}{l:List Oper}{fuel:Nat}{listed:Array Bool}
end
end
end Go.Rf
