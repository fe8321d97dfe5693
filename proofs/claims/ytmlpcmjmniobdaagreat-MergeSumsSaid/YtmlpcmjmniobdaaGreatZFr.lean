/-
 From the readings of arguments to the walks' premises.
-/
import Derived.Test.YtmlpcmjmniobdaaGreatZEk1
import Derived.Test.YtmlpcmjmniobdaaGreatZEk2
import Derived.Test.YtmlpcmjmniobdaaGreatZEk3
import Derived.Test.YtmlpcmjmniobdaaGreatZEk4
import Derived.Test.YtmlpcmjmniobdaaGreatZEk5
import Derived.Test.YtmlpcmjmniobdaaGreatZEk
import Derived.Test.YtmlpcmjmniobdaaGreatZQe
import Derived.Test.YtmlpcmjmniobdaaGreatZQz
import Derived.Test.YtmlpcmjmniobdaaGreatZLv
import Derived.OpenShut
import Derived.ShutString
import Derived.ChangeOld
set_option linter.all false
namespace Go.Proofs.YtmlpcmjmniobdaaGreat
section
open Go.Proofs.Tryz
open Go Go.Ev Go.Rf Go.RowKit
set_option maxRecDepth 1000000
theorem noGoB:(prog.funcs.toList.all fun fn=> !(fn.name== "runtime.NumGoroutine"))=true:=by kernel_rfl
theorem noGo:NoGo prog:=fun k fn h=>by
 have:=List.all_eq_true.1 noGoB fn (List.mem_of_getElem? h);simpa using this
theorem lives_calls(hO:Orc prog orc)(w:World):Calls prog 10 #[] w fun e w'=>e=.returned (.bool true)/\Fr [] w w':=by
 have hm:prog.follows .mixedOrders=true:=by kernel_rfl
 have Hn:∀m,IHok prog (run prog orc m):=run_sound hm noGo hO;refine body_call func10 rfl rfl rfl fun a S=>?_
 refine part_sound (off:=0) hm Hn part1 S fun a w1 S=>?_
 refine part_sound hm Hn part2 S fun a w1 S=>?_
 refine part_sound hm Hn part3 S fun a w1 S=>?_
 refine part_sound hm Hn part4 S fun a w1 S=>?_
 exact last_sound hm Hn part5 S
end
section
open Go.Proofs.Tryz
open Go Go.Ev Go.Rf Go.RowKit
theorem plainB_row{L:Lay}{h:H}{w:World}{j:Nat}{y:Nat×Nat}(R:Rep L h w)(hj:L j=some y)(hp:plainB (h.get j)=true):∃t s c k us rr zs,h.get j=some (.row t s c k)/\denL L c=some zs/\us=zs++rr/\w.heap[y.1]?=some (.cells us.toArray t (0,0)):=by
 cases hg:h.get j with
 |none=>rw[hg]at hp;cases hp
 |some so=>
  rw[hg]at hp;have hO:=R.get hj hg;cases so with
  |row t s c k=>cases k with
   |ro=>cases hp
   |full=>obtain⟨zs,h1,h2,_⟩:=hO;exact⟨t,s,c,_,zs,[],zs,rfl,h1,by simp,h2⟩
   |more=>obtain⟨zs,rr,h1,h2,_⟩:=hO;exact⟨t,s,c,_,_,rr,zs,rfl,h1,rfl,h2⟩
  |_=>cases hp
theorem orcOk:Orc prog orc:=by
 intro f args h v h' e L w xs R ha;unfold orc at e;rw[nbeq]at e;by_cases hf:f=107
 case neg=>rw[decide_eq_false hf]at e;cases e
 subst hf;rw[decide_eq_true rfl,cond_true]at e;unfold insS at e
 split at e
 case h_2=>cases e
 rename_i i l x a j o m y;cases hp:plainB (h.get j)with
 |false=>rw[hp]at e;cases e
 |true=>
 rw[hp,cond_true]at e
 split at e
 case h_2=>cases e
 rename_i ys hys;rw[nbeq,nbeq,nbeq,nble,nble]at e;by_cases hc:(¬i=j)/\((x=6/\y=6)/\(l<=100000/\m<=100000))
 case neg=>
  have:(and (not (decide (i=j))) (and (and (decide (x=6)) (decide (y=6))) (and (decide (l<=100000)) (decide (m<=100000)))))=false:=by
   rw[<-Bool.not_eq_true];intro h;exact hc Yil
  rw[this]at e;cases e
 obtain⟨hij,⟨rfl,rfl⟩,hl5,hm5⟩:=hc;rw[decide_eq_false hij,decide_eq_true rfl,decide_eq_true hl5,decide_eq_true hm5]at e;simp only[Bool.not_false,Bool.and_self,cond_true]at e;obtain⟨v1,r1,d1,ha1,rfl⟩:=denL_cons.1 ha;obtain⟨v2,r2,d2,ha2,rfl⟩:=denL_cons.1 ha1;obtain⟨v3,r3,d3,ha3,rfl⟩:=denL_cons.1 ha2;rw[denL_nil]at ha3;cases ha3
 obtain⟨bi,hi,hbi,rfl⟩:=den_slc d1;have:=den_int d2;subst this;obtain⟨bj,hj,hbj,rfl⟩:=den_slc d3;unfold ins1 at e
 split at e
 case h_2=>cases e
 rename_i t s c k hg
 split at e
 case h_2=>cases e
 rw[nbeq,nbeq,nbeq,nblt,nblt]at e;by_cases hc:(l*6=c.length/\(s=6/\t=90))/\(a<l/\0<m)
 case neg=>
  have:(and (and (decide (l*6=c.length)) (and (decide (s=6)) (decide (t=90)))) (and (decide (a<l)) (decide (0<m))))=false:=by
   rw[<-Bool.not_eq_true];intro h;exact hc Yil
  rw[this]at e;cases e
 obtain⟨⟨hlc,rfl,rfl⟩,hal,hm0⟩:=hc;rw[decide_eq_true hlc,decide_eq_true rfl,decide_eq_true rfl,decide_eq_true hal,decide_eq_true hm0]at e;simp only[Bool.and_self,cond_true]at e;cases hat:(and (atoms ys) (atoms c))with
 |false=>rw[hat]at e;cases e
 |true=>
 rw[hat,cond_true]at e;obtain⟨hat1,hat2⟩:=Bool.and_eq_true_iff.1 hat;obtain⟨h1,e,hn1,hg1⟩:=put_spec e;rw[appK_eq]at e;obtain⟨h2,e,hn2,hg2⟩:=new_spec e;cases e
 obtain⟨zs,r,hd,hh,hlen,hcm⟩:=R.get hi hg;have hzl:=denL_len hd;obtain⟨tj,sj,cj,kj,us,rr,zj,hgj,hdj,rfl,hhj⟩:=plainB_row R hj hp;have hzjl:=denL_len hdj;have hys':ys=(cj.drop (o*6)).take (m*6)/\(o+m)*6<=cj.length:=by
  unfold cellsOf at hys;simp only[hgj]at hys;rw[nble]at hys;by_cases hb:(o+m)*6<=cj.length
  .rw [decide_eq_true hb,cond_true]at hys;exact⟨by simpa using hys.symm,hb⟩
  .rw [decide_eq_false hb]at hys;cases hys
 obtain⟨rfl,hob⟩:=hys';have hdy:=denL_take (m*6) (denL_drop (o*6) hdj);have hue:((zj++rr).drop (o*6)).take (m*6)=(zj.drop (o*6)).take (m*6):=by
  rw[List.drop_append_of_le_length Yhn,List.take_append_of_le_length (by rw[List.length_drop];omega)]
 have hze:(zs++r).take (l*6)=zs:=by
  rw[show l*6=zs.length by omega,List.take_left]
 have hze2:(zs++r).take (a*6)=zs.take (a*6):=List.take_append_of_le_length Yhn;have hlive:∀q:Nat,(∃t s c k,h.get q=some (.row t s c k))->live h q:=fun q ⟨t,s,c,k,hq⟩=>by unfold live;rw[hq];simp
 have hne:bj.1≠bi.1:=fun he=>hij (R.inj i j bi bj hi hj (hlive i ⟨_,_,_,_,hg⟩) (hlive j ⟨_,_,_,_,hgj⟩) he.symm)
 have hC:=insertC bi.1 bi.2 l a m bj.1 (o*6) (bj.2-o) tj (zs++r) (zj++rr) w hh (by rw[List.length_append];omega) Yhn hcm hhj (by rw[List.length_append];omega) hne hal hm0 hl5 hm5
  (by rw[hue];exact den_atoms hdy hat1) (by rw[hze];exact den_atoms hd hat2)
 rw[hue,hze,hze2]at hC;have hx0:(#[.slice (some ⟨bi.1,0*6,none⟩) l (bi.2-0),iV (.ofNat a),.slice (some ⟨bj.1,o*6,none⟩) m (bj.2-o)]:Array Value)=#[.slice (some ⟨bi.1,0,none⟩) l bi.2,iV a,.slice (some ⟨bj.1,o*6,none⟩) m (bj.2-o)]:=by
  rw[Nat.zero_mul,Nat.sub_zero];rfl
 refine⟨inferInstance,?_⟩;show Calls prog _ (#[.slice (some ⟨bi.1,0*6,none⟩) l (bi.2-0),iV (.ofNat a),.slice (some ⟨bj.1,o*6,none⟩) m (bj.2-o)]:Array Value) w _;rw[hx0];refine hC.mono ?_;rintro e1 w' ⟨b',c',r',rfl,hb',hh',hl',hc',hcm',hF⟩;have hlt:b'<w'.heap.size:=(Array.getElem?_eq_some_iff.1 hh').1;have hL:=R.no (i:=h.nx) (Nat.le_refl _);have hle:=updL_le (x:=(b',c')) hL;have hdd:=denL_app (denL_app (denL_take (a*6) hd) hdy) (denL_drop (a*6) hd);rw[List.append_assoc]at hdd;have hO:RepO (updL L h.nx (b',c')) w' (b',c') (.row 90 6 (c.take (a*6)++((cj.drop (o*6)).take (m*6)++c.drop (a*6))) .more):=by
  refine⟨_,r',denL_mono' hle hdd,?_,?_,hcm'⟩
  .rw [List.append_assoc]at hh' ⊢;exact hh'
  .have:=denL_len hdd;have e1:(c.take (a*6)++((cj.drop (o*6)).take (m*6)++c.drop (a*6))).length=(l+m)*6:=by
    simp only[List.length_append,List.length_take,List.length_drop];omega
   rw[this,e1];exact hl'
 obtain⟨q1,q2⟩:=R.move' hi (hlive i ⟨_,_,_,_,hg⟩) hb' hlt hn1 hg1 hn2 hg2 hF hO;rw[hn1];refine⟨_,_,rfl,?_,q1,q2⟩;have:=den_slc' (L:=updL L h.nx (b',c')) (e:=0) (l:=l+m) (z:=6) (updL_same L h.nx (b',c')) Yhw;simpa using this
theorem livesC(w:World):Calls prog 10 #[] w fun e w'=>e=.returned (.bool true)/\Fr [] w w':=lives_calls orcOk w
end
section
open Go.Proofs.Tryz
open Go Go.Rf Go.RowKit
attribute [local irreducible] Code.wp wpList Exit.then Exit.inBlock bodyPost A Calls execOp Addr.add
theorem RD.name{w:World}{S:List Nat}{d:De}{cs:List Value}(h:RD w S (deC d) cs):cs[1]?=some (.string d.name):=by
 unfold deC at h;cases h with
 |cons h1 h2=>cases h2 with
  |cons h3 h4=>rw[DR.cell h3];rfl
structure MS (w1 u:World) (a r:Nat) (v vb vc:Value) (kk at_ f:Int) (bl:List Bq) (cl:List Int):Prop where
 hA:Blk u a [v] 25
 hR:Blk u r [iV kk,iV at_,zI,vb,vc,iV f] 33
 hB:Own u 56 3 vb bl.length (bl.flatMap bqV)
 hC:OI u vc cl
 hF:Fr [] w1 u
 ar:w1.heap.size<=a/\w1.heap.size<=r/\a≠r
 kb:∀x∈blks vb,w1.heap.size<=x/\x≠a/\x≠r/\x∉blks vc
 kc:∀x∈blks vc,w1.heap.size<=x/\x≠a/\x≠r
 okb:bl.length<=5/\∀b∈bl,OkB b
 okc:cl.length<=5/\∀n∈cl,InI64 n
theorem mergeSums_walk(x:Value)(l:List Int)(y:Value)(ms:List Int)(k at_ fuel:Int)(w:World)(hx:Src w x l.length (l.map (.int .i64)))(hl:∀n∈l,InI64 n)(hy:Src w y ms.length (ms.map (.int .i64)))(hms:∀n∈ms,InI64 n)(hk:InI64 k)(hat:InI64 at_)(hfu:InI64 fuel):
 Calls prog 3 #[x,y,iV k,iV at_,iV fuel] w fun e w'=>e=.returned (.bool true)/\Fr [] w w':=by
 have hx1:=Src.one hx;have hy1:=Src.one hy;refine enter func3 rfl ntmps3 rfl ?_;refine rx ?_;refine s_c2 (moduleC x l w hx hl) ?_;rintro ds v w1 ⟨hD,hf1,hm⟩;have hv1:=hD.one;refine s_allocN (l:=[zS]) rfl (fun w2 a ha ha2 hf2 hs2=>?_);refine s_storeAggB (cs:=[v]) rfl rfl ha2 (by simpa using hv1) rfl rfl (fun w3 ha3 hf3 hs3=>?_);have F3:Fr [] w1 w3:=hf2.trans hf3 Yht;refine rx ?_;refine s_cE (around k 3 w3 hk.1 hk.2 Yhn) ?_;rintro _ rfl;have rk:=arnd_range (a:=k) (m:=3) Yhn;obtain⟨kk,hkk⟩:=exq (arnd k 3);rw[<-hkk]at rk ⊢;refine rx ?_;refine s_build [iV kk,iV at_,zI] rfl ?_;refine s_build [iV kk,iV at_,zI,zS,zS,iV fuel] rfl ?_;refine rx ?_;refine s_allocN (l:=[zI,zI,zI,zS,zS,zI]) rfl (fun w4 r hr hr4 hf4 hs4=>?_);refine s_storeAggB (cs:=[iV kk,iV at_,zI,zS,zS,iV fuel]) rfl rfl hr4 Yhu rfl rfl (fun w5 hr5 hf5 hs5=>?_);have haw:=ha3.lt;have hsz2:=hf2.size;have M5:MS w1 w5 a r v (zS) (zS) kk at_ fuel [] []:=
  ⟨(ha3.tr0 hf4).tr hf5 Yht,hr5,Own.nil _ _ _,Own.nil _ _ _,(F3.trans0 hf4).trans hf5 Yht,⟨by omega,by omega,by omega⟩,by simp[blks,Value.ownBlock],by simp[blks,Value.ownBlock],by simp,by simp⟩
 refine rr ?_;refine wpList_nil ?_;refine q_then ?_;refine wp_seq ?_;refine c_cut (fun g u=>∃vb vc bl cl,g 1=y/\g 3=iV at_/\g 4=iV fuel/\g 12=.pointer (some ⟨r,0,none⟩)/\MS w1 u a r v vb vc kk at_ fuel bl cl) ?_ ?_
 .refine rx ?_;refine c_loop (σ:=Nat×Value×Value×List Bq×List Int) (fun s g u=>g 1=y/\g 2=iV k/\g 3=iV at_/\g 4=iV fuel/\g 11=.pointer (some ⟨a,0,none⟩)/\g 12=.pointer (some ⟨r,0,none⟩)/\g 13=iV s.1/\s.1<=ds.length/\s.1<=4/\s.2.2.2.1.length=s.1/\s.2.2.2.2.length=s.1/\MS w1 u a r v s.2.1 s.2.2.1 kk at_ fuel s.2.2.2.1 s.2.2.2.2) (fun s=>5-s.1) (0,_,_,[],[]) ⟨rfl,rfl,rfl,rfl,rfl,rfl,rfl,by simp,by simp,rfl,rfl,M5⟩ ?_;rintro⟨i,vb,vc,bl,cl⟩ g u ⟨g1,g2,g3,g4,g11,g12,g13,hi,hi4,hbl,hcl,M⟩;simp only at g1 g2 g3 g4 g11 g12 g13 hi hi4 hbl hcl M;rw[eq_upd g1,eq_upd g2,eq_upd g3,eq_upd g4,eq_upd g11,eq_upd g12,eq_upd g13];have hA:=M.hA;have hR:=M.hR;obtain⟨aov,cv,rfl,_⟩:=hD.slice;rw[List.length_map]at*;have hdl:=hm.2.1;refine rx ?_;refine s_lss rfl rfl (fun hlt=>?_) (fun hge=>?_)
  case refine_2=>
   refine rx ?_;exact q_cut ⟨vb,vc,bl,cl,rfl,rfl,rfl,rfl,M⟩
  have hid:i<ds.length:=by omega
  refine rx ?_;refine s_cE (around k 5 u hk.1 hk.2 Yhn) ?_;rintro _ rfl;have rk5:=arnd_range (a:=k) (m:=5) Yhn;generalize arnd k 5=k5 at rk5 ⊢;refine rx ?_;refine s_lss rfl rfl (fun hl5=>?_) (fun hge=>?_)
  case refine_2=>
   refine rx ?_;exact q_cut ⟨vb,vc,bl,cl,rfl,rfl,rfl,rfl,M⟩
  obtain⟨ad,cs,rfl,hrd,hcs⟩:=DR.at deC_len hD hid;have hnm:=RD.name hrd;have hokd:=(hdl _ (List.getElem_mem hid)).size;have r50:=pk_range (l:=ms) (i:=i) (m:=50) Yhn;have r3:=pk_range (l:=ms) (i:=i+1) (m:=3) Yhn;generalize hb:(⟨ds[i].name,pk ms i 50,pk ms (i+1) 3⟩:Bq)=bq;have hbd:ds[i].name=bq.decl:=by rw[<-hb]
  have hba:pk ms i 50=bq.at_:=by rw[<-hb]
  have hbr:pk ms (i+1) 3=bq.arm:=by rw[<-hb]
  have hbo:OkB bq:=⟨by rw[<-hbd];omega,by unfold InI64;omega,by unfold InI64;omega⟩;refine rx ?_;refine u_begin 19 (fun z=>Blk z r [iV kk,iV at_,zI,vb,vc,iV fuel] 33/\Blk z a [.slice (some ad) ds.length cv] 25/\Fr [] w1 z) Yhp rfl ?_;obtain⟨u0,hu0⟩:=exq u.drew;rw[<-hu0];have hfd:Fr [] u u0:=hu0▸Fr.drew _ _;have hS:=And.intro (hR.tr0 hfd) (And.intro (hA.tr0 hfd) (M.hF.trans0 hfd))
  ((refine u_tx 0 hS ?_))
  refine u_tx 1 hS ?_ (hrun:=(by intro u hu;exact r_load rfl (Blk.cell hu.1 rfl)))
  ((refine u_tx 2 hS ?_))
  refine u_tx 3 hS ?_ (hrun:=(by intro u hu;exact r_load rfl (Blk.cell hu.2.1 rfl)))
  ((refine u_tx 4 hS ?_);(refine u_tx 5 hS ?_);(refine u_tx 6 hS ?_))
  refine u_tx 7 hS ?_ (hrun:=(by intro u hu;exact r_load rfl (Cells.get (hcs.tr0 hu.2.2) hnm)))
  ((refine u_tx 8 hS ?_);(refine u_tx 9 hS ?_))
  ((refine u_tx 11 hS ?_);(refine u_tx 12 hS ?_);(refine u_tx 13 hS ?_))
  refine Ygo ?_;refine s_cE (pick y ms i 50 u0 (hy.tr0 (hf1.trans0 hS.2.2)) hms Yhn) ?_;rintro _ rfl;refine wpList_nil (q_uh hS ?_);refine u_one (i:=14) rfl Yhp ?_;refine s_cE (pick y ms (i+1) 3 u0 (hy.tr0 (hf1.trans0 hS.2.2)) hms Yhn) ?_;rintro _ rfl;refine wpList_nil (q_uh hS ?_);rw[hba,hbr,hbd];refine u_tx 15 hS (hrun:=(by(intro u hu;exact r_build ([.string bq.decl,iV bq.at_,iV bq.arm]) Yik))) ?_;refine u_one (i:=16) rfl Yhp ?_;refine s_buildS (bqV bq) rfl rfl rfl rfl (fun u1 ho1 hfu1 hsu1=>?_);have hS1:=And.intro (hS.1.tr0 hfu1) (And.intro (hS.2.1.tr0 hfu1) (hS.2.2.trans0 hfu1));refine wpList_nil (q_uh hS1 ?_);refine u_one (i:=17) rfl Yhp ?_;have hBl:=M.okb.1;have hB1:Own u1 56 3 vb bl.length (bl.flatMap bqV):=(M.hB.tr0 hfd).tr0 hfu1;refine s_append hB1 rfl ho1.src rfl rfl (by simp[bqV,Value.oneCell']) Yhv Yhn (fun vb2 u2 ho2 hf2 hk2 _=>?_);have hS2:=And.intro (hS1.1.tr hf2 (fun h=>(M.kb r h).2.2.1 rfl)) (And.intro (hS1.2.1.tr hf2 (fun h=>(M.kb a h).2.1 rfl)) (hS1.2.2.trans hf2 (fun x hx=>.inr (M.kb x hx).1)));refine wpList_nil (q_uh hS2 ?_)
  ((refine u_tx 18 hS2 ?_))
  refine u_one (i:=19) rfl Yhp ?_;have hone2:=ho2.one;have hR2:=hS2.1
  ((with_reducible apply s_storeB);exact rfl;(conv=>lhs;whnf);exact hone2;exact hR2;exact rfl)
  intro u3 hR3 hf3 hs3;refine wpList_nil (q_ue ?_);refine u_done Yhp ?_;have hR3:Blk u3 r [iV kk,iV at_,zI,vb2,vc,iV fuel] 33:=hR3;have hA3:=hS2.2.1.tr hf3 (by simp;exact M.ar.2.2);have hF3:=hS2.2.2.trans hf3 (fun x hx=>.inr (by simp at hx;rw[hx];exact M.ar.2.1));have hkb2:∀x∈blks vb2,w1.heap.size<=x/\x≠a/\x≠r/\x∉blks vc:=fun x hx=>by
   rcases hk2 x hx with h|h
   .exact M.kb x h
   .have h1:=hfd.size;have h2:=hfu1.size;have h3:=M.hF.size;have h4:=hA.lt;have h5:=hR.lt;exact⟨by omega,by omega,by omega,fun hm=>by have:=M.hC.lt x hm;omega⟩
  have hC3:OI u3 vc cl:=(((Own.tr0 M.hC hfd).tr0 hfu1).tr hf2 (fun x hx hm=>(M.kb x hm).2.2.2 hx)).tr hf3 (fun x hx=>by simp;exact(M.kc x hx).2.2);have hB3:Own u3 56 3 vb2 (bl++[bq]).length ((bl++[bq]).flatMap bqV):=by
   have h:=ho2.tr hf3 (fun x hx=>by simp;exact(hkb2 x hx).2.2.1);rw[List.flatMap_append,List.length_append];simpa using h
  refine rx ?_;refine s_buildS [iV (i:Int)] rfl rfl rfl rfl (fun u4 ho4 hf4 hs4=>?_);have hcll:=M.okc.1;have hR4:=hR3.tr0 hf4;refine s_append (Own.tr0 hC3 hf4) rfl ho4.src rfl rfl Yhu Yhv Yhn (fun vc2 u5 ho5 hf5 hk5 _=>?_);have hC5:=OI.app (ms:=[(i:Int)]) ho5;have hR5:=hR4.tr hf5 (fun h=>(M.kc r h).2.2 rfl);have hone5:=ho5.one;refine rx ?_
  ((with_reducible apply s_storeB);exact rfl;(conv=>lhs;whnf);exact hone5;exact hR5;exact rfl)
  intro u6 hR6 hf6 hs6;have hR6:Blk u6 r [iV kk,iV at_,zI,vb2,vc2,iV fuel] 33:=hR6;have z3:=hF3.size;have z4:=hf4.size;have za:=hA3.lt;have zr:=hR3.lt;have hkc2:∀x∈blks vc2,w1.heap.size<=x/\x≠a/\x≠r:=fun x hx=>by
   rcases hk5 x hx with h|h
   .exact M.kc x h
   .exact ⟨by omega,by omega,by omega⟩
  have hkb6:∀x∈blks vb2,w1.heap.size<=x/\x≠a/\x≠r/\x∉blks vc2:=fun x hx=>by
   obtain⟨b1,b2,b3,b4⟩:=hkb2 x hx;refine⟨b1,b2,b3,fun hm=>?_⟩;rcases hk5 x hm with h|h
   .exact b4 h
   .have:=hB3.lt x hx;omega
  refine rx ?_;refine q_round (i+1,vb2,vc2,bl++[bq],cl++[(i:Int)]) ⟨rfl,rfl,rfl,rfl,rfl,rfl,rfl,hid,by simp only;omega,by simp[hbl],by simp[hcl],?_⟩ Yhw;refine⟨((hA3.tr0 hf4).tr hf5 (fun h=>(M.kc a h).2.1 rfl)).tr hf6 (by simp;exact M.ar.2.2),hR6,?_,Own.tr hC5 hf6 (fun x hx=>by simp;exact(hkc2 x hx).2.2),?_,M.ar,hkb6,hkc2,?_,?_⟩
  .exact ((hB3.tr0 hf4).tr hf5 (fun x hx hm=>(hkb2 x hx).2.2.2 hm)).tr hf6 (fun x hx=>by simp;exact(hkb2 x hx).2.2.1)
  .exact ((hF3.trans0 hf4).trans hf5 (fun x hx=>.inr (M.kc x hx).1)).trans hf6 (fun x hx=>.inr (by simp at hx;rw[hx];exact M.ar.2.1))
  .refine ⟨by simp only[List.length_append,List.length_singleton];omega,fun b hb=>?_⟩;rcases List.mem_append.1 hb with hb|hb
   .exact M.okb.2 b hb
   .rw [List.mem_singleton.1 hb];exact hbo
  .refine ⟨by simp only[List.length_append,List.length_singleton];omega,fun b hb=>?_⟩;rcases List.mem_append.1 hb with hb|hb
   .exact M.okc.2 b hb
   .rw [List.mem_singleton.1 hb];unfold InI64;omega
 .rintro g u ⟨vb,vc,bl,cl,g1,g3,g4,g12,M⟩;rw[eq_upd g1,eq_upd g3,eq_upd g4,eq_upd g12];have hR:=M.hR;refine rx ?_;refine s_cE (around at_ 8 u hat.1 hat.2 Yhn) ?_;rintro _ rfl;have r8:=arnd_range (a:=at_) (m:=8) Yhn;obtain⟨n8,h8⟩:∃n:Nat,arnd at_ 8=(n:Int):=⟨(arnd at_ 8).toNat,by omega⟩;rw[h8]at r8 ⊢;refine s_c2 (rawC y ms n8 u (hy.tr0 (hf1.trans0 M.hF)) hms Yhn) ?_;rintro vp path u1 ⟨hpl,hpi,hpo,hf1',hpb⟩;have hR1:=hR.tr0 hf1';have hFw:Fr [] w u1:=(hf1.trans0 M.hF).trans0 hf1';have hB1:=M.hB.tr0 hf1';have hC1:=Own.tr0 M.hC hf1';have run:RunOk kk at_ 0 fuel path cl bl:=⟨by unfold InI64;omega,hat,by unfold InI64;omega,hfu,⟨by omega,hpi⟩,⟨by have:=M.okc.1;omega,M.okc.2⟩,⟨by have:=M.okb.1;omega,M.okb.2⟩⟩;refine rx ?_;refine d_begin (fun z=>Blk z r [iV kk,iV at_,zI,vb,vc,iV fuel] 33) Yhp rfl ?_;obtain⟨u2,hu2⟩:=exq u1.drew;rw[<-hu2];have hfd:Fr [] u1 u2:=hu2▸Fr.drew _ _;have hS:=hR1.tr0 hfd;refine d_tx 0 hS ?_ (hrun:=by(intro u hu;exact r_loadC rfl (Cells.ofBlk hu) rfl));refine d_tk 1 hS ?_;refine d_tk 3 hS ?_;refine d_tx 4 hS ?_ (hrun:=by(intro u hu;exact r_loadSubB rfl hu rfl));refine d_z2 5 6 hS ?_;refine d_z 7 hS ?_;refine d_tx 8 hS ?_ (hrun:=by(intro u hu;exact r_load rfl (Blk.cell hu rfl)));refine d_z 9 hS ?_;refine d_tx 10 hS ?_ (hrun:=by(intro u hu;exact r_load rfl (Blk.cell hu rfl)));refine d_one (i:=2) rfl Yhp ?_;refine s_cE (sumRC kk at_ 0 fuel path cl bl vp vc vb u2 run (Own.src (Own.tr0 hpo hfd)) (Own.src (Own.tr0 hC1 hfd)) (hB1.tr0 hfd).src) ?_;rintro u3 hf3;have hS3:=hS.tr0 hf3;have hfd3:=hfd.trans0 hf3;refine wpList_nil (q_held hS3 ?_);refine d_one (i:=11) rfl Yhp ?_;refine s_cE (refSumRC kk at_ 0 fuel path cl bl vp vc vb u3 run (Own.src (Own.tr0 hpo hfd3)) (Own.src (Own.tr0 hC1 hfd3)) (hB1.tr0 hfd3).src) ?_;rintro u4 hf4;have hS4:=hS3.tr0 hf4;refine wpList_nil (q_held hS4 ?_);generalize (sumH (sb sRun) (wdR kk at_ 0 fuel path cl bl)).toNat=hh;refine d_tx 12 hS4 ?_ (hrun:=by(intro u hu;exact r_eql rfl rfl (decide_eq_true rfl)));refine d_tk 13 hS4 ?_;refine d_one (i:=14) rfl Yhp ?_;refine rx ?_;refine s_cE (livesC u4) ?_;rintro u5 hf5;have hS5:=hS4.tr0 hf5;refine wpList_nil (q_held hS5 ?_);refine d_tk 15 hS5 ?_;refine d_one (i:=16) rfl Yhp ?_;refine rx ?_;refine q_held hS5 ?_;refine Yfx ?_;refine Yeo ?_;exact⟨rfl,((hFw.trans0 hfd3).trans0 hf4).trans0 hf5⟩
end
section
open Go.Rf Go.RowKit
theorem wf_i64{n:Int}(h:(Lit.int .i64 n).wf=true):InI64 n:=by
 have: -9223372036854775808<=n/\n<=9223372036854775807:=by simpa[Lit.wf,IntKind.min,IntKind.max,IntKind.signed,IntKind.bits]using h
 exact this
theorem srcOfRow{W:World}{k:IntKind}{x:Addr}{len cap:Nat}{zs:List Int}(hl:len<=cap)(hz:zs.length=cap)(hcell:∀i,i<zs.length->W.cell? (x.add i)=some (.int k (zs.getD i 0)))(hw:∀n∈zs,(Lit.int k n).wf=true):
 ∃xs:List Int,Src W (.slice (some x) len cap) xs.length (xs.map (.int k))/\∀n∈xs,(Lit.int k n).wf=true:=by
 have e:(zs.take len).length=len:=by simp;omega
 refine⟨zs.take len,⟨some x,cap,by rw[e],by rw[e];exact hl,fun h=>Yiw,?_⟩,fun n hn=>hw n (List.mem_of_mem_take hn)⟩;intro ad ha j u hu;simp only[Option.some.injEq]at ha;subst ha;rw[List.getElem?_map]at hu;obtain⟨z,hz1,rfl⟩:=Option.map_eq_some_iff.1 hu;obtain⟨hj,hz2⟩:=List.getElem?_eq_some_iff.1 hz1;have hj2:j<zs.length:=by simp at hj;omega
 rw[hcell j hj2];rw[List.getElem_take]at hz2;simp[List.getD,hj2,hz2]
end
end Go.Proofs.YtmlpcmjmniobdaaGreat
