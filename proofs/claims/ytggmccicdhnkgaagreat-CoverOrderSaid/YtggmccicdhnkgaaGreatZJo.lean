/-
 Merge of package cover.
-/
import Derived.Test.YtggmccicdhnkgaaGreatZJg
set_option linter.all false
namespace Go.Rf
open Go.RowKit
theorem r_neqBr{P:Program}{n:Nat}{f:Env}{w:World}{d:Nat}{ty:TypeId}{ps:String}{af:Array Edge}{gd:Option (Nat×Bool)}{x y:Operand}{t t2:Nat}[B:BrT P t]{a b:Br}{p:Bool}(hx:ev n f x=.agg (brV a).toArray)(hy:ev n f y=.agg (brV b).toArray)(hp:decide (¬a=b)=p):(execOp (ev n f) ⟨some d,.binOp .neq t x y t2,ty,ps,af,gd⟩).run P w=.ok (.value (.bool p)) w:=by
 have h2:(Op.equal t (.agg (brV a).toArray) (.agg (brV b).toArray)).run P w=.ok (decide (a=b)) w:=eqv_br (P:=P) (t:=t) (w:=w) 9998 a b;subst hp;by_cases h:a=b
 .subst h;rw[decide_eq_true rfl]at h2;simp[execOp,eqGuard,binOp,hx,hy,h2,B.grd]
 .rw [decide_eq_false h]at h2;simp[execOp,eqGuard,binOp,hx,hy,h2,B.grd,h]
def oI(a b:Nat->Nat)(i j:Nat):Nat:=if j<i then a j+b j else a j
def clJ(a b:List Nat)(i:Nat):List Nat:=(List.zipWith (· + ·) a b).take i++a.drop i
theorem clJ_zero{a b:List Nat}:clJ a b 0=a:=by simp[clJ]
theorem clJ_all{a b:List Nat}(h:a.length=b.length):clJ a b a.length=List.zipWith (· + ·) a b:=by
 unfold clJ;rw[List.take_of_length_le Yht,List.drop_length,List.append_nil]
theorem clJ_at{a b:List Nat}{i:Nat}(h:a.length=b.length)(hi:i<a.length):(natsV (clJ a b i))[i]?=some (iV (a[i]:Nat)):=by
 have hl:((List.zipWith (· + ·) a b).take i).length=i:=by simp;omega
 unfold clJ natsV;rw[List.getElem?_map,List.getElem?_append_right Yhn,hl,Nat.sub_self,List.getElem?_drop,Nat.add_zero,List.getElem?_eq_getElem hi];rfl
theorem clJ_step{a b:List Nat}{i:Nat}(h:a.length=b.length)(hi:i<a.length):(clJ a b i).set i (a[i]+b[i]'Yhn)=clJ a b (i+1):=by
 unfold clJ;have hl:((List.zipWith (· + ·) a b).take i).length=i:=by simp;omega
 rw[List.set_append_right _ _ Yhn,hl,Nat.sub_self,List.drop_eq_getElem_cons hi,List.set_cons_zero,List.take_succ_eq_append_getElem Yht,List.getElem_zipWith];simp
end Go.Rf
namespace Go.Proofs.YtggmccicdhnkgaaGreat
open Go.Proofs.Tryz
open Go.Rf Go.RowKit
attribute [local irreducible] Code.wp wpList Exit.then Exit.inBlock bodyPost A Calls execOp Addr.add
theorem equalC(la lb:List Br)(va vb:Value)(w:World)(ha:Src w va la.length (la.flatMap brV))(hb:Src w vb lb.length (lb.flatMap brV))(hl:la.length<=1000000000):
 Calls prog 71 #[va,vb] w fun e w'=>e=.returned (.bool (decide (la=lb)))/\Fr [] w w':=by
 obtain⟨ao,ca,rfl,_⟩:=id ha;obtain⟨ao2,ca2,rfl,_⟩:=id hb;refine enter func71 rfl ntmps71 rfl ?_;by_cases hlen:la.length=lb.length
 case neg=>
  refine Yeo ?_;exact⟨by rw[decide_eq_false (fun e=>hlen (by rw[e]))],Fr.refl _ _⟩
 refine rx ?_;refine c_loopK 13 [5] (σ:=Nat) (fun i g u=>g 13=iV (i:Nat)/\i<=la.length/\la.take i=lb.take i/\Fr [] w u) (fun i=>la.length-i) 0 ⟨rfl,Nat.zero_le _,rfl,Fr.refl _ _⟩ ?_;rintro i g u ⟨g13,hi,heq,hF⟩;rw[eq_upd g13];by_cases hlt:i<la.length
 case neg=>
  refine Yeo ?_;rw[List.take_of_length_le Yhn,List.take_of_length_le Yhn]at heq;exact⟨by rw[decide_eq_true heq],hF⟩
 obtain⟨ad,had,hca⟩:=src_rows brV_l3 (ha.tr0 hF) hlt Yhy;subst had;obtain⟨ad2,had2,hcb⟩:=src_rows brV_l3 (hb.tr0 hF) (show i<lb.length by omega) Yhy;subst had2;have hca:Cells u (ad.add (i*3)) [.string la[i].decl,iV la[i].at_,iV la[i].arm]:=hca;have hcb:Cells u (ad2.add (i*3)) [.string lb[i].decl,iV lb[i].at_,iV lb[i].arm]:=hcb;refine rx ?_;refine d_begin (fun z=>Fr [] u z) Yhp rfl ?_;obtain⟨u1,hu1⟩:=exq u.drew;rw[<-hu1];have hS:Fr [] u u1:=hu1▸Fr.drew _ _;refine Yfy ?_;by_cases he:la[i]=lb[i]
 case neg=>
  refine d_tx 8 hS ?_ (hrun:=by(intro u hu;refine(r_neqBr (a:=la[i]) (b:=lb[i]) ?_ ?_ (decide_eq_true he));exact rfl;exact rfl));refine Yfx ?_;refine Yeo ?_;refine⟨?_,hF.trans0 hS⟩;rw[decide_eq_false];intro e;subst e;exact he rfl
 refine d_tx 8 hS ?_ (hrun:=by(intro u hu;refine(r_neqBr (a:=la[i]) (b:=lb[i]) ?_ ?_ (decide_eq_false (fun h=>h he)));exact rfl;exact rfl));refine Yev ?_;refine q_roundK (i+1) Yhl ⟨rfl,hlt,?_,hF.trans0 hS⟩ Yhn;rw[List.take_succ_eq_append_getElem hlt,List.take_succ_eq_append_getElem Yhn,heq,he]
set_option maxHeartbeats 64000000 in
theorem mergeC{p p2:Nat}{M R M2 R2:List Nat}{P Q:Pp}{s t:St}(w:World)(hC:CovM w p M R P s)(hD:CovM w p2 M2 R2 Q t)(hn:s.cls.length<=1000000)(hn2:t.cls.length<=1000000)(hr1:s.runs<=1000000)(hr22:t.runs<=1000000)(hrl:P.reach.length<=1000000)(hck:P.checks<=1000000)(hck2:Q.checks<=1000000):
 Calls prog 28 #[.pointer (some ⟨p,0,none⟩),.pointer (some ⟨p2,0,none⟩)] w fun e w'=>if P.prop=Q.prop/\P.checks=Q.checks/\s.cls.length=t.cls.length/\P.reach=Q.reach then e=.returned (zI)/\CovM w' p M R P (stMerge s t)/\Fr M w w' else e=.returned (iV 22)/\Fr [] w w':=by
 have hC0:=hC;have hD0:=hD;obtain⟨bb,pb,vr,vc,mb,mp,rfl,rfl,hnd,hb,hr,hc,hmb,hrb,hmp,hrp,hok⟩:=hC;obtain⟨bb2,pb2,vr2,vc2,mb2,mp2,rfl,rfl,hnd2,hb2,hr2,hc2,hmb2,hrb2,hmp2,hrp2,hok2⟩:=hD;obtain⟨n1,n2,n3,n4,n5,n6,n7,n8,n9,n10⟩:=nd_cov hnd;obtain⟨aoc,cc,rfl⟩:=hc.slice;obtain⟨aoc2,cc2,rfl⟩:=hc2.slice;have hro:=hr.one;have hro2:=hr2.one;refine enter func28 rfl ntmps28 rfl ?_;refine rx ?_;by_cases h1:P.prop=Q.prop
 case neg=>
  refine d_begin (fun z=>Fr [] w z) Yhp rfl ?_;obtain⟨u,hu⟩:=exq w.drew;rw[<-hu];have hS:Fr [] w u:=hu▸Fr.drew _ _;refine Yfy ?_;refine d_tx 8 hS ?_ (hrun:=by(intro u hu;exact(r_neqE rfl rfl (decide_eq_true h1))));refine d_z4 9 10 11 12 hS ?_;refine d_z4 13 14 15 16 hS ?_;refine d_z4 17 18 19 20 hS ?_;refine d_z4 21 22 23 24 hS ?_;refine d_z4 25 26 27 28 hS ?_;refine d_z4 29 30 31 32 hS ?_;refine d_z4 33 34 35 36 hS ?_;refine d_z4 37 38 39 40 hS ?_;refine d_z4 41 42 43 44 hS ?_;refine Yfx ?_;refine Yeo ?_;rw[if_neg (by intro hh;exact h1 hh.1)];exact⟨rfl,hS⟩
 by_cases h2:P.checks=Q.checks
 case neg=>
  refine d_begin (fun z=>Fr [] w z) Yhp rfl ?_;obtain⟨u,hu⟩:=exq w.drew;rw[<-hu];have hS:Fr [] w u:=hu▸Fr.drew _ _;refine Yfy ?_;refine d_tx 8 hS ?_ (hrun:=by(intro u hu;exact(r_neqE rfl rfl (decide_eq_false (fun h=>h h1)))));refine d_z4 9 10 11 12 hS ?_;refine d_z4 13 14 15 16 hS ?_;refine d_z 17 hS ?_;refine d_ty 18 hS ?_ (hrun:=by(intro u hu;exact(r_neq rfl rfl (decide_eq_true Yhn))));refine d_z4 19 20 21 22 hS ?_;refine d_z4 23 24 25 26 hS ?_;refine d_z4 27 28 29 30 hS ?_;refine d_z4 31 32 33 34 hS ?_;refine d_z4 35 36 37 38 hS ?_;refine d_z4 39 40 41 42 hS ?_;refine d_z2 43 44 hS ?_;refine Yfx ?_;refine Yeo ?_;rw[if_neg (by intro hh;exact h2 hh.2.1)];exact⟨rfl,hS⟩
 by_cases h3:s.cls.length=t.cls.length
 case neg=>
  refine d_begin (fun z=>Fr [] w z) Yhp rfl ?_;obtain⟨u,hu⟩:=exq w.drew;rw[<-hu];have hS:Fr [] w u:=hu▸Fr.drew _ _;refine Yfy ?_;refine d_tx 8 hS ?_ (hrun:=by(intro u hu;exact(r_neqE rfl rfl (decide_eq_false (fun h=>h h1)))));refine d_z4 9 10 11 12 hS ?_;refine d_z4 13 14 15 16 hS ?_;refine d_z 17 hS ?_;refine d_ty 18 hS ?_ (hrun:=by(intro u hu;exact(r_neq rfl rfl (decide_eq_false Yhn))));refine d_z4 19 20 21 22 hS ?_;refine d_z4 23 24 25 26 hS ?_;refine d_z4 27 28 29 30 hS ?_;refine d_ty 31 hS ?_ (hrun:=by(intro u hu;exact(r_neq rfl rfl (decide_eq_true Yhn))));refine d_z4 32 33 34 35 hS ?_;refine d_z4 36 37 38 39 hS ?_;refine d_z4 40 41 42 43 hS ?_;refine d_z 44 hS ?_;refine Yfx ?_;refine Yeo ?_;rw[if_neg (by intro hh;exact h3 hh.2.2.1)];exact⟨rfl,hS⟩
 refine d_begin (fun z=>Fr [] w z) Yhp rfl ?_;obtain⟨u,hu⟩:=exq w.drew;rw[<-hu];have hS:Fr [] w u:=hu▸Fr.drew _ _;refine Yfy ?_;refine d_tx 8 hS ?_ (hrun:=by(intro u hu;exact(r_neqE rfl rfl (decide_eq_false (fun h=>h h1)))));refine d_z4 9 10 11 12 hS ?_;refine d_z4 13 14 15 16 hS ?_;refine d_z 17 hS ?_;refine d_ty 18 hS ?_ (hrun:=by(intro u hu;exact(r_neq rfl rfl (decide_eq_false Yhn))));refine d_z4 19 20 21 22 hS ?_;refine d_z4 23 24 25 26 hS ?_;refine d_z4 27 28 29 30 hS ?_;refine d_ty 31 hS ?_ (hrun:=by(intro u hu;exact(r_neq rfl rfl (decide_eq_false Yhn))));refine d_z4 32 33 34 35 hS ?_;refine d_z4 36 37 38 39 hS ?_;refine d_z2 40 41 hS ?_;refine d_one (i:=42) rfl Yhp ?_;refine rx ?_;refine s_cE (equalC P.reach Q.reach vr vr2 u (hr.src.tr0 hS) (hr2.src.tr0 hS) Yhn) ?_;rintro u1 hf1;have hS:=hS.trans0 hf1;refine Yfz ?_;refine d_z2 43 44 hS ?_;refine Yfx ?_;by_cases h4:P.reach=Q.reach
 case neg=>
  rw[decide_eq_false h4];refine Yeo ?_;rw[if_neg (by intro hh;exact h4 hh.2.2.2)];exact⟨rfl,hS⟩
 rw[decide_eq_true h4];refine rx ?_;have ho1:=hok.o;have ho2:=hok2.o;refine d_begin (fun z=>Fr [] u1 z) Yhp rfl ?_;obtain⟨u2,hu2⟩:=exq u1.drew;rw[<-hu2];have hS2:Fr [] u1 u2:=hu2▸Fr.drew _ _;have hbx:=hb.tr0 hS;have hby:=hb2.tr0 hS;refine d_z4 0 1 2 3 hS2 ?_;refine d_z4 4 5 6 7 hS2 ?_;refine d_z 8 hS2 ?_;refine d_tx 9 hS2 ?_ (hrun:=by(intro u hu;exact(r_gtr rfl rfl (decide_eq_false Yhn))));refine Yfx ?_;have hF2:=hS.trans0 hS2;clear hbx hby hS hS2 hf1;refine rx ?_;refine s_c2 (copyC u2 (hD0.tr0 hF2) hn2) ?_;rintro q M3 w3 ⟨hE,hM3,hf3⟩;have hF3:=hF2.trans0 hf3;have hs2:=hF2.size;have hltq:=hE.lt;obtain⟨bb3,pb3,vr3,vc3,mb3,mp3,rfl,hR3,hnd3,hb3,hr3,hc3,hmb3,hrb3,hmp3,hrp3,_⟩:=hE;obtain⟨aoc3,cc3,rfl⟩:=hc3.slice;have hro3:=hr3.one;obtain⟨m1,m2,m3,m4,m5,m6,m7,m8,m9,m10⟩:=nd_cov hnd3;have hltp:=hC0.lt;obtain⟨K,hK⟩:=exq ([p,bb,pb]++blks (Value.slice aoc s.cls.length cc));have hKm:∀{x:Nat},x∈K↔x=p\/x=bb\/x=pb\/x∈blks (Value.slice aoc s.cls.length cc):=fun{x}=>by rw[hK];simp[or_assoc]
 rw[<-hK]at hltp ⊢;have hKw:∀x∈K,x<w.heap.size:=fun x hx=>hltp x (List.mem_append_left _ hx)
 have hK3:∀x∈[q,bb3,pb3]++blks (Value.slice aoc3 t.cls.length cc3),x∉K:=fun x hx hm=>by
  have h1:=hM3 x hx;have h2:=hKw x hm;omega
 have hpK:p∈K:=hKm.2 (.inl rfl);have hbbK:bb∈K:=hKm.2 (.inr (.inl rfl));have hpbK:pb∈K:=hKm.2 (.inr (.inr (.inl rfl)));have hvcK:∀x∈blks (Value.slice aoc s.cls.length cc),x∈K:=fun x hx=>hKm.2 (.inr (.inr (.inr hx)))
 have hqK:q∉K:=hK3 q Yhs;have hb3K:bb3∉K:=hK3 bb3 Yhs;have hp3K:pb3∉K:=hK3 pb3 Yhs;have hc3K:∀x∈blks (Value.slice aoc3 t.cls.length cc3),x∉K:=fun x hx=>hK3 x (List.mem_append_right _ hx)
 have hb1:=hb.tr0 hF3;refine rx ?_;refine u_begin 11 (fun z=>Fr [] w3 z) Yhp rfl ?_;obtain⟨u3,hu3⟩:=exq w3.drew;rw[<-hu3];have hS:Fr [] w3 u3:=hu3▸Fr.drew _ _
 ((refine u_tx 0 hS ?_);(refine u_tx 1 hS ?_);(refine u_tx 2 hS ?_);(refine u_tx 3 hS ?_);(refine u_tx 4 hS ?_);(refine u_tx 5 hS ?_);(refine u_tx 6 hS ?_);(refine u_tx 7 hS ?_);(refine u_tx 8 hS ?_))
 refine Yfd ?_;rw[add_lit];refine Yhe ?_;refine Ygq ?_
 ((with_reducible apply s_storeB);exact rfl;(conv=>lhs;whnf);exact rfl;exact(hb1.tr0 hS);exact rfl)
 intro u4 hb4 hf4 hs4;replace hb4:Blk u4 p [.string P.prop,iV (P.checks:Nat),vr,iV ((s.runs+t.runs):Nat),iV (s.o 0:Nat),iV (s.o 1:Nat),iV (s.o 2:Nat),(.slice aoc s.cls.length cc),.map (some bb),.map (some pb)] _:=hb4;refine Yeu ?_;have hG4:Fr [p] w3 u4:=(hS.mono Yhs).trans hf4 (fun x hx=>.inl hx);have hqp:q∉[p]:=fun hm=>hqK Yjw
 clear hb1 hS hf4;have hq4:=hb3.tr hG4 hqp;refine rx ?_;refine c_loopK 86 [5,6] (σ:=Nat) (fun i g u=>g 86=iV (i:Nat)/\i<=3/\Blk u p [.string P.prop,iV (P.checks:Nat),vr,iV ((s.runs+t.runs):Nat),iV (oI s.o t.o i 0:Nat),iV (oI s.o t.o i 1:Nat),iV (oI s.o t.o i 2:Nat),(.slice aoc s.cls.length cc),.map (some bb),.map (some pb)] 125/\Fr [p] u4 u) (fun i=>3-i) 0 ⟨rfl,Nat.zero_le _,hb4,Fr.refl _ _⟩ ?_;clear hb4 hq4;rintro i g u5 ⟨g86,hi,hbi,hF5⟩;rw[eq_upd g86];have hG5:=hG4.trans hF5 (fun x hx=>.inl hx);by_cases hlt:i<3
 case pos=>
  rcases(show i=0\/i=1\/i=2 by omega)with rfl|rfl|rfl
  .have e1:oI s.o t.o 0 0=s.o 0:=rfl;refine rx ?_;refine s_indexArr (cs:=natsV [t.o 0,t.o 1,t.o 2]) (v:=iV (t.o 0:Nat)) (j:=0) rfl rfl Yhy rfl ?_;refine rx ?_;refine u_begin 11 (fun z=>Fr [] u5 z) Yhp rfl ?_;obtain⟨u6,hu6⟩:=exq u5.drew;rw[<-hu6];have hS:Fr [] u5 u6:=hu6▸Fr.drew _ _
   ((refine u_tx 0 hS ?_);(refine u_tx 1 hS ?_);(refine u_tx 2 hS ?_);(refine u_tx 3 hS ?_))
   refine u_tx 4 hS ?_ (hrun:=Yjb);refine u_tx 5 hS ?_ (hrun:=Yjt)
   ((refine u_tx 6 hS ?_);(refine u_tx 7 hS ?_))
   refine Yfh ?_;rw[add_lit];refine Yhe ?_;refine u_tx 10 hS ?_ (hrun:=Yjb);refine Ygq ?_
   ((with_reducible apply s_storeB);exact rfl;(conv=>lhs;whnf);exact rfl;exact(hbi.tr0 hS);exact rfl)
   intro u7 hb7 hf7 hs7;refine Yet ?_;refine q_roundK 1 Yhl ⟨rfl,by decide,hb7,(hF5.trans0 hS).trans hf7 (fun x hx=>.inl hx)⟩ Yhy
  .have e1:oI s.o t.o 1 1=s.o 1:=rfl;refine rx ?_;refine s_indexArr (cs:=natsV [t.o 0,t.o 1,t.o 2]) (v:=iV (t.o 1:Nat)) (j:=1) rfl rfl Yhy rfl ?_;refine rx ?_;refine u_begin 11 (fun z=>Fr [] u5 z) Yhp rfl ?_;obtain⟨u6,hu6⟩:=exq u5.drew;rw[<-hu6];have hS:Fr [] u5 u6:=hu6▸Fr.drew _ _
   ((refine u_tx 0 hS ?_);(refine u_tx 1 hS ?_);(refine u_tx 2 hS ?_);(refine u_tx 3 hS ?_))
   refine u_tx 4 hS ?_ (hrun:=Yjc);refine u_tx 5 hS ?_ (hrun:=Yjt)
   ((refine u_tx 6 hS ?_);(refine u_tx 7 hS ?_))
   refine Yfh ?_;rw[add_lit];refine Yhe ?_;refine u_tx 10 hS ?_ (hrun:=Yjc);refine Ygq ?_
   ((with_reducible apply s_storeB);exact rfl;(conv=>lhs;whnf);exact rfl;exact(hbi.tr0 hS);exact rfl)
   intro u7 hb7 hf7 hs7;refine Yet ?_;refine q_roundK 2 Yhl ⟨rfl,by decide,hb7,(hF5.trans0 hS).trans hf7 (fun x hx=>.inl hx)⟩ Yhy
  .have e1:oI s.o t.o 2 2=s.o 2:=rfl;refine rx ?_;refine s_indexArr (cs:=natsV [t.o 0,t.o 1,t.o 2]) (v:=iV (t.o 2:Nat)) (j:=2) rfl rfl Yhy rfl ?_;refine rx ?_;refine u_begin 11 (fun z=>Fr [] u5 z) Yhp rfl ?_;obtain⟨u6,hu6⟩:=exq u5.drew;rw[<-hu6];have hS:Fr [] u5 u6:=hu6▸Fr.drew _ _
   ((refine u_tx 0 hS ?_);(refine u_tx 1 hS ?_);(refine u_tx 2 hS ?_);(refine u_tx 3 hS ?_))
   refine u_tx 4 hS ?_ (hrun:=Yjd);refine u_tx 5 hS ?_ (hrun:=Yjt)
   ((refine u_tx 6 hS ?_);(refine u_tx 7 hS ?_))
   refine Yfh ?_;rw[add_lit];refine Yhe ?_;refine u_tx 10 hS ?_ (hrun:=Yjd);refine Ygq ?_
   ((with_reducible apply s_storeB);exact rfl;(conv=>lhs;whnf);exact rfl;exact(hbi.tr0 hS);exact rfl)
   intro u7 hb7 hf7 hs7;refine Yet ?_;refine q_roundK 3 Yhl ⟨rfl,by decide,hb7,(hF5.trans0 hS).trans hf7 (fun x hx=>.inl hx)⟩ Yhy
 obtain rfl:i=3:=by omega
 replace hbi:Blk u5 p [.string P.prop,iV (P.checks:Nat),vr,iV ((s.runs+t.runs):Nat),iV ((s.o 0+t.o 0):Nat),iV ((s.o 1+t.o 1):Nat),iV ((s.o 2+t.o 2):Nat),(.slice aoc s.cls.length cc),.map (some bb),.map (some pb)] 125:=hbi;have hq5:=hb3.tr hG5 hqp;clear g86;refine rx ?_;clear hi hlt;have hFp:Fr [p] w u5:=(hF3.mono Yhs).trans hG5 (fun x hx=>.inl hx);have hs5:=hFp.size;have hcp:=hc.tr hFp (fun x hx hm=>n4 Yia);have hmb5:=hmb.tr hFp (by simpa using fun h=>n1 h.symm);have hmp5:=hmp.tr hFp (by simpa using fun h=>n2 h.symm);have hc5:=hc3.tr hG5 (fun x hx hm=>hc3K x hx Yjw);have hmb35:=hmb3.tr hG5 (fun hm=>hb3K Yjw);have hmp35:=hmp3.tr hG5 (fun hm=>hp3K Yjw);refine c_loopK 107 [7,8] (σ:=Nat) (fun i g u=>g 107=iV (i:Nat)/\i<=t.cls.length/\Own u 3 1 (Value.slice aoc s.cls.length cc) s.cls.length (natsV (clJ s.cls t.cls i))/\Fr (blks (Value.slice aoc s.cls.length cc)) u5 u) (fun i=>t.cls.length-i) 0 ⟨rfl,Nat.zero_le _,by rw[clJ_zero];exact hcp,Fr.refl _ _⟩ ?_;clear hcp;rintro i g u6 ⟨g107,hi,hcu,hF6⟩;rw[eq_upd g107];have hbu:=hbi.tr hF6 n4;have hvn:∀x,x∉K->x∉blks (Value.slice aoc s.cls.length cc):=fun x h hm=>h (hvcK x hm)
 have hcu3:=hc5.tr hF6 (fun x hx=>hvn x (hc3K x hx));by_cases hlt:i<t.cls.length
 case pos=>
  obtain⟨adl,hadl,hcell⟩:=src_at hcu3.src (natsV_get hlt);subst hadl;obtain⟨adc,hadc,hcc⟩:=src_at hcu.src (clJ_at h3 (show i<s.cls.length by omega));have hb0:=hok.ocls _ (List.getElem_mem (show i<s.cls.length by omega));have hb1:=hok2.ocls _ (List.getElem_mem hlt);refine Yfm ?_;refine rx ?_;refine s_index1 (j:=i) rfl rfl rfl Yhn hadc ?_;refine s_load rfl hcc ?_;refine rx ?_;refine s_index1 (j:=i) rfl rfl rfl Yhn hadc ?_;refine s_storeOwn hcu hadc Yhn rfl rfl rfl (fun u7 hcu1 hf7 hs7=>?_);refine rx ?_;refine q_roundK (i+1) Yhl ⟨rfl,hlt,?_,hF6.trans hf7 (fun x hx=>.inl hx)⟩ Yhn;rw[<-clJ_step h3 (show i<s.cls.length by omega),<-natsV_set];exact hcu1
 obtain rfl:i=t.cls.length:=by omega
 rw[show clJ s.cls t.cls t.cls.length=List.zipWith (· + ·) s.cls t.cls by rw[<-h3,clJ_all h3]]at hcu;have hq6:=hq5.tr hF6 (hvn q hqK);have hmb6:=hmb5.tr hF6 n5;have hmp6:=hmp5.tr hF6 n6;have hmb36:=hmb35.tr hF6 (hvn _ hb3K);have hmp36:=hmp35.tr hF6 (hvn _ hp3K);have hF6K:Fr K w u6:=(hFp.mono (fun x hx=>.inl (by rw[List.mem_singleton.1 hx];exact hpK))).trans hF6 (fun x hx=>.inl (hvcK x hx));have hs6:=hF6K.size;clear hbi hq5 hF5 hFp hmb5 hmp5 hc5 hmb35 hmp35 hF6 g107 hi hlt;have hr6:Own u6 50 3 vr P.reach.length (P.reach.flatMap brV):=hr.tr hF6K (fun x hx hm=>by rcases hKm.1 hm with e|e|e|e;exact n7 (e▸hx);exact n8 (e▸hx);exact n9 (e▸hx);exact n10 x e hx);have hbblt:=hmb6.lt;have hpblt:=hmp6.lt;have hplt:=hbu.lt;have hqlt:=hq6.lt;have hclt:=hcu.lt;have hrlt:=hr6.lt;have hb3lt:=hmb36.lt;have hp3lt:=hmp36.lt;refine rx ?_;refine s_rangeM rfl hmb36 (fun w8 hIt hf8 hs8=>?_);obtain⟨rr,hrr⟩:=exq u6.heap.size;rw[<-hrr]at hIt ⊢;have hbu8:=hbu.tr0 hf8;have hq8:=hq6.tr0 hf8;have hm8:=hmb6.tr0 hf8;have hmem:=hrb3.mem hmb3.nd;refine rx ?_;refine c_loopK 128 [9,10] (σ:=List Br×List (Br×Int)×Option (Br×Int)×List (Br×Int)) (fun x g u=>MIt brK (Value.int .i64) u bb3 rr mb3 x.2.1 x.2.2.1/\Mp brK (Value.int .i64) u bb x.2.2.2/\RelB x.2.2.2 (fun b=>s.cnt b+if b∈x.1 then t.cnt b else 0)/\(x.1++x.2.1.map Prod.fst).Perm (mb3.map Prod.fst)/\(∀y∈x.2.1,y∈mb3)/\Fr [rr,bb] w8 u) (fun x=>x.2.1.length) ([],mb3,none,mb) ⟨hIt,hm8,hrb.congr (fun b=>by simp),by simp,fun y hy=>hy,Fr.refl _ _⟩ ?_;clear hIt hm8;rintro⟨xs,left,cur,m2⟩ g u ⟨hIt,hm2,hru,hpm,hsub,hF⟩;simp only at hIt hm2 hru hpm hsub;have hsu:=hF.size;have hrl:=hIt.lt;have hm2lt:=hm2.lt;have hbu9:=hbu8.tr hF (by simp;exact⟨by omega,n1⟩);have hqu:=hq8.tr hF (by simp;exact⟨by omega,fun e=>hqK (e▸hbbK)⟩);refine rx ?_;refine s_nextM rfl hIt (fun h0=>?_) (fun a av left' u3 hl' hIt3 hf3 hs3=>?_)
 case refine_2=>
  have hm3:=hm2.tr hf3 Yht;have hbv:=hbu9.tr hf3 Yht;have hqv:=hqu.tr hf3 Yht;have hll:=hl'.length_eq;simp only[List.length_cons]at hll;obtain⟨hq1,hq2⟩:=left_step hl' hsub;obtain⟨hav,hc0⟩:=hmem _ hq1;simp only at hav hc0;subst hav;have hna:a∉xs:=left_nd hmb3.nd hpm hl';have hF3:Fr [rr,bb] w8 u3:=hF.trans hf3 (fun x hx=>.inl Yip);have hcs:=hok.ocnt a;have hct:=hok2.ocnt a;refine Yfn ?_;refine s_allocN (l:=[zT,zI,zI]) rfl (fun u4 bv hbve hv4 hf4 hs4=>?_);refine rx ?_;refine s_storeAggB (cs:=brV a) rfl rfl hv4 (brV_one1 a) rfl rfl (fun u5 hv5 hf5 hs5=>?_);replace hv5:Blk u5 bv [.string a.decl,iV a.at_,iV a.arm] _:=hv5;have hF35:Fr [] u3 u5:=hf4.trans hf5 (fun x hx=>.inr Yhq);have hbw:=hbv.tr0 hF35;have hs35:=hF35.size;have hm5:=hm3.tr0 hF35;refine rx ?_;have hpn:p∉[bb]:=by simpa using n1
  have hbn:bv∉[bb]:=by simp;omega
  refine u_begin 10 (SB u5 bb (fun b=>s.cnt b+if b∈xs then t.cnt b else 0)) Yhp rfl ?_;obtain⟨u9,hu9⟩:=exq u5.drew;rw[<-hu9];have hS0:Fr [] u5 u9:=hu9▸Fr.drew _ _;have hS:SB u5 bb (fun b=>s.cnt b+if b∈xs then t.cnt b else 0) u9:=⟨hS0.mono Yhs,m2,hm5.tr0 hS0,fun b=>hru.look b⟩
  ((refine u_tx 0 hS ?_);(refine u_tx 1 hS ?_);(refine u_tx 2 hS ?_))
  refine u_tx 3 hS ?_ (hrun:=(by intro u hu;exact(r_load rfl (Blk.cell (hbw.tr hu.1 hpn) rfl))));refine u_tx 4 hS ?_ (hrun:=(by intro u hu;exact(r_loadC rfl (Cells.ofBlk (hv5.tr hu.1 hbn)) Yik)));refine u_tx 5 hS ?_ (hrun:=(by intro u hu;refine(r_cntS (P:=prog) (t:=122) (a:=a) ?_ ?_ hu);exact rfl;exact rfl));rw[if_neg hna,Nat.add_zero]
  ((refine u_tx 6 hS ?_);(refine u_tx 7 hS ?_))
  refine Ygn ?_;refine s_mapEntry (key:=brK) (val:=Value.int .i64) (a:=a) (z0:=0) (hm5.tr0 hS0) rfl rfl (fun u10 st hm10 hf10 hs10=>?_);have hS10:=SB.entry (a:=a) (st:=st) hS.1 hru hf10 hm10;refine wpList_nil (q_uh hS10 ?_)
  ((refine u_tx 9 hS10 ?_))
  refine Ygo ?_;refine s_entryStore (v:=(s.cnt a:Int)+(t.cnt a:Int)) hm10 rfl rfl rfl (fun u11 hm11 hf11 hs11=>?_);refine Yet ?_;have hF11:Fr [bb] u3 u11:=((hF35.trans0 hS0).mono Yhs).trans (hf10.trans hf11 (fun x hx=>.inl hx)) (fun x hx=>.inl hx);refine q_roundK (xs++[a],left',some (a,(t.cnt a:Int)),_) Yhl ⟨hIt3.tr hF11 (by simp;exact fun e=>hb3K (e▸hbbK)) Yht,hm11,(hru.entry (a:=a) (n:=s.cnt a+t.cnt a) Yhn).congr (fun b=>?_),keys_step hl' hpm,hq2,hF3.trans hF11 (fun x hx=>.inl Yip)⟩ Yhw;by_cases e:b=a
  .subst e;simp
  .simp [e]
 have hk:=keys_done h0 hpm;have hrb9:RelB m2 (stMerge s t).cnt:=hru.congr (fun b=>by
  show s.cnt b+_=s.cnt b+t.cnt b;by_cases h:b∈xs
  .rw [if_pos h]
  .rw [if_neg h];have h1:¬b∈mb3.map Prod.fst:=fun h2=>h (hk.mem_iff.2 h2)
   have h3:t.cnt b=0:=Classical.byContradiction (fun h2=>h1 (hrb3.keys.2 h2));omega)
 have hcu9:=(hcu.tr0 hf8).tr hF (fun x hx hm=>by have:=hclt x hx;simp at hm;rcases hm with e|e;omega;exact n5 (e▸hx));have hr9:=(hr6.tr0 hf8).tr hF (fun x hx hm=>by have:=hrlt x hx;simp at hm;rcases hm with e|e;omega;exact n8 (e▸hx));have hmp9:=(hmp6.tr0 hf8).tr hF (by simp;exact⟨by omega,fun e=>n3 e.symm⟩);have hmp39:=(hmp36.tr0 hf8).tr hF (by simp;exact⟨by omega,fun e=>hp3K (e▸hbbK)⟩);have hFK:Fr K w u:=(hF6K.trans0 hf8).trans hF (fun x hx=>by simp at hx;rcases hx with e|e;exact .inr Yhn;exact .inl (e▸hbbK));have hsw:=hFK.size;clear hIt hru hpm hsub hu hF hbu8 hq8 hf8 hcu hr6 hmp6 hmp36 hmb36 hmb6 hbu hq6;refine rx ?_;refine s_rangeM rfl hmp39 (fun v3 hIt hg3 ht3=>?_);obtain⟨rs,hrs⟩:=exq u.heap.size;rw[<-hrs]at hIt ⊢;have hb10:=hbu9.tr0 hg3;have hn10:=hmp9.tr0 hg3;refine rx ?_;refine c_loopK 148 [11] (σ:=List Pr×List (Pr×Bool)×Option (Pr×Bool)×List (Pr×Bool)) (fun x g u=>MIt prK Value.bool u pb3 rs mp3 x.2.1 x.2.2.1/\Mp prK Value.bool u pb x.2.2.2/\RelP x.2.2.2 (fun a=>a∈s.ps\/a∈x.1)/\(x.1++x.2.1.map Prod.fst).Perm (mp3.map Prod.fst)/\Fr [rs,pb] v3 u) (fun x=>x.2.1.length) ([],mp3,none,mp) ⟨hIt,hn10,hrp.congr (fun b=>by simp),by simp,Fr.refl _ _⟩ ?_;clear hIt hn10;rintro⟨ys,left,cur,m3⟩ g u' ⟨hIt,hm3,hr4,hpm,hF⟩;simp only at hIt hm3 hr4 hpm;have hsu3:=hF.size;have hrl:=hIt.lt;have hm3lt:=hm3.lt;have hb11:=hb10.tr hF (by simp;exact⟨by omega,n2⟩);refine rx ?_;refine s_nextM rfl hIt (fun h0=>?_) (fun a av left' u3 hl' hIt3 hf3 hs3=>?_)
 case refine_2=>
  have hm4:=hm3.tr hf3 Yht;have hb12:=hb11.tr hf3 Yht;have hll:=hl'.length_eq;simp only[List.length_cons]at hll;have hF3:Fr [rs,pb] v3 u3:=hF.trans hf3 (fun x hx=>.inl Yip);refine Yfn ?_;refine s_allocN (l:=[zT,zI,zI,zT,zI,zI]) rfl (fun u4 bv hbv hv4 hf4 hs4=>?_);refine rx ?_;refine s_storeAggB (cs:=prV a) rfl rfl hv4 (prV_one1 a) rfl rfl (fun u5 hv5 hf5 hs5=>?_);replace hv5:Blk u5 bv (prV a) _:=hv5;have hF35:Fr [] u3 u5:=hf4.trans hf5 (fun x hx=>.inr Yhq);have hb13:=hb12.tr0 hF35;have hs35:=hF35.size;have hm5:=hm4.tr0 hF35;refine rx ?_;refine u_begin 5 (fun z=>Fr [] u5 z) Yhp rfl ?_;obtain⟨u11,hu11⟩:=exq u5.drew;rw[<-hu11];have hS:Fr [] u5 u11:=hu11▸Fr.drew _ _
  ((refine u_tx 0 hS ?_);(refine u_tx 1 hS ?_);(refine u_tx 2 hS ?_);(refine u_tx 3 hS ?_);(refine u_tx 4 hS ?_))
  refine Ygl ?_;refine s_mapUpd (key:=prK) (val:=Value.bool) (a:=a) (v:=true) (hm5.tr0 hS) rfl rfl rfl (fun u12 hm12 hf12 hs12=>?_);refine Yet ?_;have hF12:Fr [pb] u3 u12:=((hF35.trans0 hS).mono Yhs).trans hf12 (fun x hx=>.inl hx);refine q_roundK (ys++[a],left',some (a,av),_) Yhl ⟨hIt3.tr hF12 (by simp;exact fun e=>hp3K (e▸hpbK)) Yht,hm12,hr4.put.congr (fun b=>?_),keys_step hl' hpm,hF3.trans hF12 (fun x hx=>.inl Yip)⟩ Yhw;simp only[List.mem_append,List.mem_singleton];constructor
  .rintro (h|h|h)
   .exact .inr (.inr h)
   .exact .inl h
   .exact .inr (.inl h)
  .rintro (h|h|h)
   .exact .inr (.inl h)
   .exact .inr (.inr h)
   .exact .inl h
 have hk2:=keys_done h0 hpm;refine Yeo ?_;rw[if_pos ⟨h1,h2,h3,h4⟩];have hrr:∀x,x<u.heap.size->x≠pb->x∉[rs,pb]:=fun x h1 h2 hm=>by simp at hm;omega
 have hcl12:(stMerge s t).cls.length=s.cls.length:=by simp[stMerge];omega
 refine⟨rfl,?_,(hFK.trans0 hg3).trans hF (fun x hx=>by simp at hx;rcases hx with e|e;exact .inr Yhn;exact .inl (e▸hpbK))⟩;rw[hK];refine⟨bb,pb,vr,_,m2,m3,rfl,rfl,hnd,hb11,(hr9.tr0 hg3).tr hF (fun x hx=>hrr x (hr9.lt x hx) (fun e=>n9 (e▸hx))),?_,(hm2.tr0 hg3).tr hF (hrr _ hm2lt n3),hrb9,hm3,hr4.congr (fun b=>?_),?_⟩
 .rw [hcl12];exact(hcu9.tr0 hg3).tr hF (fun x hx=>hrr x (hcu9.lt x hx) (fun e=>n6 (e▸hx)))
 .show b∈s.ps\/b∈ys↔b∈setL ltP (s.ps++t.ps);rw[mem_setL totP,List.mem_append,hk2.mem_iff,hrp3.keys]
 .exact hok.merge ⟨by have:=hok.ncls;omega,hok2.cnt,hok2.kasc,hok2.pasc,hok2.pks,hok2.o,hok2.ocls,hok2.ocnt⟩
end Go.Proofs.YtggmccicdhnkgaaGreat
