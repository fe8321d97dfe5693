/-
 Sizes of what is reached;lists of branches and numbers as data,off some blocks;the law's own;its example.
-/
import Derived.Test.YtggmccicdhnkgaaGreatZJt
import Derived.Test.YtggmccicdhnkgaaGreatZMs
set_option linter.all false
namespace Go.Rf
open Go.RowKit
variable{af:Array Edge}{f:Env}{a:Int}{k:IntKind}{d n t t2:Nat}{x y:Operand}{ps:String}{w:World}
theorem JiM{P:Program}{ty:TypeId}{gd:Option (Nat×Bool)}{b r:Int}(hx:ev n f x=.int k a)(hy:ev n f y=.int k b)(h0:¬b=0)(hr:k.wrap (a.tdiv b)=r):
 (execOp (ev n f) ⟨some d,.binOp .quo t x y t2,ty,ps,af,gd⟩).run P w=.ok (.value (.int k r)) w:=by simp[execOp,eqGuard,binOp,Op.intDiv,hx,hy,h0,hr]
theorem JiL{P:Program}{ty:TypeId}{gd:Option (Nat×Bool)}{b r:Int}(hx:ev n f x=.int k a)(hy:ev n f y=.int k b)(h0:¬b=0)(hr:a.tmod b=r):
 (execOp (ev n f) ⟨some d,.binOp .rem t x y t2,ty,ps,af,gd⟩).run P w=.ok (.value (.int k r)) w:=by simp[execOp,eqGuard,binOp,Op.intDiv,hx,hy,h0,hr]
end Go.Rf
namespace Go.Proofs.YtggmccicdhnkgaaGreat
open Go.Proofs.Tryz
open Go.Rf Go.RowKit
variable{a at_:Int}{l:List Int}{m:Nat}{P:Pp}{w:World}
def sbr(P:Pp)(n:Int):Br:=if 0<P.reach.length/\0<n%17 then P.reach.getD (n/17%P.reach.length).toNat default else⟨bst [111,116,104,101,114],n/17%3,n/51%2⟩
def VG(P:Pp)(l:List Int)(at_:Int)(m:Nat):List Br:=(List.range m).map (fun(i:Nat)=>sbr P (pk l (at_+i+1) 1000))
def Vx(l:List Int)(at_:Int)(m:Nat):List Int:=((List.range m).filter (fun(i:Nat)=>decide (pk l (at_+i+7) 3=0))).map (fun(i:Nat)=>(i:Int))
def sKd(P:Pp)(k:Int):Int:=if 0<k/6%3/\0<P.checks then k/6%3 else 0
def sAt(P:Pp)(k:Int):Int:=if 0<k/6%3/\0<P.checks then k/18%P.checks else 0
def XW(P:Pp)(l:List Int)(at_:Int)(bad:Bool):Rn where
 kind:=if bad=true/\pk l at_ 1000000/100%5=1 then pk l at_ 1000000/500%6-1 else sKd P (pk l at_ 1000000)
 at_:=if bad=true/\pk l at_ 1000000/100%5=0 then sAt P (pk l at_ 1000000)+pk l at_ 1000000/500%5-2 else sAt P (pk l at_ 1000000)
 code:=if sKd P (pk l at_ 1000000)=2 then 13 else 0
 bs:=VG P l at_ (pk l at_ 1000000%6).toNat
 cl:=Vx l at_ P.ncls++(if bad=true/\pk l at_ 1000000/100%5=2 then[pk l at_ 1000000/500%4-1] else[])
theorem JcV:VG P l at_ (m+1)=VG P l at_ m++[sbr P (pk l (at_+m+1) 1000)]:=by
 unfold VG;rw[List.range_succ,List.map_append];rfl
theorem Jaa:(VG P l at_ m).length=m:=by simp[VG]
theorem LV:Vx l at_ (m+1)=Vx l at_ m++(if pk l (at_+m+7) 3=0 then[(m:Int)] else[]):=by
 unfold Vx;rw[List.range_succ,List.filter_append,List.map_append]
 congr 1
 by_cases h:pk l (at_+m+7) 3=0<;>simp[h]
theorem Bg:(Vx l at_ m).length<=m:=by
 unfold Vx;rw[List.length_map];have:=List.length_filter_le (fun(i:Nat)=>decide (pk l (at_+i+7) 3=0)) (List.range m);rw[List.length_range]at this;exact this
def ints(l:List Int):List Value:=l.map (Value.int .i64)
attribute [local irreducible] Code.wp wpList Exit.then Exit.inBlock bodyPost A Calls execOp Addr.add
def SmI(w:World)(b:Nat)(k a c:Int)(bs:List Br)(cl:List Int)(u:World):Prop:=∃vb vl,Blk u b [iV k,iV a,iV c,vb,vl] 41/\BO w 50 u bs vb/\Own u 3 1 vl cl.length (ints cl)/\(∀x∈blks vl,w.heap.size<=x/\x≠b/\x∉blks vb)/\b∉blks vb/\w.heap.size<=b/\Fr [] w u
theorem SmI.set{u u':World}{b:Nat}{k c k' a' c':Int}{bs:List Br}{cl:List Int}(h:SmI w b k a c bs cl u)(hf:Fr [b] u u')(hb:∀vb vl,Blk u b [iV k,iV a,iV c,vb,vl] 41->Blk u' b [iV k',iV a',iV c',vb,vl] 41):SmI w b k' a' c' bs cl u':=by
 obtain⟨vb,vl,h1,h2,h3,h4,h5,h6,h7⟩:=h;exact⟨vb,vl,hb _ _ h1,⟨h2.1.tr hf (fun x hx hm=>h5 Yia),h2.2⟩,h3.tr hf (fun x hx hm=>(h4 x hx).2.1 (List.mem_singleton.1 hm)),h4,h5,h6,h7.trans hf (fun x hx=>.inr (by rw[List.mem_singleton.1 hx];exact h6))⟩
set_option maxHeartbeats 32000000 in
theorem JjM{q:Nat}{rs:List Rn}(x:Value)(l:List Int)(at_:Int)(bad:Bool)(w:World)(hQ:RcV w q P rs)(hx:Src w x l.length (l.map (.int .i64)))(hl:∀n∈l,VE n)(ha:0<=at_/\at_<=1000)(hp:P.checks<=1000000/\P.ncls<=1000000/\P.reach.length<=1000000):
 Calls prog 14 #[.pointer (some ⟨q,0,none⟩),x,iV at_,.bool bad] w fun e w'=>∃vb vl,e=.returned (.agg ([iV (XW P l at_ bad).kind,iV (XW P l at_ bad).at_,iV (XW P l at_ bad).code,vb,vl]:List Value).toArray)/\
  BO w 50 w' (XW P l at_ bad).bs vb/\Own w' 3 1 vl (XW P l at_ bad).cl.length (ints (XW P l at_ bad).cl)/\(∀x∈blks vl,w.heap.size<=x)/\Fr [] w w':=by
 obtain⟨vr,vs,hb,hr,_⟩:=hQ;have hpc:(P.checks:Int)<=1000000:=by omega
 have hpn:(P.ncls:Int)<=1000000:=by omega
 obtain⟨aor,cr,rfl,_⟩:=hr.slice;rw[List.length_map]at hr hb;obtain⟨aox,cx,rfl,_⟩:=id hx;obtain⟨k,hk⟩:=exq (pk l at_ 1000000);have hkr:=Zf (l:=l) (i:=at_) (m:=1000000) Yhy;rw[<-hk]at hkr;refine enter func14 rfl ntmps14 rfl ?_;refine wp_seq ?_;refine KA ?_;refine Jm (l:=[zI,zI,zI,zS,zS]) rfl (fun w1 b8 hb8 h8 hf1 hs1=>?_);refine wpList_nil ?_;refine QG ?_
 (repeat refine wp_seq ?_)
 refine KA ?_;refine rr ?_;refine Jg (pick _ l at_ 1000000 w1 (hx.tr0 hf1) hl Yhy) ?_;rintro _ rfl;rw[<-hk];refine Yfa ?_
 (repeat refine wp_seq ?_)
 refine KA ?_;refine rr ?_;refine JF [zI,zI,zI,zS,zS] rfl ?_;refine rr ?_;refine Jm (l:=[zI,zI,zI,zS,zS]) rfl (fun w2 b10 hb10 h10 hf2 hs2=>?_);have h8w:=h8;have h8:=h8.tr0 hf2;refine rr ?_;refine Jd (cs:=[zI,zI,zI,zS,zS]) rfl rfl h10 Yhu rfl rfl (fun w3 h10 hf3 hs3=>?_);have h8:=h8.tr hf3 Yht;have hF3:Fr [] w1 w3:=hf2.trans hf3 (fun x hx=>.inr Yhq);have hI3:SmI w1 b10 0 0 0 [] [] w3:=⟨_,_,h10,BO.nil,Own.nil _ _ _,by simp[blks,Value.ownBlock],by simp[blks,Value.ownBlock],by omega,hF3⟩;clear h10;refine wpList_nil ?_;refine QG ?_
 (repeat refine wp_seq ?_)
 refine KA ?_;refine Yfa ?_
 (repeat refine wp_seq ?_)
 refine KZ 11 [] (fun g u=>SmI w1 b10 0 0 0 (VG P l at_ (k%6).toNat) [] u) ?_ ?_
 .refine rx ?_;refine Jh 12 [11] (σ:=Nat) (fun i g u=>g 11=iV (i:Nat)/\(i:Int)<=k%6/\SmI w1 b10 0 0 0 (VG P l at_ i) [] u) (fun i=>6-i) 0 ⟨rfl,by omega,hI3⟩ ?_;rintro i g u ⟨g11,hi,hI⟩;rw[Ja g11];by_cases hlt:(i:Int)<k%6
  case neg=>
   have he:i=(k%6).toNat:=by omega
   refine rx ?_;exact JK Yhl (by rw[<-he];exact hI)
  obtain⟨vb,vl,h10,hB,hC,hCd,hbn,hwb,hF⟩:=hI;obtain⟨n,hn⟩:=exq (pk l (at_+i+1) 1000);have hnr:=Zf (l:=l) (i:=at_+i+1) (m:=1000) Yhy;rw[<-hn]at hnr;have hFu:=hf1.Jb hF;have hqu:=hb.tr0 hFu;have hsu:=hF.size;refine rx ?_;refine Jg (pick _ l (at_+i+1) 1000 u (hx.tr0 hFu) hl Yhy) ?_;rintro _ rfl;rw[<-hn];have hBlt:=hB.1.lt;have hB1:=hB.1.one;have hq:=hb.lt;have hb10lt:=h10.lt;have hbl:=Jaa (P:=P) (l:=l) (at_:=at_) (m:=i);have fin:∀{br:Br} {v':Value} {u' u2:World},br=sbr P n->BO w1 50 u' (VG P l at_ i++[br]) v'->(∀x∈blks v',x∈blks vb\/u.heap.size<=x)->Fr (blks vb) u u'->Blk u2 b10 [zI,zI,zI,v',vl] 41->Fr [b10] u' u2->SmI w1 b10 0 0 0 (VG P l at_ (i+1)) [] u2:=fun{br v' u' u2} hbr hB' hk' hf1 hb2 hf2=>by
   have hn':b10∉blks v':=fun hm=>(hk' _ hm).elim hbn Yid
   refine⟨v',vl,hb2,?_,?_,fun x hx=>⟨(hCd x hx).1,(hCd x hx).2.1,fun hm=>?_⟩,hn',hwb,?_⟩
   .rw [JcV,<-hn,<-hbr];exact⟨hB'.1.tr hf2 (fun x hx hm=>hn' Yia),hB'.2⟩
   .exact (hC.tr hf1 (fun x hx hm=>(hCd x hx).2.2 hm)).tr hf2 (fun x hx hm=>(hCd x hx).2.1 (List.mem_singleton.1 hm))
   .rcases hk' x hm with h|h
    .exact (hCd x hx).2.2 h
    .have:=hC.lt x hx;omega
   .exact (hF.trans hf1 (fun x hx=>.inr (hB.2 x hx))).trans hf2 (fun x hx=>.inr Yir)
  obtain⟨aob,cb,rfl⟩:=hB.1.slice;rw[hbl]at h10 hB1 hBlt hbn hCd fin hB;by_cases c1:0<P.reach.length/\0<n%17
  .obtain ⟨j,hj⟩:∃j:Nat,(j:Int)=n/17%P.reach.length:=⟨_,Int.toNat_of_nonneg (Int.emod_nonneg _ Yhn)⟩;have hjl:j<P.reach.length:=by
    have:=Int.emod_lt_of_pos (n/17) (show(0:Int)<P.reach.length by omega);omega
   have hbr:P.reach[j]=sbr P n:=by
    unfold sbr;rw[if_pos c1,<-hj,Int.toNat_natCast,getD_at hjl]
   obtain⟨c11,c12⟩:=c1;obtain⟨adr,hadr,hcr⟩:=JZ QN (DR.brs (hr.tr0 hFu)) hjl Yhy;obtain⟨adr0,hadr0,hcr0⟩:=JZ QN (DR.brs hr) hjl Yhy;subst hadr;cases hadr0
   have hcr:Cells u (adr.add (j*3)) [.string P.reach[j].decl,iV P.reach[j].at_,iV P.reach[j].arm]:=hcr;have hcrlt:=cell_lt (Jd6 hcr0);refine rx ?_;refine Kr 18 (fun z=>Fr (blks (Value.slice aob i cb)) u z) Yhp rfl ?_;obtain⟨u3,hu3⟩:=exq u.drew;rw[<-hu3];have hd3:Fr [] u u3:=hu3▸Fr.drew _ _;have hS:Fr (blks (Value.slice aob i cb)) u u3:=hd3.mono Yhs;have nq:q∉blks (Value.slice aob i cb):=fun hm=>by have:=hB.2 q hm;omega
   have nr:(adr.add (j*3)).block∉blks (Value.slice aob i cb):=fun hm=>by have:=hB.2 _ hm;omega
   ((refine Jp 0 hS ?_))
   refine Jp 1 hS ?_ (hrun:=(by intro u hu;exact(J7 rfl (Blk.cell (h10.tr hu hbn) rfl))))
   ((refine Jp 2 hS ?_);(refine Jp 3 hS ?_);(refine Jp 4 hS ?_))
   refine Jp 5 hS ?_ (hrun:=(by intro u hu;exact(J7 rfl (Blk.cell (hqu.tr hu nq) rfl))))
   ((refine Jp 6 hS ?_))
   refine Jp 7 hS ?_ (hrun:=(by intro u hu;exact(JiM rfl rfl Yhy (IntWalk.i64_quo _ _ Yhn))))
   ((refine Jp 8 hS ?_);(refine Jp 9 hS ?_);(refine Jp 10 hS ?_))
   refine Jp 11 hS ?_ (hrun:=(by intro u hu;exact(J7 rfl (Blk.cell (hqu.tr hu nq) rfl))))
   ((refine Jp 12 hS ?_))
   refine Jp 13 hS ?_ (hrun:=(by intro u hu;exact(JiL rfl rfl Yhn (Int.tmod_eq_emod_of_nonneg Yhn))));rw[<-hj]
   ((refine Jp 14 hS ?_))
   refine Jp 15 hS ?_ (hrun:=(by intro u hu;exact(Kv rfl (hcr.tr hu nr) Yik)));refine KH (i:=16) rfl Yhp ?_;refine JQ (c1:=brV P.reach[j]) rfl rfl rfl (fun u4 q4 hq4 ho4 hf4 hs4=>?_);have hS4:=hS.Jb hf4;refine wpList_nil (Xz hS4 ?_);refine KH (i:=17) rfl Yhp ?_;refine JC ((hB.1.tr0 hd3).tr0 hf4) rfl ho4.src rfl rfl (QD _) Yhv Yhn (fun v5 u5 ho5 hf7 hk7 _=>?_);have hS5:=hS4.trans hf7 (fun x hx=>.inl hx);have hv51:=ho5.one;have hs3:=hd3.size;refine wpList_nil (Xz hS5 ?_);refine KH (i:=18) rfl Yhp ?_;refine Ku rfl ?_;rw[add_lit];refine Ygp ?_;refine KH (i:=19) rfl Yhp ?_
   ((with_reducible apply Ji);exact rfl;(conv=>lhs;whnf);exact hv51;exact(h10.tr hS5 hbn);exact rfl)
   intro u6 hb6 hf8 hs8;replace hb6:Blk u6 b10 [zI,zI,zI,v5,vl] 41:=hb6;refine Yeu ?_;exact Ydw
  .have hbr:(⟨bst [111,116,104,101,114],n/17%3,n/51%2⟩:Br)=sbr P n:=by
    unfold sbr;rw[if_neg c1]
   have tl:∀{u':World},u'=u->True:=fun _=>trivial
   clear tl;by_cases c11:0<P.reach.length
   .have c12:¬0<n%17:=fun h=>c1 ⟨c11,h⟩
    refine rx ?_;exact Yq
   .refine rx ?_;exact Yq
 intro g u hI;obtain⟨m6,hm6⟩:=exq ((k%6).toNat);rw[<-hm6]at hI
 (repeat refine wp_seq ?_)
 refine KA ?_;refine Yfa ?_
 (repeat refine wp_seq ?_)
 refine KZ 11 [] (fun g u=>SmI w1 b10 0 0 0 (VG P l at_ m6) (Vx l at_ P.ncls) u) ?_ ?_
 .refine rx ?_;refine Jh 14 [13] (σ:=Nat) (fun i g u=>g 13=iV (i:Nat)/\i<=P.ncls/\SmI w1 b10 0 0 0 (VG P l at_ m6) (Vx l at_ i) u) (fun i=>P.ncls-i) 0 ⟨rfl,Nat.zero_le _,hI⟩ ?_;clear hI;rintro i g u ⟨g13,hi,hI⟩;rw[Ja g13];have hI0:=hI;obtain⟨vb,vl,h10,hB,hC,hCd,hbn,hwb,hF⟩:=hI;have hFu:=hf1.Jb hF;have hqu:=hb.tr0 hFu;by_cases hlt:i<P.ncls
  case neg=>
   have he:i=P.ncls:=by omega
   refine rx ?_;exact JK Yhl (by rw[<-he];exact hI0)
  refine rx ?_;refine Jg (pick _ l (at_+i+7) 3 u (hx.tr0 hFu) hl Yhy) ?_;rintro _ rfl;have hcl:=Bg (l:=l) (at_:=at_) (m:=i);have hC1:=hC.one;have hb10lt:=h10.lt;by_cases hz:pk l (at_+i+7) 3=0
  .refine rx ?_;refine QO (v:=iV (i:Nat)) rfl rfl (fun u4 ho4 hf4 hs4=>?_);refine rx ?_;refine JC (hC.tr0 hf4) rfl ho4.src rfl rfl Yhu Yhv Yhn (fun v5 u5 ho5 hf5 hk5 _=>?_);have hf45:Fr (blks vl) u u5:=(hf4.mono Yhs).trans hf5 (fun x hx=>.inl hx);have hv51:=ho5.one;have hk5':∀x∈blks v5,x∈blks vl\/u.heap.size<=x:=fun x hx=>(hk5 x hx).imp id Yid
   have h10':=h10.tr hf45 (fun hm=>(hCd b10 hm).2.1 rfl);have hBlt:=hB.1.lt;have hsu:=hF.size;refine rx ?_
   ((with_reducible apply Ji);exact rfl;(conv=>lhs;whnf);exact hv51;exact h10';exact rfl)
   intro u6 hb6 hf6 hs6;replace hb6:Blk u6 b10 [zI,zI,zI,vb,v5] 41:=hb6;refine rx ?_;refine Jc (i+1) Yhl ⟨rfl,hlt,vb,v5,hb6,⟨(hB.1.tr hf45 (fun x hx hm=>(hCd x hm).2.2 hx)).tr hf6 (fun x hx hm=>hbn Yia),hB.2⟩,?_,fun x hx=>⟨?_,?_,fun hm=>?_⟩,hbn,hwb,(hF.trans hf45 (fun x hx=>.inr (hCd x hx).1)).trans hf6 (fun x hx=>.inr Yir)⟩ Yhn
   .rw [LV,if_pos hz];have:=ho5.tr hf6 (fun x hx hm=>by
     rw[List.mem_singleton.1 hm]at hx;rcases hk5' b10 hx with h|h
     .exact (hCd b10 h).2.1 rfl
     .omega)
    exact Ydj
   .rcases hk5' x hx with h|h
    .exact (hCd x h).1
    .omega
   .rcases hk5' x hx with h|h
    .exact (hCd x h).2.1
    .omega
   .rcases hk5' x hx with h|h
    .exact (hCd x h).2.2 hm
    .have:=hBlt x hm;omega
  .refine rx ?_;refine Jc (i+1) Yhl ⟨rfl,hlt,?_⟩ Yhn;rw[LV,if_neg hz,List.append_nil];exact hI0
 clear hI;intro g u hI;refine wp_seq ?_;refine KZ 11 [] (fun g u=>SmI w1 b10 (sKd P k) (sAt P k) (if sKd P k=2 then 13 else 0) (VG P l at_ m6) (Vx l at_ P.ncls) u) ?_ ?_
 .have hI0:=hI;obtain⟨vb,vl,h10,hB,hC,hCd,hbn,hwb,hF⟩:=hI;have hqu:=hb.tr0 (hf1.Jb hF);have hB1:=hB.1.one;have hC1:=hC.one;by_cases c1:0<k/6%3
  case neg=>
   have e1:sKd P k=0:=by unfold sKd;rw[if_neg (fun h=>c1 h.1)]
   have e2:sAt P k=0:=by unfold sAt;rw[if_neg (fun h=>c1 h.1)]
   rw[e1,e2];refine rx ?_;exact Yhi
  by_cases c2:0<P.checks
  case neg=>
   have e1:sKd P k=0:=by unfold sKd;rw[if_neg (fun h=>c2 h.2)]
   have e2:sAt P k=0:=by unfold sAt;rw[if_neg (fun h=>c2 h.2)]
   rw[e1,e2];refine rx ?_;exact Yhi
  have e1:sKd P k=k/6%3:=by unfold sKd;rw[if_pos ⟨c1,c2⟩]
  have e2:sAt P k=k/18%P.checks:=by unfold sAt;rw[if_pos ⟨c1,c2⟩]
  rw[e1,e2];obtain⟨kd,hkd⟩:=exq (k/6%3);refine rx ?_;rw[<-hkd]at c1 ⊢;obtain⟨ca,hca⟩:=exq (k/18%(P.checks:Int));rw[<-hca];refine JF [iV kd,iV ca,zI] rfl ?_;refine rx ?_;refine Jt (cs:=[iV kd,iV ca,zI]) rfl rfl h10 Yhu (Nat.le_of_ble_eq_true rfl) rfl (fun u6 hb6 hf6 hs6=>?_);replace hb6:Blk u6 b10 [iV kd,iV ca,zI,vb,vl] 41:=hb6;have hI1:SmI w1 b10 kd ca 0 (VG P l at_ m6) (Vx l at_ P.ncls) u6:=⟨vb,vl,hb6,⟨hB.1.tr hf6 (fun x hx hm=>hbn Yia),hB.2⟩,hC.tr hf6 (fun x hx hm=>(hCd x hx).2.1 (List.mem_singleton.1 hm)),hCd,hbn,hwb,hF.trans hf6 (fun x hx=>.inr Yir)⟩;by_cases c3:kd=2
  .rw [if_pos c3];refine rx ?_
   ((with_reducible apply Ji);exact rfl;(conv=>lhs;whnf);exact rfl;exact hb6;exact rfl)
   intro u7 hb7 hf7 hs7;refine rx ?_;refine JK Yhl ⟨vb,vl,hb7,⟨(hB.1.tr hf6 (fun x hx hm=>hbn Yia)).tr hf7 (fun x hx hm=>hbn Yia),hB.2⟩,(hC.tr hf6 (fun x hx hm=>(hCd x hx).2.1 (List.mem_singleton.1 hm))).tr hf7 (fun x hx hm=>(hCd x hx).2.1 (List.mem_singleton.1 hm)),hCd,hbn,hwb,(hF.trans hf6 (fun x hx=>.inr Yir)).trans hf7 (fun x hx=>.inr Yir)⟩
  .rw [if_neg c3];refine rx ?_;exact JK Yhl hI1
 clear hI;intro g u hI;obtain⟨cd,hcd⟩:∃c:Int,c=if sKd P k=2 then 13 else 0:=⟨_,rfl⟩
 rw[<-hcd]at hI;have hat:0<=sAt P k/\sAt P k<=1000000:=by
  unfold sAt
  split
  .rename_i h;have h1:=Int.emod_nonneg (k/18) (show(P.checks:Int)≠0 by omega);have h2:=Int.emod_lt_of_pos (k/18) (show(0:Int)<P.checks by omega);omega
  .omega
 refine wp_seq ?_;refine KZ 11 [] (fun g u=>SmI w1 b10 (sKd P k) (if bad=true/\k/100%5=0 then sAt P k+k/500%5-2 else sAt P k) cd (VG P l at_ m6) (Vx l at_ P.ncls) u) ?_ ?_
 .cases hbad:bad with
  |false=>
   rw[if_neg (fun h=>by cases h.1)];refine rx ?_;exact Yhj
  |true=>
  by_cases c1:k/100%5=0
  case neg=>
   rw[if_neg (fun h=>c1 h.2)];refine rx ?_;exact Yhj
  exact Yv
 clear hI;intro g u hI;obtain⟨at2,hat2⟩:∃c:Int,c=if bad=true/\k/100%5=0 then sAt P k+k/500%5-2 else sAt P k:=⟨_,rfl⟩
 rw[<-hat2]at hI;refine wp_seq ?_;refine KZ 11 [] (fun g u=>SmI w1 b10 (if bad=true/\k/100%5=1 then k/500%6-1 else sKd P k) at2 cd (VG P l at_ m6) (Vx l at_ P.ncls) u) ?_ ?_
 .cases hbad:bad with
  |false=>
   rw[if_neg (fun h=>by cases h.1)];refine rx ?_;exact Yhj
  |true=>
  by_cases c1:k/100%5=1
  case neg=>
   rw[if_neg (fun h=>c1 h.2)];refine rx ?_;exact Yhj
  exact Yv
 clear hI;intro g u hI;obtain⟨kd2,hkd2⟩:∃c:Int,c=if bad=true/\k/100%5=1 then k/500%6-1 else sKd P k:=⟨_,rfl⟩
 rw[<-hkd2]at hI;refine wp_seq ?_;refine KZ 11 [] (fun g u=>SmI w1 b10 kd2 at2 cd (VG P l at_ m6) (Vx l at_ P.ncls++(if bad=true/\k/100%5=2 then[k/500%4-1] else[])) u) ?_ ?_
 .cases hbad:bad with
  |false=>
   rw[if_neg (fun h=>by cases h.1),List.append_nil];refine rx ?_;exact Yhj
  |true=>
  by_cases c1:k/100%5=2
  case neg=>
   rw[if_neg (fun h=>c1 h.2),List.append_nil];refine rx ?_;exact Yhj
  rw[if_pos ⟨rfl,c1⟩];obtain⟨vb,vl,h10,hB,hC,hCd,hbn,hwb,hF⟩:=hI;have hB1:=hB.1.one;have hC1:=hC.one;have hcl:=Bg (l:=l) (at_:=at_) (m:=P.ncls);have hBlt:=hB.1.lt;have hsu:=hF.size;have hb10lt:=h10.lt;refine rx ?_;refine QO (v:=iV (k/500%4-1)) rfl rfl (fun u4 ho4 hf4 hs4=>?_);refine rx ?_;refine JC (hC.tr0 hf4) rfl ho4.src rfl rfl Yhu Yhv Yhn (fun v5 u5 ho5 hf5 hk5 _=>?_);have hf45:Fr (blks vl) u u5:=(hf4.mono Yhs).trans hf5 (fun x hx=>.inl hx);have hv51:=ho5.one;have hk5':∀x∈blks v5,x∈blks vl\/u.heap.size<=x:=fun x hx=>(hk5 x hx).imp id Yid
  have h10':=h10.tr hf45 (fun hm=>(hCd b10 hm).2.1 rfl);refine rx ?_
  ((with_reducible apply Ji);exact rfl;(conv=>lhs;whnf);exact hv51;exact h10';exact rfl)
  intro u6 hb6 hf6 hs6;replace hb6:Blk u6 b10 [iV kd2,iV at2,iV cd,vb,v5] 41:=hb6;refine rx ?_;refine JK Yhl ⟨vb,v5,hb6,⟨(hB.1.tr hf45 (fun x hx hm=>(hCd x hm).2.2 hx)).tr hf6 (fun x hx hm=>hbn Yia),hB.2⟩,?_,fun x hx=>⟨?_,?_,fun hm=>?_⟩,hbn,hwb,(hF.trans hf45 (fun x hx=>.inr (hCd x hx).1)).trans hf6 (fun x hx=>.inr Yir)⟩
  .have:=ho5.tr hf6 (fun x hx hm=>by
    rw[List.mem_singleton.1 hm]at hx;rcases hk5' b10 hx with h|h
    .exact (hCd b10 h).2.1 rfl
    .omega)
   exact Ydj
  .rcases hk5' x hx with h|h
   .exact (hCd x h).1
   .omega
  .rcases hk5' x hx with h|h
   .exact (hCd x h).2.1
   .omega
  .rcases hk5' x hx with h|h
   .exact (hCd x h).2.2 hm
   .have:=hBlt x hm;omega
 clear hI;intro g u hI;have hR:XW P l at_ bad=⟨kd2,at2,cd,VG P l at_ m6,Vx l at_ P.ncls++(if bad=true/\k/100%5=2 then[k/500%4-1] else[])⟩:=by
  unfold XW;rw[<-hk,hkd2,hat2,hcd,hm6]
 rw[hR];obtain⟨vb,vl,h10,hB,hC,hCd,hbn,hwb,hF⟩:=hI;have h8u:=h8w.tr0 hF;have hB1:=hB.1.one;have hC1:=hC.one;refine rx ?_;refine Jd (cs:=[iV kd2,iV at2,iV cd,vb,vl]) rfl rfl h8u Yis rfl rfl (fun u6 hb6 hf6 hs6=>?_);refine rx ?_;refine Qc rfl rfl hb6 rfl ⟨vb,vl,rfl,⟨hB.1.tr hf6 (fun x hx hm=>?_),fun x hx=>?_⟩,hC.tr hf6 (fun x hx hm=>?_),fun x hx=>?_,(hf1.Jb hF).trans hf6 (fun x hx=>.inr Yhq)⟩
 .have:=hB.2 x hx;rw[List.mem_singleton.1 hm]at this;omega
 .have:=hB.2 x hx;omega
 .have:=(hCd x hx).1;rw[List.mem_singleton.1 hm]at this;omega
 .have:=(hCd x hx).1;omega
end Go.Proofs.YtggmccicdhnkgaaGreat
namespace Go.Rf
open Go.RowKit
theorem JfA{P:Program}{n:Nat}{f:Env}{w:World}{d:Nat}{ty:TypeId}{ps:String}{af:Array Edge}{gd:Option (Nat×Bool)}{x:Operand}{t k e size b o:Nat}[R:ArrT P t k e size](hx:ev n f x=.pointer (some ⟨b,o,none⟩)):
 (execOp (ev n f) ⟨some d,.slice t x none none none,ty,ps,af,gd⟩).run P w=.ok (.value (.slice (some ⟨b,o,none⟩) k k)) w:=by
 obtain⟨i,hi,hs⟩:=R.inf;have e0:(⟨b,o,none⟩:Addr).add 0=⟨b,o,none⟩:=add0 _;simp[execOp,hx,Instr.sliceAt,Instr.sureAddr,run_underlying R.u,Instr.sliceBounds,sizeOf,typeInfo,hi,e0]
def ctV(cnt:Br->Nat)(b:Br):List Value:=brV b++[iV (cnt b:Nat)]
theorem Jjj(cnt:Br->Nat)(b:Br):(ctV cnt b).length=4:=rfl
theorem JhK(cnt:Br->Nat)(b:Br):∀v∈ctV cnt b,v.oneCell'=true:=by simp[ctV,brV,Value.oneCell']
theorem Jfd{w:World}{b t o m:Nat}{l ys:List Value}(h:Blk w b l t)(hl:∀j u,ys[j]?=some u->l[o+j]?=some u):Src w (.slice (some ⟨b,o,none⟩) m m) m ys:=by
 refine⟨some ⟨b,o,none⟩,m,rfl,Nat.le_refl _,fun h=>Yiw,fun ad e j u hj=>?_⟩;cases e
 rw[add_lit];exact h.cell (hl j u hj)
end Go.Rf
namespace Go.Proofs.YtggmccicdhnkgaaGreat
open Go.Proofs.Tryz
open Go.Rf Go.RowKit
attribute [local irreducible] Code.wp wpList Exit.then Exit.inBlock bodyPost A Calls execOp Addr.add
def Jk2(w0 w:World)(P:Pp)(s:St)(cs:List Value):Prop:=∃vk vc vo,cs=[iV (s.runs:Nat),vk,iV (s.ps.length:Nat),vc,vo]/\
 Own w 52 4 vk s.ks.length (s.ks.flatMap (ctV s.cnt))/\Own w 3 1 vc s.cls.length (Vk s.cls)/\Own w 3 1 vo 3 (Vk [s.o 0,s.o 1,s.o 2])/\(∀x,x∈blks vk\/x∈blks vc\/x∈blks vo->w0.heap.size<=x)
set_option maxHeartbeats 32000000 in
theorem JkD{p:Nat}{M R:List Nat}{P:Pp}{s:St}(w:World)(hC:Wj w p M R P s)(hn:s.cls.length<=1000000)(hk:s.ks.length<=1000000):
 Calls prog 17 #[.pointer (some ⟨p,0,none⟩)] w fun e w'=>∃cs,e=.returned (.agg cs.toArray)/\cs.length=5/\Jk2 w w' P s cs/\Fr [] w w':=by
 obtain⟨bb,pb,vr,vc,mb,mp,rfl,rfl,hnd,hb,hr,hc,hmb,hrb,hmp,hrp,hok⟩:=hC;obtain⟨aoc,cc,rfl⟩:=hc.slice;have hlp:mp.length=s.ps.length:=GI Qy hmp.nd hok.pasc (fun a=>hrp.keys);have hlb:mb.length=s.ks.length:=GI Qu hmb.nd hok.kasc (fun a=>hrb.keys.trans (hok.cnt a));refine enter func17 rfl ntmps17 rfl ?_;refine rx ?_;refine Jm (l:=[zI,zS,zI,zS,zS]) rfl (fun w1 b2 hb2 h2 hf1 hs1=>?_);have hb1:=hb.tr0 hf1;have hmp1:=hmp.tr0 hf1;refine rx ?_;refine KZ 3 [3] (fun g u=>∃b3 vc vo,g 3=.pointer (some ⟨b3,0,none⟩)/\Blk u b3 [iV (s.runs:Nat),zS,iV (s.ps.length:Nat),vc,vo] 47/\Own u 3 1 vc s.cls.length (Vk s.cls)/\Own u 3 1 vo 3 (Vk [s.o 0,s.o 1,s.o 2])/\w1.heap.size<=b3/\(∀x∈blks vc++blks vo,w1.heap.size<=x/\x≠b3)/\Fr [] w1 u) ?_ ?_
 . (refine JE (fun z=>Fr [] w1 z) Yhp rfl ?_)
   obtain⟨u,hu⟩:=exq w1.drew;rw[<-hu];have hS:Fr [] w1 u:=hu▸Fr.drew _ _;have hz:=hS.size;refine Jj 0 1 2 3 hS ?_;refine Jj 4 5 6 7 hS ?_;refine Kw 8 hS ?_ (hrun:=by(intro u hu;exact(JfF rfl (hmp1.tr0 hu))));refine Jj 10 11 12 13 hS ?_;refine JX 16 17 hS ?_;refine d_z 18 hS ?_;refine Kw 19 hS ?_ (hrun:=by(intro u hu;exact(JfA rfl)));refine XJ (i:=9) (j:=15) (k:=22) rfl rfl rfl Yhp ?_ ?_ ?_
   .obtain ⟨bA,hbA⟩:=exq u.heap.size;refine Qr (fun u hA hf hsA=>?_);rw[<-hbA]at hA ⊢;have hAi:In (blks (Value.slice (some ⟨bA,0,none⟩) 0 0)) bA u.heap.size:=fun x hx=>by simp[blks,Value.ownBlock]at hx;omega
    have hz:=hf.size;have hS:=hS.Jb hf;clear hf;refine Yfz ?_;refine XJ (i:=14) (j:=15) (k:=22) rfl rfl rfl Yhp ?_ ?_ ?_
    .obtain ⟨n14,hn14⟩:=exq u.heap.size;refine JC hA rfl ((hc.src.tr0 hf1).tr0 hS) rfl Ykf (WX _) Yhv Yhn (fun vc1 u hC hf hkC _=>?_);rw[List.nil_append,Nat.zero_add]at hC;have hS:Fr [] w1 u:=hS.trans hf (fun x hx=>.inr (by have:=hAi x hx;omega));have hCi:∀x∈blks vc1,w1.heap.size<=x/\x<u.heap.size/\(x<n14->x∈blks (Value.slice (some ⟨bA,0,none⟩) 0 0)):=fun x hx=>⟨(hkC x hx).elim Yki Yid,hC.lt x hx,fun h1=>(hkC x hx).elim id Yid⟩
     have hz:=hf.size;clear hf;refine Yfz ?_;refine Xt (i:=15) (j:=22) rfl rfl Yhp ?_ ?_
     .obtain ⟨bE,hbE⟩:=exq u.heap.size;refine Qr (fun u hE hf hsE=>?_);rw[<-hbE]at hE ⊢;have hEi:In (blks (Value.slice (some ⟨bE,0,none⟩) 0 0)) bE u.heap.size:=fun x hx=>by simp[blks,Value.ownBlock]at hx;omega
      have hC:=hC.tr0 hf;have hz:=hf.size;have hS:=hS.Jb hf;exact Ydm
     .obtain ⟨bB,hbB⟩:=exq u.heap.size;refine WM (l:=[zI,zS,zI,zS,zS]) rfl (fun u hB hf hsB=>?_);rw[<-hbB]at hB ⊢;have hC:=hC.tr0 hf;have hz:=hf.size;have hS:=hS.Jb hf;exact Yek
    .obtain ⟨bE,hbE⟩:=exq u.heap.size;refine Qr (fun u hE hf hsE=>?_);rw[<-hbE]at hE ⊢;have hEi:In (blks (Value.slice (some ⟨bE,0,none⟩) 0 0)) bE u.heap.size:=fun x hx=>by simp[blks,Value.ownBlock]at hx;omega
     have hA:=hA.tr0 hf;exact Yec
    .obtain ⟨bB,hbB⟩:=exq u.heap.size;refine WM (l:=[zI,zS,zI,zS,zS]) rfl (fun u hB hf hsB=>?_);rw[<-hbB]at hB ⊢;have hA:=hA.tr0 hf;exact Yej
   .obtain ⟨bE,hbE⟩:=exq u.heap.size;refine Qr (fun u hE hf hsE=>?_);rw[<-hbE]at hE ⊢;have hEi:In (blks (Value.slice (some ⟨bE,0,none⟩) 0 0)) bE u.heap.size:=fun x hx=>by simp[blks,Value.ownBlock]at hx;omega
    have hz:=hf.size;have hS:=hS.Jb hf;clear hf;refine Yfz ?_;refine Xt (i:=9) (j:=22) rfl rfl Yhp ?_ ?_
    .obtain ⟨bA,hbA⟩:=exq u.heap.size;refine Qr (fun u hA hf hsA=>?_);rw[<-hbA]at hA ⊢;have hAi:In (blks (Value.slice (some ⟨bA,0,none⟩) 0 0)) bA u.heap.size:=fun x hx=>by simp[blks,Value.ownBlock]at hx;omega
     have hE:=hE.tr0 hf;exact Yec
    .obtain ⟨bB,hbB⟩:=exq u.heap.size;refine WM (l:=[zI,zS,zI,zS,zS]) rfl (fun u hB hf hsB=>?_);rw[<-hbB]at hB ⊢;have hE:=hE.tr0 hf;exact Yel
   .obtain ⟨bB,hbB⟩:=exq u.heap.size;refine WM (l:=[zI,zS,zI,zS,zS]) rfl (fun u hB hf hsB=>?_);rw[<-hbB]at hB ⊢;have hz:=hf.size;have hS:=hS.Jb hf;clear hf;refine Yfz ?_;refine Xt (i:=9) (j:=15) rfl rfl Yhp ?_ ?_
    .obtain ⟨bA,hbA⟩:=exq u.heap.size;refine Qr (fun u hA hf hsA=>?_);rw[<-hbA]at hA ⊢;have hAi:In (blks (Value.slice (some ⟨bA,0,none⟩) 0 0)) bA u.heap.size:=fun x hx=>by simp[blks,Value.ownBlock]at hx;omega
     have hB:=hB.tr0 hf;exact Yej
    .obtain ⟨bE,hbE⟩:=exq u.heap.size;refine Qr (fun u hE hf hsE=>?_);rw[<-hbE]at hE ⊢;have hEi:In (blks (Value.slice (some ⟨bE,0,none⟩) 0 0)) bE u.heap.size:=fun x hx=>by simp[blks,Value.ownBlock]at hx;omega
     have hB:=hB.tr0 hf;exact Yel
 rintro g w2 ⟨b3,vc,vo,g3,hb3,hcl,hou,hb3w,hvw,hF2⟩;rw[Ja g3];clear g3;have hFw:=hf1.Jb hF2;have h2:=h2.tr0 hF2;have hbu:=hb.tr0 hFw;have hmu:=hmb.tr0 hFw;have hsw:=hFw.size;have hs12:=hF2.size;refine rx ?_;refine Jl (JbB mb bb w2 hmu Yhn) ?_;rintro vq w3 ⟨hBq,hf3⟩;rw[Uw Qu hok.kasc (fun a=>hrb.keys.trans (hok.cnt a))]at hBq;obtain⟨aoq,cq,rfl⟩:=hBq.1.slice;have hqge:=hBq.2;have hqlt:=hBq.1.lt;have hb3lt2:=hb3.lt;have hb3:=hb3.tr0 hf3;have h2:=h2.tr0 hf3;have hcl:=hcl.tr0 hf3;have hou:=hou.tr0 hf3;have hFw3:=hFw.Jb hf3;have hbu:=hbu.tr0 hf3;have hmu:=hmu.tr0 hf3;have hs23:=hf3.size;have hclt:=hcl.lt;have holt:=hou.lt;have hb3lt:=hb3.lt;have hc1:=hcl.one;have ho1:=hou.one;refine rx ?_;refine Jh 34 [5] (σ:=Nat×Value) (fun t g u=>g 34=iV (t.1:Nat)/\t.1<=s.ks.length/\Blk u b3 [iV (s.runs:Nat),t.2,iV (s.ps.length:Nat),vc,vo] 47/\Own u 52 4 t.2 t.1 ((s.ks.take t.1).flatMap (ctV s.cnt))/\(∀x∈blks t.2,x=b3\/w3.heap.size<=x)/\b3∉blks t.2/\∃T,Fr T w3 u/\∀x∈T,x=b3\/w3.heap.size<=x) (fun t=>s.ks.length-t.1) (0,zS) ⟨rfl,Nat.zero_le _,hb3,Own.nil _ _ _,by simp[blks,Value.ownBlock],by simp[blks,Value.ownBlock],[],Fr.refl _ _,by simp⟩ ?_;clear hb3;rintro⟨i,vk⟩ g u ⟨g34,hi,hb3,hok4,hkb,hk3,T,hFT,hT⟩;simp only at g34 hi hb3 hok4 hkb hk3;rw[Ja g34];have hsu:=hFT.size;have hk1:=hok4.one;have hklt:=hok4.lt;have hTn:∀x,x<w3.heap.size->x≠b3->x∉T:=fun x h1 h2 hm=>(hT x hm).elim h2 Yid
 have hFwu:Fr [] w u:=hFw3.trans hFT (fun x hx=>.inr (by rcases hT x hx with h|h<;>omega));have hclu:=hcl.tr hFT (fun x hx=>hTn x (hclt x hx) (hvw x (List.mem_append_left _ hx)).2);have houu:=hou.tr hFT (fun x hx=>hTn x (holt x hx) (hvw x (List.mem_append_right _ hx)).2);by_cases hlt:i<s.ks.length
 case neg=>
  have h2:=h2.tr hFT (hTn b2 Yhn Yhn);refine rx ?_;refine Jd (cs:=[iV (s.runs:Nat),vk,iV (s.ps.length:Nat),vc,vo]) rfl rfl h2 Yis rfl rfl (fun u1 h2' hf5 hs5=>?_);refine rx ?_;rw[List.take_of_length_le Yhn]at hok4;obtain rfl:i=s.ks.length:=by omega
  have hne2:∀x∈blks vk,x∉[b2]:=fun x hx hm=>by rw[List.mem_singleton.1 hm]at hx;rcases hkb b2 hx with h|h<;>omega
  have hne3:∀x∈blks vc++blks vo,x∉[b2]:=fun x hx hm=>by have:=(hvw x hx).1;rw[List.mem_singleton.1 hm]at this;omega
  refine Qc rfl rfl h2' rfl ?_;refine⟨_,rfl,rfl,⟨vk,vc,vo,rfl,hok4.tr hf5 hne2,hclu.tr hf5 (fun x hx=>hne3 x (List.mem_append_left _ hx)),houu.tr hf5 (fun x hx=>hne3 x (List.mem_append_right _ hx)),fun x hx=>?_⟩,hFwu.trans hf5 (fun x hx=>.inr Yhq)⟩;rcases hx with hx|hx|hx
  .rcases hkb x hx with h|h<;>omega
  .have:=(hvw x (List.mem_append_left _ hx)).1;omega
  .have:=(hvw x (List.mem_append_right _ hx)).1;omega
 obtain⟨adq,hadq,hcq⟩:=JZ QN (hBq.1.src.tr hFT (fun ad n c e _=>by
  cases e
  have h1:=hqge ad.block Yic;have h2:=hqlt ad.block Yic;exact hTn _ h2 Yhn)) hlt Yhy
 subst hadq;have hcq:Cells u (adq.add (i*3)) [.string s.ks[i].decl,iV s.ks[i].at_,iV s.ks[i].arm]:=hcq;have hbp:p<w.heap.size:=hb.lt;have hbbl:bb<w.heap.size:=hmb.lt;have hbu:=hbu.tr hFT (hTn p Yhn Yhn);have hmu:=hmu.tr hFT (hTn bb Yhn Yhn);refine rx ?_;refine Jm (l:=[zT,zI,zI]) rfl (fun u1 b5 hb5 h5 hf5 hs5=>?_);refine rx ?_;refine Jd (cs:=brV s.ks[i]) rfl rfl h5 (QD _) rfl rfl (fun u2 h5 hf6 hs6=>?_);replace h5:Blk u2 b5 [.string s.ks[i].decl,iV s.ks[i].at_,iV s.ks[i].arm] _:=h5;have hF2:Fr [] u u2:=hf5.trans hf6 (fun x hx=>.inr Yhq);have hb3:=hb3.tr0 hF2;have hok4:=hok4.tr0 hF2;have hbu:=hbu.tr0 hF2;have hmu:=hmu.tr0 hF2;have hsu2:=hF2.size;obtain⟨aok,ck,rfl⟩:=hok4.slice;refine rx ?_;refine Kr 12 (fun z=>Fr (blks (Value.slice aok i ck)) u2 z) Yhp rfl ?_;obtain⟨u3,hu3⟩:=exq u2.drew;rw[<-hu3];have hd3:Fr [] u2 u3:=hu3▸Fr.drew _ _;have hS:Fr (blks (Value.slice aok i ck)) u2 u3:=hd3.mono Yhs;have n3:b3∉blks (Value.slice aok i ck):=hk3;have n5:b5∉blks (Value.slice aok i ck):=fun hm=>by have:=hklt b5 hm;omega
 have np:p∉blks (Value.slice aok i ck):=fun hm=>by rcases hkb p hm with h|h<;>omega
 have nbb:bb∉blks (Value.slice aok i ck):=fun hm=>by rcases hkb bb hm with h|h<;>omega
 ((refine Jp 0 hS ?_))
 refine Jp 1 hS ?_ (hrun:=(by intro u hu;exact(J7 rfl (Blk.cell (hb3.tr hu n3) rfl))));refine Jp 2 hS ?_ (hrun:=(by intro u hu;exact(Kv rfl (Cells.VO (h5.tr hu n5)) Yik)))
 ((refine Jp 3 hS ?_);(refine Jp 4 hS ?_);(refine Jp 5 hS ?_))
 refine Jp 6 hS ?_ (hrun:=(by intro u hu;exact(J7 rfl (Blk.cell (hbu.tr hu np) rfl))));refine Jp 7 hS ?_ (hrun:=(by intro u hu;exact(Kv rfl (Cells.VO (h5.tr hu n5)) Yik)));refine Jp 8 hS ?_ (hrun:=(by intro u hu;refine(JdF (P:=prog) (t:=122) (a:=s.ks[i]) ?_ ?_ (hmu.tr hu nbb) hrb);exact rfl;exact rfl));refine Jp (v:=.agg ((ctV s.cnt s.ks[i])).toArray) 9 hS ?_ (hrun:=(by(intro u hu;exact QU ((ctV s.cnt s.ks[i])) Yik)));refine Ygo ?_;refine JQ (c1:=ctV s.cnt s.ks[i]) rfl rfl rfl (fun u4 q4 hq4 ho4 hf4 hs4=>?_);have hS4:=hS.Jb hf4;refine wpList_nil (Xz hS4 ?_);refine KH (i:=11) rfl Yhp ?_;refine JC ((hok4.tr0 hd3).tr0 hf4) rfl ho4.src rfl rfl (JhK _ _) Yhv Yhn (fun v5 u5 ho5 hf7 hk7 _=>?_);have hS5:=hS4.trans hf7 (fun x hx=>.inl hx);have hv51:=ho5.one;have hs3:=hd3.size;have hs5:=hf7.size;refine wpList_nil (Xz hS5 ?_);refine KH (i:=12) rfl Yhp ?_;refine Ku rfl ?_;rw[add_lit];refine Ygp ?_;refine KH (i:=13) rfl Yhp ?_
 ((with_reducible apply Ji);exact rfl;(conv=>lhs;whnf);exact hv51;exact(hb3.tr hS5 n3);exact rfl)
 intro u6 hb6 hf8 hs8;replace hb6:Blk u6 b3 [iV (s.runs:Nat),v5,iV (s.ps.length:Nat),vc,vo] _:=hb6;refine Yet ?_;have hk7':∀x∈blks v5,(x=b3\/w3.heap.size<=x)/\x≠b3:=fun x hx=>by
  rcases hk7 x hx with h|h
  .exact ⟨hkb x h,fun e=>hk3 (e▸h)⟩
  .exact ⟨.inr Yhn,by omega⟩
 refine Jc (i+1,v5) Yhl ⟨rfl,hlt,hb6,?_,fun x hx=>(hk7' x hx).1,fun hm=>(hk7' b3 hm).2 rfl,T++blks (Value.slice aok i ck)++[b3],?_,?_⟩ Yhw
 .simp only;rw[KP hlt];exact ho5.tr hf8 (fun x hx hm=>(hk7' x hx).2 (List.mem_singleton.1 hm))
 .have h1:Fr (T++blks (Value.slice aok i ck)++[b3]) w3 u:=hFT.mono (fun x hx=>.inl Yix);have h2:=(h1.Jb hF2).trans hS5 (fun x hx=>.inl Yix);exact h2.trans hf8 (fun x hx=>.inl (by simp[List.mem_singleton.1 hx]))
 .intro x hx;simp only[List.mem_append,List.mem_singleton]at hx;rcases hx with(hx|hx)|hx
  .exact hT x hx
  .exact hkb x hx
  .exact .inl hx
end Go.Proofs.YtggmccicdhnkgaaGreat
namespace Go.Rf
open Go.RowKit
variable{af:Array Edge}{f:Env}{l:List Br}{S:List Nat}{d n tb:Nat}{x:Operand}{P:Program}{ps:String}{u w:World}
theorem JaO{ty:TypeId}{gd:Option (Nat×Bool)}{o:Operand}{t:Nat}{ao:Option Addr}{l c e size by_ j:Nat}{kk:IntKind}[R:RowT P t e size by_](hx:ev n f x=.slice ao l c)(ho:ev n f o=.int kk (j:Int))(hj:j<=l)(hl:l<=c):
 (execOp (ev n f) ⟨some d,.slice t x (some o) none none,ty,ps,af,gd⟩).run P w=.ok (.value (.slice (if c=j then ao else ao.map (·.add (j*size))) (l-j) (c-j))) w:=by
 exact Ycd
theorem JbP{ty:TypeId}{gd:Option (Nat×Bool)}{v:Value}(hx:ev n f x=v):(execOp (ev n f) ⟨some d,.assign x,ty,ps,af,gd⟩).run P w=.ok (.value v) w:=by simp[execOp,hx]
theorem L8{ds:List De}(hz:∀d∈ds,SzD d):∀(f:Nat) (s:List ByteArray×List De),(∀d∈s.2,d∈ds)->(KD ds f s).length<=f*11000
 |0,_,_=>by simp[KD]
 |f+1,(seen,[]),_=>by simp[KD]
 |f+1,(seen,d::q),h=>by
  have h1:=L8 hz f ((Js (Jw d)).foldl (Xy ds) (seen,q)) (WO (fun x hx=>h x (by simp at hx ⊢;exact .inr hx)));have h2:=(hz d (h d Yhs)).brs;rw[KD,List.length_append];omega
theorem Jex{ds:List De}{nm:ByteArray}(hz:∀d∈ds,SzD d):(JM ltB (KX ds nm)).length<=(ds.length+2)*11000:=by
 have h:=KQ (lt:=ltB) (l:=KX ds nm);refine Nat.le_trans h ?_;unfold KX;cases hr:QF ds nm with
 |none=>simp
 |some d=>exact L8 hz _ _ (fun x hx=>by rw[List.mem_singleton.1 hx];exact List.mem_of_find?_eq_some hr)
theorem ZO{v:Value}(h:Own u tb 3 v l.length (l.flatMap brV))(hl:l.length<=1000000000000)(hS:∀x∈blks v,x∉S):DR u S (.l (l.map brC)) v:=by
 refine DR.ofTyped (k:=3) (fun _=>rfl) hl ⟨l.flatMap brV,h.src,fun ad n c e _ hm=>?_,?_⟩
 .subst e;exact hS ad.block Yic hm
 .clear h hl;exact Ycr
theorem Jfc{v:Value}(h:Src u v l.length (l.flatMap brV))(hl:l.length<=1000000000000)(hS:∀x∈blks v,x∉S):DR u S (.l (l.map brC)) v:=by
 refine DR.ofTyped (k:=3) (fun _=>rfl) hl ⟨l.flatMap brV,h,fun ad n c e _ hm=>?_,?_⟩
 .subst e;exact hS ad.block Yic hm
 .clear h hl;exact Ycr
theorem Jgd{l:List Int}{v:Value}(h:Own u tb 1 v l.length (l.map (Value.int .i64)))(hl:l.length<=1000000000000)(hS:∀x∈blks v,x∉S):DR u S (.l (l.map KI)) v:=by
 refine DR.ofTyped (k:=1) (fun _=>rfl) hl ⟨l.map (Value.int .i64),h.src,fun ad n c e _ hm=>?_,?_⟩
 .subst e;exact hS ad.block Yic hm
 .clear h hl
  induction l with
  |nil=>exact .nil
  |cons a l ih=>exact Rws.cons (cs:=[.int .i64 a]) (RD.c1 rfl .nil) ih
def eB(n:Int):Ex:=⟨1,bst [],n,[],[],[],0⟩
def eI:Ex:=⟨6,bst [],0,[],[],[eB 1,eB 1,eB 0],0⟩
def dP:De:=⟨3,bst [112],0,[],[],⟨0,bst [],[]⟩,⟨0,bst [],0,[],[],[],0⟩,0,⟨0,bst [],[],[],[],0⟩,[],[⟨bst [99],eI⟩],[],[],⟨0,bst [],[]⟩,⟨0,bst [],0,[],[],[],0⟩,[],[],⟨0,bst [],0,[],[],[],0⟩⟩
def bP(i:Int):Br:=⟨bst [112],0,i⟩
theorem Jfw:JM ltB (KX [dP] (bst [112]))=[bP 0,bP 1]:=by
 have h1:QF [dP] (bst [112])=some dP:=by unfold QF;simp[dP]
 have h2:KX [dP] (bst [112])=[bP 0,bP 1]:=by
  unfold KX;rw[h1];rfl
 rw[h2];refine BP Qu ?_ (fun y=>Iff.rfl);have:ltB (bP 0) (bP 1)=true:=by
  unfold ltB Qe;simp[bP,XK,LP,VY]
 simpa[Asc]using this
theorem szP:∀d∈[dP],SzD d:=fun d hd=>by
 rw[List.mem_singleton.1 hd];refine⟨by decide,by decide,by decide,by decide,by decide⟩
end Go.Rf
namespace Go.Proofs.YtggmccicdhnkgaaGreat
open Go.Proofs.Tryz
open Go.Rf Go.RowKit
attribute [local irreducible] Code.wp wpList Exit.then Exit.inBlock bodyPost A Calls execOp Addr.add
theorem Jj6(k a c:Int){aob aol:Option Addr}{nb cb nl cl:Nat}(vb vl:Value)(w:World)(hvb:vb=.slice aob nb cb)(hvl:vl=.slice aol nl cl):
 Calls prog 13 #[.agg ([iV k,iV a,iV c,vb,vl]:List Value).toArray] w fun e w'=>e=.returned (.agg ([iV k,iV a,iV c,vb,vl,zI]:List Value).toArray)/\Fr [] w w':=by
 subst hvb hvl;refine enter func13 rfl ntmps13 rfl ?_;refine rx ?_;refine Gg (l:=[iV k,iV a,iV c,.slice aob nb cb,.slice aol nl cl]) rfl rfl (fun w1 h1 hf1 hs1=>?_);refine rx ?_;refine Jm (l:=[zI,zI,zI,zS,zS,zI]) rfl (fun w2 b2 hb2 h2 hf2 hs2=>?_);have h1:=h1.tr0 hf2;refine rx ?_;refine JF [iV k,iV a,iV c,.slice aob nb cb,.slice aol nl cl,zI] rfl ?_;refine rx ?_;refine Jd (cs:=[iV k,iV a,iV c,.slice aob nb cb,.slice aol nl cl,zI]) rfl rfl h2 Yhu rfl rfl (fun w3 h3 hf3 hs3=>?_);refine rx ?_;refine Qc rfl rfl h3 rfl ⟨rfl,(hf1.Jb hf2).trans hf3 (fun x hx=>.inr Yhq)⟩
set_option maxHeartbeats 32000000 in
theorem Jjb(w:World):Calls prog 20 #[] w fun e w'=>e=.returned (.bool true)/\Fr [] w w':=by
 refine enter func20 rfl ntmps20 rfl ?_;refine rx ?_;refine JF [iV 1,zT,iV 1,zS,zS,zS,zI] rfl ?_;refine rx ?_;refine JF [iV 1,zT,iV 1,zS,zS,zS,zI] rfl ?_;refine rx ?_;refine JF [iV 1,zT,zI,zS,zS,zS,zI] rfl ?_;refine rx ?_;refine MP (c1:=[iV 1,zT,iV 1,zS,zS,zS,zI]) (c2:=[iV 1,zT,iV 1,zS,zS,zS,zI]) (c3:=[iV 1,zT,zI,zS,zS,zS,zI]) rfl rfl rfl rfl rfl rfl rfl (fun w1 q1 hq1 ho1 hf1 hs1=>?_);refine rx ?_;refine JF [iV 6,zT,zI,zS,zS,.slice (some ⟨q1,0,none⟩) 3 3,zI] rfl ?_;have hE:∀{u:World},Fr [] w1 u->RD u [] (exC eI) [iV 6,zT,zI,zS,zS,.slice (some ⟨q1,0,none⟩) 3 3,zI]:=fun{u} hf=>by
  refine exR.2 ⟨_,_,_,rfl,DR.nil,DR.nil,?_⟩;refine DR.ofTyped (k:=7) (fun _=>Jq _) Yhy ⟨_,(ho1.tr0 hf).src,fun ad n c e _ hm=>by simp at hm,?_⟩;have hB:∀n,RD u [] (exC (eB n)) [iV 1,zT,iV n,zS,zS,zS,zI]:=fun n=>exR.2 ⟨_,_,_,rfl,DR.nil,DR.nil,DR.nil⟩
  exact Rws.cons (cs:=[_,_,_,_,_,_,_]) (hB 1) (Rws.cons (cs:=[_,_,_,_,_,_,_]) (hB 1) (Rws.cons (cs:=[_,_,_,_,_,_,_]) (ys:=[]) (hB 0) .nil))
 refine rx ?_;refine Jm (l:=[zI,zT,zI,zS,zS,zS,zI]) rfl (fun w2 b2 hb2 h2 hf2 hs2=>?_);refine rx ?_;refine Jd (cs:=[iV 6,zT,zI,zS,zS,.slice (some ⟨q1,0,none⟩) 3 3,zI]) rfl rfl h2 Yhu rfl rfl (fun w3 h3 hf3 hs3=>?_);have hF3:Fr [] w1 w3:=hf2.trans hf3 (fun x hx=>.inr Yhq);refine rx ?_;refine JF [.string (bst [99]),iV 6,zT,zI,zS,zS,.slice (some ⟨q1,0,none⟩) 3 3,zI] rfl ?_;refine rx ?_;refine JQ (c1:=[.string (bst [99]),iV 6,zT,zI,zS,zS,.slice (some ⟨q1,0,none⟩) 3 3,zI]) rfl rfl rfl (fun w4 q4 hq4 ho4 hf4 hs4=>?_);refine rx ?_;refine JF [iV 3,.string (bst [112]),zI,zS,zS,zI,zT,zS,zI,zT,zI,zS,zS,zS,zI,zI,zI,zT,zS,zS,zS,zI,zS,.slice (some ⟨q4,0,none⟩) 1 1,zS,zS,zI,zT,zS,zI,zT,zI,zS,zS,zS,zI,zS,zS,zI,zT,zI,zS,zS,zS,zI] rfl ?_;refine rx ?_;refine JQ (c1:=[iV 3,.string (bst [112]),zI,zS,zS,zI,zT,zS,zI,zT,zI,zS,zS,zS,zI,zI,zI,zT,zS,zS,zS,zI,zS,.slice (some ⟨q4,0,none⟩) 1 1,zS,zS,zI,zT,zS,zI,zT,zI,zS,zS,zS,zI,zS,zS,zI,zT,zI,zS,zS,zS,zI]) rfl rfl rfl (fun w5 q5 hq5 ho5 hf5 hs5=>?_);have hD:∀{u:World},Fr [] w5 u->DR u [] (.l ([dP].map deC)) (.slice (some ⟨q5,0,none⟩) 1 1):=fun{u} hf=>by
  refine DR.ofTyped (k:=45) (fun _=>KL _) Yhy ⟨_,(ho5.tr0 hf).src,fun ad n c e _ hm=>by simp at hm,?_⟩;refine Rws.cons (cs:=[iV 3,.string (bst [112]),zI,zS,zS,zI,zT,zS,zI,zT,zI,zS,zS,zS,zI,zI,zI,zT,zS,zS,zS,zI,zS,.slice (some ⟨q4,0,none⟩) 1 1,zS,zS,zI,zT,zS,zI,zT,zI,zS,zS,zS,zI,zS,zS,zI,zT,zI,zS,zS,zS,zI]) (ys:=[]) ?_ .nil;have hck:DR u [] (.l (dP.checks.map ckC)) (.slice (some ⟨q4,0,none⟩) 1 1):=by
   refine DR.ofTyped (k:=8) (fun _=>QM _) Yhy ⟨_,((ho4.tr0 hf5).tr0 hf).src,fun ad n c e _ hm=>by simp at hm,?_⟩;exact Rws.cons (cs:=[_,_,_,_,_,_,_,_]) (ys:=[]) (RD.c1 rfl (hE (((hF3.Jb hf4).Jb hf5).Jb hf))) .nil
  have hz:=fun{ds':List Dt} {vs:List Value} (x:Value) (hx:x.oneCell'=true) (h:RD u [] ds' vs)=>RD.c1 hx h
  have hn:=fun{ds':List Dt} {vs:List Value} (h:RD u [] ds' vs)=>RD.cons (DR.nil (w:=u) (S:=[])) h
  exact(hz (iV 3) rfl (hz (.string (bst [112])) rfl (hz (zI) rfl (hn (hn (hz (zI) rfl (hz (zT) rfl (hn (hz (zI) rfl (hz (zT) rfl (hz (zI) rfl (hn (hn (hn (hz (zI) rfl (hz (zI) rfl (hz (zI) rfl (hz (zT) rfl (hn (hn (hn (hz (zI) rfl (hn (RD.cons hck (hn (hn (hz (zI) rfl (hz (zT) rfl (hn (hz (zI) rfl (hz (zT) rfl (hz (zI) rfl (hn (hn (hn (hz (zI) rfl (hn (hn (hz (zI) rfl (hz (zT) rfl (hz (zI) rfl (hn (hn (hn (hz (zI) rfl .nil)))))))))))))))))))))))))))))))))))))))))))))
 refine rx ?_;refine JF [.slice (some ⟨q5,0,none⟩) 1 1] rfl ?_;refine rx ?_;refine Jm (l:=[zS]) rfl (fun w6 b6 hb6 h6 hf6 hs6=>?_);refine rx ?_;refine Jd (cs:=[.slice (some ⟨q5,0,none⟩) 1 1]) rfl rfl h6 Yhu rfl rfl (fun w7 h7 hf7 hs7=>?_);have hF7:Fr [] w5 w7:=hf6.trans hf7 (fun x hx=>.inr Yhq);have hW7:Fr [] w w7:=(((hf1.Jb hF3).Jb hf4).Jb hf5).Jb hF7;refine rx ?_;refine Jl (Jfx [dP] (bst [112]) (.slice (some ⟨q5,0,none⟩) 1 1) w7 [] szP Yhy (hD hF7)) ?_;rintro va w8 ⟨hA,hf8⟩;have h7:=h7.tr0 hf8;rw[Jfw]at hA;refine rx ?_;refine s_call (newC [dP] (bst [112]) (.slice (some ⟨q5,0,none⟩) 1 1) w8 [] szP Yhy (hD (hF7.Jb hf8))) rfl ?_;rintro _ w9 ⟨hf9,hn⟩;have hfd:fdD [dP] 3 (bst [112])=some dP:=by unfold fdD;simp[dP]
 rw[hfd,Jfw]at hn;obtain⟨p,M,R,rfl,hC,hMR⟩:=hn;refine⟨_,rfl,?_⟩;have hAlt:=hA.1.lt;have hA:=hA.tr0 hf9;obtain⟨aoa,ca,eva⟩:=hA.1.slice;replace eva:va=.slice aoa 2 ca:=eva;subst eva;replace hA:BO w7 50 w9 [bP 0,bP 1] (.slice aoa 2 ca):=hA;have hMa:∀x∈blks (.slice aoa 2 ca),x∉M:=fun x hx hm=>by
  have h1:=hMR x (by simp[hm]);have h2:=hAlt x hx;omega
 have hMa0:∀x∈blks (.slice aoa 2 ca),x∉([]:List Nat):=by simp
 have hsrc:Src w9 (.slice aoa 2 ca) 2 ([bP 0,bP 1].flatMap brV):=hA.1.src;obtain⟨hca⟩:Nonempty (2<=ca):=by obtain⟨_,_,e,h,_⟩:=hsrc;simp only[Value.slice.injEq]at e;obtain⟨_,_,rfl⟩:=e;exact⟨h⟩
 replace hC:Wj w9 p M R ⟨bst [112],1,0,[bP 0,bP 1]⟩ (J6 0 []):=hC;refine rx ?_;refine JR (Jam (l:=2) (c:=ca) (k:=1) (kk:=.i64) rfl rfl Yhn) ?_;refine rx ?_;refine JF [zI,zI,zI,.slice aoa 1 ca,zS,zI] rfl ?_;have dr0:∀{u:World} {S:List Nat},Src u (.slice aoa 2 ca) 2 ([bP 0,bP 1].flatMap brV)->(∀x∈blks (.slice aoa 2 ca),x∉S)->DR u S (.l ([bP 0].map brC)) (.slice aoa 1 ca):=fun{u S} h hS=>Jfc (l:=[bP 0]) (Src.to (k:=1) (size:=3) h Yhy) Yhy (fun x hx=>hS x (by cases aoa<;>simpa[blks,Value.ownBlock]using hx))
 have dr1:∀{u:World} {S:List Nat},Src u (.slice aoa 2 ca) 2 ([bP 0,bP 1].flatMap brV)->DR u [] (.l ([bP 1].map brC)) (.slice (if ca=1 then aoa else aoa.map (·.add (1*3))) 1 (ca-1)):=fun{u S} h=>Jfc (l:=[bP 1]) (Src.cut (j:=1) (k:=2) (size:=3) h rfl Yhy Yhy) Yhy Yhs
 refine rx ?_;refine s_call (Jkr ⟨0,0,0,[bP 0],[]⟩ (.slice aoa 1 ca) (zS) w9 (S:=M) hC (fun x hx=>hx) (dr0 hsrc hMa) DR.nil Yhy Yhy) rfl ?_;intro _ w10 hadd;rw[if_pos (show Qd ⟨bst [112],1,0,[bP 0,bP 1]⟩ ⟨0,0,0,[bP 0],[]⟩=true from rfl)]at hadd;obtain⟨rfl,hC,hf10⟩:=hadd;refine⟨_,rfl,?_⟩;have hFn:Fr [] w w10:=((hW7.Jb hf8).Jb hf9).trans hf10 (fun x hx=>.inr (by have:=hMR x Yix;have h1:=hW7.size;have h2:=hf8.size;omega));have hne:bP 1≠bP 0:=by simp[bP]
 obtain⟨s1,hs1e⟩:=exq (Qb (J6 0 []) ⟨0,0,0,[bP 0],[]⟩);rw[<-hs1e]at hC;have hc0:s1.cnt (bP 0)=1:=by rw[hs1e];simp[Qb,J6,b2n]
 have hc1:s1.cnt (bP 1)=0:=by rw[hs1e];simp[Qb,J6,b2n,hne]
 replace hsrc:=hsrc.tr hf10 (fun ad n c e _=>hMa ad.block (by cases e;simp[blks,Value.ownBlock]));refine rx ?_;refine Jl (Jig w10 hC Yhy) ?_;rintro vm w11 ⟨hB,hf11⟩;have hms:Ur ⟨bst [112],1,0,[bP 0,bP 1]⟩ s1=[bP 1]:=by unfold Ur;simp[hc0,hc1]
 rw[hms]at hB;have hC:=hC.tr0 hf11;have hsrc:=hsrc.tr0 hf11;obtain⟨aom,cm,eva⟩:=hB.1.slice;replace eva:vm=.slice aom 1 cm:=eva;subst eva;replace hB:BO w10 50 w11 [bP 1] (.slice aom 1 cm):=hB;obtain⟨adm,hadm,hcm⟩:=JZ QN (l:=[bP 1]) (m:=1) (i:=0) hB.1.src Yhy Yhy;obtain⟨ada,hada,hca1⟩:=JZ QN (l:=[bP 0,bP 1]) (i:=1) hsrc Yhy Yhy;subst hadm hada;have hcm:Cells w11 (adm.add (0*3)) [.string (bst [112]),zI,iV 1]:=hcm;have hca1:Cells w11 (ada.add (1*3)) [.string (bst [112]),zI,iV 1]:=hca1;refine rx ?_;refine JE (fun z=>Fr [] w11 z) Yhp rfl ?_;obtain⟨w12,hw12⟩:=exq w11.drew;rw[<-hw12];have hS:Fr [] w11 w12:=hw12▸Fr.drew _ _;refine Jj 0 1 2 3 hS ?_;refine d_z 4 hS ?_;refine Kz 5 hS ?_ (hrun:=by(intro u hu;exact(Qs (j:=0) rfl rfl rfl Yhn rfl)));refine JX 6 7 hS ?_;refine Kz 8 hS ?_ (hrun:=by(intro u hu;exact(Qs (j:=1) rfl rfl rfl Yhn rfl)));refine d_z 9 hS ?_;refine Kz 10 hS ?_ (hrun:=by(intro u hu;exact(Zc (a:=bP 1) (b:=bP 1) rfl rfl (decide_eq_true rfl))));refine Jj 11 12 13 14 hS ?_;refine Kz 15 hS ?_ (hrun:=by(intro u hu;exact(Jam (k:=1) (kk:=.i64) rfl rfl Yhn)));refine Kz 16 hS ?_ (v:=.agg (([zI,zI,zI,.slice (some ada) 1 ca,zS,zI])).toArray) (hrun:=by(intro u hu;exact QU (([zI,zI,zI,.slice (some ada) 1 ca,zS,zI])) Yik));refine JJ (i:=17) rfl Yhp ?_;refine rx ?_;refine Jg (Jdd ⟨0,0,0,[bP 0],[]⟩ (.slice (some ada) 1 ca) (zS) w12 (S:=[]) (hC.tr0 hS) (dr0 (hsrc.tr0 hS) Yhs) DR.nil) ?_;rintro w13 hf13;have hS:=hS.Jb hf13;refine Yfz ?_;have hr0:(Qd ⟨bst [112],1,0,[bP 0,bP 1]⟩ ⟨0,0,0,[bP 0],[]⟩&&VB s1 ⟨0,0,0,[bP 0],[]⟩)=false:=by
  have:VB s1 ⟨0,0,0,[bP 0],[]⟩=false:=by unfold VB;simp[hc0,Jy]
  rw[this,Bool.and_false]
 have hr1:(Qd ⟨bst [112],1,0,[bP 0,bP 1]⟩ ⟨0,0,0,[bP 1],[]⟩&&VB s1 ⟨0,0,0,[bP 1],[]⟩)=true:=by
  have:VB s1 ⟨0,0,0,[bP 1],[]⟩=true:=by unfold VB;simp[hc1]
  rw[this,Bool.and_true];rfl
 rw[hr0];refine Jj 18 19 20 21 hS ?_;refine d_z 22 hS ?_;refine Kz 23 hS ?_ (hrun:=by(intro u hu;exact(JaO (j:=1) (kk:=.i64) rfl rfl Yhn Yhn)));refine Kz 24 hS ?_ (v:=.agg (([zI,zI,zI,.slice (if ca=1 then some ada else(some ada).map (·.add (1*3))) 1 (ca-1),zS,zI])).toArray) (hrun:=by(intro u hu;exact QU (([zI,zI,zI,.slice (if ca=1 then some ada else(some ada).map (·.add (1*3))) 1 (ca-1),zS,zI])) Yik));refine JJ (i:=25) rfl Yhp ?_;refine rx ?_;refine Jg (Jdd ⟨0,0,0,[bP 1],[]⟩ (.slice (if ca=1 then some ada else(some ada).map (·.add (1*3))) 1 (ca-1)) (zS) w13 (S:=[]) (hC.tr0 hS) (dr1 (S:=[]) (hsrc.tr0 hS)) DR.nil) ?_;rintro w14 hf14;have hS:=hS.Jb hf14;refine Yfz ?_;rw[hr1];refine d_z 26 hS ?_;refine Kw 27 hS ?_ (hrun:=by(intro u hu;exact(JbP rfl)));refine Yfx ?_;refine Yeo ?_;exact⟨rfl,(hFn.Jb hf11).Jb hS⟩
end Go.Proofs.YtggmccicdhnkgaaGreat
