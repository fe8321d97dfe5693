/-
 Fresh and Missing of package cover.
-/
import Derived.Test.YtggmccicdhnkgaaGreatZCv
set_option linter.all false
namespace Go.Rf
open Go.RowKit
variable{af:Array Edge}{a:Br}{f:Env}{l:List Int}{S:List Nat}{bb d e i j k n p t:Nat}{x y:Operand}{P:Program}{r:Rn}{s:St}{ps:String}{u w:World}
theorem r_neqBC{ty:TypeId}{gd:Option (Nat×Bool)}{t2:Nat}{a b p:Bool}(hu:P.underlying t=some .bool)(hx:ev n f x=.bool a)(hy:ev n f y=.bool b)(hp:(!(a==b))=p):
 (execOp (ev n f) ⟨some d,.binOp .neq t x y t2,ty,ps,af,gd⟩).run P w=.ok (.value (.bool p)) w:=by
 subst hp;have:(Op.equal t (.bool a) (.bool b)).run P w=.ok (a==b) w:=by
  have:∀dd,(Op.equalIn (dd+1) t (.bool a) (.bool b)).run P w=.ok (a==b) w:=fun dd=>by simp[Op.equalIn,run_underlying hu]
  exact this 9999
 simp[execOp,eqGuard,binOp,hx,hy,this]
theorem ints_src{v:Value}(h:DR w S (.l (l.map intR)) v):Src w v l.length (l.map (.int .i64)):=by
 obtain⟨ys,h1,h2,h3⟩:=h.typed;have:ys=l.map (.int .i64):=by
  clear h1 h2 h
  induction h3 with
  |nil=>rfl
  |cons ha hb ih=>
   rw[ih];obtain⟨_,rfl,r⟩:=RD.invC (x:=iV _) ha;rw[r.inv0];rfl
 rw[<-this];exact h1
theorem DR.brs{l:List Br}{v:Value}(h:DR w S (.l (l.map brC)) v):Src w v l.length (l.flatMap brV):=by
 obtain⟨ys,h1,h2,h3⟩:=h.typed;have:ys=l.flatMap brV:=by
  clear h1 h2 h
  induction h3 with
  |nil=>rfl
  |cons ha hb ih=>rw[ih,brR.1 ha];rfl
 rw[<-this];exact h1
theorem int_get(h:i<l.length):(l.map (Value.int .i64))[i]?=some (iV l[i]):=by
 rw[List.getElem?_map,List.getElem?_eq_getElem h];rfl
theorem nd_cov{pb:Nat}{a b:List Nat}(h:(([p,bb,pb]++a)++b).Nodup):p≠bb/\p≠pb/\bb≠pb/\p∉a/\bb∉a/\pb∉a/\p∉b/\bb∉b/\pb∉b/\∀x∈a,x∉b:=by
 simp only[List.nodup_append,List.nodup_cons,List.mem_cons,List.mem_append,List.not_mem_nil,or_false,not_or]at h;obtain⟨⟨⟨⟨h1,h2⟩,h3,_⟩,_,h4⟩,_,h5⟩:=h;exact⟨h1,h2,h3,fun hm=>h4 p (.inl rfl) p hm rfl,fun hm=>h4 bb (.inr (.inl rfl)) bb hm rfl,fun hm=>h4 pb (.inr (.inr rfl)) pb hm rfl,fun hm=>h5 p (.inl (.inl rfl)) p hm rfl,fun hm=>h5 bb (.inl (.inr (.inl rfl))) bb hm rfl,fun hm=>h5 pb (.inl (.inr (.inr rfl))) pb hm rfl,fun x hx hm=>h5 x (.inr hx) x hm rfl⟩
theorem getM_snoc{α β:Type}[DecidableEq α]{m:List (α×β)}{a x:α}{v:β}(h:getM m a=none):getM (m++[(a,v)]) x=if x=a then some v else getM m x:=by
 rw[<-putM_new (getM_none.1 h),getM_put]
theorem RelB.entry{m:List (Br×Int)}{cnt:Br->Nat}(h:RelB m cnt)(hn:n≠0):RelB (putM (entM m a (0:Int)) a (n:Int)) (fun x=>if x=a then n else cnt x):=fun x=>by
 rw[getM_put];by_cases e:x=a
 .simp [e,hn]
 .simp only[if_neg e];unfold entM;cases hg:getM m a with
  |some v=>exact h x
  |none=>simp only;rw[getM_snoc hg,if_neg e];exact h x
theorem r_cntG{ty:TypeId}{gd:Option (Nat×Bool)}{b c:Nat}{m:List (Br×Int)}[T:MapT P t k e][K:KeyT P k brK][Z:ZeroT P e (zI)](hx:ev n f x=.map (some b))(hy:ev n f y=.agg (brV a).toArray)(hm:Mp brK (Value.int .i64) w b m)(hr:(getM m a).getD 0=(c:Int)):
 (execOp (ev n f) ⟨some d,.lookup t x y false,ty,ps,af,gd⟩).run P w=.ok (.value (iV (c:Nat))) w:=by
 rw[r_look hx (show _=brK a from hy) hm,<-hr];cases getM m a<;>rfl
theorem r_cnt{ty:TypeId}{gd:Option (Nat×Bool)}{b:Nat}{m:List (Br×Int)}{cnt:Br->Nat}[T:MapT P t k e][K:KeyT P k brK][Z:ZeroT P e (zI)](hx:ev n f x=.map (some b))(hy:ev n f y=.agg (brV a).toArray)(hm:Mp brK (Value.int .i64) w b m)(hr:RelB m cnt):
 (execOp (ev n f) ⟨some d,.lookup t x y false,ty,ps,af,gd⟩).run P w=.ok (.value (iV (cnt a:Nat))) w:=r_cntG hx hy hm (hr.look a)
theorem r_has{ty:TypeId}{gd:Option (Nat×Bool)}{b:Nat}{m:List (Pr×Bool)}{q:Pr->Prop}[DecidablePred q]{a:Pr}[T:MapT P t k e][K:KeyT P k prK][Z:ZeroT P e (.bool false)](hx:ev n f x=.map (some b))(hy:ev n f y=.agg (prV a).toArray)(hm:Mp prK Value.bool w b m)(hr:RelP m q):
 (execOp (ev n f) ⟨some d,.lookup t x y false,ty,ps,af,gd⟩).run P w=.ok (.value (.bool (decide (q a)))) w:=by
 rw[r_look hx (show _=prK a from hy) hm];by_cases h0:q a
 .rw [(hr a).1 h0,decide_eq_true h0];rfl
 .rw [(hr a).2 h0,decide_eq_false h0];rfl
def SB(u:World)(bb:Nat)(cnt:Br->Nat)(z:World):Prop:=Fr [bb] u z/\∃m,Mp brK (Value.int .i64) z bb m/\∀b,(getM m b).getD 0=(cnt b:Int)
theorem r_cntS{ty:TypeId}{gd:Option (Nat×Bool)}{b:Nat}{cnt:Br->Nat}[T:MapT P t k e][K:KeyT P k brK][Z:ZeroT P e (zI)](hx:ev n f x=.map (some b))(hy:ev n f y=.agg (brV a).toArray)(hm:SB u b cnt w):
 (execOp (ev n f) ⟨some d,.lookup t x y false,ty,ps,af,gd⟩).run P w=.ok (.value (iV (cnt a:Nat))) w:=by
 obtain⟨_,m,h1,h2⟩:=hm;exact r_cntG hx hy h1 (h2 a)
theorem SB.entry{z z':World}{cnt:Br->Nat}{m:List (Br×Int)}{st:Nat}(hz:Fr [bb] u z)(hr:RelB m cnt)(hf:Fr [bb] z z')(h:MpS brK (Value.int .i64) z' bb (entM m a (0:Int)) a st):SB u bb cnt z':=by
 refine⟨hz.trans hf (fun x hx=>.inl hx),_,h.mp,fun b=>?_⟩;have h1:=hr.look b;unfold entM;cases hg:getM m a with
 |some v=>exact h1
 |none=>
  simp only;rw[getM_snoc hg];by_cases e:b=a
  .subst e;rw[hg]at h1;rw[if_pos rfl];exact h1
  .rw [if_neg e];exact h1
def clsI(s:St)(r:Rn)(i:Nat):List Nat:=s.cls.mapIdx (fun(j:Nat) n=>n+b2n (decide ((j:Int)∈r.cl.take i)))
theorem clsI_len:(clsI s r i).length=s.cls.length:=by simp[clsI]
theorem clsI_zero:clsI s r 0=s.cls:=by
 unfold clsI;apply List.ext_getElem
 .simp
 .intro i h1 h2;simp[b2n]
theorem clsI_all:clsI s r r.cl.length=(stAdd s r).cls:=by
 unfold clsI stAdd;rw[List.take_length]
theorem clsI_at(hok:clsOk n r.cl=true)(hi:i<r.cl.length)(hj:(j:Int)=r.cl[i])(hl:j<s.cls.length):(clsI s r i)[j]'(by rw[clsI_len];exact hl)=s.cls[j]:=by
 simp only[clsI,List.getElem_mapIdx];rw[decide_eq_false (by rw[hj];exact cls_nd hok hi)];rfl
theorem clsI_step(hok:clsOk n r.cl=true)(hi:i<r.cl.length)(hj:(j:Int)=r.cl[i])(hl:j<s.cls.length):(clsI s r i).set j (s.cls[j]+1)=clsI s r (i+1):=by
 apply List.ext_getElem
 .simp [clsI]
 .intro k h1 h2;rw[List.getElem_set];simp only[clsI,List.getElem_mapIdx,List.take_succ_eq_append_getElem hi,List.mem_append,List.mem_singleton,<-hj];by_cases e:j=k
  .subst e;simp[b2n]
  .have:¬(k:Int)=(j:Int):=by omega
   simp[e,this]
theorem fits_no{P:Pp}(h:outOk P.checks r=false):fitsR P r=false:=by unfold fitsR;rw[h];rfl
theorem fits_cl{P:Pp}(h:clsOk P.ncls r.cl=false):fitsR P r=false:=by unfold fitsR;rw[h];simp
theorem fits_yes{P:Pp}(h:outOk P.checks r=true)(k:clsOk P.ncls r.cl=true):fitsR P r=true:=by unfold fitsR;rw[h,k];rfl
theorem cls_no(hi:i<l.length)(h:¬(0<=l[i]/\l[i]<n/\∀h:0<i,l[i-1]<l[i])):clsOk n l=false:=by
 refine clsOk_false hi ?_;unfold clsAt;refine decide_eq_false (fun h1=>h ?_);rw[getD_at hi]at h1;refine⟨h1.1,h1.2.1,fun h0=>?_⟩;have:=h1.2.2 h0;rw[getD_at Yhn]at this;exact this
theorem cls_yes(hi:i<l.length)(h:0<=l[i]/\l[i]<n/\∀h:0<i,l[i-1]<l[i]):clsAt n l i=true:=by
 unfold clsAt;rw[getD_at hi];refine decide_eq_true ⟨h.1,h.2.1,fun h0=>?_⟩;rw[getD_at Yhn];exact h.2.2 h0
end Go.Rf
namespace Go.Proofs.YtggmccicdhnkgaaGreat
open Go.Proofs.Tryz
open Go.Rf Go.RowKit
variable{M R S:List Nat}{p:Nat}{s:St}
attribute [local irreducible] Code.wp wpList Exit.then Exit.inBlock bodyPost A Calls execOp Addr.add
set_option maxHeartbeats 16000000 in
theorem fitsC{P:Pp}(r:Rn)(vb vl:Value)(w:World)(hC:CovM w p M R P s)(hl:DR w S (.l (r.cl.map intR)) vl)(h1b:vb.oneCell'=true):
 Calls prog 50 #[.pointer (some ⟨p,0,none⟩),.agg ([iV r.kind,iV r.at_,iV r.code,vb,vl,zI]:List Value).toArray] w fun e w'=>e=.returned (.bool (fitsR P r))/\Fr [] w w':=by
 obtain⟨bb,pb,vr,vc,mb,mp,rfl,rfl,hnd,hb,hr,hc,hmb,hrb,hmp,hrp,hok⟩:=hC;have hncls:=hok.ncls;obtain⟨aoc,cc,rfl⟩:=hc.slice;have h1l:=hl.one;have hlbd:=hl.bound;obtain⟨aol,cl,rfl,_⟩:=hl.slice;rw[List.length_map]at hl h1l hlbd ⊢;refine enter func50 rfl ntmps50 rfl ?_;refine rx ?_;refine s_boxN (l:=[iV r.kind,iV r.at_,iV r.code,vb,(.slice aol r.cl.length cl),zI]) rfl rfl (fun w1 b3 hb3 h3 hf1 hs1=>?_);refine rx ?_;refine s_allocN (l:=[zI,zI,zI]) rfl (fun w2 b5 hb5 h5 hf2 hs2=>?_);have h3:=h3.tr0 hf2;refine rx ?_;refine s_storeAggB (cs:=[iV r.kind,iV r.at_,iV r.code]) rfl rfl h5 Yhu rfl rfl (fun w3 h5 hf3 hs3=>?_);have h3:=h3.tr hf3 Yht;have hF3:Fr [] w w3:=(hf1.trans0 hf2).trans hf3 (fun x hx=>.inr Yhq);have hb:=hb.tr0 hF3;refine wpList_nil ?_;refine q_then ?_
 (repeat refine wp_seq ?_)
 refine c_region ?_;refine Yfa ?_
 (repeat refine wp_seq ?_)
 refine c_cutK 12 [] (fun g u=>Fr [] w3 u/\outOk P.checks r=true) ?_ ?_
 .by_cases k0:r.kind=0
  .by_cases a0:r.at_=0
   .by_cases c0:r.code=0
    .refine rx ?_;exact q_cutK Yhl ⟨Fr.refl _ _,decide_eq_true Yhn⟩
    .refine rx ?_;exact Yce
   .refine rx ?_;exact Yce
  by_cases k1:r.kind=1
  .refine rx ?_;refine d_begin (fun z=>Fr [] w3 z) Yhp rfl ?_;obtain⟨u1,hu1⟩:=exq w3.drew;rw[<-hu1];have hS:Fr [] w3 u1:=hu1▸Fr.drew _ _;by_cases a0:r.at_<0
   . (refine d_z4 0 1 2 3 hS ?_;refine d_z4 4 5 6 7 hS ?_;refine d_z4 8 9 10 11 hS ?_;refine d_z4 12 13 14 15 hS ?_;refine d_z4 16 17 18 19 hS ?_;refine d_z 20 hS ?_)
     exact Yu
   by_cases a1:(P.checks:Int)<=r.at_
   . (refine d_z4 0 1 2 3 hS ?_;refine d_z4 4 5 6 7 hS ?_;refine d_z4 8 9 10 11 hS ?_;refine d_z4 12 13 14 15 hS ?_;refine d_z4 16 17 18 19 hS ?_;refine d_z 20 hS ?_)
     exact Yu
   by_cases c0:r.code=0
   . (refine d_z4 0 1 2 3 hS ?_;refine d_z4 4 5 6 7 hS ?_;refine d_z4 8 9 10 11 hS ?_;refine d_z4 12 13 14 15 hS ?_;refine d_z2 16 17 hS ?_;refine d_z 18 hS ?_)
     exact Ybf
   . (refine d_z4 0 1 2 3 hS ?_;refine d_z4 4 5 6 7 hS ?_;refine d_z4 8 9 10 11 hS ?_;refine d_z4 12 13 14 15 hS ?_;refine d_z2 16 17 hS ?_;refine d_z 18 hS ?_)
     exact Yea
  by_cases k2:r.kind=2
  .refine rx ?_;refine d_begin (fun z=>Fr [] w3 z) Yhp rfl ?_;obtain⟨u1,hu1⟩:=exq w3.drew;rw[<-hu1];have hS:Fr [] w3 u1:=hu1▸Fr.drew _ _;by_cases a0:r.at_<0
   . (refine d_z4 0 1 2 3 hS ?_;refine d_z4 4 5 6 7 hS ?_;refine d_z4 8 9 10 11 hS ?_;refine d_z4 12 13 14 15 hS ?_;refine d_z4 16 17 18 19 hS ?_;refine d_z 20 hS ?_)
     exact Yu
   by_cases a1:(P.checks:Int)<=r.at_
   . (refine d_z4 0 1 2 3 hS ?_;refine d_z4 4 5 6 7 hS ?_;refine d_z4 8 9 10 11 hS ?_;refine d_z4 12 13 14 15 hS ?_;refine d_z4 16 17 18 19 hS ?_;refine d_z 20 hS ?_)
     exact Yu
   by_cases c0:r.code=0
   . (refine d_z4 0 1 2 3 hS ?_;refine d_z4 4 5 6 7 hS ?_;refine d_z4 8 9 10 11 hS ?_;refine d_z4 12 13 14 15 hS ?_;refine d_z2 16 17 hS ?_;refine d_z 18 hS ?_)
     exact Yea
   . (refine d_z4 0 1 2 3 hS ?_;refine d_z4 4 5 6 7 hS ?_;refine d_z4 8 9 10 11 hS ?_;refine d_z4 12 13 14 15 hS ?_;refine d_z2 16 17 hS ?_;refine d_z 18 hS ?_)
     exact Ybf
  .refine rx ?_;exact Yce
 rintro g w4 ⟨hf4,hout⟩;have hF4:=hF3.trans0 hf4;have h3:=h3.tr0 hf4;clear h5 hb;have hb:Blk w4 p _ _:= ‹Blk w p _ _›.tr0 hF4;refine rx ?_;refine c_loopK 49 [6,7] (σ:=Nat) (fun i g u=>g 49=iV (i:Nat)/\i<=r.cl.length/\(∀j,j<i->clsAt P.ncls r.cl j=true)/\Fr [] w4 u) (fun i=>r.cl.length-i) 0 ⟨rfl,Nat.zero_le _,fun j h=>by omega,Fr.refl _ _⟩ ?_;rintro i g u ⟨g49,hi,hpre,hF⟩;rw[eq_upd g49];have hFu:=hF4.trans0 hF;have h3:=h3.tr0 hF;have hb:=hb.tr0 hF;by_cases hlt:i<r.cl.length
 case neg=>
  refine Yeo ?_;exact⟨by rw[fits_yes hout (clsOk_true (fun j hj=>hpre j Yhn))],hFu⟩
 obtain⟨adl,hadl,hcell⟩:=src_at (ints_src (hl.tr0 hFu)) (int_get hlt);subst hadl;refine Yfm ?_;by_cases c1:r.cl[i]<0
 .refine rx ?_;exact Ydh
 by_cases c2:s.cls.length<=r.cl[i]
 .refine rx ?_;exact Ydh
 by_cases c3:i=0
 .refine rx ?_;exact Ybh
 have hcell1:=src_cell (ints_src (hl.tr0 hFu)) (int_get (show i-1<r.cl.length by omega));refine rx ?_;rw[show((i:Int)-1)=((i-1:Nat):Int) by omega];refine rx ?_;refine s_load rfl (by rw[Nat.mul_one];exact hcell1) ?_;by_cases c4:r.cl[i]<=r.cl[i-1]
 .refine rx ?_;refine Yfw ?_;exact⟨by rw[fits_cl (cls_no hlt (fun h=>by have:=h.2.2 Yhn;omega))],hFu⟩
 .refine rx ?_;exact Ybh
set_option maxHeartbeats 16000000 in
theorem addC{P:Pp}(r:Rn)(vb vl:Value)(w:World)(hC:CovM w p M R P s)(hMS:∀x∈M,x∈S)(hbr:DR w S (.l (r.bs.map brC)) vb)(hl:DR w S (.l (r.cl.map intR)) vl)(hrn:s.runs<=1000000)(hbl:r.bs.length<=1000000):
 Calls prog 15 #[.pointer (some ⟨p,0,none⟩),.agg ([iV r.kind,iV r.at_,iV r.code,vb,vl,zI]:List Value).toArray] w fun e w'=>if fitsR P r=true then e=.returned (zI)/\CovM w' p M R P (stAdd s r)/\Fr M w w' else e=.returned (iV 1)/\Fr [] w w':=by
 have hC0:=hC;have h1b:=hbr.one;have hl0:=hl;have h1l:=hl.one;obtain⟨bb,pb,vr,vc,mb,mp,rfl,rfl,hnd,hb,hr,hc,hmb,hrb,hmp,hrp,hok⟩:=hC;obtain⟨n1,n2,n3,n4,n5,n6,n7,n8,n9,n10⟩:=nd_cov hnd;have hncls:=hok.ncls;obtain⟨aoc,cc,rfl⟩:=hc.slice;have hlbd:=hl.bound;obtain⟨aol,cl,rfl,_⟩:=hl.slice;obtain⟨aob,cb,rfl,_⟩:=hbr.slice;simp only[List.length_map]at hl hbr h1b h1l hl0 hlbd ⊢;refine enter func15 rfl ntmps15 rfl ?_;refine rx ?_;refine s_boxN (l:=[iV r.kind,iV r.at_,iV r.code,(.slice aob r.bs.length cb),(.slice aol r.cl.length cl),zI]) rfl rfl (fun w1 b3 hb3 h3 hf1 hs1=>?_);refine rx ?_;refine s_cE (fitsC r (.slice aob r.bs.length cb) (.slice aol r.cl.length cl) w1 (hC0.tr0 hf1) (hl.tr0 hf1) h1b) ?_;rintro w2 hf2;have hF2:=hf1.trans0 hf2;cases hfit:fitsR P r with
 |false=>
  refine Yeo ?_;rw[if_neg Yhs];exact⟨rfl,hF2⟩
 |true=>
 have hfit':=hfit;unfold fitsR at hfit';rw[Bool.and_eq_true]at hfit';have hout:=of_decide_eq_true hfit'.1;have hcls:=hfit'.2;have h3:=h3.tr0 hf2;have hb2:=hb.tr0 hF2;have hltM:=hC0.lt;have hoo:=hok.o;have hplt:p<w.heap.size:=hb.lt;have hbblt:bb<w.heap.size:=hmb.lt;have hpblt:pb<w.heap.size:=hmp.lt;have hvclt:=hc.lt;refine rx ?_
 ((with_reducible apply s_storeB);exact rfl;(conv=>lhs;whnf);exact rfl;exact hb2;exact rfl)
 intro w3 hb3' hf3 hs3;replace hb3':Blk w3 p [.string P.prop,iV (P.checks:Nat),vr,iV ((s.runs+1):Nat),iV (s.o 0:Nat),iV (s.o 1:Nat),iV (s.o 2:Nat),(.slice aoc s.cls.length cc),.map (some bb),.map (some pb)] _:=hb3';have h3:=h3.tr hf3 Yht;have hF3:Fr [p] w w3:=(hF2.mono Yhs).trans hf3 (fun x hx=>.inl hx);refine wpList_nil ?_;refine q_then ?_
 (repeat refine wp_seq ?_)
 refine c_cutK 11 [] (fun g u=>Fr [p] w3 u/\Blk u p [.string P.prop,iV (P.checks:Nat),vr,iV ((stAdd s r).runs:Nat),iV ((stAdd s r).o 0:Nat),iV ((stAdd s r).o 1:Nat),iV ((stAdd s r).o 2:Nat),(.slice aoc s.cls.length cc),.map (some bb),.map (some pb)] 125) ?_ ?_
 .rcases (show r.kind=0\/r.kind=1\/r.kind=2 by omega)with hk|hk|hk
  .rw [hk]at h3;have e0:(stAdd s r).o 0=s.o 0+1:=by show s.o 0+b2n (decide (r.kind=((0:Nat):Int)))=_;rw[hk];rfl
   have e1:(stAdd s r).o 1=s.o 1:=by show s.o 1+b2n (decide (r.kind=((1:Nat):Int)))=_;rw[hk];rfl
   have e2:(stAdd s r).o 2=s.o 2:=by show s.o 2+b2n (decide (r.kind=((2:Nat):Int)))=_;rw[hk];rfl
   rw[e0,e1,e2];refine u_begin 12 (fun z=>Fr [] w3 z) Yhp rfl ?_;obtain⟨u1,hu1⟩:=exq w3.drew;rw[<-hu1];have hS:Fr [] w3 u1:=hu1▸Fr.drew _ _
   ((refine u_tx 0 hS ?_);(refine u_tx 1 hS ?_);(refine u_tx 2 hS ?_);(refine u_tx 3 hS ?_);(refine u_tx 4 hS ?_);(refine u_tx 5 hS ?_))
   refine u_tx 6 hS ?_ (hrun:=Yjb);refine u_tx 7 hS ?_ (hrun:=Yjr)
   ((refine u_tx 8 hS ?_))
   refine Yfd ?_;rw[add_lit];refine Yhe ?_;refine u_tx 11 hS ?_ (hrun:=Yjb);exact Ys
  .rw [hk]at h3;have e0:(stAdd s r).o 0=s.o 0:=by show s.o 0+b2n (decide (r.kind=((0:Nat):Int)))=_;rw[hk];rfl
   have e1:(stAdd s r).o 1=s.o 1+1:=by show s.o 1+b2n (decide (r.kind=((1:Nat):Int)))=_;rw[hk];rfl
   have e2:(stAdd s r).o 2=s.o 2:=by show s.o 2+b2n (decide (r.kind=((2:Nat):Int)))=_;rw[hk];rfl
   rw[e0,e1,e2];refine u_begin 12 (fun z=>Fr [] w3 z) Yhp rfl ?_;obtain⟨u1,hu1⟩:=exq w3.drew;rw[<-hu1];have hS:Fr [] w3 u1:=hu1▸Fr.drew _ _
   ((refine u_tx 0 hS ?_);(refine u_tx 1 hS ?_);(refine u_tx 2 hS ?_);(refine u_tx 3 hS ?_);(refine u_tx 4 hS ?_);(refine u_tx 5 hS ?_))
   refine u_tx 6 hS ?_ (hrun:=Yjc);refine u_tx 7 hS ?_ (hrun:=Yjr)
   ((refine u_tx 8 hS ?_))
   refine Yfd ?_;rw[add_lit];refine Yhe ?_;refine u_tx 11 hS ?_ (hrun:=Yjc);exact Ys
  .rw [hk]at h3;have e0:(stAdd s r).o 0=s.o 0:=by show s.o 0+b2n (decide (r.kind=((0:Nat):Int)))=_;rw[hk];rfl
   have e1:(stAdd s r).o 1=s.o 1:=by show s.o 1+b2n (decide (r.kind=((1:Nat):Int)))=_;rw[hk];rfl
   have e2:(stAdd s r).o 2=s.o 2+1:=by show s.o 2+b2n (decide (r.kind=((2:Nat):Int)))=_;rw[hk];rfl
   rw[e0,e1,e2];refine u_begin 12 (fun z=>Fr [] w3 z) Yhp rfl ?_;obtain⟨u1,hu1⟩:=exq w3.drew;rw[<-hu1];have hS:Fr [] w3 u1:=hu1▸Fr.drew _ _
   ((refine u_tx 0 hS ?_);(refine u_tx 1 hS ?_);(refine u_tx 2 hS ?_);(refine u_tx 3 hS ?_);(refine u_tx 4 hS ?_);(refine u_tx 5 hS ?_))
   refine u_tx 6 hS ?_ (hrun:=Yjd);refine u_tx 7 hS ?_ (hrun:=Yjr)
   ((refine u_tx 8 hS ?_))
   refine Yfd ?_;rw[add_lit];refine Yhe ?_;refine u_tx 11 hS ?_ (hrun:=Yjd);exact Ys
 clear hb3';rintro g w4 ⟨hf4,hb4⟩;have h3:=h3.tr hf4 Yht;have hF4:Fr [p] w w4:=hF3.trans hf4 (fun x hx=>.inl hx);have hs4:=hF4.size;have hr4:=hr.tr hF4 (fun x hx hm=>n7 Yia);have hc4:=hc.tr hF4 (fun x hx hm=>n4 Yia);have hmb4:=hmb.tr hF4 (by simpa using fun h=>n1 h.symm);have hmp4:=hmp.tr hF4 (by simpa using fun h=>n2 h.symm);clear hb hb2 hf1 hf2 hf3 hs1;obtain⟨K,hK⟩:=exq ([p,bb,pb]++blks (Value.slice aoc s.cls.length cc));have hKm:∀{x:Nat},x∈K↔x=p\/x=bb\/x=pb\/x∈blks (Value.slice aoc s.cls.length cc):=fun{x}=>by rw[hK];simp[or_assoc]
 rw[<-hK]at hMS ⊢;have hF4K:Fr K w w4:=hF4.mono (fun x hx=>.inl (by rw[List.mem_singleton.1 hx];exact hKm.2 (.inl rfl)));have hvcK:∀x∈blks (Value.slice aoc s.cls.length cc),x∈K:=fun x hx=>hKm.2 (.inr (.inr (.inr hx)))
 refine rx ?_;refine c_loopK 42 [6] (σ:=Nat) (fun i g u=>g 42=iV (i:Nat)/\i<=r.cl.length/\Own u 3 1 (Value.slice aoc s.cls.length cc) s.cls.length (natsV (clsI s r i))/\Fr (blks (Value.slice aoc s.cls.length cc)) w4 u) (fun i=>r.cl.length-i) 0 ⟨rfl,Nat.zero_le _,by rw[clsI_zero];exact hc4,Fr.refl _ _⟩ ?_;clear hc4;rintro i g u ⟨g42,hi,hcu,hF⟩;rw[eq_upd g42];have hFw:Fr K w u:=hF4K.trans hF (fun x hx=>.inl (hvcK x hx));have hb3u:=h3.tr hF (fun hm=>by have:=hvclt b3 hm;omega);have hbu:=hb4.tr hF n4;by_cases hlt:i<r.cl.length
 .obtain ⟨adl,hadl,hcell⟩:=src_at (ints_src (hl.tr (hFw.mono (fun x hx=>.inl (hMS x hx))))) (int_get hlt);subst hadl;have hin:=cls_in hcls (List.getElem_mem hlt);obtain⟨j,hj⟩:∃j:Nat,(j:Int)=r.cl[i]:=⟨r.cl[i].toNat,Int.toNat_of_nonneg hin.1⟩;have hjl:j<s.cls.length:=by omega
  obtain⟨adc,hadc,hcc⟩:=src_at hcu.src (natsV_get (l:=clsI s r i) (i:=j) (by rw[clsI_len];exact hjl));rw[clsI_at hcls hlt hj hjl]at hcc;have hcb:=hok.ocls _ (List.getElem_mem hjl);refine Yfm ?_;refine rx ?_;refine s_index1 rfl rfl hj.symm hjl hadc ?_;refine s_load rfl hcc ?_;refine rx ?_;refine s_index1 rfl rfl hj.symm hjl hadc ?_;refine s_storeOwn hcu hadc hjl rfl rfl rfl (fun u1 hcu1 hf5 hs5=>?_);refine rx ?_;refine q_roundK (i+1) Yhl ⟨rfl,hlt,?_,hF.trans hf5 (fun x hx=>.inl hx)⟩ Yhn;rw[<-clsI_step hcls hlt hj hjl,<-natsV_set];exact hcu1
 have hil:i=r.cl.length:=by omega
 subst hil;rw[clsI_all]at hcu;have hr5:=hr4.tr hF (fun x hx hm=>n10 x hm hx);have hmb5:=hmb4.tr hF n5;have hmp5:=hmp4.tr hF n6;clear hb4 h3 hr4 hmb4 hmp4 hlt;have hbru:=hbr.tr (hFw.mono (fun x hx=>.inl (hMS x hx)));refine rx ?_;refine s_c1 (setC r.bs _ u hbru hbl) ?_;rintro vq u5 ⟨hBq,hf5⟩;obtain⟨l1,hl1⟩:=exq (setL ltB r.bs);rw[<-hl1]at hBq;obtain⟨aoq,cq,rfl⟩:=hBq.1.slice;have hl1n:l1.length<=1000000:=by rw[hl1];exact Nat.le_trans setL_len hbl
 have hl1d:l1.Nodup:=hl1▸Asc.nd totB (setL_asc totB _);have hqge:=hBq.2;have hFw5:=hFw.trans0 hf5;have hb3u:=hb3u.tr0 hf5;have hbu:=hbu.tr0 hf5;have hr5:=hr5.tr0 hf5;have hmb5:=hmb5.tr0 hf5;have hmp5:=hmp5.tr0 hf5;have hcu:=hcu.tr0 hf5;have hsw:=hFw.size;have hs5:=hf5.size;obtain⟨cntI,hcntI⟩:∃c:Nat->Br->Nat,c=fun i b=>s.cnt b+b2n (decide (b∈l1.take i)):=⟨_,rfl⟩
 refine rx ?_;refine c_loopK 60 [8] (σ:=Nat×List (Br×Int)) (fun q g u=>g 60=iV (q.1:Nat)/\q.1<=l1.length/\Mp brK (Value.int .i64) u bb q.2/\RelB q.2 (cntI q.1)/\Fr [bb] u5 u) (fun q=>l1.length-q.1) (0,mb) ⟨rfl,Nat.zero_le _,hmb5,hrb.congr (fun b=>by rw[hcntI];simp[b2n]),Fr.refl _ _⟩ ?_;clear hmb5;rintro⟨i,m⟩ g u6 ⟨g60,hi,hmu,hru,hF6⟩;simp only at g60 hi hmu hru;rw[eq_upd g60];have hs6:=hF6.size;have hFw6:Fr K w u6:=hFw5.trans hF6 (fun x hx=>.inl (by rw[List.mem_singleton.1 hx];exact hKm.2 (.inr (.inl rfl))));have hb3u:=hb3u.tr hF6 Yht;have hbu:=hbu.tr hF6 (by simpa using n1);by_cases hlt:i<l1.length
 .obtain ⟨adq,hadq,hcq⟩:=src_rows brV_l3 ((hBq.1.src).tr hF6 (fun ad n c e _ hm=>by
   cases e
   have:=hqge ad.block Yic;rw[List.mem_singleton.1 hm]at this;omega)) hlt Yhy
  subst hadq;have hcq:Cells u6 (adq.add (i*3)) [.string l1[i].decl,iV l1[i].at_,iV l1[i].arm]:=hcq;have hcb:cntI i l1[i]=s.cnt l1[i]:=by
   rw[hcntI];simp only;rw[decide_eq_false (fun hm=>by
    obtain⟨k,hk,e⟩:=List.getElem_of_mem hm;rw[List.length_take]at hk;rw[List.getElem_take]at e;exact List.pairwise_iff_getElem.1 hl1d k i Yhn hlt Yhn e)]
   rfl
  have hcn:=hok.ocnt l1[i];refine rx ?_;refine s_allocN (l:=[zT,zI,zI]) rfl (fun u7 b8 hb8e hb8 hf7 hs7=>?_);refine rx ?_;refine s_storeAggB (cs:=brV l1[i]) rfl rfl hb8 (brV_one1 _) rfl rfl (fun u8 hb8 hf8 hs8=>?_);replace hb8:Blk u8 b8 [.string l1[i].decl,iV l1[i].at_,iV l1[i].arm] _:=hb8;have hF8:Fr [] u6 u8:=hf7.trans hf8 (fun x hx=>.inr Yhq);have hb3u:=hb3u.tr0 hF8;have hbu:=hbu.tr0 hF8;have hmu8:=hmu.tr0 hF8;have hs68:=hF8.size;refine rx ?_;have hpn:p∉[bb]:=by simpa using n1
  have hb8n:b8∉[bb]:=by simp;omega
  refine u_begin 9 (SB u8 bb (cntI i)) Yhp rfl ?_;obtain⟨u9,hu9⟩:=exq u8.drew;rw[<-hu9];have hS0:Fr [] u8 u9:=hu9▸Fr.drew _ _;have hS:SB u8 bb (cntI i) u9:=⟨hS0.mono Yhs,m,hmu8.tr0 hS0,fun b=>hru.look b⟩
  ((refine u_tx 0 hS ?_);(refine u_tx 1 hS ?_);(refine u_tx 2 hS ?_))
  refine u_tx 3 hS ?_ (hrun:=(by intro u hu;exact(r_load rfl (Blk.cell (hbu.tr hu.1 hpn) rfl))));refine u_tx 4 hS ?_ (hrun:=(by intro u hu;exact(r_loadC rfl (Cells.ofBlk (hb8.tr hu.1 hb8n)) Yik)));refine u_tx 5 hS ?_ (hrun:=(by intro u hu;refine(r_cntS (P:=prog) (t:=122) (a:=l1[i]) ?_ ?_ hu);exact rfl;exact rfl));rw[hcb]
  ((refine u_tx 6 hS ?_))
  refine Ygm ?_;refine s_mapEntry (key:=brK) (val:=Value.int .i64) (a:=l1[i]) (z0:=0) (hmu8.tr0 hS0) rfl rfl (fun u10 st hm10 hf10 hs10=>?_);have hS10:=SB.entry (a:=l1[i]) (st:=st) hS.1 hru hf10 hm10;refine wpList_nil (q_uh hS10 ?_)
  ((refine u_tx 8 hS10 ?_))
  refine u_one (i:=9) rfl Yhp ?_;refine s_entryStore (v:=(s.cnt l1[i]:Int)+1) hm10 rfl rfl rfl (fun u11 hm11 hf11 hs11=>?_);refine Yet ?_;have hF11:Fr [bb] u5 u11:=((hF6.trans0 hF8).trans0 hS0).trans (hf10.trans hf11 (fun x hx=>.inl hx)) (fun x hx=>.inl hx);refine q_roundK (i+1,_) Yhl ⟨rfl,hlt,hm11,?_,hF11⟩ Yhw;refine(hru.entry (a:=l1[i]) (n:=s.cnt l1[i]+1) Yhn).congr (fun b=>?_);rw[hcntI];simp only[List.take_succ_eq_append_getElem hlt,List.mem_append,List.mem_singleton];by_cases e:b=l1[i]
  .rw [if_pos e,e];simp[b2n]
  .simp [e]
 have hil:i=l1.length:=by omega
 subst hil;have hrb6:RelB m (stAdd s r).cnt:=hru.congr (fun b=>by
  rw[hcntI];show s.cnt b+b2n (decide (b∈l1.take l1.length))=s.cnt b+b2n (decide (b∈r.bs));rw[List.take_length,hl1];simp only[mem_setL totB])
 have hr6:=hr5.tr hF6 (fun x hx hm=>n8 Yia);have hmp6:=hmp5.tr hF6 (by simpa using fun h=>n3 h.symm);have hcu:=hcu.tr hF6 (fun x hx hm=>n5 Yia);clear hru hr5 hmp5 hlt hBq;have hbru:=hbr.tr (hFw6.mono (fun x hx=>.inl (hMS x hx)));refine rx ?_;refine s_c1 (pairsC r.bs _ u6 hbru hbl) ?_;rintro vq u7 ⟨hBq,hf7⟩;obtain⟨l2,hl2⟩:=exq (setL ltP (pairsL r.bs));rw[<-hl2]at hBq;obtain⟨aop,cp,rfl⟩:=hBq.1.slice;have hl2n:l2.length<=1000000:=by
  have h1:=setL_len (lt:=ltP) (l:=pairsL r.bs);have h2:=pairsL_len (l:=r.bs);rw[hl2];omega
 have hqge:=hBq.2;have hs67:=hf7.size;have hbu:=hbu.tr0 hf7;have hr7:=hr6.tr0 hf7;have hmp7:=hmp6.tr0 hf7;have hcu:=hcu.tr0 hf7;have hmb7:=hmu.tr0 hf7;have hFw7:=hFw6.trans0 hf7;have hsw6:=hFw6.size;refine rx ?_;refine c_loopK 78 [10] (σ:=Nat×List (Pr×Bool)) (fun q g u=>g 78=iV (q.1:Nat)/\q.1<=l2.length/\Mp prK Value.bool u pb q.2/\RelP q.2 (fun a=>a∈s.ps\/a∈l2.take q.1)/\Fr [pb] u7 u) (fun q=>l2.length-q.1) (0,mp) ⟨rfl,Nat.zero_le _,hmp7,hrp.congr (fun b=>by simp),Fr.refl _ _⟩ ?_;clear hmp7;rintro⟨i,m2⟩ g u8 ⟨g78,hi,hmu2,hru,hF8⟩;simp only at g78 hi hmu2 hru;rw[eq_upd g78];have hs8:=hF8.size;have hFw8:Fr K w u8:=hFw7.trans hF8 (fun x hx=>.inl (by rw[List.mem_singleton.1 hx];exact hKm.2 (.inr (.inr (.inl rfl)))));have hbu:=hbu.tr hF8 (by simpa using n2);by_cases hlt:i<l2.length
 .obtain ⟨adq,hadq,hcq⟩:=src_rows prV_l6 ((hBq.1.src).tr hF8 (fun ad n c e _ hm=>by
   cases e
   have:=hqge ad.block Yic;rw[List.mem_singleton.1 hm]at this;omega)) hlt Yhy
  subst hadq;have hcq:Cells u8 (adq.add (i*6)) (prV l2[i]):=hcq;refine rx ?_;refine s_allocN (l:=[zT,zI,zI,zT,zI,zI]) rfl (fun u9 b8 hb8e hb8 hf9 hs9=>?_);refine rx ?_;refine s_storeAggB (cs:=prV l2[i]) rfl rfl hb8 (prV_one1 _) rfl rfl (fun u10 hb8 hf10 hs10=>?_);replace hb8:Blk u10 b8 (prV l2[i]) _:=hb8;have hF10:Fr [] u8 u10:=hf9.trans hf10 (fun x hx=>.inr Yhq);have hbu:=hbu.tr0 hF10;have hmu10:=hmu2.tr0 hF10;refine rx ?_;refine u_begin 5 (fun z=>Fr [] u10 z) Yhp rfl ?_;obtain⟨u11,hu11⟩:=exq u10.drew;rw[<-hu11];have hS:Fr [] u10 u11:=hu11▸Fr.drew _ _
  ((refine u_tx 0 hS ?_);(refine u_tx 1 hS ?_);(refine u_tx 2 hS ?_);(refine u_tx 3 hS ?_);(refine u_tx 4 hS ?_))
  refine Ygl ?_;refine s_mapUpd (key:=prK) (val:=Value.bool) (a:=l2[i]) (v:=true) (hmu10.tr0 hS) rfl rfl rfl (fun u12 hm12 hf12 hs12=>?_);refine Yet ?_;have hF12:Fr [pb] u7 u12:=((hF8.trans0 hF10).trans0 hS).trans hf12 (fun x hx=>.inl hx);refine q_roundK (i+1,_) Yhl ⟨rfl,hlt,hm12,hru.put.congr (fun b=>?_),hF12⟩ Yhw;simp only[List.take_succ_eq_append_getElem hlt,List.mem_append,List.mem_singleton];constructor
  .rintro (h|h|h)
   .exact .inr (.inr h)
   .exact .inl h
   .exact .inr (.inl h)
  .rintro (h|h|h)
   .exact .inr (.inl h)
   .exact .inr (.inr h)
   .exact .inl h
 have hil:i=l2.length:=by omega
 subst hil;have hrp8:RelP m2 (· ∈(stAdd s r).ps):=hru.congr (fun b=>by
  show b∈s.ps\/b∈l2.take l2.length↔b∈setL ltP (s.ps++pairsL r.bs);rw[List.take_length,hl2,mem_setL totP,mem_setL totP,List.mem_append])
 refine Yeo ?_;rw[if_pos rfl];refine⟨rfl,?_,hFw8⟩;rw[hK];exact⟨bb,pb,vr,_,m,m2,rfl,rfl,hnd,hbu,hr7.tr hF8 (fun x hx hm=>n9 Yia),by rw[show(stAdd s r).cls.length=s.cls.length by simp[stAdd]];exact hcu.tr hF8 (fun x hx hm=>n6 Yia),hmb7.tr hF8 (by simpa using n3),hrb6,hmu2,hrp8,hok.mono r hfit⟩
end Go.Proofs.YtggmccicdhnkgaaGreat
namespace Go.Rf
open Go.RowKit
variable{i:Nat}{α:Type}
theorem any_no{p:α->Bool}{l:List α}(h:∀i (hi:i<l.length),p l[i]=false):l.any p=false:=by
 rw[List.any_eq_false];intro x hx;obtain⟨i,hi,rfl⟩:=List.getElem_of_mem hx;rw[h i hi];simp
theorem any_yes{p:α->Bool}{l:List α}(hi:i<l.length)(h:p l[i]=true):l.any p=true:=by
 rw[List.any_eq_true];exact⟨l[i],List.getElem_mem hi,h⟩
theorem filter_snoc{p:α->Bool}{l:List α}(hi:i<l.length):(l.take (i+1)).filter p=(l.take i).filter p++(if p l[i]=true then[l[i]] else[]):=by
 rw[List.take_succ_eq_append_getElem hi,List.filter_append]
 congr 1
 by_cases h:p l[i]=true<;>simp[h]
end Go.Rf
namespace Go.Proofs.YtggmccicdhnkgaaGreat
open Go.Proofs.Tryz
open Go.Rf Go.RowKit
variable{M R:List Nat}{p:Nat}{P:Pp}{s:St}
attribute [local irreducible] Code.wp wpList Exit.then Exit.inBlock bodyPost A Calls execOp Addr.add
set_option maxHeartbeats 16000000 in
theorem missC(w:World)(hC:CovM w p M R P s)(hn:P.reach.length<=1000000):
 Calls prog 18 #[.pointer (some ⟨p,0,none⟩)] w fun e w'=>∃v,e=.returned v/\BO w 50 w' (missR P s) v/\Fr [] w w':=by
 obtain⟨bb,pb,vr,vc,mb,mp,rfl,rfl,hnd,hb,hr,hc,hmb,hrb,hmp,hrp,hok⟩:=hC;obtain⟨aor,cr,rfl⟩:=hr.slice;refine enter func18 rfl ntmps18 rfl ?_;refine rx ?_;refine c_loopK 11 [3,5] (σ:=Nat×Value) (fun t g u=>g 3=t.2/\g 11=iV (t.1:Nat)/\t.1<=P.reach.length/\BO w 50 u ((P.reach.take t.1).filter (fun b=>decide (s.cnt b=0))) t.2/\Fr [] w u) (fun t=>P.reach.length-t.1) (0,_) ⟨rfl,rfl,Nat.zero_le _,BO.nil,Fr.refl _ _⟩ ?_;rintro⟨i,va⟩ g u ⟨g3,g11,hi,hB,hF⟩;simp only at g3 g11 hi hB;rw[eq_upd g3,eq_upd g11];have hsu:=hF.size;by_cases hlt:i<P.reach.length
 case neg=>
  rw[List.take_of_length_le Yhn]at hB;refine Yeo ?_;exact⟨va,rfl,hB,hF⟩
 obtain⟨ad,rfl,hc1⟩:=src_rows brV_l3 (hr.src.tr0 hF) hlt Yhy;have hc1:Cells u (ad.add (i*3)) [.string P.reach[i].decl,iV P.reach[i].at_,iV P.reach[i].arm]:=hc1;have hbu:=hb.tr0 hF;have hmu:=hmb.tr0 hF;refine rx ?_;refine s_allocN (l:=[zT,zI,zI]) rfl (fun u1 b5 hb5 h5 hf1 hs1=>?_);refine rx ?_;refine s_storeAggB (cs:=brV P.reach[i]) rfl rfl h5 (brV_one1 _) rfl rfl (fun u2 h5 hf2 hs2=>?_);replace h5:Blk u2 b5 [.string P.reach[i].decl,iV P.reach[i].at_,iV P.reach[i].arm] _:=h5;have hF2:Fr [] u u2:=hf1.trans hf2 (fun x hx=>.inr Yhq);have hbu:=hbu.tr0 hF2;have hmu:=hmu.tr0 hF2;have hB2:=hB.tr0 hF2;have hs12:=hF2.size;have hml:((P.reach.take i).filter (fun b=>decide (s.cnt b=0))).length<=i:=by
  have:=List.length_filter_le (fun b=>decide (s.cnt b=0)) (P.reach.take i);rw[List.length_take]at this;omega
 refine rx ?_;refine d_begin (fun z=>Fr [] u2 z) Yhp rfl ?_;obtain⟨u3,hu3⟩:=exq u2.drew;rw[<-hu3];have hS:Fr [] u2 u3:=hu3▸Fr.drew _ _;refine d_z4 0 1 2 3 hS ?_;refine d_z 4 hS ?_;refine d_tx 5 hS ?_ (hrun:=by(intro u hu;refine(r_cnt (P:=prog) (t:=122) (a:=P.reach[i]) ?_ ?_ (hmu.tr0 hu) hrb);exact rfl;exact rfl));have h5:=h5.tr0 hS;have hF3:=(hF.trans0 hF2).trans0 hS;by_cases hz:s.cnt P.reach[i]=0
 . (refine d_z 6 hS ?_)
   refine Yev ?_;refine s_rows1 (c1:=brV P.reach[i]) rfl rfl rfl (fun u4 q4 hq4 ho4 hf4 hs4=>?_);refine rx ?_;refine s_appB (m:=1) (al:=[P.reach[i]]) ((hB2.tr0 hS).tr0 hf4) rfl rfl rfl (show Src u4 (.slice (some ⟨q4,0,none⟩) 1 1) 1 ([P.reach[i]].flatMap brV) from by simpa using ho4.src) Yhv Yhn (by have:=hF3.size;omega) (fun v5 u5 hB5 hfr5=>?_);refine rx ?_;refine q_roundK (i+1,v5) Yhl ⟨rfl,rfl,hlt,?_,hfr5 [] (hF3.trans0 hf4)⟩ Yhw;simp only;rw[filter_snoc hlt,if_pos (decide_eq_true hz)];exact hB5
 . (refine d_z 6 hS ?_)
   refine Yev ?_;refine q_roundK (i+1,va) Yhl ⟨rfl,rfl,hlt,?_,hF3⟩ Yhw;simp only;rw[filter_snoc hlt,if_neg (by simpa using hz),List.append_nil];exact hB2.tr0 hS
set_option maxHeartbeats 16000000 in
theorem freshC(r:Rn)(vb vl:Value)(w:World){S:List Nat}(hC:CovM w p M R P s)(hbr:DR w S (.l (r.bs.map brC)) vb)(hl:DR w S (.l (r.cl.map intR)) vl):
 Calls prog 16 #[.pointer (some ⟨p,0,none⟩),.agg ([iV r.kind,iV r.at_,iV r.code,vb,vl,zI]:List Value).toArray] w fun e w'=>e=.returned (.bool (fitsR P r&&freshR s r))/\Fr [] w w':=by
 have hC0:=hC;have h1b:=hbr.one;have h1l:=hl.one;obtain⟨bb,pb,vr,vc,mb,mp,rfl,rfl,hnd,hb,hr,hc,hmb,hrb,hmp,hrp,hok⟩:=hC;have hncls:=hok.ncls;obtain⟨aoc,cc,rfl⟩:=hc.slice;have hlbd:=hl.bound;have hbbd:=hbr.bound;obtain⟨aol,cl,rfl,_⟩:=hl.slice;obtain⟨aob,cb,rfl,_⟩:=hbr.slice;simp only[List.length_map]at hl hbr h1b h1l hlbd hbbd ⊢;refine enter func16 rfl ntmps16 rfl ?_;refine rx ?_;refine s_boxN (l:=[iV r.kind,iV r.at_,iV r.code,(.slice aob r.bs.length cb),(.slice aol r.cl.length cl),zI]) rfl rfl (fun w1 b3 hb3 h3 hf1 hs1=>?_);refine rx ?_;refine s_cE (fitsC r (.slice aob r.bs.length cb) (.slice aol r.cl.length cl) w1 (hC0.tr0 hf1) (hl.tr0 hf1) h1b) ?_;rintro w2 hf2;have hF2:=hf1.trans0 hf2;cases hfit:fitsR P r with
 |false=>
  refine Yeo ?_;exact⟨by simp,hF2⟩
 |true=>
 have hfit':=hfit;unfold fitsR at hfit';rw[Bool.and_eq_true]at hfit';have hcls:=hfit'.2;have h3:=h3.tr0 hf2;have hb2:=hb.tr0 hF2;have hc2:=hc.tr0 hF2;refine rx ?_;refine c_loopK 16 [6] (σ:=Nat) (fun i g u=>g 16=iV (i:Nat)/\i<=r.cl.length/\(∀j (hj:j<r.cl.length),j<i->decide (s.cls.getD r.cl[j].toNat 0=0)=false)/\Fr [] w2 u) (fun i=>r.cl.length-i) 0 ⟨rfl,Nat.zero_le _,fun j hj h=>by omega,Fr.refl _ _⟩ ?_;rintro i g u ⟨g16,hi,hpre,hF⟩;rw[eq_upd g16];have hFu:=hF2.trans0 hF;have h3:=h3.tr0 hF;have hbu:=hb2.tr0 hF;by_cases hlt:i<r.cl.length
 .obtain ⟨adl,hadl,hcell⟩:=src_at (ints_src (hl.tr0 hFu)) (int_get hlt);subst hadl;have hin:=cls_in hcls (List.getElem_mem hlt);obtain⟨j,hj⟩:∃j:Nat,(j:Int)=r.cl[i]:=⟨r.cl[i].toNat,Int.toNat_of_nonneg hin.1⟩;have hjl:j<s.cls.length:=by omega
  obtain⟨adc,hadc,hcc⟩:=src_at (hc2.tr0 hF).src (natsV_get hjl);have hget:s.cls.getD r.cl[i].toNat 0=s.cls[j]:=by rw[<-hj,Int.toNat_natCast,getD_at hjl]
  refine Yfm ?_;refine rx ?_;refine s_index1 rfl rfl hj.symm hjl hadc ?_;refine s_load rfl hcc ?_;by_cases hz:s.cls[j]=0
  .refine rx ?_;refine Yfw ?_;refine⟨?_,hFu⟩;unfold freshR;rw[any_yes hlt (decide_eq_true (by rw[hget];exact hz))];simp
  .refine rx ?_;refine q_roundK (i+1) Yhl ⟨rfl,hlt,fun k hk h=>?_,hF⟩ Yhn;by_cases e:k=i
   .subst e;exact decide_eq_false (by rw[hget];exact hz)
   .exact hpre k hk Yhn
 have hcl0:r.cl.any (fun x=>decide (s.cls.getD x.toNat 0=0))=false:=any_no (fun j hj=>hpre j hj Yhn);have hmu:=hmb.tr0 hFu;have hmpu:=hmp.tr0 hFu;clear hpre;refine rx ?_;clear hlt;refine c_loopK 32 [7,8] (σ:=Nat) (fun i g u'=>g 32=iV (i:Nat)/\i<=r.bs.length/\(∀j (hj:j<r.bs.length),j<i->decide (s.cnt r.bs[j]=0)=false/\∀h:j+1<r.bs.length,j+1<i->decide ((r.bs[j],r.bs[j+1])∈s.ps)=true)/\Fr [] u u') (fun i=>r.bs.length-i) 0 ⟨rfl,Nat.zero_le _,fun j hj h=>by omega,Fr.refl _ _⟩ ?_;rintro k g u1 ⟨g32,hk,hpre,hF1⟩;rw[eq_upd g32];have hFu1:=hFu.trans0 hF1;have h3:=h3.tr0 hF1;have hbu:=hbu.tr0 hF1;by_cases hlt:k<r.bs.length
 case neg=>
  refine Yeo ?_;refine⟨?_,hFu1⟩;unfold freshR;rw[hcl0,any_no (fun j hj=>(hpre j hj Yhn).1),any_no (fun j hj=>?_)]
  .simp
  .have hpl:=pairsL_len (l:=r.bs);have hj1:j+1<r.bs.length:=by omega
   have hg:=(List.getElem?_eq_some_iff.1 (pairsL_get hj1)).2;rw[hg,(hpre j Yhn Yhn).2 hj1 Yhn];rfl
 obtain⟨ad,hade,hc1⟩:=src_rows brV_l3 (DR.brs (hbr.tr0 hFu1)) hlt Yhy;subst hade;have hc1:Cells u1 (ad.add (k*3)) [.string r.bs[k].decl,iV r.bs[k].at_,iV r.bs[k].arm]:=hc1;have hmu:=hmu.tr0 hF1;have hmpu:=hmpu.tr0 hF1;refine rx ?_;refine s_allocN (l:=[zT,zI,zI]) rfl (fun u2 b8 hb8 h8 hf5 hs5=>?_);refine rx ?_;refine s_storeAggB (cs:=brV r.bs[k]) rfl rfl h8 (brV_one1 _) rfl rfl (fun u3 h8 hf6 hs6=>?_);replace h8:Blk u3 b8 [.string r.bs[k].decl,iV r.bs[k].at_,iV r.bs[k].arm] _:=h8;have hF3:Fr [] u1 u3:=hf5.trans hf6 (fun x hx=>.inr Yhq);have h3:=h3.tr0 hF3;have hbu:=hbu.tr0 hF3;have hmu:=hmu.tr0 hF3;have hmpu:=hmpu.tr0 hF3;refine rx ?_;refine d_begin (fun z=>Fr [] u3 z) Yhp rfl ?_;obtain⟨u4,hu4⟩:=exq u3.drew;rw[<-hu4];have hS:Fr [] u3 u4:=hu4▸Fr.drew _ _;have hF4:=(hFu1.trans0 hF3).trans0 hS;have hF4u:=(hF1.trans0 hF3).trans0 hS;refine d_z4 0 1 2 3 hS ?_;refine d_z 4 hS ?_;refine d_tx 5 hS ?_ (hrun:=by(intro u hu;refine(r_cnt (P:=prog) (t:=122) (a:=r.bs[k]) ?_ ?_ (hmu.tr0 hu) hrb);exact rfl;exact rfl));by_cases hz:s.cnt r.bs[k]=0
 . (refine d_z4 6 7 8 9 hS ?_;refine d_z4 10 11 12 13 hS ?_;refine d_z4 14 15 16 17 hS ?_;refine d_z4 18 19 20 21 hS ?_;refine d_z4 22 23 24 25 hS ?_;refine d_z 26 hS ?_)
   refine Yfx ?_;refine Yeo ?_;refine⟨?_,hF4⟩;unfold freshR;rw[any_yes (p:=fun b=>decide (s.cnt b=0)) hlt (decide_eq_true hz)];simp
 by_cases hk0:k=0
 . (refine d_z4 6 7 8 9 hS ?_;refine d_z4 10 11 12 13 hS ?_;refine d_z4 14 15 16 17 hS ?_;refine d_z4 18 19 20 21 hS ?_;refine d_z4 22 23 24 25 hS ?_;refine d_z 26 hS ?_)
   refine Yev ?_;refine q_roundK (k+1) Yhl ⟨rfl,hlt,fun j hj h=>⟨?_,fun h1 h2=>by omega⟩,hF4u⟩ Yhn;obtain rfl:j=k:=by omega
   exact decide_eq_false hz
 obtain⟨ad',hade,hc2⟩:=src_rows brV_l3 (DR.brs (hbr.tr0 (hFu1.trans0 hF3))) (show k-1<r.bs.length by omega) Yhy;cases hade
 have hc2:Cells u3 (ad.add ((k-1)*3)) [.string r.bs[k-1].decl,iV r.bs[k-1].at_,iV r.bs[k-1].arm]:=hc2;refine d_z4 6 7 8 9 hS ?_;refine d_z4 10 11 12 13 hS ?_;refine d_z4 14 15 16 17 hS ?_;refine d_z 18 hS ?_;rw[show((k:Int)-1)=((k-1:Nat):Int) by omega];refine d_z2 19 20 hS ?_;refine d_z 21 hS ?_;refine d_ty 22 hS ?_ (v:=.agg ((prV (r.bs[k-1],r.bs[k]))).toArray) (hrun:=by(intro u hu;exact r_buildA ((prV (r.bs[k-1],r.bs[k]))) Yik));refine d_ty 23 hS ?_ (hrun:=by(intro u hu;refine(r_has (P:=prog) (t:=123) (q:=(· ∈s.ps)) (a:=(r.bs[k-1],r.bs[k])) ?_ ?_ (hmpu.tr0 hu) hrp);exact rfl;exact rfl));have hkp:∃h:k-1<(pairsL r.bs).length,(pairsL r.bs)[k-1]=(r.bs[k-1],r.bs[k]):=by
  have hg:=pairsL_get (l:=r.bs) (i:=k-1) Yhn;obtain⟨h1,h2⟩:=List.getElem?_eq_some_iff.1 hg;refine⟨h1,h2.trans ?_⟩;have:k-1+1=k:=by omega
  simp only[this]
 obtain⟨hkl,hkp⟩:=hkp;by_cases hin:(r.bs[k-1],r.bs[k])∈s.ps
 .rw [decide_eq_true hin];refine d_z2 24 25 hS ?_;refine d_z 26 hS ?_;refine Yev ?_;refine q_roundK (k+1) Yhl ⟨rfl,hlt,fun j hj h=>⟨?_,fun h1 h2=>?_⟩,hF4u⟩ Yhn
  .by_cases e:j=k
   .subst e;exact decide_eq_false hz
   .exact (hpre j hj Yhn).1
  .by_cases e:j+1=k
   .subst e;exact decide_eq_true (by simpa using hin)
   .exact (hpre j hj Yhn).2 h1 Yhn
 .rw [decide_eq_false hin];refine d_z2 24 25 hS ?_;refine d_z 26 hS ?_;refine Yfx ?_;refine Yeo ?_;refine⟨?_,hF4⟩;unfold freshR;rw[any_yes (p:=fun p=> !decide (p∈s.ps)) hkl (by rw[hkp,decide_eq_false hin];rfl)];simp
end Go.Proofs.YtggmccicdhnkgaaGreat
