/-
 Covers in intervals of the heap:Add,Copy,Merge and Encode of package cover there.
-/
import Derived.Test.YtggmccicdhnkgaaGreatYJc
import Derived.Test.YtggmccicdhnkgaaGreatYMs
import Derived.Test.YtggmccicdhnkgaaGreatYJn
import Derived.Test.YtggmccicdhnkgaaGreatYJs
set_option linter.all false
set_option maxHeartbeats 64000000
namespace Go.Rf
open Go.RowKit
variable{α β:Type}
theorem left_step{left left':List (α×β)}{a:α}{v:β}{q:α×β->Prop}(hl:left.Perm ((a,v)::left'))(h:∀x∈left,q x):q (a,v)/\∀x∈left',q x:=⟨h _ (hl.mem_iff.2 Yhs),fun x hx=>h _ (hl.mem_iff.2 Yix)⟩
theorem Jlp{xs:List α}{left left':List (α×β)}{m:List (α×β)}{a:α}{v:β}(hn:(m.map Prod.fst).Nodup)(hp:(xs++left.map Prod.fst).Perm (m.map Prod.fst))(hl:left.Perm ((a,v)::left')):a∉xs:=by
 have h1:(xs++left.map Prod.fst).Nodup:=hp.nodup_iff.2 hn;rw[DW]at h1;intro hx;exact h1.2.2 a hx a (Du.2 ⟨(a,v),hl.mem_iff.2 Yhs,rfl⟩) rfl
theorem RelB.mem{m:List (Br×Int)}{cnt:Br->Nat}(hn:(m.map Prod.fst).Nodup)(h:RelB m cnt):∀x∈m,x.2=(cnt x.1:Int)/\cnt x.1≠0:=fun x hx=>by
 have h1:=(Jll hn).2 (show(x.1,x.2)∈m from hx);rw[h x.1]at h1;by_cases h0:cnt x.1=0
 .rw [Cb h0]at h1;cases h1
 .rw [SH h0]at h1;exact⟨(Dl h1).symm,h0⟩
end Go.Rf
namespace Go.Proofs.YtggmccicdhnkgaaGreat
open Go.Proofs.Tryz
open Go.Rf Go.RowKit
attribute [local irreducible] Code.wp wpList Exit.then Exit.inBlock bodyPost A Calls execOp Addr.add
theorem Jlw{p:Nat}{M R:List Nat}{P:Pp}{s:St}(w:World)(hC:Wj w p M R P s)(hn:s.cls.length<=1000000):
 Calls prog 31 #[.pointer (some ⟨p,0,none⟩)] w fun e w'=>∃q M',e=.returned (.pointer (some ⟨q,0,none⟩))/\Wj w' q M' R P s/\(∀x∈M',w.heap.size<=x)/\Fr [] w w':=by
 obtain⟨bb,pb,vr,vc,mb,mp,rfl,rfl,hnd,hb,hr,hc,hmb,hrb,hmp,hrp,hok⟩:=hC;have hr1:=hr.one;have hc1:=hc.one;have hrlt:=hr.lt;have hcsrc:=hc.src;refine enter func31 rfl ntmps31 rfl ?_;refine rx ?_;refine Jm (l:=[zT,zI,zS,zI,zI,zI,zI,zS,.map none,.map none]) rfl (fun w1 q hqe hq hf1 hs1=>?_);refine rx ?_;refine Jd (cs:=([.string P.prop,iV (P.checks:Nat),vr,iV (s.runs:Nat),iV (s.o 0:Nat),iV (s.o 1:Nat),iV (s.o 2:Nat),vc,.map (some bb),.map (some pb)])) rfl rfl hq (by intro c hc;simp only[SC,S9,CU]at hc;rcases hc with rfl|rfl|rfl|rfl|rfl|rfl|rfl|rfl|rfl|rfl<;>first|rfl|assumption) rfl rfl (fun w2 hq2 hf2 hs2=>?_);have hF2:Fr [] w w2:=hf1.trans hf2 (fun x hx=>.inr Yhq);have hb2:=hb.tr0 hF2;refine rx ?_;refine Qr (fun w3 ho hf3 hs3=>?_);have hb3:=hb2.tr0 hf3;refine rx ?_;refine JC ho rfl ((hcsrc.tr0 hF2).tr0 hf3) rfl Ykf (WX _) Yhv Yhn (fun vc2 w4 hc4 hf4 hk4 _=>?_);have hs4:=hf4.size;have hk4':∀x∈blks vc2,w2.heap.size<=x:=fun x hx=>(hk4 x hx).elim (fun h=>by simp[blks,Value.ownBlock]at h;omega) Yid
 have hF24:Fr [] w2 w4:=hf3.trans hf4 (fun x hx=>.inr Ymb);have hq4:=hq2.tr0 hF24;rw[CO,Di]at hc4;have hc41:=hc4.one;have hs24:=hF24.size;have hc4lt:=hc4.lt;refine rx ?_
 ((with_reducible apply Ji);exact rfl;(conv=>lhs;whnf);exact hc41;exact hq4;exact rfl)
 intro w5 hq5 hf5 hs5;replace hq5:Blk w5 q [.string P.prop,iV (P.checks:Nat),vr,iV (s.runs:Nat),iV (s.o 0:Nat),iV (s.o 1:Nat),iV (s.o 2:Nat),vc2,.map (some bb),.map (some pb)] _:=hq5;have hc5:=hc4.tr hf5 Yja;have hF5:Fr [] w w5:=(hF2.Jb hF24).trans hf5 (fun x hx=>.inr Yhq);refine rx ?_;refine Kt (key:=brK) (val:=Value.int .i64) (fun w6 hm6 hf6 hs6=>?_);obtain⟨nb,hnb⟩:=exq w5.heap.size;rw[<-hnb]at hm6 ⊢;refine rx ?_
 ((with_reducible apply Ji);exact rfl;(conv=>lhs;whnf);exact rfl;exact(hq5.tr0 hf6);exact rfl)
 intro w7 hq7 hf7 hs7;replace hq7:Blk w7 q [.string P.prop,iV (P.checks:Nat),vr,iV (s.runs:Nat),iV (s.o 0:Nat),iV (s.o 1:Nat),iV (s.o 2:Nat),vc2,.map (some nb),.map (some pb)] _:=hq7;have hF57:Fr [q] w5 w7:=(hf6.mono Yhs).trans hf7 (fun x hx=>.inl hx);have hm7:=hm6.tr hf7 Yht;have hc7:=hc5.tr hF57 Yja;have hF7:Fr [] w w7:=hF5.trans hF57 (fun x hx=>.inr Yhq);have hb7:=hb.tr0 hF7;have hmb7:=hmb.tr0 hF7;refine rx ?_;refine BR rfl hmb7 (fun w8 hIt hf8 hs8=>?_);obtain⟨rr,hrr⟩:=exq w7.heap.size;rw[<-hrr]at hIt ⊢;have hq8:=hq7.tr0 hf8;have hm8:=hm7.tr0 hf8;have hc8:=hc7.tr0 hf8;have hF8:=hF7.Jb hf8;have hbblt:=hmb.lt;have hpblt:=hmp.lt;have hplt:=hb.lt;have hs8':=hF8.size;have hmem:=hrb.mem hmb.nd;clear hq hq2 hq4 hq5 hq7 hm6 hm7 hc4 hc5 hc7 hb2 hb3;refine rx ?_;refine Jh 24 [4,5] (σ:=List Br×List (Br×Int)×Option (Br×Int)×List (Br×Int)) (fun t g u=>MIt brK (Value.int .i64) u bb rr mb t.2.1 t.2.2.1/\Mp brK (Value.int .i64) u nb t.2.2.2/\RelB t.2.2.2 (fun b=>if b∈t.1 then s.cnt b else 0)/\(t.1++t.2.1.map Prod.fst).Perm (mb.map Prod.fst)/\(∀x∈t.2.1,x∈mb)/\Fr [rr,nb] w8 u) (fun t=>t.2.1.length) ([],mb,none,[]) ⟨hIt,hm8,RelB.nil.congr (fun b=>by simp),by simp,fun x hx=>hx,Fr.refl _ _⟩ ?_;clear hIt hm8;rintro⟨xs,left,cur,m2⟩ g u ⟨hIt,hm2,hr2,hp,hsub,hF⟩;simp only at hIt hm2 hr2 hp hsub;have hsu:=hF.size;have hrl:=hIt.lt;have hm2lt:=hm2.lt;have hqu:=hq8.tr hF Yht;refine rx ?_;refine JaJ rfl hIt (fun h0=>?_) (fun a av left' u3 hl' hIt3 hf3 hs3=>?_)
 .have hk:=LC h0 hp;have hr3:RelB m2 s.cnt:=hr2.congr (fun b=>by
   by_cases h:b∈xs
   .rw [Cb h]
   .rw [SH h];have h1:¬b∈mb.map Prod.fst:=fun h2=>h (hk.mem_iff.2 h2)
    have h3:s.cnt b=0:=DZ (fun h2=>h1 (hrb.keys.2 h2));omega)
  have hcu:=hc8.tr hF (fun x hx hm=>by have:=hc4lt x hx;simp at hm;omega);have hFu:Fr [] w u:=hF8.trans hF (fun x hx=>.inr (by simp at hx;omega));clear hIt hr2 hp hsub hq8 hc8;refine rx ?_;refine Kt (key:=prK) (val:=Value.bool) (fun v1 hn1 hg1 ht1=>?_);obtain⟨np,hnp⟩:=exq u.heap.size;rw[<-hnp]at hn1 ⊢;refine rx ?_
  ((with_reducible apply Ji);exact rfl;(conv=>lhs;whnf);exact rfl;exact(hqu.tr0 hg1);exact rfl)
  intro v2 hq9 hg2 ht2;replace hq9:Blk v2 q [.string P.prop,iV (P.checks:Nat),vr,iV (s.runs:Nat),iV (s.o 0:Nat),iV (s.o 1:Nat),iV (s.o 2:Nat),vc2,.map (some nb),.map (some np)] _:=hq9;have hn2:=hn1.tr hg2 Yht;have hG2:Fr [q] u v2:=(hg1.mono Yhs).trans hg2 (fun x hx=>.inl hx);have hc9:=hcu.tr hG2 Yja;have hm9:=hm2.tr hG2 Yht;have hF9:Fr [] w v2:=hFu.trans hG2 (fun x hx=>.inr Yhq);have hb9:=hb.tr0 hF9;have hmp9:=hmp.tr0 hF9;have hsv2:=hG2.size;refine rx ?_;refine BR rfl hmp9 (fun v3 hIt hg3 ht3=>?_);obtain⟨rs,hrs⟩:=exq v2.heap.size;rw[<-hrs]at hIt ⊢;have hq10:=hq9.tr0 hg3;have hn3:=hn2.tr0 hg3;have hc10:=hc9.tr0 hg3;have hm10:=hm9.tr0 hg3;have hF10:=hF9.Jb hg3;clear hq9 hn2 hn1 hc9 hm9 hb9;refine rx ?_;refine Jh 40 [6] (σ:=List Pr×List (Pr×Bool)×Option (Pr×Bool)×List (Pr×Bool)) (fun t g u=>MIt prK Value.bool u pb rs mp t.2.1 t.2.2.1/\Mp prK Value.bool u np t.2.2.2/\BJ t.2.2.2 (· ∈t.1)/\(t.1++t.2.1.map Prod.fst).Perm (mp.map Prod.fst)/\Fr [rs,np] v3 u) (fun t=>t.2.1.length) ([],mp,none,[]) ⟨hIt,hn3,BJ.nil.congr (fun b=>by simp),by simp,Fr.refl _ _⟩ ?_;clear hIt hn3;rintro⟨ys,left,cur,m3⟩ g u ⟨hIt,hm3,hr4,hp,hF⟩;simp only at hIt hm3 hr4 hp;have hsu3:=hF.size;have hrl:=hIt.lt;have hm3lt:=hm3.lt;have hqu:=hq10.tr hF Yht;refine rx ?_;refine JaJ rfl hIt (fun h0=>?_) (fun a av left' u3 hl' hIt3 hf3 hs3=>?_)
  .have hk:=LC h0 hp;refine Yeo ?_;have hcu:=hc10.tr hF (fun x hx hm=>by have:=hc4lt x hx;simp at hm;omega);have hmu:=hm10.tr hF Yht;refine⟨q,[q,nb,np]++blks vc2,rfl,⟨nb,np,vr,vc2,m2,m3,rfl,rfl,Jj8 (JaW hcu) (JaW hr) Yhn Yhn Yhn (fun x hx=>?_) (fun x hx=>?_),hqu,(hr.tr0 hF10).tr hF (fun x hx hm=>by have:=hrlt x hx;simp at hm;omega),hcu,hmu,hr3,hm3,hr4.congr (fun b=>?_),hok⟩,fun x hx=>?_,hF10.trans hF (fun x hx=>.inr (by simp at hx;omega))⟩
   .have h1:=hk4' x hx;have h2:=hc4lt x hx;refine⟨by omega,by omega,by omega,fun hm=>?_⟩;have:=hrlt x hm;omega
   .have:=hrlt x hx;exact⟨by omega,by omega,by omega⟩
   .rw [hk.mem_iff];exact hrp.keys
   .simp only[SE,SC,S9,CU]at hx;rcases hx with(rfl|rfl|rfl)|hx
    .omega
    .omega
    .omega
    .have:=hk4' x hx;omega
  .have hm4:=hm3.tr hf3 Yht;have hqv:=hqu.tr hf3 Yht;have hll:=hl'.length_eq;simp only[SI]at hll;have hF3:Fr [rs,np] v3 u3:=hF.trans hf3 (fun x hx=>.inl Yip);refine Yfn ?_;refine Jm (l:=[zT,zI,zI,zT,zI,zI]) rfl (fun u4 bv hbv hv4 hf4 hs4=>?_);refine rx ?_;refine Jd (cs:=prV a) rfl rfl hv4 (Wu a) rfl rfl (fun u5 hv5 hf5 hs5=>?_);replace hv5:Blk u5 bv (prV a) _:=hv5;have hF35:Fr [] u3 u5:=hf4.trans hf5 (fun x hx=>.inr Yhq);have hqw:=hqv.tr0 hF35;have hs35:=hF35.size;refine rx ?_;refine BX (key:=prK) (val:=Value.bool) (a:=a) (v:=true) (hm4.tr0 hF35) rfl rfl rfl (fun u6 hm6 hf6 hs6=>?_);refine rx ?_;refine Jc (ys++[a],left',some (a,av),_) Yhl ⟨(hIt3.tr0 hF35).tr hf6 Yht Yht,hm6,hr4.put.congr (fun b=>by simp[or_comm]),JeH hl' hp,(hF3.Jb hF35).trans hf6 (fun x hx=>.inl Yip)⟩ Yhw
 .have hm3:=hm2.tr hf3 Yht;have hqv:=hqu.tr hf3 Yht;have hll:=hl'.length_eq;simp only[SI]at hll;obtain⟨hq1,hq2⟩:=left_step hl' hsub;obtain⟨hav,hc0⟩:=hmem _ hq1;simp only at hav hc0;subst hav;have hF3:Fr [rr,nb] w8 u3:=hF.trans hf3 (fun x hx=>.inl Yip);refine Yfn ?_;refine Jm (l:=[zT,zI,zI]) rfl (fun u4 bv hbv hv4 hf4 hs4=>?_);refine rx ?_;refine Jd (cs:=brV a) rfl rfl hv4 (QD a) rfl rfl (fun u5 hv5 hf5 hs5=>?_);replace hv5:Blk u5 bv [.string a.decl,iV a.at_,iV a.arm] _:=hv5;have hF35:Fr [] u3 u5:=hf4.trans hf5 (fun x hx=>.inr Yhq);have hqw:=hqv.tr0 hF35;have hs35:=hF35.size;refine rx ?_;refine BX (key:=brK) (val:=Value.int .i64) (a:=a) (v:=(s.cnt a:Int)) (hm3.tr0 hF35) rfl rfl rfl (fun u6 hm6 hf6 hs6=>?_);refine rx ?_;refine Jc (xs++[a],left',some (a,(s.cnt a:Int)),_) Yhl ⟨(hIt3.tr0 hF35).tr hf6 Yht Yht,hm6,(hr2.put (b:=a) hc0).congr (fun b=>?_),JeH hl' hp,hq2,(hF3.Jb hF35).trans hf6 (fun x hx=>.inl Yip)⟩ Yhw;by_cases e:b=a
  .subst e;simp
  .simp [e]
end Go.Proofs.YtggmccicdhnkgaaGreat
namespace Go.Rf
open Go.RowKit
theorem JaP{P:Program}{n:Nat}{f:Env}{w:World}{d:Nat}{ty:TypeId}{ps:String}{af:Array Edge}{gd:Option (Nat×Bool)}{x y:Operand}{t t2:Nat}[B:BrT P t]{a b:Br}{p:Bool}(hx:ev n f x=.agg (brV a).toArray)(hy:ev n f y=.agg (brV b).toArray)(hp:decide (¬a=b)=p):(execOp (ev n f) ⟨some d,.binOp .neq t x y t2,ty,ps,af,gd⟩).run P w=.ok (.value (.bool p)) w:=by
 have h2:(Op.equal t (.agg (brV a).toArray) (.agg (brV b).toArray)).run P w=.ok (decide (a=b)) w:=UE (P:=P) (t:=t) (w:=w) 9998 a b;subst hp;by_cases h:a=b
 .subst h;rw[SN rfl]at h2;simp[execOp,eqGuard,binOp,hx,hy,h2,B.grd]
 .rw [SG h]at h2;simp[execOp,eqGuard,binOp,hx,hy,h2,B.grd,h]
def oI(a b:Nat->Nat)(i j:Nat):Nat:=if j<i then a j+b j else a j
def clJ(a b:List Nat)(i:Nat):List Nat:=(List.zipWith (· + ·) a b).take i++a.drop i
theorem Jln{a b:List Nat}:clJ a b 0=a:=by simp[clJ]
theorem Jlq{a b:List Nat}(h:a.length=b.length):clJ a b a.length=List.zipWith (· + ·) a b:=by
 unfold clJ;rw[SQ Yht,List.drop_length,Ce]
theorem Jlu{a b:List Nat}{i:Nat}(h:a.length=b.length)(hi:i<a.length):(Vk (clJ a b i))[i]?=some (iV (a[i]:Nat)):=by
 have hl:((List.zipWith (· + ·) a b).take i).length=i:=by simp;omega
 unfold clJ Vk;rw[ET,Ee Yhn,hl,DV,EN,En,Dc hi];rfl
theorem Jlo{a b:List Nat}{i:Nat}(h:a.length=b.length)(hi:i<a.length):(clJ a b i).set i (a[i]+b[i]'Yhn)=clJ a b (i+1):=by
 unfold clJ;have hl:((List.zipWith (· + ·) a b).take i).length=i:=by simp;omega
 rw[IE _ _ Yhn,hl,DV,Dh hi,List.set_cons_zero,SK Yht,Hu];simp
end Go.Rf
namespace Go.Proofs.YtggmccicdhnkgaaGreat
open Go.Proofs.Tryz
open Go.Rf Go.RowKit
attribute [local irreducible] Code.wp wpList Exit.then Exit.inBlock bodyPost A Calls execOp Addr.add
theorem Jlt(la lb:List Br)(va vb:Value)(w:World)(ha:Src w va la.length (la.flatMap brV))(hb:Src w vb lb.length (lb.flatMap brV))(hl:la.length<=1000000000):
 Calls prog 71 #[va,vb] w fun e w'=>e=.returned (.bool (decide (la=lb)))/\Fr [] w w':=by
 obtain⟨ao,ca,rfl,_⟩:=id ha;obtain⟨ao2,ca2,rfl,_⟩:=id hb;refine enter func71 rfl ntmps71 rfl ?_;by_cases hlen:la.length=lb.length
 case neg=>
  refine Yeo ?_;exact⟨by rw[SG (fun e=>hlen (by rw[e]))],Fr.refl _ _⟩
 refine rx ?_;refine Jh 13 [5] (σ:=Nat) (fun i g u=>g 13=iV (i:Nat)/\i<=la.length/\la.take i=lb.take i/\Fr [] w u) (fun i=>la.length-i) 0 ⟨rfl,SL _,rfl,Fr.refl _ _⟩ ?_;rintro i g u ⟨g13,hi,heq,hF⟩;rw[Ja g13];by_cases hlt:i<la.length
 case neg=>
  refine Yeo ?_;rw[SQ Yhn,SQ Yhn]at heq;exact⟨by rw[SN heq],hF⟩
 obtain⟨ad,had,hca⟩:=JZ QN (ha.tr0 hF) hlt Yhy;subst had;obtain⟨ad2,had2,hcb⟩:=JZ QN (hb.tr0 hF) (show i<lb.length by omega) Yhy;subst had2;have hca:Cells u (ad.add (i*3)) [.string la[i].decl,iV la[i].at_,iV la[i].arm]:=hca;have hcb:Cells u (ad2.add (i*3)) [.string lb[i].decl,iV lb[i].at_,iV lb[i].arm]:=hcb;refine Ylk ?_;obtain⟨u1,hu1⟩:=exq u.drew;rw[<-hu1];have hS:Fr [] u u1:=hu1▸Fr.drew _ _;refine Yfy ?_;by_cases he:la[i]=lb[i]
 case neg=>
  refine Kw 8 hS ?_ (hrun:=by(intro u hu;refine(JaP (a:=la[i]) (b:=lb[i]) ?_ ?_ (SN he));exact rfl;exact rfl));refine Yfx ?_;refine Yeo ?_;refine⟨?_,hF.Jb hS⟩;rw[SG];intro e;subst e;exact he rfl
 refine Kw 8 hS ?_ (hrun:=by(intro u hu;refine(JaP (a:=la[i]) (b:=lb[i]) ?_ ?_ (SG (fun h=>h he)));exact rfl;exact rfl));refine Yev ?_;refine Jc (i+1) Yhl ⟨rfl,hlt,?_,hF.Jb hS⟩ Yhn;rw[SK hlt,SK Yhn,heq,he]
theorem Jls{p p2:Nat}{M R M2 R2:List Nat}{P Q:Pp}{s t:St}(w:World)(hC:Wj w p M R P s)(hD:Wj w p2 M2 R2 Q t)(hn:s.cls.length<=1000000)(hn2:t.cls.length<=1000000)(hr1:s.runs<=1000000)(hr22:t.runs<=1000000)(hrl:P.reach.length<=1000000)(hck:P.checks<=1000000)(hck2:Q.checks<=1000000):
 Calls prog 28 #[.pointer (some ⟨p,0,none⟩),.pointer (some ⟨p2,0,none⟩)] w fun e w'=>if P.prop=Q.prop/\P.checks=Q.checks/\s.cls.length=t.cls.length/\P.reach=Q.reach then e=.returned (zI)/\Wj w' p M R P (Jk6 s t)/\Fr M w w' else e=.returned (iV 22)/\Fr [] w w':=by
 have hC0:=hC;have hD0:=hD;obtain⟨bb,pb,vr,vc,mb,mp,rfl,rfl,hnd,hb,hr,hc,hmb,hrb,hmp,hrp,hok⟩:=hC;obtain⟨bb2,pb2,vr2,vc2,mb2,mp2,rfl,rfl,hnd2,hb2,hr2,hc2,hmb2,hrb2,hmp2,hrp2,hok2⟩:=hD;obtain⟨n1,n2,n3,n4,n5,n6,n7,n8,n9,n10⟩:=Ji7 hnd;obtain⟨aoc,cc,rfl⟩:=hc.slice;obtain⟨aoc2,cc2,rfl⟩:=hc2.slice;have hro:=hr.one;have hro2:=hr2.one;refine enter func28 rfl ntmps28 rfl ?_;refine rx ?_;by_cases h1:P.prop=Q.prop
 case neg=>
  refine JE (fun z=>Fr [] w z) Yhp rfl ?_;obtain⟨u,hu⟩:=exq w.drew;rw[<-hu];have hS:Fr [] w u:=hu▸Fr.drew _ _;refine Yfy ?_;refine Kw 8 hS ?_ (hrun:=by(intro u hu;exact(Jk7 rfl rfl (SN h1))));refine Jj 9 10 11 12 hS ?_;refine Jj 13 14 15 16 hS ?_;refine Jj 17 18 19 20 hS ?_;refine Jj 21 22 23 24 hS ?_;refine Jj 25 26 27 28 hS ?_;refine Jj 29 30 31 32 hS ?_;refine Jj 33 34 35 36 hS ?_;refine Jj 37 38 39 40 hS ?_;refine Jj 41 42 43 44 hS ?_;refine Yfx ?_;refine Yeo ?_;rw[SH (by intro hh;exact h1 hh.1)];exact⟨rfl,hS⟩
 by_cases h2:P.checks=Q.checks
 case neg=>
  refine JE (fun z=>Fr [] w z) Yhp rfl ?_;obtain⟨u,hu⟩:=exq w.drew;rw[<-hu];have hS:Fr [] w u:=hu▸Fr.drew _ _;refine Yfy ?_;refine Kw 8 hS ?_ (hrun:=by(intro u hu;exact(Jk7 rfl rfl (SG (fun h=>h h1)))));refine Jj 9 10 11 12 hS ?_;refine Jj 13 14 15 16 hS ?_;refine d_z 17 hS ?_;refine Kz 18 hS ?_ (hrun:=by(intro u hu;exact(WZ rfl rfl (SN Yhn))));refine Jj 19 20 21 22 hS ?_;refine Jj 23 24 25 26 hS ?_;refine Jj 27 28 29 30 hS ?_;refine Jj 31 32 33 34 hS ?_;refine Jj 35 36 37 38 hS ?_;refine Jj 39 40 41 42 hS ?_;refine JX 43 44 hS ?_;refine Yfx ?_;refine Yeo ?_;rw[SH (by intro hh;exact h2 hh.2.1)];exact⟨rfl,hS⟩
 by_cases h3:s.cls.length=t.cls.length
 case neg=>
  refine JE (fun z=>Fr [] w z) Yhp rfl ?_;obtain⟨u,hu⟩:=exq w.drew;rw[<-hu];have hS:Fr [] w u:=hu▸Fr.drew _ _;refine Yfy ?_;refine Kw 8 hS ?_ (hrun:=by(intro u hu;exact(Jk7 rfl rfl (SG (fun h=>h h1)))));refine Jj 9 10 11 12 hS ?_;refine Jj 13 14 15 16 hS ?_;refine d_z 17 hS ?_;refine Kz 18 hS ?_ (hrun:=by(intro u hu;exact(WZ rfl rfl (SG Yhn))));refine Jj 19 20 21 22 hS ?_;refine Jj 23 24 25 26 hS ?_;refine Jj 27 28 29 30 hS ?_;refine Kz 31 hS ?_ (hrun:=by(intro u hu;exact(WZ rfl rfl (SN Yhn))));refine Jj 32 33 34 35 hS ?_;refine Jj 36 37 38 39 hS ?_;refine Jj 40 41 42 43 hS ?_;refine d_z 44 hS ?_;refine Yfx ?_;refine Yeo ?_;rw[SH (by intro hh;exact h3 hh.2.2.1)];exact⟨rfl,hS⟩
 refine JE (fun z=>Fr [] w z) Yhp rfl ?_;obtain⟨u,hu⟩:=exq w.drew;rw[<-hu];have hS:Fr [] w u:=hu▸Fr.drew _ _;refine Yfy ?_;refine Kw 8 hS ?_ (hrun:=by(intro u hu;exact(Jk7 rfl rfl (SG (fun h=>h h1)))));refine Jj 9 10 11 12 hS ?_;refine Jj 13 14 15 16 hS ?_;refine d_z 17 hS ?_;refine Kz 18 hS ?_ (hrun:=by(intro u hu;exact(WZ rfl rfl (SG Yhn))));refine Jj 19 20 21 22 hS ?_;refine Jj 23 24 25 26 hS ?_;refine Jj 27 28 29 30 hS ?_;refine Kz 31 hS ?_ (hrun:=by(intro u hu;exact(WZ rfl rfl (SG Yhn))));refine Jj 32 33 34 35 hS ?_;refine Jj 36 37 38 39 hS ?_;refine JX 40 41 hS ?_;refine JJ (i:=42) rfl Yhp ?_;refine rx ?_;refine Jg (Jlt P.reach Q.reach vr vr2 u (hr.src.tr0 hS) (hr2.src.tr0 hS) Yhn) ?_;rintro u1 hf1;have hS:=hS.Jb hf1;refine Yfz ?_;refine JX 43 44 hS ?_;refine Yfx ?_;by_cases h4:P.reach=Q.reach
 case neg=>
  rw[SG h4];refine Yeo ?_;rw[SH (by intro hh;exact h4 hh.2.2.2)];exact⟨rfl,hS⟩
 rw[SN h4];refine rx ?_;have ho1:=hok.o;have ho2:=hok2.o;refine JE (fun z=>Fr [] u1 z) Yhp rfl ?_;obtain⟨u2,hu2⟩:=exq u1.drew;rw[<-hu2];have hS2:Fr [] u1 u2:=hu2▸Fr.drew _ _;have hbx:=hb.tr0 hS;have hby:=hb2.tr0 hS;refine Jj 0 1 2 3 hS2 ?_;refine Jj 4 5 6 7 hS2 ?_;refine d_z 8 hS2 ?_;refine Kw 9 hS2 ?_ (hrun:=by(intro u hu;exact(Z8 rfl rfl (SG Yhn))));refine Yfx ?_;have hF2:=hS.Jb hS2;clear hbx hby hS hS2 hf1;refine rx ?_;refine JiH (Jlw u2 (hD0.tr0 hF2) hn2) ?_;rintro q M3 w3 ⟨hE,hM3,hf3⟩;have hF3:=hF2.Jb hf3;have hs2:=hF2.size;have hltq:=hE.lt;obtain⟨bb3,pb3,vr3,vc3,mb3,mp3,rfl,hR3,hnd3,hb3,hr3,hc3,hmb3,hrb3,hmp3,hrp3,_⟩:=hE;obtain⟨aoc3,cc3,rfl⟩:=hc3.slice;have hro3:=hr3.one;obtain⟨m1,m2,m3,m4,m5,m6,m7,m8,m9,m10⟩:=Ji7 hnd3;have hltp:=hC0.lt;obtain⟨K,hK⟩:=exq ([p,bb,pb]++blks (Value.slice aoc s.cls.length cc));have hKm:∀{x:Nat},x∈K↔x=p\/x=bb\/x=pb\/x∈blks (Value.slice aoc s.cls.length cc):=fun{x}=>by rw[hK];simp[or_assoc]
 rw[<-hK]at hltp ⊢;have hKw:∀x∈K,x<w.heap.size:=fun x hx=>hltp x (SA _ hx)
 have hK3:∀x∈[q,bb3,pb3]++blks (Value.slice aoc3 t.cls.length cc3),x∉K:=fun x hx hm=>by
  have h1:=hM3 x hx;have h2:=hKw x hm;omega
 have hpK:p∈K:=hKm.2 (.inl rfl);have hbbK:bb∈K:=hKm.2 (.inr (.inl rfl));have hpbK:pb∈K:=hKm.2 (.inr (.inr (.inl rfl)));have hvcK:∀x∈blks (Value.slice aoc s.cls.length cc),x∈K:=fun x hx=>hKm.2 (.inr (.inr (.inr hx)))
 have hqK:q∉K:=hK3 q Yhs;have hb3K:bb3∉K:=hK3 bb3 Yhs;have hp3K:pb3∉K:=hK3 pb3 Yhs;have hc3K:∀x∈blks (Value.slice aoc3 t.cls.length cc3),x∉K:=fun x hx=>hK3 x (CJ _ hx)
 have hb1:=hb.tr0 hF3;refine rx ?_;refine Kr 11 (fun z=>Fr [] w3 z) Yhp rfl ?_;obtain⟨u3,hu3⟩:=exq w3.drew;rw[<-hu3];have hS:Fr [] w3 u3:=hu3▸Fr.drew _ _
 ((refine Jp 0 hS ?_);(refine Jp 1 hS ?_);(refine Jp 2 hS ?_);(refine Jp 3 hS ?_);(refine Jp 4 hS ?_);(refine Jp 5 hS ?_);(refine Jp 6 hS ?_);(refine Jp 7 hS ?_);(refine Jp 8 hS ?_))
 refine Yfd ?_;rw[add_lit];refine Yhe ?_;refine Ygq ?_
 ((with_reducible apply Ji);exact rfl;(conv=>lhs;whnf);exact rfl;exact(hb1.tr0 hS);exact rfl)
 intro u4 hb4 hf4 hs4;replace hb4:Blk u4 p [.string P.prop,iV (P.checks:Nat),vr,iV ((s.runs+t.runs):Nat),iV (s.o 0:Nat),iV (s.o 1:Nat),iV (s.o 2:Nat),(.slice aoc s.cls.length cc),.map (some bb),.map (some pb)] _:=hb4;refine Yeu ?_;have hG4:Fr [p] w3 u4:=(hS.mono Yhs).trans hf4 (fun x hx=>.inl hx);have hqp:q∉[p]:=fun hm=>hqK Yjw
 clear hb1 hS hf4;have hq4:=hb3.tr hG4 hqp;refine rx ?_;refine Jh 86 [5,6] (σ:=Nat) (fun i g u=>g 86=iV (i:Nat)/\i<=3/\Blk u p [.string P.prop,iV (P.checks:Nat),vr,iV ((s.runs+t.runs):Nat),iV (oI s.o t.o i 0:Nat),iV (oI s.o t.o i 1:Nat),iV (oI s.o t.o i 2:Nat),(.slice aoc s.cls.length cc),.map (some bb),.map (some pb)] 125/\Fr [p] u4 u) (fun i=>3-i) 0 ⟨rfl,SL _,hb4,Fr.refl _ _⟩ ?_;clear hb4 hq4;rintro i g u5 ⟨g86,hi,hbi,hF5⟩;rw[Ja g86];have hG5:=hG4.trans hF5 (fun x hx=>.inl hx);by_cases hlt:i<3
 case pos=>
  rcases(show i=0\/i=1\/i=2 by omega)with rfl|rfl|rfl
  .have e1:oI s.o t.o 0 0=s.o 0:=rfl;refine rx ?_;refine JcY (cs:=Vk [t.o 0,t.o 1,t.o 2]) (v:=iV (t.o 0:Nat)) (j:=0) rfl rfl Yhy rfl ?_;refine rx ?_;refine Kr 11 (fun z=>Fr [] u5 z) Yhp rfl ?_;obtain⟨u6,hu6⟩:=exq u5.drew;rw[<-hu6];have hS:Fr [] u5 u6:=hu6▸Fr.drew _ _
   ((refine Jp 0 hS ?_);(refine Jp 1 hS ?_);(refine Jp 2 hS ?_);(refine Jp 3 hS ?_))
   refine Jp 4 hS ?_ (hrun:=Yjb);refine Jp 5 hS ?_ (hrun:=Yjt)
   ((refine Jp 6 hS ?_);(refine Jp 7 hS ?_))
   refine Yly ?_;refine Ylz ?_;rw[add_lit];refine Yhe ?_;refine Jp 10 hS ?_ (hrun:=Yjb);refine Ygq ?_
   ((with_reducible apply Ji);exact rfl;(conv=>lhs;whnf);exact rfl;exact(hbi.tr0 hS);exact rfl)
   intro u7 hb7 hf7 hs7;refine Yet ?_;refine Jc 1 Yhl ⟨rfl,by decide,hb7,(hF5.Jb hS).trans hf7 (fun x hx=>.inl hx)⟩ Yhy
  .have e1:oI s.o t.o 1 1=s.o 1:=rfl;refine rx ?_;refine JcY (cs:=Vk [t.o 0,t.o 1,t.o 2]) (v:=iV (t.o 1:Nat)) (j:=1) rfl rfl Yhy rfl ?_;refine rx ?_;refine Kr 11 (fun z=>Fr [] u5 z) Yhp rfl ?_;obtain⟨u6,hu6⟩:=exq u5.drew;rw[<-hu6];have hS:Fr [] u5 u6:=hu6▸Fr.drew _ _
   ((refine Jp 0 hS ?_);(refine Jp 1 hS ?_);(refine Jp 2 hS ?_);(refine Jp 3 hS ?_))
   refine Jp 4 hS ?_ (hrun:=Yjc);refine Jp 5 hS ?_ (hrun:=Yjt)
   ((refine Jp 6 hS ?_);(refine Jp 7 hS ?_))
   refine Yly ?_;refine Ylz ?_;rw[add_lit];refine Yhe ?_;refine Jp 10 hS ?_ (hrun:=Yjc);refine Ygq ?_
   ((with_reducible apply Ji);exact rfl;(conv=>lhs;whnf);exact rfl;exact(hbi.tr0 hS);exact rfl)
   intro u7 hb7 hf7 hs7;refine Yet ?_;refine Jc 2 Yhl ⟨rfl,by decide,hb7,(hF5.Jb hS).trans hf7 (fun x hx=>.inl hx)⟩ Yhy
  .have e1:oI s.o t.o 2 2=s.o 2:=rfl;refine rx ?_;refine JcY (cs:=Vk [t.o 0,t.o 1,t.o 2]) (v:=iV (t.o 2:Nat)) (j:=2) rfl rfl Yhy rfl ?_;refine rx ?_;refine Kr 11 (fun z=>Fr [] u5 z) Yhp rfl ?_;obtain⟨u6,hu6⟩:=exq u5.drew;rw[<-hu6];have hS:Fr [] u5 u6:=hu6▸Fr.drew _ _
   ((refine Jp 0 hS ?_);(refine Jp 1 hS ?_);(refine Jp 2 hS ?_);(refine Jp 3 hS ?_))
   refine Jp 4 hS ?_ (hrun:=Yjd);refine Jp 5 hS ?_ (hrun:=Yjt)
   ((refine Jp 6 hS ?_);(refine Jp 7 hS ?_))
   refine Yly ?_;refine Ylz ?_;rw[add_lit];refine Yhe ?_;refine Jp 10 hS ?_ (hrun:=Yjd);refine Ygq ?_
   ((with_reducible apply Ji);exact rfl;(conv=>lhs;whnf);exact rfl;exact(hbi.tr0 hS);exact rfl)
   intro u7 hb7 hf7 hs7;refine Yet ?_;refine Jc 3 Yhl ⟨rfl,by decide,hb7,(hF5.Jb hS).trans hf7 (fun x hx=>.inl hx)⟩ Yhy
 obtain rfl:i=3:=by omega
 replace hbi:Blk u5 p [.string P.prop,iV (P.checks:Nat),vr,iV ((s.runs+t.runs):Nat),iV ((s.o 0+t.o 0):Nat),iV ((s.o 1+t.o 1):Nat),iV ((s.o 2+t.o 2):Nat),(.slice aoc s.cls.length cc),.map (some bb),.map (some pb)] 125:=hbi;have hq5:=hb3.tr hG5 hqp;clear g86;refine rx ?_;clear hi hlt;have hFp:Fr [p] w u5:=(hF3.mono Yhs).trans hG5 (fun x hx=>.inl hx);have hs5:=hFp.size;have hcp:=hc.tr hFp (fun x hx hm=>n4 Yia);have hmb5:=hmb.tr hFp (by simpa using fun h=>n1 h.symm);have hmp5:=hmp.tr hFp (by simpa using fun h=>n2 h.symm);have hc5:=hc3.tr hG5 (fun x hx hm=>hc3K x hx Yjw);have hmb35:=hmb3.tr hG5 (fun hm=>hb3K Yjw);have hmp35:=hmp3.tr hG5 (fun hm=>hp3K Yjw);refine Jh 107 [7,8] (σ:=Nat) (fun i g u=>g 107=iV (i:Nat)/\i<=t.cls.length/\Own u 3 1 (Value.slice aoc s.cls.length cc) s.cls.length (Vk (clJ s.cls t.cls i))/\Fr (blks (Value.slice aoc s.cls.length cc)) u5 u) (fun i=>t.cls.length-i) 0 ⟨rfl,SL _,by rw[Jln];exact hcp,Fr.refl _ _⟩ ?_;clear hcp;rintro i g u6 ⟨g107,hi,hcu,hF6⟩;rw[Ja g107];have hbu:=hbi.tr hF6 n4;have hvn:∀x,x∉K->x∉blks (Value.slice aoc s.cls.length cc):=fun x h hm=>h (hvcK x hm)
 have hcu3:=hc5.tr hF6 (fun x hx=>hvn x (hc3K x hx));by_cases hlt:i<t.cls.length
 case pos=>
  obtain⟨adl,hadl,hcell⟩:=KO hcu3.src (V9 hlt);subst hadl;obtain⟨adc,hadc,hcc⟩:=KO hcu.src (Jlu h3 (show i<s.cls.length by omega));have hb0:=hok.ocls _ (Cj (show i<s.cls.length by omega));have hb1:=hok2.ocls _ (Cj hlt);refine Yfm ?_;refine rx ?_;refine BZ (j:=i) rfl rfl rfl Yhn hadc ?_;refine KW rfl hcc ?_;refine rx ?_;refine BZ (j:=i) rfl rfl rfl Yhn hadc ?_;refine JcW hcu hadc Yhn rfl rfl rfl (fun u7 hcu1 hf7 hs7=>?_);refine rx ?_;refine Jc (i+1) Yhl ⟨rfl,hlt,?_,hF6.trans hf7 (fun x hx=>.inl hx)⟩ Yhn;rw[<-Jlo h3 (show i<s.cls.length by omega),<-JeD];exact hcu1
 obtain rfl:i=t.cls.length:=by omega
 rw[show clJ s.cls t.cls t.cls.length=List.zipWith (· + ·) s.cls t.cls by rw[<-h3,Jlq h3]]at hcu;have hq6:=hq5.tr hF6 (hvn q hqK);have hmb6:=hmb5.tr hF6 n5;have hmp6:=hmp5.tr hF6 n6;have hmb36:=hmb35.tr hF6 (hvn _ hb3K);have hmp36:=hmp35.tr hF6 (hvn _ hp3K);have hF6K:Fr K w u6:=(hFp.mono (fun x hx=>.inl (by rw[Sv.1 hx];exact hpK))).trans hF6 (fun x hx=>.inl (hvcK x hx));have hs6:=hF6K.size;clear hbi hq5 hF5 hFp hmb5 hmp5 hc5 hmb35 hmp35 hF6 g107 hi hlt;have hr6:Own u6 50 3 vr P.reach.length (P.reach.flatMap brV):=hr.tr hF6K (fun x hx hm=>by rcases hKm.1 hm with e|e|e|e;exact n7 (e▸hx);exact n8 (e▸hx);exact n9 (e▸hx);exact n10 x e hx);have hbblt:=hmb6.lt;have hpblt:=hmp6.lt;have hplt:=hbu.lt;have hqlt:=hq6.lt;have hclt:=hcu.lt;have hrlt:=hr6.lt;have hb3lt:=hmb36.lt;have hp3lt:=hmp36.lt;refine rx ?_;refine BR rfl hmb36 (fun w8 hIt hf8 hs8=>?_);obtain⟨rr,hrr⟩:=exq u6.heap.size;rw[<-hrr]at hIt ⊢;have hbu8:=hbu.tr0 hf8;have hq8:=hq6.tr0 hf8;have hm8:=hmb6.tr0 hf8;have hmem:=hrb3.mem hmb3.nd;refine rx ?_;refine Jh 128 [9,10] (σ:=List Br×List (Br×Int)×Option (Br×Int)×List (Br×Int)) (fun x g u=>MIt brK (Value.int .i64) u bb3 rr mb3 x.2.1 x.2.2.1/\Mp brK (Value.int .i64) u bb x.2.2.2/\RelB x.2.2.2 (fun b=>s.cnt b+if b∈x.1 then t.cnt b else 0)/\(x.1++x.2.1.map Prod.fst).Perm (mb3.map Prod.fst)/\(∀y∈x.2.1,y∈mb3)/\Fr [rr,bb] w8 u) (fun x=>x.2.1.length) ([],mb3,none,mb) ⟨hIt,hm8,hrb.congr (fun b=>by simp),by simp,fun y hy=>hy,Fr.refl _ _⟩ ?_;clear hIt hm8;rintro⟨xs,left,cur,m2⟩ g u ⟨hIt,hm2,hru,hpm,hsub,hF⟩;simp only at hIt hm2 hru hpm hsub;have hsu:=hF.size;have hrl:=hIt.lt;have hm2lt:=hm2.lt;have hbu9:=hbu8.tr hF (by simp;exact⟨by omega,n1⟩);have hqu:=hq8.tr hF (by simp;exact⟨by omega,fun e=>hqK (e▸hbbK)⟩);refine rx ?_;refine JaJ rfl hIt (fun h0=>?_) (fun a av left' u3 hl' hIt3 hf3 hs3=>?_)
 case refine_2=>
  have hm3:=hm2.tr hf3 Yht;have hbv:=hbu9.tr hf3 Yht;have hqv:=hqu.tr hf3 Yht;have hll:=hl'.length_eq;simp only[SI]at hll;obtain⟨hq1,hq2⟩:=left_step hl' hsub;obtain⟨hav,hc0⟩:=hmem _ hq1;simp only at hav hc0;subst hav;have hna:a∉xs:=Jlp hmb3.nd hpm hl';have hF3:Fr [rr,bb] w8 u3:=hF.trans hf3 (fun x hx=>.inl Yip);have hcs:=hok.ocnt a;have hct:=hok2.ocnt a;refine Yfn ?_;refine Jm (l:=[zT,zI,zI]) rfl (fun u4 bv hbve hv4 hf4 hs4=>?_);refine rx ?_;refine Jd (cs:=brV a) rfl rfl hv4 (QD a) rfl rfl (fun u5 hv5 hf5 hs5=>?_);replace hv5:Blk u5 bv [.string a.decl,iV a.at_,iV a.arm] _:=hv5;have hF35:Fr [] u3 u5:=hf4.trans hf5 (fun x hx=>.inr Yhq);have hbw:=hbv.tr0 hF35;have hs35:=hF35.size;have hm5:=hm3.tr0 hF35;refine rx ?_;have hpn:p∉[bb]:=by simpa using n1
  have hbn:bv∉[bb]:=by simp;omega
  refine Kr 10 (SB u5 bb (fun b=>s.cnt b+if b∈xs then t.cnt b else 0)) Yhp rfl ?_;obtain⟨u9,hu9⟩:=exq u5.drew;rw[<-hu9];have hS0:Fr [] u5 u9:=hu9▸Fr.drew _ _;have hS:SB u5 bb (fun b=>s.cnt b+if b∈xs then t.cnt b else 0) u9:=⟨hS0.mono Yhs,m2,hm5.tr0 hS0,fun b=>hru.look b⟩
  ((refine Jp 0 hS ?_);(refine Jp 1 hS ?_);(refine Jp 2 hS ?_))
  refine Jp 3 hS ?_ (hrun:=(by intro u hu;exact(J7 rfl (Blk.cell (hbw.tr hu.1 hpn) rfl))));refine Jp 4 hS ?_ (hrun:=(by intro u hu;exact(Kv rfl (Cells.VO (hv5.tr hu.1 hbn)) Yik)));refine Jp 5 hS ?_ (hrun:=(by intro u hu;refine(JiO (P:=prog) (t:=122) (a:=a) ?_ ?_ hu);exact rfl;exact rfl));rw[SH hna,En]
  ((refine Jp 6 hS ?_);(refine Jp 7 hS ?_))
  refine Ygn ?_;refine JcX (key:=brK) (val:=Value.int .i64) (a:=a) (z0:=0) (hm5.tr0 hS0) rfl rfl (fun u10 st hm10 hf10 hs10=>?_);have hS10:=SB.entry (a:=a) (st:=st) hS.1 hru hf10 hm10;refine wpList_nil (Xz hS10 ?_)
  ((refine Jp 9 hS10 ?_))
  refine Ygo ?_;refine JaL (v:=(s.cnt a:Int)+(t.cnt a:Int)) hm10 rfl rfl rfl (fun u11 hm11 hf11 hs11=>?_);refine Yet ?_;have hF11:Fr [bb] u3 u11:=((hF35.Jb hS0).mono Yhs).trans (hf10.trans hf11 (fun x hx=>.inl hx)) (fun x hx=>.inl hx);refine Jc (xs++[a],left',some (a,(t.cnt a:Int)),_) Yhl ⟨hIt3.tr hF11 (by simp;exact fun e=>hb3K (e▸hbbK)) Yht,hm11,(hru.entry (a:=a) (n:=s.cnt a+t.cnt a) Yhn).congr (fun b=>?_),JeH hl' hpm,hq2,hF3.trans hF11 (fun x hx=>.inl Yip)⟩ Yhw;by_cases e:b=a
  .subst e;simp
  .simp [e]
 have hk:=LC h0 hpm;have hrb9:RelB m2 (Jk6 s t).cnt:=hru.congr (fun b=>by
  show s.cnt b+_=s.cnt b+t.cnt b;by_cases h:b∈xs
  .rw [Cb h]
  .rw [SH h];have h1:¬b∈mb3.map Prod.fst:=fun h2=>h (hk.mem_iff.2 h2)
   have h3:t.cnt b=0:=DZ (fun h2=>h1 (hrb3.keys.2 h2));omega)
 have hcu9:=(hcu.tr0 hf8).tr hF (fun x hx hm=>by have:=hclt x hx;simp at hm;rcases hm with e|e;omega;exact n5 (e▸hx));have hr9:=(hr6.tr0 hf8).tr hF (fun x hx hm=>by have:=hrlt x hx;simp at hm;rcases hm with e|e;omega;exact n8 (e▸hx));have hmp9:=(hmp6.tr0 hf8).tr hF (by simp;exact⟨by omega,fun e=>n3 e.symm⟩);have hmp39:=(hmp36.tr0 hf8).tr hF (by simp;exact⟨by omega,fun e=>hp3K (e▸hbbK)⟩);have hFK:Fr K w u:=(hF6K.Jb hf8).trans hF (fun x hx=>by simp at hx;rcases hx with e|e;exact .inr Yhn;exact .inl (e▸hbbK));have hsw:=hFK.size;clear hIt hru hpm hsub hu hF hbu8 hq8 hf8 hcu hr6 hmp6 hmp36 hmb36 hmb6 hbu hq6;refine rx ?_;refine BR rfl hmp39 (fun v3 hIt hg3 ht3=>?_);obtain⟨rs,hrs⟩:=exq u.heap.size;rw[<-hrs]at hIt ⊢;have hb10:=hbu9.tr0 hg3;have hn10:=hmp9.tr0 hg3;refine rx ?_;refine Jh 148 [11] (σ:=List Pr×List (Pr×Bool)×Option (Pr×Bool)×List (Pr×Bool)) (fun x g u=>MIt prK Value.bool u pb3 rs mp3 x.2.1 x.2.2.1/\Mp prK Value.bool u pb x.2.2.2/\BJ x.2.2.2 (fun a=>a∈s.ps\/a∈x.1)/\(x.1++x.2.1.map Prod.fst).Perm (mp3.map Prod.fst)/\Fr [rs,pb] v3 u) (fun x=>x.2.1.length) ([],mp3,none,mp) ⟨hIt,hn10,hrp.congr (fun b=>by simp),by simp,Fr.refl _ _⟩ ?_;clear hIt hn10;rintro⟨ys,left,cur,m3⟩ g u' ⟨hIt,hm3,hr4,hpm,hF⟩;simp only at hIt hm3 hr4 hpm;have hsu3:=hF.size;have hrl:=hIt.lt;have hm3lt:=hm3.lt;have hb11:=hb10.tr hF (by simp;exact⟨by omega,n2⟩);refine rx ?_;refine JaJ rfl hIt (fun h0=>?_) (fun a av left' u3 hl' hIt3 hf3 hs3=>?_)
 case refine_2=>
  have hm4:=hm3.tr hf3 Yht;have hb12:=hb11.tr hf3 Yht;have hll:=hl'.length_eq;simp only[SI]at hll;have hF3:Fr [rs,pb] v3 u3:=hF.trans hf3 (fun x hx=>.inl Yip);refine Yfn ?_;refine Jm (l:=[zT,zI,zI,zT,zI,zI]) rfl (fun u4 bv hbv hv4 hf4 hs4=>?_);refine rx ?_;refine Jd (cs:=prV a) rfl rfl hv4 (Wu a) rfl rfl (fun u5 hv5 hf5 hs5=>?_);replace hv5:Blk u5 bv (prV a) _:=hv5;have hF35:Fr [] u3 u5:=hf4.trans hf5 (fun x hx=>.inr Yhq);have hb13:=hb12.tr0 hF35;have hs35:=hF35.size;have hm5:=hm4.tr0 hF35;refine rx ?_;refine Kr 5 (fun z=>Fr [] u5 z) Yhp rfl ?_;obtain⟨u11,hu11⟩:=exq u5.drew;rw[<-hu11];have hS:Fr [] u5 u11:=hu11▸Fr.drew _ _
  ((refine Jp 0 hS ?_);(refine Jp 1 hS ?_);(refine Jp 2 hS ?_);(refine Jp 3 hS ?_);(refine Jp 4 hS ?_))
  refine Ygl ?_;refine BX (key:=prK) (val:=Value.bool) (a:=a) (v:=true) (hm5.tr0 hS) rfl rfl rfl (fun u12 hm12 hf12 hs12=>?_);refine Yet ?_;have hF12:Fr [pb] u3 u12:=((hF35.Jb hS).mono Yhs).trans hf12 (fun x hx=>.inl hx);refine Jc (ys++[a],left',some (a,av),_) Yhl ⟨hIt3.tr hF12 (by simp;exact fun e=>hp3K (e▸hpbK)) Yht,hm12,hr4.put.congr (fun b=>?_),JeH hl' hpm,hF3.trans hF12 (fun x hx=>.inl Yip)⟩ Yhw;simp only[SE,Sv];constructor
  .rintro (h|h|h)
   .exact .inr (.inr h)
   .exact .inl h
   .exact .inr (.inl h)
  .rintro (h|h|h)
   .exact .inr (.inl h)
   .exact .inr (.inr h)
   .exact .inl h
 have hk2:=LC h0 hpm;refine Yeo ?_;rw[Cb ⟨h1,h2,h3,h4⟩];have hrr:∀x,x<u.heap.size->x≠pb->x∉[rs,pb]:=fun x h1 h2 hm=>by simp at hm;omega
 have hcl12:(Jk6 s t).cls.length=s.cls.length:=by simp[Jk6];omega
 refine⟨rfl,?_,(hFK.Jb hg3).trans hF (fun x hx=>by simp at hx;rcases hx with e|e;exact .inr Yhn;exact .inl (e▸hpbK))⟩;rw[hK];refine⟨bb,pb,vr,_,m2,m3,rfl,rfl,hnd,hb11,(hr9.tr0 hg3).tr hF (fun x hx=>hrr x (hr9.lt x hx) (fun e=>n9 (e▸hx))),?_,(hm2.tr0 hg3).tr hF (hrr _ hm2lt n3),hrb9,hm3,hr4.congr (fun b=>?_),?_⟩
 .rw [hcl12];exact(hcu9.tr0 hg3).tr hF (fun x hx=>hrr x (hcu9.lt x hx) (fun e=>n6 (e▸hx)))
 .show b∈s.ps\/b∈ys↔b∈JM ltP (s.ps++t.ps);rw[KF Qy,SE,hk2.mem_iff,hrp3.keys]
 .exact hok.merge ⟨by have:=hok.ncls;omega,hok2.cnt,hok2.kasc,hok2.pasc,hok2.pks,hok2.o,hok2.ocls,hok2.ocnt⟩
end Go.Proofs.YtggmccicdhnkgaaGreat
namespace Go.Rf
open Go.RowKit
theorem Jlb{n:Nat}{m:List Nat}(hp:m.Pairwise (· < ·))(hb:∀x∈m,x<n):WB n (m.map (fun(i:Nat)=>(i:Int)))=true:=by
 refine UK (fun j hj=>?_);rw[Sr]at hj;unfold Bf;rw[getD_at (by rw[Sr];exact hj),F7];refine SN ⟨by omega,?_,fun h0=>?_⟩
 .have:=hb m[j] (Cj hj);omega
 .rw [getD_at (by rw[Sr];omega),F7];have:=Fj.1 hp (j-1) j Yhn hj Yhn;omega
end Go.Rf
namespace Go.Proofs.YtggmccicdhnkgaaGreat
open Go.Rf Go.RowKit
variable{at_:Int}{l:List Int}{P:Pp}
theorem Jld:Qd P (XW P l at_ false)=true:=by
 obtain⟨k,hk⟩:=exq (pk l at_ 1000000);have h0:∀{q:Prop} [Decidable q],¬((false=true)/\q):=fun h=>by cases h.1
 refine Jgi ?_ ?_
 .unfold Gt XW;rw[SH h0,SH h0,<-hk];refine SN ?_;simp only;unfold sKd sAt;by_cases c:0<k/6%3/\0<P.checks
  .rw [Cb c,Cb c];have h1:=Fq (k/18) (show(P.checks:Int)≠0 by omega);have h2:=EP (k/18) (show(0:Int)<P.checks by omega);refine⟨by omega,by omega,fun h=>by omega,fun _=>⟨h1,h2⟩,?_⟩;by_cases e:k/6%3=2<;>simp[e]
  .rw [SH c,SH c];simp
 .unfold XW;simp only[SS,false_and,CW,Ce];unfold Vx;refine Jlb (List.Pairwise.filter _ List.pairwise_lt_range) (fun x hx=>?_);exact FT.1 (Fp.1 hx).1
theorem Jfh{b:Bool}:(XW P l at_ b).bs.length<=5:=by
 have hkr:=Zf (l:=l) (i:=at_) (m:=1000000) Yhy;show(VG P l at_ _).length<=5;rw[Jaa];omega
theorem Jfg{b:Bool}:(XW P l at_ b).cl.length<=P.ncls+1:=by
 have h:=Bg (l:=l) (at_:=at_) (m:=P.ncls);show(Vx l at_ P.ncls++_).length<=_;rw[Sm]
 split<;>simp<;>omega
theorem JfK{ds:List De}{nm:ByteArray}{d:De}(hm:MD ds)(hf:fdD ds 3 nm=some d):(Jc6 ds nm d).checks<=16/\(Jc6 ds nm d).ncls<=16/\(Jc6 ds nm d).reach.length<=253000:=by
 obtain⟨hd,hk,_⟩:=XT hf;have hl:=(hm.2.1 d hd).1;unfold UZ at hl;rw[SH Yhn,SH Yhn,SH Yhn,Cb hk]at hl;simp only[Cc]at hl;have h1:=hl.2.1;have h2:=hl.2.2.1;unfold GH at h1 h2;simp only[Cc]at h1 h2;have hb:∀n,ltN 16 n=false->n<=16:=fun n h=>Iu (fun hh=>by unfold ltN at h;rw[Nat.blt_eq.mpr hh]at h;cases h)
 have h1:=hb _ h1.1;have h2:=hb _ h2.1;have h3:=Jex (nm:=nm) hm.sz;have h4:=hm.len;refine⟨?_,?_,?_⟩
 .show d.checks.length<=16;omega
 .show d.classes.length<=16;omega
 .show (JM ltB (KX ds nm)).length<=253000;omega
attribute [local irreducible] Code.wp wpList Exit.then Exit.inBlock bodyPost A Calls execOp Addr.add
end Go.Proofs.YtggmccicdhnkgaaGreat
namespace Go.Rf
open Go.RowKit
variable{nm:ByteArray}
theorem L6{ds:List De}:∀(f:Nat) (s:List ByteArray×List De),(∀d∈s.2,d∈ds)->∀b∈KD ds f s,∃d∈ds,b∈ofD d
 |0,_,_,b,hb=>by simp[KD]at hb
 |f+1,(seen,[]),_,b,hb=>by simp[KD]at hb
 |f+1,(seen,d::q),h,b,hb=>by
  rw[KD,SE]at hb;rcases hb with hb|hb
  .exact ⟨d,h d Yhs,hb⟩
  .exact L6 f _ (WO (fun x hx=>h x (by simp at hx ⊢;exact .inr hx))) b hb
theorem Jc2{ds:List De}{b:Br}(hb:b∈JM ltB (KX ds nm)):∃d∈ds,b∈ofD d:=by
 rw[KF Qu]at hb;unfold KX at hb;cases he:QF ds nm with
 |none=>rw[he]at hb;cases hb
 |some d=>
  rw[he]at hb;exact L6 _ _ (fun x hx=>by rw[Sv.1 hx];exact Ei he) b hb
end Go.Rf
namespace Go.Proofs.YtggmccicdhnkgaaGreat
open Go.Rf Go.RowKit
variable{nm:ByteArray}{n p:Nat}{P:Pp}{s:St}{u u':World}
structure SmP (P:Pp):Prop where
 prop:P.prop.size<=100000
 checks:P.checks<=16
 ncls:P.ncls<=16
 reach:P.reach.length<=253000
 br:∀b∈P.reach,BrK b
theorem JcP{b:Br}(h:BrK b):BrE b:=by
 obtain⟨h1,⟨h2,h3⟩,h4,h5⟩:=h;exact⟨by omega,⟨by omega,by omega⟩,⟨by omega,by omega⟩⟩
theorem Jbm{b:Br}(h:BrK b):(brE b).length<=100100:=by
 have h1:=VA (JcP h).2.1.1 (JcP h).2.1.2;have h2:=VA (JcP h).2.2.1 (JcP h).2.2.2;exact Ycy
def SmR(rs:List Rn):Prop:=rs.length<=20/\∀r∈rs,r.bs.length<=5/\∀b∈r.bs,BrK b
theorem WJ{α:Type}{f:α->List Int}:∀{l:List α},(∀a∈l,(f a).length<=n)->(l.flatMap f).length<=l.length*n
 |[],_=>by simp
 |a::l,h=>by
  have h1:=WJ (l:=l) (fun x hx=>h x Yix);have h2:=h a Yhs;rw[CP,Sm,SI,DN];omega
theorem SmR.bs{rs:List Rn}(h:SmR rs):(rs.flatMap (·.bs)).length<=100/\(rs.flatMap (fun r=>Jy r.bs)).length<=100:=by
 have key:∀(rs:List Rn),(∀r∈rs,r.bs.length<=5/\∀b∈r.bs,BrK b)->(rs.flatMap (·.bs)).length<=5*rs.length/\(rs.flatMap (fun r=>Jy r.bs)).length<=5*rs.length:=by
  intro rs
  induction rs with
  |nil=>intro _;simp
  |cons r rs ih=>
   intro h;have h1:=ih (fun x hx=>h x Yix);have h2:=(h r Yhs).1;have h3:=QI (l:=r.bs);simp only[CP,Sm,SI];omega
 have:=key rs h.2;have:=h.1;omega
theorem SmR.ks{rs:List Rn}(h:SmR rs):(J6 n rs).ks.length<=100/\(J6 n rs).ps.length<=100/\∀b∈(J6 n rs).ks,BrK b:=by
 have h1:=h.bs;have h2:=KQ (lt:=ltB) (l:=rs.flatMap (·.bs));have h3:=KQ (lt:=ltP) (l:=rs.flatMap (fun r=>Jy r.bs));refine⟨by show(JM ltB _).length<=_;omega,by show(JM ltP _).length<=_;omega,fun b hb=>?_⟩;have hb:b∈JM ltB (rs.flatMap (·.bs)):=hb;rw[KF Qu,DY]at hb;obtain⟨r,hr,hb⟩:=hb;exact(h.2 r hr).2 b hb
theorem Jjh(hP:SmP P)(hs:StOk P s)(hr:s.runs<=1000000)(hk:s.ks.length<=100)(hp:s.ps.length<=100)(hb:∀b∈s.ks,BrK b):(U0 P.prop s).length<=1000000000:=by
 have hv:∀n:Nat,n<=1000000000->(iv (n:Int)).length<=10:=fun n hn=>VA Yhn Yhn
 have ho:=hs.o;have h0:=hv s.runs Yhn;have h1:=hv (s.o 0) Yhn;have h2:=hv (s.o 1) Yhn;have h3:=hv (s.o 2) Yhn;have hc:=hs.ncls;have hn:=hP.ncls;have h4:=hv s.cls.length Yhn;have h5:=hv s.ks.length Yhn;have h6:=hv s.ps.length Yhn;have h7:=Xw P.prop.size (by have:=hP.prop;omega);have h8:=hP.prop;have h9:(s.cls.flatMap (fun n=>iv (n:Nat))).length<=s.cls.length*10:=WJ (fun n hn=>hv n (by have:=hs.ocls n hn;omega));have h10:(s.ks.flatMap (fun b=>brE b++iv (s.cnt b))).length<=s.ks.length*100200:=WJ (fun b hm=>by
  have:=Jbm (hb b hm);have:=hv (s.cnt b) (by have:=hs.ocnt b;omega);rw[Sm];omega)
 have h11:(s.ps.flatMap (fun p=>brE p.1++brE p.2)).length<=s.ps.length*200200:=WJ (fun p hm=>by
  have h:=hs.pks p hm;have:=Jbm (hb _ h.1);have:=Jbm (hb _ h.2);rw[Sm];omega)
 have h12:s.ks.length*100200<=100*100200:=Em _ hk;have h13:s.ps.length*200200<=100*200200:=Em _ hp;simp only[U0,raw,Sm,Xx];omega
theorem JjO(hP:SmP P)(n:Int)(hn:0<=n/\n<=1000):BrK (sbr P n):=by
 unfold sbr
 split
 .rename_i h;have hlt:(n/17%P.reach.length).toNat<P.reach.length:=by
   have:=EP (n/17) (show(0:Int)<P.reach.length by omega);have:=Fq (n/17) (show(P.reach.length:Int)≠0 by omega);omega
  rw[Ig,Dc hlt];exact hP.br _ (Cj _)
 .exact ⟨show(bst [111,116,104,101,114]).size<=100000 by decide,⟨show 0<=n/17%3 by omega,show n/17%3<=1000000 by omega⟩,show 0<=n/51%2 by omega,show n/51%2<=1000000 by omega⟩
theorem JgR(hP:SmP P){l:List Int}{a:Int}{bad:Bool}:∀b∈(XW P l a bad).bs,BrK b:=fun b hb=>by
 obtain⟨i,_,rfl⟩:=Du.1 hb;have:=Zf (l:=l) (i:=a+i+1) (m:=1000) Yhn;exact JjO hP _ ⟨by omega,by omega⟩
theorem Jix{ds:List De}{d:De}(hm:MD ds)(hf:fdD ds 3 nm=some d):SmP (Jc6 ds nm d):=by
 have h:=JfK hm hf;obtain⟨hd,hk,hn⟩:=XT hf;refine⟨?_,h.1,h.2.1,h.2.2,fun b hb=>?_⟩
 .have:=(hm.gd d hd).name;show nm.size<=_;rw[<-hn];exact this
 .obtain ⟨d',hd',hb⟩:=Jc2 hb;exact hm.br d' hd' b hb
def CI(u:World)(p:Nat)(P:Pp)(s:St)(A B:Nat->Prop):Prop:=∃M R,Wj u p M R P s/\(∀x∈M,A x)/\(∀x∈R,B x)
def FI(A:Nat->Prop)(u u':World):Prop:=∃T,Fr T u u'/\∀x∈T,A x
theorem FI.of0{A:Nat->Prop}(h:Fr [] u u'):FI A u u':=⟨[],h,by simp⟩
theorem FI.trans{A B C:Nat->Prop}{u1 u2:World}(h:FI A u u1)(k:FI B u1 u2)(h1:∀x,A x->C x)(h2:∀x,B x->C x\/u.heap.size<=x):FI C u u2:=by
 obtain⟨T,hT,hA⟩:=h;obtain⟨V,hV,hB⟩:=k;refine⟨T++V.filter (fun x=>decide (x<u.heap.size)),(hT.mono (fun x hx=>.inl (SA _ hx))).trans hV (fun x hx=>?_),fun x hx=>?_⟩
 .by_cases hlt:x<u.heap.size
  .exact .inl (CJ _ (Fp.2 ⟨hx,SN hlt⟩))
  .exact .inr Yhn
 .rcases SE.1 hx with hx|hx
  .exact h1 x (hA x hx)
  .obtain ⟨h3,h4⟩:=Fp.1 hx;have:=DJ h4;rcases h2 x (hB x h3)with h|h
   .exact h
   .omega
theorem FI.size{A:Nat->Prop}(h:FI A u u'):u.heap.size<=u'.heap.size:=by
 obtain⟨T,hT,_⟩:=h;exact hT.size
theorem CI.fi{A B C:Nat->Prop}(h:CI u p P s A B)(hf:FI C u u')(h1:∀x,A x->¬C x)(h2:∀x,B x->¬C x):CI u' p P s A B:=by
 obtain⟨M,R,hC,hM,hR⟩:=h;obtain⟨T,hT,hi⟩:=hf;refine⟨M,R,hC.tr hT (fun x hx hm=>?_),hM,hR⟩;rcases SE.1 hx with hx|hx
 .exact h1 x (hM x hx) (hi x hm)
 .exact h2 x (hR x hx) (hi x hm)
theorem CI.tr0{A B:Nat->Prop}(h:CI u p P s A B)(hf:Fr [] u u'):CI u' p P s A B:=h.fi (C:=fun _=>False) (.of0 hf) (fun _ _ h=>h) (fun _ _ h=>h)
theorem CI.ok{A B:Nat->Prop}(h:CI u p P s A B):StOk P s:=by
 obtain⟨M,R,hC,_,_⟩:=h;obtain⟨_,_,_,_,_,_,_,_,_,_,_,_,_,_,_,_,h⟩:=hC;exact h
end Go.Proofs.YtggmccicdhnkgaaGreat
