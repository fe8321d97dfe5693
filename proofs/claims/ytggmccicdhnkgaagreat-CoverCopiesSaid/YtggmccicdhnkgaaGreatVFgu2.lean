/-
 The reference's Faults:fields that are not used.
-/
import Derived.Test.YtggmccicdhnkgaaGreatVCq
import Derived.Test.YtggmccicdhnkgaaGreatVSl
import Derived.Test.YtggmccicdhnkgaaGreatVQn
set_option linter.all false
set_option maxHeartbeats 64000000
namespace Go.Rf
open Go.RowKit
variable{af:Array Edge}{f:Env}{kk:IntKind}{d e i j k n o t:Nat}{x y:Operand}{P:Program}{ps:String}{α β:Type}{w:World}
section
variable{D:Dfs}
variable{P:Program}{ops:Array Oper}{Q:Exit->Act->World->Prop}{rest:List Oper}{n:Nat}{f:Env}{w:World}
variable{d:Nat}{ty:TypeId}{ps:String}{af:Array Edge}{x y:Operand}{t:Nat}
theorem MS{size eZ:Nat}{z:List Value}{kl kc:IntKind}[R:RowZ P t e size eZ z](hx:ev n f x=.int kl 0)(hy:ev n f y=.int kc (k:Int))(hb:eZ*k<=281474976710656)(jW:k<=maxLen)
 (h:∀w',bx w' e size (.slice (some ⟨w.heap.size,0,none⟩) 0 k) 0 []->Fr [] w w'->w'.heap.size=w.heap.size+1->wpList P ops Q rest (A n (bz f d (.slice (some ⟨w.heap.size,0,none⟩) 0 k))) w'):
 wpList P ops Q (⟨some d,.makeSlice t x y,ty,ps,af,none⟩::rest) (A n f) w:=by
 have Rr:=R.row;obtain⟨i0,z0,lp,hz0,hs,ph,sc⟩:=Rr.inf;obtain⟨i,v,hi,hz,hc,oo⟩:=R.z;rw[lp]at hi;simp only[Sj]at hi;subst hi;have qQ:(k:Int)<=9223372036854775807:=by
  have h:=jW;simp[maxLen]at h;omega
 have sd:(i0.bytes:Int)*(k:Int)<=281474976710656:=by
  have h:((i0.bytes*k:Nat):Int)<=281474976710656:=by rw[ph];omega
  rwa [Int.natCast_mul]at h
 have hr:=run_make (P:=P) w t e i0 v Rr.und lp hz kl kc 0 k ab ab sd qQ;simp only[EG,Int.toNat_zero]at hr;rw[hc,hs]at hr;refine JR (by simp only[execOp,hx,hy];rw[Sem.run_bind,hr];rfl) (h _ ?_ (Fr.alloc _ _ _) ap);exact⟨by simp,.inr ⟨w.heap.size,k,_,rfl,SL _,heap_alloc_new w _,SL _,jW,by simp[madeCells],by simp⟩⟩
end
instance:Inhabited Br:=⟨⟨.empty,0,0⟩⟩
theorem QD(b:Br):∀v∈dH b,v.oneCell'=true:=by simp[dH,Value.oneCell']
theorem Wu(b:Pr):∀v∈fK b,v.oneCell'=true:=by simp[fK,dH,Value.oneCell']
theorem Xa(l:List Pr):(l.flatMap fK).length=l.length*6:=by
 induction l with
 |nil=>rfl
 |cons a l ih=>rw[CP,Sm,ih];simp[fK,dH];omega
theorem QV{ty:TypeId}{gd:Option (Nat×Bool)}{size b:Nat}[R:ArrT P t k e size](hx:ev n f x=.pointer (some ⟨b,o,none⟩))(hy:ev n f y=.int kk (j:Int))(hj:j<k):
 (execOp (ev n f) ⟨some d,.indexAddr t x y,ty,ps,af,gd⟩).run P w=.ok (.value (.pointer (some ⟨b,o+j*size,none⟩))) w:=by
 have:=V8 (P:=P) (n:=n) (f:=f) (w:=w) (d:=d) (ty:=ty) (ps:=ps) (af:=af) (gd:=gd) (t:=t) hx hy hj;rw[add_lit]at this;exact this
theorem ZH{D:Dfs}{ops:Array Oper}{Q:Exit->Act->World->Prop}{rest:List Oper}{ty:TypeId}{size b:Nat}[R:ArrT P t k e size](hx:ev n f x=.pointer (some ⟨b,o,none⟩))(hy:ev n f y=.int kk (j:Int))(hj:j<k)(h:wpList P ops Q rest (A n (bz f d (.pointer (some ⟨b,o+j*size,none⟩)))) w):
 wpList P ops Q (⟨some d,.indexAddr t x y,ty,ps,af,none⟩::rest) (A n f) w:=JR (QV hx hy hj) h
theorem JfT{g:Nat}{v:Value}(h:bx w e 1 (.slice (some ⟨g,0,none⟩) 1 1) 1 [v]):aG w g [v] e:=by
 rcases h.2 with⟨h0,_⟩|⟨g',cap,eS,hv,_,sa,_,_,fG,yk⟩
 .cases h0
 .simp only[Value.slice.injEq,Sj,Addr.mk.injEq,Eh,true_and]at hv;obtain⟨rfl,rfl⟩:=hv;unfold aG;rw[sa,<-yk,SQ (by simp[fG])]
def PO(w0:World)(tb:Nat)(u:World)(l:List Pr)(v:Value):Prop:=bx u tb 6 v l.length (l.flatMap fK)/\∀b∈ag v,w0.heap.size<=b
theorem LC{xs:List α}{left m:List (α×β)}(h0:left=[])(hp:(xs++left.map Prod.fst).Perm (m.map Prod.fst)):xs.Perm (m.map Prod.fst):=by
 subst h0;simpa using hp
theorem JeH{xs:List α}{left gN m:List (α×β)}{a:α}{v:β}(hl:left.Perm ((a,v)::gN))(hp:(xs++left.map Prod.fst).Perm (m.map Prod.fst)):((xs++[a])++gN.map Prod.fst).Perm (m.map Prod.fst):=by
 refine List.Perm.trans ?_ hp;rw[List.append_assoc];exact(List.Perm.append_left xs (hl.map Prod.fst)).symm
def Lp{α:Type}[DecidableEq α](l:List α):List (α×Bool):=l.foldl (fun m b=>VJ m b true) []
theorem Jar[DecidableEq α]{l:List α}(hi:i<l.length):Lp (l.take (i+1))=VJ (Lp (l.take i)) l[i] true:=by
 rw[SK hi];unfold Lp;rw[List.foldl_append];rfl
theorem X3[DecidableEq α]:∀{l:List α} {m:List (α×Bool)} {a:α},a∈(l.foldl (fun m b=>VJ m b true) m).map Prod.fst↔a∈m.map Prod.fst\/a∈l
 |[],m,a=>by simp
 |x::l,m,a=>by
  rw[Dz,X3,Ld];by_cases h:x∈m.map Prod.fst
  .rw [Cb h,SC];constructor
   .rintro (h1|h1)
    .exact .inl h1
    .exact .inr (.inr h1)
   .rintro (h1|rfl|h1)
    .exact .inl h1
    .exact .inl h
    .exact .inr h1
  .rw [SH h,SE,Sv,SC];constructor
   .rintro ((h1|h1)|h1)
    .exact .inl h1
    .exact .inr (.inl h1)
    .exact .inr (.inr h1)
   .rintro (h1|h1|h1)
    .exact .inl (.inl h1)
    .exact .inl (.inr h1)
    .exact .inr h1
theorem Jas[DecidableEq α]{l:List α}{a:α}:a∈(Lp l).map Prod.fst↔a∈l:=by
 unfold Lp;rw[X3];simp
theorem JfJ[DecidableEq α]{m:List (α×β)}{a:α}{v:β}:(VJ m a v).length<=m.length+1:=by
 have h:=CZ List.length (Ld (m:=m) (a:=a) (v:=v));rw[Sr]at h;rw[h]
 split<;>simp
theorem Jb0[DecidableEq α]{l:List α}:(Lp l).length<=l.length:=by
 unfold Lp
 suffices∀(l:List α) (m:List (α×Bool)),(l.foldl (fun m b=>VJ m b true) m).length<=m.length+l.length by simpa using this l []
 intro l
 induction l with
 |nil=>simp
 |cons a l ih=>
  intro m;rw[Dz];have:=ih (VJ m a true);have:=JfJ (m:=m) (a:=a) (v:=true);simp only[SI];omega
theorem QI:∀{l:List Br},(Jy l).length=l.length-1
 |[]=>rfl
 |[a]=>rfl
 |a::b::l=>by
  rw[Jy,SI,QI];simp
theorem Xb:∀{l:List Br} {i:Nat} (h:i+1<l.length),(Jy l)[i]?=some (l[i],l[i+1])
 |[],i,h=>by simp at h
 |[a],i,h=>by simp at h
 |a::b::l,0,h=>rfl
 |a::b::l,i+1,h=>by
  rw[Jy,DX,Xb mE];rfl
end Go.Rf
namespace Go.Proofs.YtggmccicdhnkgaaGreat
open Go.Proofs.Tryz
open Go.Rf Go.RowKit
variable{l:List Br}{S:List Nat}{i tb:Nat}{u w:World}
attribute [local irreducible] Code.wp wpList Exit.then Exit.inBlock bodyPost A Calls execOp Addr.add
instance ieC:MapT prog 184 50 4:=⟨underlying184⟩
instance ieD:MapT prog 122 50 3:=⟨underlying122⟩
instance ieE:MapT prog 123 128 4:=⟨underlying123⟩
theorem Jiw(l:List Br)(v:Value)(w:World)(ho:bx w 50 3 v l.length (l.flatMap dH))(hl:l.length<=1000000000):
 Calls prog 98 #[v,.func (.func 53) #[] #[]] w fun en w'=>en=.returned (.tuple #[])/\bx w' 50 3 v l.length ((l.mergeSort (fun x y=> !eO y x)).flatMap dH)/\Fr (ag v) w w':=
 Jff (cf:=Qe) Go.Proofs.Tryz.sortB bU Tryz.isAgg50 Tryz.sizeOf50 (fun _=>rfl) QD ⟨Qu.irr,fun a b c=>Qu.tr,Qu.tri⟩ (enters_of func53 az rfl) (fun x y W=>Jgw x y W) l v w _ ho hl
theorem Jkm(a b:Pr)(w:World):Calls prog 96 #[.agg (fK a).toArray,.agg (fK b).toArray] w fun e w'=>e=.returned (iV (XB a b))/\Fr [] w w':=by
 refine enter func96 rfl ntmps96 rfl ?_;exact Ym
theorem Jjl(a b:Pr)(w:World):Calls prog 69 #[.agg (fK a).toArray,.agg (fK b).toArray] w fun e w'=>e=.returned (iV (XB a b))/\Fr [] w w':=by
 refine enter func69 rfl ntmps69 rfl ?_;exact Ym
theorem Jiv(l:List Pr)(v:Value)(w:World)(ho:bx w 128 6 v l.length (l.flatMap fK))(hl:l.length<=1000000000):
 Calls prog 95 #[v,.func (.func 96) #[] #[]] w fun en w'=>en=.returned (.tuple #[])/\bx w' 128 6 v l.length ((l.mergeSort (fun x y=> !eC y x)).flatMap fK)/\Fr (ag v) w w':=
 Jff (cf:=XB) Go.Proofs.Tryz.Jh4 bU Tryz.isAgg128 Tryz.sizeOf128 (fun _=>rfl) Wu ⟨Qy.irr,fun a b c=>Qy.tr,Qy.tri⟩ (enters_of func96 az rfl) (fun x y W=>Jkm x y W) l v w _ ho hl
theorem JgQ(l:List Pr)(v:Value)(w:World)(ho:bx w 128 6 v l.length (l.flatMap fK))(hl:l.length<=1000000000):
 Calls prog 95 #[v,.func (.func 69) #[] #[]] w fun en w'=>en=.returned (.tuple #[])/\bx w' 128 6 v l.length ((l.mergeSort (fun x y=> !eC y x)).flatMap fK)/\Fr (ag v) w w':=
 Jff (cf:=XB) Go.Proofs.Tryz.Jh4 bU Tryz.isAgg128 Tryz.sizeOf128 (fun _=>rfl) Wu ⟨Qy.irr,fun a b c=>Qy.tr,Qy.tri⟩ (enters_of func69 az rfl) (fun x y W=>Jjl x y W) l v w _ ho hl
theorem JfU(m:List (Br×Bool))(b:Nat)(w:World)(hm:Mp gg Value.bool w b m)(xm:m.length<=1000000):
 Calls prog 93 #[.map (some b)] w fun e w'=>∃v,e=.returned v/\BO w 50 w' (JM eO (m.map Prod.fst)) v/\Fr [] w w':=by
 have oD:=hm.lt;have eG:Fr [] w w:=Fr.refl _ _;refine enter (w:=w) func93 rfl ntmps93 rfl ?_;refine rx ?_;have TG:=hm.lt;refine G7 rfl hm ?_;refine rx ?_;refine MS (k:=m.length) rfl rfl ab dt (fun u1 ho aj bh=>?_);obtain⟨q,hq⟩:=aP w.heap.size;rw[<-hq]at ho ⊢;have hm:=hm.tr0 aj;refine rx ?_;refine BR rfl hm (fun u2 ij aq cz=>?_);obtain⟨r,hr⟩:=aP u1.heap.size;rw[<-hr]at ij ⊢;have aS:Fr [] w u2:=(eG.Jb aj).Jb aq;have mF:=eG.size;have ho:=ho.tr0 aq;have s6:w.heap.size<=r:=by omega
 have jd:∀x∈ag (Value.slice (some ⟨q,0,none⟩) 0 m.length),w.heap.size<=x/\x≠r:=fun x hx=>by simp[ag,Value.ownBlock]at hx;omega
 refine rx ?_;refine Jh 10 [3,4] (σ:=List Br×List (Br×Bool)×Option (Br×Bool)×Value) (fun s g u=>g 3=s.2.2.2/\nu gg Value.bool u b r m s.2.1 s.2.2.1/\bx u 50 3 s.2.2.2 s.1.length (s.1.flatMap dH)/\(s.1++s.2.1.map Prod.fst).Perm (m.map Prod.fst)/\(∀x∈ag s.2.2.2,w.heap.size<=x/\x≠r)/\Fr [] w u) (fun s=>s.2.1.length) ([],m,none,_) ⟨rfl,ij,ho,by simp,jd,aS⟩ ?_;exact Yl
theorem JbB(m:List (Br×Int))(b:Nat)(w:World)(hm:Mp gg (Value.int .i64) w b m)(xm:m.length<=1000000):
 Calls prog 52 #[.map (some b),.func (.func 53) #[] #[]] w fun e w'=>∃v,e=.returned v/\BO w 50 w' (JM eO (m.map Prod.fst)) v/\Fr [] w w':=by
 have oD:=hm.lt;have eG:Fr [] w w:=Fr.refl _ _;refine enter (w:=w) func52 rfl ntmps52 rfl ?_;refine rx ?_;have TG:=hm.lt;refine G7 rfl hm ?_;refine rx ?_;refine MS (k:=m.length) rfl rfl ab dt (fun u1 ho aj bh=>?_);obtain⟨q,hq⟩:=aP w.heap.size;rw[<-hq]at ho ⊢;have hm:=hm.tr0 aj;refine rx ?_;refine BR rfl hm (fun u2 ij aq cz=>?_);obtain⟨r,hr⟩:=aP u1.heap.size;rw[<-hr]at ij ⊢;have aS:Fr [] w u2:=(eG.Jb aj).Jb aq;have mF:=eG.size;have ho:=ho.tr0 aq;have s6:w.heap.size<=r:=by omega
 have jd:∀x∈ag (Value.slice (some ⟨q,0,none⟩) 0 m.length),w.heap.size<=x/\x≠r:=fun x hx=>by simp[ag,Value.ownBlock]at hx;omega
 refine rx ?_;refine Jh 12 [5,6] (σ:=List Br×List (Br×Int)×Option (Br×Int)×Value) (fun s g u=>g 5=s.2.2.2/\nu gg (Value.int .i64) u b r m s.2.1 s.2.2.1/\bx u 50 3 s.2.2.2 s.1.length (s.1.flatMap dH)/\(s.1++s.2.1.map Prod.fst).Perm (m.map Prod.fst)/\(∀x∈ag s.2.2.2,w.heap.size<=x/\x≠r)/\Fr [] w u) (fun s=>s.2.1.length) ([],m,none,_) ⟨rfl,ij,ho,by simp,jd,aS⟩ ?_;exact Yl
theorem Jfe(m:List (Pr×Bool))(b:Nat)(w:World)(hm:Mp iC Value.bool w b m)(xm:m.length<=1000000):
 Calls prog 68 #[.map (some b),.func (.func 69) #[] #[]] w fun e w'=>∃v,e=.returned v/\PO w 128 w' (JM eC (m.map Prod.fst)) v/\Fr [] w w':=by
 have oD:=hm.lt;have eG:Fr [] w w:=Fr.refl _ _;refine enter (w:=w) func68 rfl ntmps68 rfl ?_;refine rx ?_;have TG:=hm.lt;refine G7 rfl hm ?_;refine rx ?_;refine MS (k:=m.length) rfl rfl ab dt (fun u1 ho aj bh=>?_);obtain⟨q,hq⟩:=aP w.heap.size;rw[<-hq]at ho ⊢;have hm:=hm.tr0 aj;refine rx ?_;refine BR rfl hm (fun u2 ij aq cz=>?_);obtain⟨r,hr⟩:=aP u1.heap.size;rw[<-hr]at ij ⊢;have aS:Fr [] w u2:=(eG.Jb aj).Jb aq;have mF:=eG.size;have ho:=ho.tr0 aq;have s6:w.heap.size<=r:=by omega
 have jd:∀x∈ag (Value.slice (some ⟨q,0,none⟩) 0 m.length),w.heap.size<=x/\x≠r:=fun x hx=>by simp[ag,Value.ownBlock]at hx;omega
 refine rx ?_;refine Jh 12 [5,6] (σ:=List Pr×List (Pr×Bool)×Option (Pr×Bool)×Value) (fun s g u=>g 5=s.2.2.2/\nu iC Value.bool u b r m s.2.1 s.2.2.1/\bx u 128 6 s.2.2.2 s.1.length (s.1.flatMap fK)/\(s.1++s.2.1.map Prod.fst).Perm (m.map Prod.fst)/\(∀x∈ag s.2.2.2,w.heap.size<=x/\x≠r)/\Fr [] w u) (fun s=>s.2.1.length) ([],m,none,_) ⟨rfl,ij,ho,by simp,jd,aS⟩ ?_;clear ij ho jd hm aS;rintro⟨xs,left,eS,v⟩ g u ⟨g3,ij,ho,hp,jd,hF⟩;simp only at g3 ij ho hp jd;rw[Ja g3];have cI:=hF.size;have k7:=ij.lt;have lO:w.heap.size<=r:=s6;have pj:=hp.length_eq;simp only[Sm,Sr]at pj;refine rx ?_;refine Θ rfl ij (fun h0=>?_) (fun a av gN u3 qR kO aF dO=>?_)
 .have hk:=LC h0 hp;have iJ:xs.Nodup:=hk.nodup_iff.2 ij.mp.nd;refine rx ?_;refine Jg (JgQ xs v u ho ab) ?_;rintro u4 ⟨jA,aI⟩;refine bM ?_;rw[V5 Qy iJ (m:=m.map Prod.fst) (fun y=>hk.mem_iff)]at jA;have pR:xs.length=(JM eC (m.map Prod.fst)).length:=by rw[<-V5 Qy iJ (m:=m.map Prod.fst) (fun y=>hk.mem_iff),He]
  rw[pR]at jA;exact Ybg
 .have aV:Fr [] w u3:=hF.trans aF (fun x hx=>.inr bt);exact Yds
theorem _root_.Go.Rf.JfS{v:Value}(h:bx u tb 3 v l.length (l.flatMap dH))(hl:l.length<=1000000000000):DR u [] (.l (l.map jl)) v:=by
 refine DR.ofTyped (k:=3) (fun _=>rfl) hl ⟨l.flatMap dH,h.src,fun ad n c e _ hm=>by simp at hm,?_⟩;clear h hl;exact Ycr
theorem _root_.Go.Rf.BO.dr{w0:World}{v:Value}(h:BO w0 tb u l v)(hl:l.length<=1000000000000):DR u [] (.l (l.map jl)) v:=JfS h.1 hl
theorem _root_.Go.Rf.DR.br{ao:Option Addr}{m c:Nat}(h:DR w S (.l (l.map jl)) (.slice ao m c))(hi:i<l.length):∃ad,ao=some ad/\Cells w (ad.add (i*3)) [.string l[i].decl,iV l[i].at_,iV l[i].arm]:=by
 obtain⟨ad,cs,e,hr,hc⟩:=DR.at (k:=3) (fun _=>rfl) h hi;rw[brR.1 hr]at hc;exact⟨ad,e,hc⟩
theorem Jf2(l:List Br)(v:Value)(q:Nat)(w:World)(S:List Nat)(hq:aG w q [v] 31)(hd:DR w S (.l (l.map jl)) v)(hl:l.length<=1000000):
 Calls prog 94 #[.slice (some ⟨q,0,none⟩) 1 1] w fun e w'=>∃mb m,e=.returned (.map (some mb))/\Mp gg Value.bool w' mb m/\(∀a,a∈m.map Prod.fst↔a∈l)/\m.length<=l.length/\w.heap.size<=mb/\Fr [] w w':=by
 have lq:(l.map jl).length=l.length:=Sr ..;obtain⟨ao,c,rfl,_⟩:=hd.slice;rw[lq]at hd hq;refine enter func94 rfl ntmps94 rfl ?_;refine rx ?_;refine Kt (key:=gg) (val:=Value.bool) (fun w1 hm aj bh=>?_);obtain⟨mb,jN⟩:=aP w.heap.size;rw[<-jN]at hm ⊢;refine rx ?_;refine Jh 5 [] (σ:=Nat×List (Br×Bool)) (fun s g u=>g 9=.slice (some ⟨q,0,none⟩) 1 1/\g 10=iV 1/\g 11=iV (s.1:Nat)/\s.1<=1/\(s.1=0->s.2=[])/\(s.1=1->s.2=Lp l)/\Mp gg Value.bool u mb s.2/\Fr [] w u) (fun s=>1-s.1) (0,[]) ⟨rfl,rfl,rfl,SL _,fun _=>rfl,fun h=>mi,hm,aj⟩ ?_;clear hm aj;rintro⟨i,m⟩ g u ⟨g9,g10,g11,hi,h0,h1,hm,hF⟩;simp only at g11 hi h0 h1 hm;rw[Ja g9,Ja g10,Ja g11];by_cases zH:i=1
 .subst zH;have jY:=h1 rfl;subst jY;refine bM ?_;exact⟨mb,Lp l,rfl,hm,fun a=>Jas,Jb0,by omega,hF⟩
 obtain rfl:i=0:=by omega
 have hm0:=h0 rfl;subst hm0;clear h0 h1;have ua:=hq.tr0 hF;have hdu:=hd.tr0 hF;refine rx ?_;refine KW rfl (v:=.slice ao l.length c) (by rw[add_lit];exact ua.cell rfl) ?_;refine rx ?_;refine Jh 15 [7] (σ:=Nat) (fun j g u1=>g 15=.slice ao l.length c/\g 16=iV l.length/\g 17=iV (j:Nat)/\j<=l.length/\Mp gg Value.bool u1 mb (Lp (l.take j))/\Fr [] w u1) (fun j=>l.length-j) 0 ⟨rfl,rfl,rfl,SL _,hm,hF⟩ ?_;clear hm;rintro j g1 u1 ⟨g15,g16,g17,hj,hm,ej⟩;rw[Ja g15,Ja g16,Ja g17];have TH:=ej.size;by_cases aC:j<l.length
 case neg=>
  refine rx ?_;rw[SQ ab]at hm;refine Jc (1,Lp l) a6 ⟨rfl,rfl,rfl,SX _,fun h=>mi,fun _=>rfl,hm,ej⟩ eM
 obtain⟨ad,rfl,hc⟩:=(hd.tr0 ej).br aC;refine rx ?_;refine Jm (l:=[zT,zI,zI]) rfl (fun u2 bv gJ hv aq cz=>?_);refine rx ?_;refine Jd (cs:=dH l[j]) rfl rfl hv (QD l[j]) rfl rfl (fun u3 hv aF dO=>?_);replace hv:aG u3 bv [.string l[j].decl,iV l[j].at_,iV l[j].arm] _:=hv;have zJ:=(hm.tr0 aq).tr aF (by have:=hm.lt;simp;omega);have aV:=(ej.Jb aq).trans aF (fun x hx=>.inr bt);refine rx ?_;refine BX (key:=gg) (val:=Value.bool) (a:=l[j]) (v:=true) zJ rfl rfl rfl (fun u4 hm4 aI eA=>?_);refine rx ?_;rw[<-Jar aC]at hm4;exact Jc (j+1) a6 ⟨rfl,rfl,rfl,aC,hm4,aV.trans aI (fun x hx=>.inr bt)⟩ ab
theorem JjN(l:List Br)(v:Value)(w:World)(hd:DR w S (.l (l.map jl)) v)(hl:l.length<=1000000):
 Calls prog 47 #[v] w fun e w'=>∃v',e=.returned v'/\BO w 50 w' (JM eO l) v'/\Fr [] w w':=by
 have h1:=hd.one;refine enter func47 rfl ntmps47 rfl ?_;refine rx ?_;refine QO rfl h1 (fun w1 ho aj bh=>?_);obtain⟨q,hq⟩:=aP w.heap.size;rw[<-hq]at ho ⊢;refine rx ?_;refine Y9 (Jf2 l v q w1 S (JfT ho) (hd.tr0 aj) hl) ?_;rintro mb m w2 ⟨hm,TI,xm,jN,aq⟩;refine rx ?_;refine Jl (JfU m mb w2 hm ab) ?_;rintro v' w3 ⟨hB,aF⟩;refine bM ?_;have hF:=(aj.Jb aq);have:=hF.size;rw[V6 Qu (m:=l) TI]at hB;exact⟨v',rfl,⟨hB.1,fun x hx=>by have:=hB.2 x hx;omega⟩,hF.Jb aF⟩
theorem JiU(l:List Br)(v:Value)(w:World)(hd:DR w S (.l (l.map jl)) v)(hl:l.length<=1000000):
 Calls prog 51 #[v] w fun e w'=>∃v',e=.returned v'/\PO w 128 w' (JM eC (Jy l)) v'/\Fr [] w w':=by
 have lq:(l.map jl).length=l.length:=Sr ..;obtain⟨ao,c,rfl,_⟩:=hd.slice;rw[lq]at hd ⊢;refine enter func51 rfl ntmps51 rfl ?_;refine rx ?_;refine Kt (key:=iC) (val:=Value.bool) (fun w1 hm aj bh=>?_);obtain⟨b,jN⟩:=aP w.heap.size;rw[<-jN]at hm ⊢;refine rx ?_;refine Jh 5 [4] (σ:=Nat) (fun j g u=>g 4=iV ((j+1:Nat):Int)/\j<=l.length/\Mp iC Value.bool u b (Lp ((Jy l).take j))/\Fr [] w u) (fun j=>l.length-j) 0 ⟨rfl,SL _,hm,aj⟩ ?_;clear hm aj;rintro j g u0 ⟨g4,hj,hm,eG⟩;rw[Ja g4];have mF:=eG.size;by_cases aC:j+1<l.length
 .obtain ⟨ad,rfl,gI⟩:=(hd.tr0 eG).br (i:=j) ab;obtain⟨lC,e1,fO⟩:=(hd.tr0 eG).br aC;cases e1
  refine rx ?_;refine JE (fun z=>Fr [b] u0 z) az rfl ?_;obtain⟨u1,eu⟩:=aP u0.drew;rw[<-eu];have aj:Fr [] u0 u1:=eu▸Fr.drew _ _;have hS:Fr [b] u0 u1:=aj.mono ap;have kZ:(ad.add (j*3)).block∉[b]:=fun h=>by
   obtain⟨lC,e1,hcw⟩:=hd.br (i:=j) ab;cases e1
   have:=mh (Jd6 hcw);rw[Sv.1 h]at this;omega
  have ib6:(ad.add ((j+1)*3)).block∉[b]:=fun h=>by
   obtain⟨lC,e1,hcw⟩:=hd.br aC;cases e1
   have:=mh (Jd6 hcw);rw[Sv.1 h]at this;omega
  refine Jj 0 1 2 3 hS ?_;rw[show(((j+1:Nat):Int)-1)=(j:Int) by omega];refine bH 4 hS ?_;refine Kw 5 hS ?_ (aw:=by(intro u hu;exact(Kv rfl (Cells.tr gI hu kZ) fD)));refine JX 6 7 hS ?_;refine bH 8 hS ?_;refine Kw 9 hS ?_ (aw:=by(intro u hu;exact(Kv rfl (Cells.tr fO hu ib6) fD)));refine Kw 10 hS ?_ (v:=.agg ((fK (l[j],l[j+1]))).toArray) (aw:=by(intro u hu;exact NR ((fK (l[j],l[j+1]))) fD));refine zK ?_;refine BX (key:=iC) (val:=Value.bool) (a:=(l[j],l[j+1])) (v:=true) (hm.tr0 aj) rfl rfl rfl (fun u2 iD aq cz=>?_);have fq:Fr [b] u0 u2:=hS.trans aq (fun x hx=>.inl hx);refine yj ?_;refine j5 ?_;refine Jc (j+1) a6 ⟨rfl,by omega,?_,eG.trans fq (fun x hx=>.inr bt)⟩ ab;have hg:=Xb aC;have jm:j<(Jy l).length:=(Df.1 hg).1;rw[Jar jm];have:(Jy l)[j]=(l[j],l[j+1]):=(Df.1 hg).2;rw[this];exact iD
 .have pj:=QI (l:=l);rw[SQ ab]at hm;obtain⟨m,hme⟩:=aP (Lp (Jy l));rw[<-hme]at hm;have xm:m.length<=1000000:=by have:=Jb0 (l:=Jy l);rw[hme];omega
  refine rx ?_;have TG:=hm.lt;refine G7 rfl hm ?_;refine rx ?_;refine MS (k:=m.length) rfl rfl ab dt (fun u1 ho aj bh=>?_);obtain⟨q,hq⟩:=aP u0.heap.size;rw[<-hq]at ho ⊢;have hm:=hm.tr0 aj;refine rx ?_;refine BR rfl hm (fun u2 ij aq cz=>?_);obtain⟨r,hr⟩:=aP u1.heap.size;rw[<-hr]at ij ⊢;have aS:Fr [] w u2:=(eG.Jb aj).Jb aq;have mF:=eG.size;have ho:=ho.tr0 aq;have s6:u0.heap.size<=r:=by omega
  have jd:∀x∈ag (Value.slice (some ⟨q,0,none⟩) 0 m.length),u0.heap.size<=x/\x≠r:=fun x hx=>by simp[ag,Value.ownBlock]at hx;omega
  refine rx ?_;refine Jh 30 [5,6] (σ:=List Pr×List (Pr×Bool)×Option (Pr×Bool)×Value) (fun s g u=>g 5=s.2.2.2/\nu iC Value.bool u b r m s.2.1 s.2.2.1/\bx u 128 6 s.2.2.2 s.1.length (s.1.flatMap fK)/\(s.1++s.2.1.map Prod.fst).Perm (m.map Prod.fst)/\(∀x∈ag s.2.2.2,u0.heap.size<=x/\x≠r)/\Fr [] w u) (fun s=>s.2.1.length) ([],m,none,_) ⟨rfl,ij,ho,by simp,jd,aS⟩ ?_;clear ij ho jd hm aS;rintro⟨xs,left,eS,v⟩ g u ⟨g3,ij,ho,hp,jd,hF⟩;simp only at g3 ij ho hp jd;rw[Ja g3];have cI:=hF.size;have k7:=ij.lt;have lO:u0.heap.size<=r:=s6;have pj:=hp.length_eq;simp only[Sm,Sr]at pj;refine rx ?_;refine Θ rfl ij (fun h0=>?_) (fun a av gN u3 qR kO aF dO=>?_)
  .have hk:=LC h0 hp;have iJ:xs.Nodup:=hk.nodup_iff.2 ij.mp.nd;refine rx ?_;refine Jg (Jiv xs v u ho ab) ?_;rintro u4 ⟨jA,aI⟩;refine bM ?_;rw[V5 Qy iJ (m:=m.map Prod.fst) (fun y=>hk.mem_iff)]at jA;have pR:xs.length=(JM eC (m.map Prod.fst)).length:=by rw[<-V5 Qy iJ (m:=m.map Prod.fst) (fun y=>hk.mem_iff),He]
   rw[pR]at jA;rw[hme,V6 Qy (m:=Jy l) (fun a=>Jas)]at jA;exact Ybg
  .have aV:Fr [] w u3:=hF.trans aF (fun x hx=>.inr bt);exact Yds
end Go.Proofs.YtggmccicdhnkgaaGreat
namespace Go.Rf
open Go.RowKit
section
variable{kk:IntKind}{xs ys:List Value}{eZ e k m n:Nat}{w w':World}
def XC(w:World)(e size:Nat)(v:Value)(n:Nat)(xs:List Value):Prop:=
 xs.length=n*size/\∃g o cap eS,v=.slice (some ⟨g,o,none⟩) n cap/\w.heap[g]?=some (.cells eS e (0,0))/\n<=cap/\cap<=maxLen/\o+cap*size<=eS.size/\(eS.toList.drop o).take (n*size)=xs
theorem XC.tr{S:List Nat}{size:Nat}{v:Value}(h:XC w e size v n xs)(hf:Fr S w w')(hS:∀k∈ag v,k∉S):XC w' e size v n xs:=by
 obtain⟨h0,g,o,cap,eS,rfl,hg,r⟩:=h;have hl:g<w.heap.size:=(DI.1 hg).1;exact⟨h0,g,o,cap,eS,rfl,by rw[hf.block g hl (hS g oz)];exact hg,r⟩
theorem XC.tr0{size:Nat}{v:Value}(h:XC w e size v n xs)(hf:Fr [] w w'):XC w' e size v n xs:=h.tr hf ap
theorem XC.lt{size:Nat}{v:Value}(h:XC w e size v n xs):∀k∈ag v,k<w.heap.size:=by
 obtain⟨h0,g,o,cap,eS,rfl,hg,r⟩:=h;intro k hk;simp[ag,Value.ownBlock]at hk;subst hk;exact(DI.1 hg).1
theorem XC.cells{size g o cap:Nat}(h:XC w e size (.slice (some ⟨g,o,none⟩) n cap) n xs):∀j u,xs[j]?=some u->w.cell? ((⟨g,o,none⟩:Addr).add j)=some u:=by
 obtain⟨h0,g',o',ifd,eS,e1,hg,h1,h2,h3,h4⟩:=h;simp only[Value.slice.injEq,Sj,Addr.mk.injEq]at e1;obtain⟨⟨rfl,rfl,_⟩,_,rfl⟩:=e1;intro j u hj;have hb:aG w g eS.toList e:=by unfold aG;simpa using hg
 rw[add_lit];refine hb.cell ?_;rw[<-h4]at hj;have jm:j<n*size:=by
  have:=(Df.1 hj).1;simp at this;omega
 rw[FD jm,EN]at hj;exact hj
theorem XC.Jie{size:Nat}{v:Value}(h:bx w e size v n xs)(hv:v≠zS):XC w e size v n xs:=by
 rcases h.2 with⟨rfl,rfl⟩|⟨g,cap,eS,rfl,hb,sa,kY,gO,fG,ht⟩
 .exact absurd rfl hv
 .exact ⟨h.1,g,0,cap,eS,rfl,sa,kY,gO,by omega,by simpa using ht⟩
theorem Jfq{P:Program}{t xt ty size bytes:Nat}[R:RowT P t e size bytes]{v x:Value}
 (Y4:(∃e',P.underlying xt=some (.slice e'))\/P.underlying xt=some .string) (cB:XC w e size v n xs) (hx:Gives P w size x m ys) (jW:n+m<=maxLen) (hb:(n+m)*bytes<=140737488355328):
 ∃v' w',(Builtin.append_ #[t,xt] ty #[v,x]).run P w=.ok v' w'/\XC w' e size v' (n+m) (xs++ys)/\Fr (ag v) w w'/\(∀k∈ag v',k∈ag v\/w.heap.size<=k):=by
 obtain⟨i,z,hi,hz,rfl,rfl,sc⟩:=R.inf;have ht:=R.und;have Tz:n+m<=9223372036854775807:=by simp only[maxLen]at jW;omega
 have hlen:(xs++ys).length=(n+m)*i.size:=by rw[Sm,cB.1,hx.len,Nat.add_mul]
 have qQ:¬(9223372036854775807<((n:Int)+(m:Int))):=by omega
 have grown:∀(old:Nat),
  XC (w.drew.alloc (.cells (xs.toArray++ys.toArray++Builtin.zeroCells z.cells (grownCap w (n+m) old e-(n+m))) e)) e i.size
   (.slice (some ⟨w.heap.size,0,none⟩) (n+m) (grownCap w (n+m) old e)) (n+m) (xs++ys)/\
  Fr (ag v) w (w.drew.alloc (.cells (xs.toArray++ys.toArray++Builtin.zeroCells z.cells (grownCap w (n+m) old e-(n+m))) e)):=by
  intro old;have hJ:=grownCap_ge w (n+m) old e;have gO:grownCap w (n+m) old e<=maxLen:=grownCap_le_maxLen w (n+m) old e jW;refine⟨⟨hlen,w.heap.size,0,_,_,rfl,heap_alloc_new w.drew _,hJ,gO,?_,?_⟩,(Fr.drew _ w).Jb (Fr.alloc [] _ _)⟩
  .simp only[Ik,Ea,size_zeroCells,sc,cB.1,hx.len,<-Nat.add_mul];rw[Di];refine Nat.le_of_eq ?_
   congr 1
   omega
  .simp only[IJ,List.append_assoc,D9];rw[<-List.append_assoc,<-hlen];exact EW
 have hfx:=hx.cells w (fun _=>rfl);have jM:=hx.cells w.drew (fun _=>rfl);have Y5:=hx.lenOf w;have fg:=cB;obtain⟨zx,g,o,cap,eS,rfl,hg,kY,gO,fG,pL⟩:=cB;by_cases lB:n+m<=cap
 .have fA:(n+m)*i.size<=cap*i.size:=Em _ lB;have lm:(n+m)*i.size=n*i.size+m*i.size:=Nat.add_mul ..;have kN:o+n*i.size+ys.length<=eS.size:=by rw[hx.len];omega
  have ai:=run_storeCells_at P g (o+n*i.size) e ys 0 eS w hg (by simpa using kN) hx.one;simp only[En]at ai;have hr:(Builtin.append_ #[t,xt] ty #[.slice (some ⟨g,o,none⟩) n cap,x]).run P w=.ok (.slice (some ⟨g,o,none⟩) (n+m) cap) (w.setRow g (eS.toList.take (o+n*i.size)++ys++eS.toList.drop (o+n*i.size+ys.length)).toArray):=by
   rcases Y4 with⟨e',hd⟩|hd<;>simp[Builtin.append_,run_underlying ht,run_underlying hd,sizeOf,typeInfo,hi,Y5,lB,hfx,Addr.add_lit,ai]
  refine⟨_,_,hr,⟨hlen,g,o,cap,_,rfl,setRow_heap w g eS _ e _ hg,lB,gO,?_,?_⟩,⟨rfl,rfl,rfl,by simp,fun k _ hk=>setRow_other w g k _ (fun e=>hk Ykj),SX _⟩,fun k hk=>.inl hk⟩
  .simp only[Ea,Sm,C9,Dn,Es];omega
  .have h1:(eS.toList.take (o+n*i.size)).drop o=xs:=by rw[FQ,Eo];exact pL
   have h2:o<=(eS.toList.take (o+n*i.size)).length:=by simp;omega
   simp only[List.append_assoc];rw[D6 h2,h1,<-hlen,<-List.append_assoc];exact EW
 .have holds:=fg.cells;have Y6:=run_firstCells_some (P:=P) w.drew i.size n ⟨g,o,none⟩ n cap xs zx (by simpa using holds);have ye:¬(281474976710656<Builtin.nextslicecap (n+m) cap*i.bytes):=by
   have:=growslice_fits (bytes:=i.bytes) (show cap<n+m by omega) hb;omega
  have yf:=grown cap;refine⟨_,_,?_,yf.1,yf.2,fun k hk=>by simp[ag,Value.ownBlock]at hk;exact .inr ab⟩;exact Ybu
section
variable{P:Program}{ops:Array Oper}{Q:Exit->Act->World->Prop}{rest:List Oper}{n:Nat}{f:Env}{w:World}
variable{d:Nat}{ty:TypeId}{ps:String}{af:Array Edge}{gd:Option (Nat×Bool)}{x s o:Operand}{t:Nat}
theorem Jeq{size:Nat}{v xv:Value}[R:RowT P t e size eZ](cB:XC w e size v k xs)(hs:ev n f s=v)(eo:Src w xv m ys)(hx:ev n f x=xv)(hl:ys.length=m*size)(h1:∀u∈ys,u.oneCell'=true)
 (jW:k+m<=maxLen) (hb:(k+m)*eZ<=140737488355328)
 (h:∀v' w',XC w' e size v' (k+m) (xs++ys)->Fr (ag v) w w'->(∀b∈ag v',b∈ag v\/w.heap.size<=b)->wpList P ops Q rest (A n (bz f d v')) w'):
 wpList P ops Q (⟨some d,.call {callee:=.builtin .append,args:=#[s,x],argTypes:=#[t,t]},ty,ps,af,none⟩::rest) (A n f) w:=by
 obtain⟨v',w',hr,a1,a2,a3⟩:=Jfq (P:=P) (t:=t) (xt:=t) (ty:=ty) (.inl ⟨e,R.und⟩) cB (eo.gives (P:=P) hl h1) jW hb;exact JR Yjz (h v' w' a1 a2 a3)
theorem JiN{ao:Option Addr}{l c size j:Nat}[R:RowT P t e size eZ](hx:ev n f x=.slice ao l c)(ho:ev n f o=.int kk (j:Int))(hj:j<=l)(hl:l<=c):
 (execOp (ev n f) ⟨some d,.slice t x (some o) none none,ty,ps,af,gd⟩).run P w=.ok (.value (.slice (if c=j then ao else ao.map (·.add (j*size))) (l-j) (c-j))) w:=by
 exact Ycd
theorem JiF{size:Nat}{v:Value}{cs:List Value}[R:RowT P t e size eZ](cB:XC w e size v (k+1) (cs++xs))(hc:cs.length=size)(hx:ev n f x=v)(ho:ev n f o=.int kk 1)
 (h:∀v',XC w e size v' k xs->ag v'=ag v->wpList P ops Q rest (A n (bz f d v')) w):
 wpList P ops Q (⟨some d,.slice t x (some o) none none,ty,ps,af,none⟩::rest) (A n f) w:=by
 obtain⟨h0,g,off,cap,eS,rfl,hg,kY,gO,fG,pL⟩:=cB;have zx:xs.length=k*size:=by
  rw[Sm,hc,Nat.add_mul]at h0;omega
 refine JR (JiN (j:=1) hx ho ab kY) ?_;have e1:k+1-1=k:=rfl;rw[Ez,e1];by_cases h1:cap=1
 .rw [Cb h1];have j7:k=0:=by omega
  subst j7;have:xs=[]:=Dj (by simpa using zx);subst this;exact h _ ⟨by simp,g,off,cap-1,eS,rfl,hg,by omega,by omega,by subst h1;simp;omega,by simp⟩ oz
 .rw [SH h1];simp only[EO,add_lit];have mC:(cap-1)*size+size=cap*size:=by
   obtain⟨q,rfl⟩:∃q,cap=q+1:=⟨cap-1,by omega⟩;rw[FH,Nat.add_mul,Ez]
  refine h _ ⟨zx,g,off+size,cap-1,eS,rfl,hg,by omega,by omega,by omega,?_⟩ oz;have h2:=CZ (List.drop size) pL;rw[List.drop_left' hc,FQ,Iy]at h2;rw[<-h2]
  congr 1
  rw[Nat.add_mul,Ez,FH]
end
end
section
variable{c:ByteArray}{l:List ByteArray}{α:Type}
def Vu(c:ByteArray)(l:List ByteArray):Bool:=l.any (fun x=>decide (x=c))
theorem Jf3:Vu c l=true↔c∈l:=by simp[Vu]
theorem Jb1{l':List ByteArray}:Vu c (l++l')=(Vu c l||Vu c l'):=by simp[Vu]
def sZ(ds:List De)(s:List ByteArray×List De)(c:ByteArray):List ByteArray×List De:=
 if Vu c s.1=true then s else(s.1++[c],match jz ds 1 c with|some d=>s.2++[d]|none=>s.2)
def Xy(ds:List De)(s:List ByteArray×List De)(e:Ex):List ByteArray×List De:=if e.kind=3 then sZ ds s e.name else s
theorem JbJ(ds:List De):∀(l:List Ex) (s:List ByteArray×List De),l.foldl (Xy ds) s=(KY l).foldl (sZ ds) s
 |[],s=>rfl
 |e::l,s=>by
  rw[Dz,JbJ ds l];by_cases h:e.kind=3<;>simp[Xy,KY,h]
def KD(ds:List De):Nat->List ByteArray×List De->List Br
 |0,_=>[]
 |f+1,(seen,q)=>match q with
  |[]=>[]
  |d::q=>mf d++KD ds f ((Js (Jw d)).foldl (Xy ds) (seen,q))
def Y7(ds:List De)(seen:List ByteArray):Nat:=(ds.filter (fun d=>decide (d.kind=1)&& !Vu d.name seen)).length
def mu(ds:List De)(s:List ByteArray×List De):Nat:=s.2.length+Y7 ds s.1
theorem filter_le{p q:α->Bool}:∀{l:List α},(∀x∈l,p x=true->q x=true)->(l.filter p).length<=(l.filter q).length
 |[],_=>SX _
 |a::l,h=>by
  have ih:=filter_le (l:=l) (fun x hx=>h x lA);have ha:=h a ap;rw[EH,EH];cases hp:p a with
  |false=>cases hq:q a<;>simp<;>omega
  |true=>rw[ha hp];simp;omega
theorem filter_lt{p q:α->Bool}{x:α}:∀{l:List α},(∀x∈l,p x=true->q x=true)->x∈l->q x=true->p x=false->(l.filter p).length<(l.filter q).length
 |[],_,hx,_,_=>by simp at hx
 |a::l,h,hx,hq,hp=>by
  have hle:=filter_le (l:=l) (fun x hx=>h x lA);rw[EH,EH];rcases SC.1 hx with rfl|hx
  .rw [hq,hp];simp;omega
  .have ih:=filter_lt (l:=l) (fun x hx=>h x lA) hx hq hp;have ha:=h a ap;cases hpa:p a with
   |false=>cases oq:q a<;>simp<;>omega
   |true=>rw[ha hpa];simp;omega
theorem XT{ds:List De}{k:Int}{d:De}(h:jz ds k c=some d):d∈ds/\d.kind=k/\d.name=c:=by
 unfold jz at h;have h1:=Ei h;have h2:=Hq h;simp only[Eb]at h2;exact⟨h1,h2.1,h2.2⟩
theorem JfZ(ds:List De)(s:List ByteArray×List De)(c:ByteArray):mu ds (sZ ds s c)<=mu ds s:=by
 unfold sZ
 split
 .exact SX _
 .rename_i hc;have zy:∀x∈ds,(decide (x.kind=1)&& !Vu x.name (s.1++[c]))=true->(decide (x.kind=1)&& !Vu x.name s.1)=true:=fun x _ hx=>by
   rw[Jb1]at hx;simp only[CV,ES,Cc]at hx ⊢;exact⟨hx.1,hx.2.1⟩
  have hle:Y7 ds (s.1++[c])<=Y7 ds s.1:=filter_le zy;cases hf:jz ds 1 c with
  |none=>simp only[mu];omega
  |some d=>
   obtain⟨h1,h2,h3⟩:=XT hf;have aC:Y7 ds (s.1++[c])<Y7 ds s.1:=filter_lt (x:=d) zy h1 (by rw[h3];simp[h2];simpa using hc) (by rw[Jb1,h3];simp[Vu]);simp only[mu,Sm,SI,SY];omega
theorem JdR(ds:List De)(s:List ByteArray×List De)(e:Ex):mu ds (Xy ds s e)<=mu ds s:=by
 unfold Xy
 split
 .exact JfZ ds s _
 .exact SX _
theorem Ja3(ds:List De):∀(l:List Ex) (s:List ByteArray×List De),mu ds (l.foldl (Xy ds) s)<=mu ds s
 |[],s=>SX _
 |e::l,s=>CG (Ja3 ds l _) (JdR ds s e)
theorem Jfs{ds:List De}{s:List ByteArray×List De}{e:Ex}(h:∀d∈s.2,d∈ds):∀d∈(Xy ds s e).2,d∈ds:=by
 unfold Xy sZ
 split
 .split
  .exact h
  .cases hf:jz ds 1 e.name with
   |none=>exact h
   |some d=>
    intro x hx;rcases SE.1 hx with hx|hx
    .exact h x hx
    .rw [Sv.1 hx];exact(XT hf).1
 .exact h
theorem WO{ds:List De}:∀{l:List Ex} {s:List ByteArray×List De},(∀d∈s.2,d∈ds)->∀d∈(l.foldl (Xy ds) s).2,d∈ds
 |[],s,h=>h
 |e::l,s,h=>WO (l:=l) (Jfs h)
def QF(ds:List De)(nm:ByteArray):Option De:=ds.find? (fun d=>decide (d.name=nm/\d.kind≠0/\d.kind≠2))
def KX(ds:List De)(nm:ByteArray):List Br:=match QF ds nm with
 |none=>[]
 |some d=>KD ds (ds.length+2) ([],[d])
end
end Go.Rf
namespace Go.Proofs.YtggmccicdhnkgaaGreat
open Go.Proofs.Tryz
open Go.Rf Go.RowKit
attribute [local irreducible] Code.wp wpList Exit.then Exit.inBlock bodyPost A Calls execOp Addr.add
theorem Je7(q:Nat)(d:De)(h:d.kind=0)(ct pm ty dw ck cs cl st cm op gV gW gX gA gB gC gD gE gF gw gx gy:Option Addr)(mM iO mN iG mO ix mP gv mQ fX mR fR mS fY mT ig mU fM mV fH dy dz dA dC dD dE cY cZ c8 c9 da de df dh dj dl dm dn cJ cK cL cM cO cQ:Nat)(w:World)(eY:FB w q):Calls prog 167 #[.pointer (some ⟨q,0,none⟩),.agg ([iV d.kind,.string d.name,iV d.at_,.slice ct mM iO,.slice pm mN iG,iV d.type.kind,.string d.type.name,.slice ty mO ix,iV d.body.kind,.string d.body.name,iV d.body.n,.slice gV dy dz,.slice gW dA dC,.slice gX dD dE,iV d.body.at_,iV d.depth,iV d.gen.kind,.string d.gen.name,.slice gA cY cZ,.slice gB c8 c9,.slice gC da de,iV d.gen.at_,.slice dw mP gv,.slice ck mQ fX,.slice cs mR fR,.slice cl mS fY,iV d.state.kind,.string d.state.name,.slice st mT ig,iV d.init.kind,.string d.init.name,iV d.init.n,.slice gD df dh,.slice gE dj dl,.slice gF dm dn,iV d.init.at_,.slice cm mU fM,.slice op mV fH,iV d.recov.kind,.string d.recov.name,iV d.recov.n,.slice gw cJ cK,.slice gx cL cM,.slice gy cO cQ,iV d.recov.at_]:List Value).toArray] w (FC q w):=by
 refine enter func167 rfl ntmps167 rfl ?_;refine rx ?_;refine Ju rfl rfl (fun w1 b hb hB aj bh=>?_);have pq:=eY.lt;have ah:b≠q:=by omega
 have ai:ST q b [iV d.kind,.string d.name,iV d.at_,.slice ct mM iO,.slice pm mN iG,iV d.type.kind,.string d.type.name,.slice ty mO ix,iV d.body.kind,.string d.body.name,iV d.body.n,.slice gV dy dz,.slice gW dA dC,.slice gX dD dE,iV d.body.at_,iV d.depth,iV d.gen.kind,.string d.gen.name,.slice gA cY cZ,.slice gB c8 c9,.slice gC da de,iV d.gen.at_,.slice dw mP gv,.slice ck mQ fX,.slice cs mR fR,.slice cl mS fY,iV d.state.kind,.string d.state.name,.slice st mT ig,iV d.init.kind,.string d.init.name,iV d.init.n,.slice gD df dh,.slice gE dj dl,.slice gF dm dn,iV d.init.at_,.slice cm mU fM,.slice op mV fH,iV d.recov.kind,.string d.recov.name,iV d.recov.n,.slice gw cJ cK,.slice gx cL cM,.slice gy cO cQ,iV d.recov.at_] 105 w w1:=⟨eY.tr0 aj,QL aj,hB⟩;clear aj bh eY;refine Ai ?_;refine Yeq ?_;refine oG ?_;refine wp_seq ?_;refine Pf ?_ ?_
 .refine rx ?_;exact Ya
 clear ai hB;rintro g u ⟨g0,g3,g4,g5,g6,g7,g8,ai⟩;rw[Ja g0,Ja g3,Ja g4,Ja g5,Ja g6,Ja g7,Ja g8];clear g0 g3 g4 g5 g6 g7 g8;have hB:=ai.2.2;refine wp_seq ?_;refine Pf ?_ ?_
 .refine rx ?_;exact Ya
 clear ai hB;rintro g u ⟨g0,g3,g4,g5,g6,g7,g8,ai⟩;rw[Ja g0,Ja g3,Ja g4,Ja g5,Ja g6,Ja g7,Ja g8];clear g0 g3 g4 g5 g6 g7 g8;have hB:=ai.2.2;refine wp_seq ?_;refine Pf ?_ ?_
 .refine rx ?_;exact Ya
 clear ai hB;rintro g u ⟨g0,g3,g4,g5,g6,g7,g8,ai⟩;rw[Ja g0,Ja g3,Ja g4,Ja g5,Ja g6,Ja g7,Ja g8];clear g0 g3 g4 g5 g6 g7 g8;have hB:=ai.2.2;refine wp_seq ?_;refine Pf ?_ ?_
 .refine rx ?_;exact Ya
 clear ai hB;rintro g u ⟨g0,g3,g4,g5,g6,g7,g8,ai⟩;rw[Ja g0,Ja g3,Ja g4,Ja g5,Ja g6,Ja g7,Ja g8];clear g0 g3 g4 g5 g6 g7 g8;have hB:=ai.2.2;refine wp_seq ?_;refine Pf ?_ ?_
 .refine rx ?_;exact Ya
 clear ai hB;rintro g u ⟨g0,g3,g4,g5,g6,g7,g8,ai⟩;rw[Ja g0,Ja g3,Ja g4,Ja g5,Ja g6,Ja g7,Ja g8];clear g0 g3 g4 g5 g6 g7 g8;have hB:=ai.2.2;refine wp_seq ?_;refine Pf ?_ ?_
 .refine rx ?_;exact Ya
 clear ai hB;rintro g u ⟨g0,g3,g4,g5,g6,g7,g8,ai⟩;rw[Ja g0,Ja g3,Ja g4,Ja g5,Ja g6,Ja g7,Ja g8];clear g0 g3 g4 g5 g6 g7 g8;have hB:=ai.2.2;refine wp_seq ?_;refine Pf ?_ ?_
 .refine rx ?_;exact Ya
 clear ai hB;rintro g u ⟨g0,g3,g4,g5,g6,g7,g8,ai⟩;rw[Ja g0,Ja g3,Ja g4,Ja g5,Ja g6,Ja g7,Ja g8];clear g0 g3 g4 g5 g6 g7 g8;have hB:=ai.2.2;refine wp_seq ?_;refine Pf ?_ ?_
 .refine rx ?_;exact Ya
 exact Yh
theorem Je6(q:Nat)(d:De)(h:d.kind=1)(ct pm ty dw ck cs cl st cm op gV gW gX gA gB gC gD gE gF gw gx gy:Option Addr)(mM iO mN iG mO ix mP gv mQ fX mR fR mS fY mT ig mU fM mV fH dy dz dA dC dD dE cY cZ c8 c9 da de df dh dj dl dm dn cJ cK cL cM cO cQ:Nat)(w:World)(eY:FB w q):Calls prog 167 #[.pointer (some ⟨q,0,none⟩),.agg ([iV d.kind,.string d.name,iV d.at_,.slice ct mM iO,.slice pm mN iG,iV d.type.kind,.string d.type.name,.slice ty mO ix,iV d.body.kind,.string d.body.name,iV d.body.n,.slice gV dy dz,.slice gW dA dC,.slice gX dD dE,iV d.body.at_,iV d.depth,iV d.gen.kind,.string d.gen.name,.slice gA cY cZ,.slice gB c8 c9,.slice gC da de,iV d.gen.at_,.slice dw mP gv,.slice ck mQ fX,.slice cs mR fR,.slice cl mS fY,iV d.state.kind,.string d.state.name,.slice st mT ig,iV d.init.kind,.string d.init.name,iV d.init.n,.slice gD df dh,.slice gE dj dl,.slice gF dm dn,iV d.init.at_,.slice cm mU fM,.slice op mV fH,iV d.recov.kind,.string d.recov.name,iV d.recov.n,.slice gw cJ cK,.slice gx cL cM,.slice gy cO cQ,iV d.recov.at_]:List Value).toArray] w (FC q w):=by
 refine enter func167 rfl ntmps167 rfl ?_;refine rx ?_;refine Ju rfl rfl (fun w1 b hb hB aj bh=>?_);have pq:=eY.lt;have ah:b≠q:=by omega
 have ai:ST q b [iV d.kind,.string d.name,iV d.at_,.slice ct mM iO,.slice pm mN iG,iV d.type.kind,.string d.type.name,.slice ty mO ix,iV d.body.kind,.string d.body.name,iV d.body.n,.slice gV dy dz,.slice gW dA dC,.slice gX dD dE,iV d.body.at_,iV d.depth,iV d.gen.kind,.string d.gen.name,.slice gA cY cZ,.slice gB c8 c9,.slice gC da de,iV d.gen.at_,.slice dw mP gv,.slice ck mQ fX,.slice cs mR fR,.slice cl mS fY,iV d.state.kind,.string d.state.name,.slice st mT ig,iV d.init.kind,.string d.init.name,iV d.init.n,.slice gD df dh,.slice gE dj dl,.slice gF dm dn,iV d.init.at_,.slice cm mU fM,.slice op mV fH,iV d.recov.kind,.string d.recov.name,iV d.recov.n,.slice gw cJ cK,.slice gx cL cM,.slice gy cO cQ,iV d.recov.at_] 105 w w1:=⟨eY.tr0 aj,QL aj,hB⟩;clear aj bh eY;refine Ai ?_;refine Yeq ?_;refine oG ?_;refine wp_seq ?_;refine Pg ?_ ?_
 .refine rx ?_;exact Ya
 clear ai hB;rintro g u ⟨g0,g3,g4,g5,g6,g7,g8,ai⟩;rw[Ja g0,Ja g3,Ja g4,Ja g5,Ja g6,Ja g7,Ja g8];clear g0 g3 g4 g5 g6 g7 g8;have hB:=ai.2.2;refine wp_seq ?_;refine Pg ?_ ?_
 .refine rx ?_;exact Ya
 clear ai hB;rintro g u ⟨g0,g3,g4,g5,g6,g7,g8,ai⟩;rw[Ja g0,Ja g3,Ja g4,Ja g5,Ja g6,Ja g7,Ja g8];clear g0 g3 g4 g5 g6 g7 g8;have hB:=ai.2.2;refine wp_seq ?_;refine Pg ?_ ?_
 .refine rx ?_;exact Ya
 clear ai hB;rintro g u ⟨g0,g3,g4,g5,g6,g7,g8,ai⟩;rw[Ja g0,Ja g3,Ja g4,Ja g5,Ja g6,Ja g7,Ja g8];clear g0 g3 g4 g5 g6 g7 g8;have hB:=ai.2.2;refine wp_seq ?_;refine Pg ?_ ?_
 .refine rx ?_;exact Ya
 clear ai hB;rintro g u ⟨g0,g3,g4,g5,g6,g7,g8,ai⟩;rw[Ja g0,Ja g3,Ja g4,Ja g5,Ja g6,Ja g7,Ja g8];clear g0 g3 g4 g5 g6 g7 g8;have hB:=ai.2.2;refine wp_seq ?_;refine Pg ?_ ?_
 .refine rx ?_;exact Ya
 clear ai hB;rintro g u ⟨g0,g3,g4,g5,g6,g7,g8,ai⟩;rw[Ja g0,Ja g3,Ja g4,Ja g5,Ja g6,Ja g7,Ja g8];clear g0 g3 g4 g5 g6 g7 g8;have hB:=ai.2.2;refine wp_seq ?_;refine Pg ?_ ?_
 .refine rx ?_;exact Ya
 clear ai hB;rintro g u ⟨g0,g3,g4,g5,g6,g7,g8,ai⟩;rw[Ja g0,Ja g3,Ja g4,Ja g5,Ja g6,Ja g7,Ja g8];clear g0 g3 g4 g5 g6 g7 g8;have hB:=ai.2.2;refine wp_seq ?_;refine Pg ?_ ?_
 .refine rx ?_;exact Ya
 clear ai hB;rintro g u ⟨g0,g3,g4,g5,g6,g7,g8,ai⟩;rw[Ja g0,Ja g3,Ja g4,Ja g5,Ja g6,Ja g7,Ja g8];clear g0 g3 g4 g5 g6 g7 g8;have hB:=ai.2.2;refine wp_seq ?_;refine Pg ?_ ?_
 .refine rx ?_;exact Ya
 exact Yh
theorem Je5(q:Nat)(d:De)(h:d.kind=2)(ct pm ty dw ck cs cl st cm op gV gW gX gA gB gC gD gE gF gw gx gy:Option Addr)(mM iO mN iG mO ix mP gv mQ fX mR fR mS fY mT ig mU fM mV fH dy dz dA dC dD dE cY cZ c8 c9 da de df dh dj dl dm dn cJ cK cL cM cO cQ:Nat)(w:World)(eY:FB w q):Calls prog 167 #[.pointer (some ⟨q,0,none⟩),.agg ([iV d.kind,.string d.name,iV d.at_,.slice ct mM iO,.slice pm mN iG,iV d.type.kind,.string d.type.name,.slice ty mO ix,iV d.body.kind,.string d.body.name,iV d.body.n,.slice gV dy dz,.slice gW dA dC,.slice gX dD dE,iV d.body.at_,iV d.depth,iV d.gen.kind,.string d.gen.name,.slice gA cY cZ,.slice gB c8 c9,.slice gC da de,iV d.gen.at_,.slice dw mP gv,.slice ck mQ fX,.slice cs mR fR,.slice cl mS fY,iV d.state.kind,.string d.state.name,.slice st mT ig,iV d.init.kind,.string d.init.name,iV d.init.n,.slice gD df dh,.slice gE dj dl,.slice gF dm dn,iV d.init.at_,.slice cm mU fM,.slice op mV fH,iV d.recov.kind,.string d.recov.name,iV d.recov.n,.slice gw cJ cK,.slice gx cL cM,.slice gy cO cQ,iV d.recov.at_]:List Value).toArray] w (FC q w):=by
 refine enter func167 rfl ntmps167 rfl ?_;refine rx ?_;refine Ju rfl rfl (fun w1 b hb hB aj bh=>?_);have pq:=eY.lt;have ah:b≠q:=by omega
 have ai:ST q b [iV d.kind,.string d.name,iV d.at_,.slice ct mM iO,.slice pm mN iG,iV d.type.kind,.string d.type.name,.slice ty mO ix,iV d.body.kind,.string d.body.name,iV d.body.n,.slice gV dy dz,.slice gW dA dC,.slice gX dD dE,iV d.body.at_,iV d.depth,iV d.gen.kind,.string d.gen.name,.slice gA cY cZ,.slice gB c8 c9,.slice gC da de,iV d.gen.at_,.slice dw mP gv,.slice ck mQ fX,.slice cs mR fR,.slice cl mS fY,iV d.state.kind,.string d.state.name,.slice st mT ig,iV d.init.kind,.string d.init.name,iV d.init.n,.slice gD df dh,.slice gE dj dl,.slice gF dm dn,iV d.init.at_,.slice cm mU fM,.slice op mV fH,iV d.recov.kind,.string d.recov.name,iV d.recov.n,.slice gw cJ cK,.slice gx cL cM,.slice gy cO cQ,iV d.recov.at_] 105 w w1:=⟨eY.tr0 aj,QL aj,hB⟩;clear aj bh eY;refine Ai ?_;refine Yeq ?_;refine oG ?_;refine wp_seq ?_;refine Ph ?_ ?_
 .refine rx ?_;exact Ya
 clear ai hB;rintro g u ⟨g0,g3,g4,g5,g6,g7,g8,ai⟩;rw[Ja g0,Ja g3,Ja g4,Ja g5,Ja g6,Ja g7,Ja g8];clear g0 g3 g4 g5 g6 g7 g8;have hB:=ai.2.2;refine wp_seq ?_;refine Ph ?_ ?_
 .refine rx ?_;exact Ya
 clear ai hB;rintro g u ⟨g0,g3,g4,g5,g6,g7,g8,ai⟩;rw[Ja g0,Ja g3,Ja g4,Ja g5,Ja g6,Ja g7,Ja g8];clear g0 g3 g4 g5 g6 g7 g8;have hB:=ai.2.2;refine wp_seq ?_;refine Ph ?_ ?_
 .refine rx ?_;exact Ya
 clear ai hB;rintro g u ⟨g0,g3,g4,g5,g6,g7,g8,ai⟩;rw[Ja g0,Ja g3,Ja g4,Ja g5,Ja g6,Ja g7,Ja g8];clear g0 g3 g4 g5 g6 g7 g8;have hB:=ai.2.2;refine wp_seq ?_;refine Ph ?_ ?_
 .refine rx ?_;exact Ya
 clear ai hB;rintro g u ⟨g0,g3,g4,g5,g6,g7,g8,ai⟩;rw[Ja g0,Ja g3,Ja g4,Ja g5,Ja g6,Ja g7,Ja g8];clear g0 g3 g4 g5 g6 g7 g8;have hB:=ai.2.2;refine wp_seq ?_;refine Ph ?_ ?_
 .refine rx ?_;exact Ya
 clear ai hB;rintro g u ⟨g0,g3,g4,g5,g6,g7,g8,ai⟩;rw[Ja g0,Ja g3,Ja g4,Ja g5,Ja g6,Ja g7,Ja g8];clear g0 g3 g4 g5 g6 g7 g8;have hB:=ai.2.2;refine wp_seq ?_;refine Ph ?_ ?_
 .refine rx ?_;exact Ya
 clear ai hB;rintro g u ⟨g0,g3,g4,g5,g6,g7,g8,ai⟩;rw[Ja g0,Ja g3,Ja g4,Ja g5,Ja g6,Ja g7,Ja g8];clear g0 g3 g4 g5 g6 g7 g8;have hB:=ai.2.2;refine wp_seq ?_;refine Ph ?_ ?_
 .refine rx ?_;exact Ya
 clear ai hB;rintro g u ⟨g0,g3,g4,g5,g6,g7,g8,ai⟩;rw[Ja g0,Ja g3,Ja g4,Ja g5,Ja g6,Ja g7,Ja g8];clear g0 g3 g4 g5 g6 g7 g8;have hB:=ai.2.2;refine wp_seq ?_;refine Ph ?_ ?_
 .refine rx ?_;exact Ya
 exact Yh
theorem Je4(q:Nat)(d:De)(h:d.kind=3)(ct pm ty dw ck cs cl st cm op gV gW gX gA gB gC gD gE gF gw gx gy:Option Addr)(mM iO mN iG mO ix mP gv mQ fX mR fR mS fY mT ig mU fM mV fH dy dz dA dC dD dE cY cZ c8 c9 da de df dh dj dl dm dn cJ cK cL cM cO cQ:Nat)(w:World)(eY:FB w q):Calls prog 167 #[.pointer (some ⟨q,0,none⟩),.agg ([iV d.kind,.string d.name,iV d.at_,.slice ct mM iO,.slice pm mN iG,iV d.type.kind,.string d.type.name,.slice ty mO ix,iV d.body.kind,.string d.body.name,iV d.body.n,.slice gV dy dz,.slice gW dA dC,.slice gX dD dE,iV d.body.at_,iV d.depth,iV d.gen.kind,.string d.gen.name,.slice gA cY cZ,.slice gB c8 c9,.slice gC da de,iV d.gen.at_,.slice dw mP gv,.slice ck mQ fX,.slice cs mR fR,.slice cl mS fY,iV d.state.kind,.string d.state.name,.slice st mT ig,iV d.init.kind,.string d.init.name,iV d.init.n,.slice gD df dh,.slice gE dj dl,.slice gF dm dn,iV d.init.at_,.slice cm mU fM,.slice op mV fH,iV d.recov.kind,.string d.recov.name,iV d.recov.n,.slice gw cJ cK,.slice gx cL cM,.slice gy cO cQ,iV d.recov.at_]:List Value).toArray] w (FC q w):=by
 refine enter func167 rfl ntmps167 rfl ?_;refine rx ?_;refine Ju rfl rfl (fun w1 b hb hB aj bh=>?_);have pq:=eY.lt;have ah:b≠q:=by omega
 have ai:ST q b [iV d.kind,.string d.name,iV d.at_,.slice ct mM iO,.slice pm mN iG,iV d.type.kind,.string d.type.name,.slice ty mO ix,iV d.body.kind,.string d.body.name,iV d.body.n,.slice gV dy dz,.slice gW dA dC,.slice gX dD dE,iV d.body.at_,iV d.depth,iV d.gen.kind,.string d.gen.name,.slice gA cY cZ,.slice gB c8 c9,.slice gC da de,iV d.gen.at_,.slice dw mP gv,.slice ck mQ fX,.slice cs mR fR,.slice cl mS fY,iV d.state.kind,.string d.state.name,.slice st mT ig,iV d.init.kind,.string d.init.name,iV d.init.n,.slice gD df dh,.slice gE dj dl,.slice gF dm dn,iV d.init.at_,.slice cm mU fM,.slice op mV fH,iV d.recov.kind,.string d.recov.name,iV d.recov.n,.slice gw cJ cK,.slice gx cL cM,.slice gy cO cQ,iV d.recov.at_] 105 w w1:=⟨eY.tr0 aj,QL aj,hB⟩;clear aj bh eY;refine Ai ?_;refine Yeq ?_;refine oG ?_;refine wp_seq ?_;refine Pj ?_ ?_
 .refine rx ?_;exact Ya
 clear ai hB;rintro g u ⟨g0,g3,g4,g5,g6,g7,g8,ai⟩;rw[Ja g0,Ja g3,Ja g4,Ja g5,Ja g6,Ja g7,Ja g8];clear g0 g3 g4 g5 g6 g7 g8;have hB:=ai.2.2;refine wp_seq ?_;refine Pj ?_ ?_
 .refine rx ?_;exact Ya
 clear ai hB;rintro g u ⟨g0,g3,g4,g5,g6,g7,g8,ai⟩;rw[Ja g0,Ja g3,Ja g4,Ja g5,Ja g6,Ja g7,Ja g8];clear g0 g3 g4 g5 g6 g7 g8;have hB:=ai.2.2;refine wp_seq ?_;refine Pj ?_ ?_
 .refine rx ?_;exact Ya
 clear ai hB;rintro g u ⟨g0,g3,g4,g5,g6,g7,g8,ai⟩;rw[Ja g0,Ja g3,Ja g4,Ja g5,Ja g6,Ja g7,Ja g8];clear g0 g3 g4 g5 g6 g7 g8;have hB:=ai.2.2;refine wp_seq ?_;refine Pj ?_ ?_
 .refine rx ?_;exact Ya
 clear ai hB;rintro g u ⟨g0,g3,g4,g5,g6,g7,g8,ai⟩;rw[Ja g0,Ja g3,Ja g4,Ja g5,Ja g6,Ja g7,Ja g8];clear g0 g3 g4 g5 g6 g7 g8;have hB:=ai.2.2;refine wp_seq ?_;refine Pj ?_ ?_
 .refine rx ?_;exact Ya
 clear ai hB;rintro g u ⟨g0,g3,g4,g5,g6,g7,g8,ai⟩;rw[Ja g0,Ja g3,Ja g4,Ja g5,Ja g6,Ja g7,Ja g8];clear g0 g3 g4 g5 g6 g7 g8;have hB:=ai.2.2;refine wp_seq ?_;refine Pj ?_ ?_
 .refine rx ?_;exact Ya
 clear ai hB;rintro g u ⟨g0,g3,g4,g5,g6,g7,g8,ai⟩;rw[Ja g0,Ja g3,Ja g4,Ja g5,Ja g6,Ja g7,Ja g8];clear g0 g3 g4 g5 g6 g7 g8;have hB:=ai.2.2;refine wp_seq ?_;refine Pj ?_ ?_
 .refine rx ?_;exact Ya
 clear ai hB;rintro g u ⟨g0,g3,g4,g5,g6,g7,g8,ai⟩;rw[Ja g0,Ja g3,Ja g4,Ja g5,Ja g6,Ja g7,Ja g8];clear g0 g3 g4 g5 g6 g7 g8;have hB:=ai.2.2;refine wp_seq ?_;refine Pj ?_ ?_
 .refine rx ?_;exact Ya
 exact Yh
theorem Je3(q:Nat)(d:De)(h:d.kind=4)(ct pm ty dw ck cs cl st cm op gV gW gX gA gB gC gD gE gF gw gx gy:Option Addr)(mM iO mN iG mO ix mP gv mQ fX mR fR mS fY mT ig mU fM mV fH dy dz dA dC dD dE cY cZ c8 c9 da de df dh dj dl dm dn cJ cK cL cM cO cQ:Nat)(w:World)(eY:FB w q):Calls prog 167 #[.pointer (some ⟨q,0,none⟩),.agg ([iV d.kind,.string d.name,iV d.at_,.slice ct mM iO,.slice pm mN iG,iV d.type.kind,.string d.type.name,.slice ty mO ix,iV d.body.kind,.string d.body.name,iV d.body.n,.slice gV dy dz,.slice gW dA dC,.slice gX dD dE,iV d.body.at_,iV d.depth,iV d.gen.kind,.string d.gen.name,.slice gA cY cZ,.slice gB c8 c9,.slice gC da de,iV d.gen.at_,.slice dw mP gv,.slice ck mQ fX,.slice cs mR fR,.slice cl mS fY,iV d.state.kind,.string d.state.name,.slice st mT ig,iV d.init.kind,.string d.init.name,iV d.init.n,.slice gD df dh,.slice gE dj dl,.slice gF dm dn,iV d.init.at_,.slice cm mU fM,.slice op mV fH,iV d.recov.kind,.string d.recov.name,iV d.recov.n,.slice gw cJ cK,.slice gx cL cM,.slice gy cO cQ,iV d.recov.at_]:List Value).toArray] w (FC q w):=by
 exact Ydk
theorem Je2(q:Nat)(d:De)(h:d.kind=5)(ct pm ty dw ck cs cl st cm op gV gW gX gA gB gC gD gE gF gw gx gy:Option Addr)(mM iO mN iG mO ix mP gv mQ fX mR fR mS fY mT ig mU fM mV fH dy dz dA dC dD dE cY cZ c8 c9 da de df dh dj dl dm dn cJ cK cL cM cO cQ:Nat)(w:World)(eY:FB w q):Calls prog 167 #[.pointer (some ⟨q,0,none⟩),.agg ([iV d.kind,.string d.name,iV d.at_,.slice ct mM iO,.slice pm mN iG,iV d.type.kind,.string d.type.name,.slice ty mO ix,iV d.body.kind,.string d.body.name,iV d.body.n,.slice gV dy dz,.slice gW dA dC,.slice gX dD dE,iV d.body.at_,iV d.depth,iV d.gen.kind,.string d.gen.name,.slice gA cY cZ,.slice gB c8 c9,.slice gC da de,iV d.gen.at_,.slice dw mP gv,.slice ck mQ fX,.slice cs mR fR,.slice cl mS fY,iV d.state.kind,.string d.state.name,.slice st mT ig,iV d.init.kind,.string d.init.name,iV d.init.n,.slice gD df dh,.slice gE dj dl,.slice gF dm dn,iV d.init.at_,.slice cm mU fM,.slice op mV fH,iV d.recov.kind,.string d.recov.name,iV d.recov.n,.slice gw cJ cK,.slice gx cL cM,.slice gy cO cQ,iV d.recov.at_]:List Value).toArray] w (FC q w):=by
 exact Ydk
end Go.Proofs.YtggmccicdhnkgaaGreat
