/-
 The reference's lexer:blanks,values,the ends of tokens.
-/
import Derived.Test.YtmlpcmjmniobdaaGreatZPg
import Derived.Test.YtmlpcmjmniobdaaGreatZK2
import Derived.Test.YtmlpcmjmniobdaaGreatZPb
set_option linter.all false
set_option maxHeartbeats 64000000
namespace Go.Rf
open Go.RowKit
section
variable{ks:List Int}{m:Nat}
inductive Dls:List Int->List It->Prop
 |nil:Dls [] []
 |snoc {ks:List Int} {k:Int} {a b:List It}:Dls ks a->SegP k b->Dls (ks++[k]) (a++b)
theorem Dls.ok{a:List It}(h:Dls ks a):∀nx,okI nx a=true:=by
 induction h with
 |nil=>exact fun nx=>rfl
 |snoc h hs ih=>intro nx;rw[okI_app,ih,hs.1];rfl
def okD(d:De):Prop:=limD d=false/\badN d.name.data.toList=false
theorem okD.other{d:De}(h:okD d):(d.name.data.toList==noneSuch)=false:=by
 have:=h.2;unfold badN at this;exact(Bool.or_eq_false_iff.1 this).1
theorem okD.size{d:De}(h:okD d):d.name.size<=60:=by
 have:=h.2;unfold badN ltN at this;have h2:=(Bool.or_eq_false_iff.1 this).2;have h3:¬60<d.name.data.toList.length:=fun hc=>by
  rw[show Nat.blt 60 d.name.data.toList.length=true from Nat.ble_eq_true_of_le hc]at h2;cases h2
 have:d.name.size=d.name.data.toList.length:=by rw[Array.length_toList];rfl
 omega
theorem pDecl_nil(n:Int)(f:Nat):pDecl n f []=none:=rfl
theorem pMod_cons{n:Int}{F f:Nat}{r r1:List Tk}{d:De}(h:pDecl n F r=some (d,r1)):pMod n F (f+1) r=(pMod n F f r1).bind fun ds=>some (d::ds):=by
 cases r with
 |nil=>rw[pDecl_nil]at h;cases h
 |cons t r=>rw[pMod,h];rfl
theorem Dls.read{a:List It}(h:Dls ks a)(p n:Int):∀rest,∃ds:List De,ds.map De.kind=ks/\(∀d∈ds,okD d)/\∀f,pMod n 200 (f+ks.length) (tksI p a++rest)=(pMod n 200 f rest).bind fun l=>some (ds++l):=by
 induction h with
 |nil=>exact fun rest=>⟨[],rfl,by simp,fun f=>by simp only[tksI,List.nil_append,List.length_nil,Nat.add_zero];cases pMod n 200 f rest<;>rfl⟩
 | @snoc ks k a b h hs ih=>
  intro rest;obtain⟨d,h4,h5,h6,h7⟩:=hs.2 (p+(rnd a).length) n rest;obtain⟨ds,h1,h2,h3⟩:=ih (tksI (p+(rnd a).length) b++rest);refine⟨ds++[d],by rw[List.map_append,h1];simp[h4],fun x hx=>?_,fun f=>?_⟩
  .rcases List.mem_append.1 hx with hx|hx
   .exact h2 x hx
   .rw [List.mem_singleton.1 hx];exact⟨h5,h6⟩
  .rw [tksI_app,List.append_assoc,List.length_append,List.length_singleton,show f+(ks.length+1)=(f+1)+ks.length by omega,h3,pMod_cons h7];cases pMod n 200 f rest with
   |none=>rfl
   |some l=>simp
theorem Dls.mod{a:List It}(h:Dls ks a)(h64:ks.length<=64)(n:Int):∃ds:List De,ds.map De.kind=ks/\(∀d∈ds,okD d)/\limM ds=false/\∀f,ks.length<f->pMod n 200 f (tksI 0 a)=some ds:=by
 obtain⟨ds,h1,h2,h3⟩:=h.read 0 n [];refine⟨ds,h1,h2,?_,fun f hf=>?_⟩
 .unfold limM;have hl:ds.length=ks.length:=by rw[<-h1,List.length_map]
  have:ltN 64 ds.length=false:=by
   unfold ltN;cases hb:Nat.blt 64 ds.length
   .rfl
   .have:=Nat.le_of_ble_eq_true hb;omega
  rw[this,Bool.false_or,List.any_eq_false];intro d hd;rw[(h2 d hd).1];simp
 .obtain ⟨g,rfl⟩:∃g,f=(g+1)+ks.length:=⟨f-1-ks.length,by omega⟩;have:=h3 (g+1);rw[List.append_nil]at this;rw[this];simp[pMod]
def PrT(ks:List Int)(m:Nat)(b:ByteArray):Prop:=∃a,Dls ks a/\(rnd a).length<=m/\b=bst (rnd a)
theorem bst_app(a b:Bs):bst a++bst b=bst (a++b):=by
 apply ByteArray.ext;simp[bst,ByteArray.data_append]
theorem PrT.add{b:ByteArray}{k:Int}{its:List It}{j:Nat}(h:PrT ks m b)(hs:SegP k its)(hl:(rnd its).length<=j):PrT (ks++[k]) (m+j) (b++bst (rnd its)):=by
 obtain⟨a,h1,h2,rfl⟩:=h;exact⟨a++its,.snoc h1 hs,by rw[rnd_app,List.length_append];omega,by rw[rnd_app,bst_app]⟩
theorem PrT.read{b:ByteArray}(h:PrT ks m b)(h64:ks.length<=64)(hm:m<=8192)(n:Int):b.size<=m/\∃(t:List Tk) (ds:List De),lexF b.data.toList=.ok t/\ds.map De.kind=ks/\(∀d∈ds,okD d)/\limM ds=false/\∀f,ks.length<f->pMod n 200 f t=some ds:=by
 obtain⟨a,h1,h2,rfl⟩:=h;obtain⟨ds,h3,h4,h5,h6⟩:=h1.mod h64 n;exact⟨by simp only[bst,ByteArray.size,List.size_toArray];exact h2,tksI 0 a,ds,by simp only[bst];exact lexF_items (h1.ok none) Yhn,h3,h4,h5,h6⟩
end
section
variable{af:Array Edge}{f:Env}{Q:Exit->Act->World->Prop}{rest:List Oper}{n t:Nat}{x y:Operand}{P:Program}{ps:String}{w:World}
theorem s_cat{D:Dfs}{ops:Array Oper}{d:Nat}{ty:TypeId}{t2:Nat}
 {a b:Bs} (hx:ev n f x=.string (bst a)) (hy:ev n f y=.string (bst b)) (h:wpList P ops Q rest (A n (upd f d (.string (bst (a++b))))) w) (hl:a.length+b.length<=1000000000000):
 wpList P ops Q (⟨some d,.binOp .add t x y t2,ty,ps,af,none⟩::rest) (A n f) w:=by
 refine s_run (v:=.string (bst (a++b))) (w':=w) ?_ h;have h1:(bst a).size=a.length:=by simp[bst,ByteArray.size]
 have h2:(bst b).size=b.length:=by simp[bst,ByteArray.size]
 simp only[execOp,hx,hy];simp[eqGuard,binOp,Op.stringOp,bst_app,h1,h2];omega
theorem s_strCut{D:Dfs}{ops:Array Oper}{d:Nat}{ty:TypeId}{z:Operand}
 {s:ByteArray} {j k:Nat} {kj kk:IntKind} [S:StrT P t] (hx:ev n f x=.string s) {a b:Int} (hy:ev n f y=.int kj a) (hz:ev n f z=.int kk b) (ha:a=(j:Int)) (hb:b=(k:Int)) (hjk:j<=k) (hk:k<=s.size) (h:wpList P ops Q rest (A n (upd f d (.string (s.extract j k)))) w):
 wpList P ops Q (⟨some d,.slice t x (some y) (some z) none,ty,ps,af,none⟩::rest) (A n f) w:=by
 subst ha hb;refine s_run (v:=.string (s.extract j k)) (w':=w) ?_ h;have h1:(0:Int)<=(j:Int):=by omega
 have h2:(0:Int)<=(k:Int):=by omega
 simp[execOp,hx,hy,hz,Instr.sliceAt,Instr.slice,run_underlying S.u,Instr.sliceBounds,Instr.sliceBound,asIntOf,hk,hjk]
end
end Go.Rf
namespace Go.Proofs.YtmlpcmjmniobdaaGreat
open Go.Proofs.Tryz
open Go.Rf Go.RowKit
section
variable{n:Nat}
attribute [local irreducible] Code.wp wpList Exit.then Exit.inBlock bodyPost A Calls execOp Addr.add
def pk(l:List Int)(i m:Int):Int:=if i<0\/(l.length:Int)<=i then 0 else arnd (l.getD i.toNat 0) m
theorem pk_range{l:List Int}{i m:Int}(h:0<m):0<=pk l i m/\pk l i m<m:=by
 unfold pk
 split
 .omega
 .exact arnd_range h
theorem pick(x:Value)(l:List Int)(i m:Int)(w:World)(hx:Src w x l.length (l.map (.int .i64)))(hl:∀n∈l,InI64 n)(hm:0<m):
 Calls prog 6 #[x,iV i,iV m] w fun e w'=>e=.returned (iV (pk l i m))/\w=w':=by
 obtain⟨ao,c,rfl,hc,_⟩:=id hx;refine enter func6 rfl ntmps6 rfl ?_;by_cases h1:i<0
 .refine rx ?_;refine Yfw ?_;exact⟨by simp[pk,h1],rfl⟩
 by_cases h2:(l.length:Int)<=i
 .refine rx ?_;refine Yfw ?_;exact⟨by simp[pk,h2],rfl⟩
 obtain⟨j,rfl⟩:∃j:Nat,i=(j:Int):=⟨i.toNat,by omega⟩;have hj:j<l.length:=by omega
 obtain⟨ad,rfl,hcell⟩:=src_at (j:=j) (u:=iV l[j]) hx (by simp[hj]);refine rx ?_;rw[Nat.mul_one];refine Ymx ?_;have hb:=hl l[j] Yhs;refine rx ?_;refine s_cE (around l[j] m w hb.1 hb.2 hm) ?_;rintro _ rfl;refine Yeo ?_;refine⟨?_,rfl⟩;rw[pk,if_neg Yhn];simp[List.getD,hj]
def GW(w:World)(p:Nat):Prop:=∃(x:Value) (l:List Int) (i:Int),Blk w p [x,iV i] 112/\Src w x l.length (l.map (.int .i64))/\Off x (l.map (.int .i64)) [p]/\(∀n∈l,InI64 n)
theorem gNext(p:Nat)(m:Int)(w:World)(h:GW w p)(hm:0<m):
 Calls prog 32 #[.pointer (some ⟨p,0,none⟩),iV m] w fun e w'=>∃k:Int,e=.returned (iV k)/\0<=k/\k<m/\GW w' p/\Fr [p] w w':=by
 obtain⟨x,l,i,hb,hs,ho,hl⟩:=h;refine enter func32 rfl ntmps32 rfl ?_;refine rx ?_;refine s_add rfl rfl rfl ?_;refine rx ?_
 ((with_reducible apply s_storeB);exact rfl;(conv=>lhs;whnf);exact rfl;exact hb;exact rfl)
 intro w1 hb1 hf1 hs1;have hs':=hs.tr hf1 ho;refine rx ?_;refine d_begin (fun z=>Fr [] w1 z) Yhp rfl ?_;have hS:Fr [] w1 w1.drew:=Fr.drew _ _;refine d_z4 0 1 2 3 hS ?_;refine d_z4 4 5 6 7 hS ?_;refine d_tx 8 hS ?_ (hrun:=by(intro u hu;exact(r_sub rfl rfl rfl)));refine d_z 9 hS ?_;refine d_one (i:=10) rfl Yhp ?_;refine s_cE (pick x l _ m _ (hs'.tr0 hS) hl hm) ?_;rintro _ rfl;refine wpList_nil (q_held hS ?_);refine d_one (i:=11) rfl Yhp ?_;refine rx ?_;refine q_held hS ?_;refine Yfx ?_;refine Yeo ?_;obtain⟨h1,h2⟩:=pk_range (l:=l) (i:=IntKind.i64.wrap (IntKind.i64.wrap (i+1)-1)) hm;exact⟨_,rfl,h1,h2,⟨x,l,_,hb1.tr0 hS,hs'.tr0 hS,ho,hl⟩,hf1.trans0 hS⟩
theorem gChoose(p:Nat)(x:Value)(l:List Bs)(w:World)(h:GW w p)(hx:Src w x l.length (l.map fun t=>.string (bst t)))(ho:Off x (l.map fun t=>.string (bst t)) [p])(h0:0<l.length)(hl:l.length<=1000):
 Calls prog 33 #[.pointer (some ⟨p,0,none⟩),x] w fun e w'=>∃t∈l,e=.returned (.string (bst t))/\GW w' p/\Fr [p] w w':=by
 obtain⟨ao,c,rfl,hc,_⟩:=id hx;refine enter func33 rfl ntmps33 rfl ?_;refine rx ?_;refine s_c1 (gNext p l.length w h Yhn) ?_;rintro k w1 ⟨hk0,hk,hg,hf⟩;obtain⟨j,rfl⟩:∃j:Nat,k=(j:Int):=⟨k.toNat,by omega⟩;have hj:j<l.length:=by omega
 obtain⟨ad,rfl,hcell⟩:=src_at (j:=j) (u:=.string (bst l[j])) (hx.tr hf ho) (by simp[hj]);refine rx ?_;rw[Nat.mul_one];refine Ymx ?_;refine Yeo ?_;exact⟨l[j],by simp,rfl,hg,hf⟩
def dg(n:Nat):Bs:=[(48+n).toUInt8]
def dgs:List Bs:=[[48],[49],[50],[51],[52],[53],[54],[55],[56],[57]]
theorem dg_mem(h:n<10):dg n∈dgs:=by
 have:∀n<10,dg n∈dgs:=by decide
 exact this n h
theorem decimal1(k:Nat)(w:World)(hk:k<10):
 Calls prog 31 #[iV k] w fun e w'=>e=.returned (.string (bst (dg k)))/\w=w':=by
 refine enter func31 rfl ntmps31 rfl ?_;by_cases h0:k=0
 .subst h0;refine rx ?_;exact Yeb
 refine rx ?_;refine c_loop (σ:=Nat) (fun i g u=>g 0=iV k/\g 3=.string ⟨#[48,49,50,51,52,53,54,55,56,57]⟩/\w=u/\((i=1/\g 5=iV k/\g 4=zT)\/(i=0/\g 5=zI/\g 4=.string (bst (dg k))))) (fun i=>i) 1 ⟨rfl,rfl,rfl,.inl ⟨rfl,rfl,rfl⟩⟩ ?_;rintro i g u ⟨h0,h3,rfl,⟨rfl,h5,h4⟩|⟨rfl,h5,h4⟩⟩
 .rw [eq_upd h0,eq_upd h3,eq_upd h5,eq_upd h4];refine rx ?_;refine s_strCut (j:=k) (k:=k+1) rfl rfl rfl Yhn Yhn Yhn (by show k+1<=10;omega) ?_;have he:((⟨#[48,49,50,51,52,53,54,55,56,57]⟩:ByteArray).extract k (k+1))=bst (dg k):=by
   have:∀k<10,((⟨#[48,49,50,51,52,53,54,55,56,57]⟩:ByteArray).extract k (k+1))=bst (dg k):=by decide
   exact this k hk
  rw[he];refine rx ?_;refine s_cat rfl rfl ?_ (by simp[dg]);refine rx ?_;exact q_round 0 ⟨rfl,rfl,rfl,.inr ⟨rfl,by show Value.int .i64 _=_;congr 1;omega,by rw[List.append_nil];rfl⟩⟩ Yhn
 .rw [eq_upd h0,eq_upd h3,eq_upd h5,eq_upd h4];refine rx ?_;exact Yeb
end
section
variable{ms ns:List Int}{q:Nat}{u w:World}
attribute [local irreducible] Code.wp wpList Exit.then Exit.inBlock bodyPost A Calls execOp Addr.add
def OI(w:World)(v:Value)(ns:List Int):Prop:=Own w 3 1 v ns.length (ns.map (.int .i64))
theorem OI.app{w2:World}{v2:Value}(ho:Own w2 3 1 v2 (ns.length+ms.length) (ns.map (.int .i64)++ms.map (.int .i64))):OI w2 v2 (ns++ms):=by
 unfold OI;rw[List.length_append,List.map_append];exact ho
theorem rawC(x:Value)(l:List Int)(n:Nat)(w:World)(hx:Src w x l.length (l.map (.int .i64)))(hl:∀n∈l,InI64 n)(hn:n<=100):
 Calls prog 7 #[x,iV n] w fun e w'=>∃v ns,e=.returned v/\ns.length=n/\(∀a∈ns,InI64 a)/\OI w' v ns/\Fr [] w w'/\∀k∈blks v,w.heap.size<=k:=by
 have h1:=Src.one hx;refine enter func7 rfl ntmps7 rfl ?_;refine rx ?_;refine c_loop (σ:=Nat×Value×List Int) (fun s g u=>g 0=x/\g 1=iV n/\g 5=s.2.1/\g 6=iV s.1/\s.1<=n/\s.2.2.length=s.1/\(∀a∈s.2.2,InI64 a)/\OI u s.2.1 s.2.2/\Fr [] w u/\∀k∈blks s.2.1,w.heap.size<=k) (fun s=>n-s.1) (0,_,[]) ⟨rfl,rfl,rfl,rfl,Nat.zero_le _,rfl,by simp,Own.nil _ _ _,Fr.refl _ _,by simp[blks,Value.ownBlock]⟩ ?_;rintro⟨i,v,ns⟩ g u ⟨g0,g1,g5,g6,hi,hln,hin,ho,hF,hkb⟩;simp only at g0 g1 g5 g6 hi hln hin ho hF hkb;rw[eq_upd g0,eq_upd g1,eq_upd g5,eq_upd g6];refine rx ?_;refine s_lss rfl rfl (fun hlt=>?_) (fun hge=>?_)
 case refine_2=>
  have:i=n:=by omega
  subst this;refine Yeo ?_;exact⟨v,ns,rfl,hln,hin,ho,hF,hkb⟩
 have r1:=pk_range (l:=l) (i:=i) (m:=9) Yhn;have r2:=pk_range (l:=l) (i:=i+1) (m:=20) Yhn;refine rx ?_;refine s_cE (pick x l i 9 u (hx.tr0 hF) hl Yhn) ?_;rintro _ rfl;refine rx ?_;refine s_cE (pick x l (i+1) 20 u (hx.tr0 hF) hl Yhn) ?_;rintro _ rfl;generalize pk l i 9=a1 at r1 ⊢;generalize pk l (i+1) 20=a2 at r2 ⊢;refine rx ?_;refine s_buildS [iV (a1-a2/19)] rfl rfl rfl rfl (fun u1 hou1 hfu1 hsu1=>?_);refine s_append (Own.tr0 ho hfu1) rfl hou1.src rfl Yhs Yhu Yhv Yhn (fun v2 u2 ho2 hf2 hk2 _=>?_);refine rx ?_;refine q_round (i+1,v2,ns++[a1-a2/19]) ⟨rfl,rfl,rfl,rfl,by simp only;omega,by simp[hln],?_,?_,(hF.trans0 hfu1).trans hf2 (fun q hq=>.inr (hkb q hq)),fun q hq=>?_⟩ Yhw
 .intro a ha;rcases List.mem_append.1 ha with ha|ha
  .exact hin a ha
  .rw [List.mem_singleton.1 ha];unfold InI64;omega
 .exact OI.app (ms:=[_]) ho2
 .rcases hk2 q hq with h|h
  .exact hkb q h
  .have:=hfu1.size;have:=hF.size;omega
def sRun:ByteArray:=⟨#[114,117,110]⟩
def sBra:ByteArray:=⟨#[98,114,97,110,99,104,101,115]⟩
def wdR(k a c f:Int)(path cl:List Int)(bl:List Bq):List Int:=[k,a,c,f,(path.length:Int)]++path++[(cl.length:Int)]++cl++[toI (sumH (sb sBra) (wds (encB bl))).toNat]
structure RunOk (k a c f:Int) (path cl:List Int) (bl:List Bq):Prop where
 k:InI64 k
 a:InI64 a
 c:InI64 c
 f:InI64 f
 path:path.length<=1000/\∀n∈path,InI64 n
 cl:cl.length<=1000/\∀n∈cl,InI64 n
 bl:bl.length<=1000/\∀b∈bl,OkB b
theorem RunOk.words{k a c f:Int}{path cl:List Int}{bl:List Bq}(h:RunOk k a c f path cl bl):(wdR k a c f path cl bl).length<=10000/\∀n∈wdR k a c f path cl bl,InI64 n:=by
 have h1:=h.path.1;have h2:=h.cl.1;unfold wdR;refine⟨by simp only[List.length_append,List.length_cons,List.length_nil];omega,fun n hn=>?_⟩;simp only[List.mem_append,List.mem_cons,List.not_mem_nil,or_false]at hn;rcases hn with(((hn|hn)|hn)|hn)|hn
 .rcases hn with rfl|rfl|rfl|rfl|rfl
  .exact h.k
  .exact h.a
  .exact h.c
  .exact h.f
  .unfold InI64;omega
 .exact h.path.2 n hn
 .rw [hn];unfold InI64;omega
 .exact h.cl.2 n hn
 .rw [hn];exact toI_in _
structure GI (w u:World) (q:Nat) (v:Value) (ns:List Int):Prop where
 o:OI u v ns
 f:Fr [] w u
 b:∀x∈blks v,w.heap.size<=x/\x≠q
 q:q<u.heap.size
theorem GI.tr{u1:World}{v:Value}(h:GI w u q v ns)(hf:Fr [] u u1):GI w u1 q v ns:=⟨Own.tr0 h.o hf,h.f.trans0 hf,h.b,Nat.lt_of_lt_of_le h.q hf.size⟩
theorem GI.push{w3:World}{v v3:Value}(h:GI w u q v ns)(ho:Own w3 3 1 v3 (ns.length+ms.length) (ns.map (.int .i64)++ms.map (.int .i64)))(hf3:Fr (blks v) u w3)(hk3:∀b∈blks v3,b∈blks v\/u.heap.size<=b):GI w w3 q v3 (ns++ms)/\∀{l:List Value} {t:Nat},Blk u q l t->Blk w3 q l t:=by
 refine⟨⟨OI.app ho,h.f.trans hf3 (fun x hx=>.inr (h.b x hx).1),fun x hx=>?_,Nat.lt_of_lt_of_le h.q hf3.size⟩,fun hb=>hb.tr hf3 (fun hm=>(h.b q hm).2 rfl)⟩;rcases hk3 x hx with h'|h'
 .exact h.b x h'
 .have:=h.f.size;have:=h.q;omega
theorem sumRC(k a c f:Int)(path cl:List Int)(bl:List Bq)(xp xc xb:Value)(w:World)(h:RunOk k a c f path cl bl)(hp:Src w xp path.length (path.map (.int .i64)))(hc:Src w xc cl.length (cl.map (.int .i64)))(hb:Src w xb bl.length (bl.flatMap bqV)):
 Calls prog 8 #[.agg ([iV k,iV a,iV c,xb,xc,iV f]:List Value).toArray,xp] w fun e w'=>e=.returned (.int .u64 (sumH (sb sRun) (wdR k a c f path cl bl)).toNat)/\Fr [] w w':=by
 have ow:=h.words;obtain⟨⟨p1,p2⟩,⟨c1,c2⟩,⟨b1,b2⟩⟩:=And.intro h.path (And.intro h.cl h.bl);obtain⟨aop,cp,rfl,_⟩:=id hp;obtain⟨aoc,cc,rfl,_⟩:=id hc;have hb1:=Src.one hb;refine enter func8 rfl ntmps8 rfl ?_;refine rx ?_;refine s_boxN (l:=[iV k,iV a,iV c,xb,.slice aoc cl.length cc,iV f]) rfl rfl (fun w1 q hq hq1 hf1 hs1=>?_);refine rx ?_;refine s_buildS (([k,a,c,f,(path.length:Int)]:List Int).map (.int .i64)) rfl rfl rfl rfl (fun w2 ho2 hf2 hs2=>?_);have hq2:=hq1.tr0 hf2;have g2:GI w w2 q _ [k,a,c,f,(path.length:Int)]:=⟨ho2,hf1.trans0 hf2,fun x hx=>by simp[blks,Value.ownBlock]at hx;have:=hq1.lt;omega,hq2.lt⟩;refine rx ?_;refine s_append g2.o rfl (hp.tr0 g2.f) rfl Yhs (ints_one _ _) (by unfold maxLen;simp only[List.length_cons,List.length_nil];omega) (by simp only[List.length_cons,List.length_nil];omega) (fun v3 w3 ho3 hf3 hk3 _=>?_);obtain⟨g3,k3⟩:=g2.push ho3 hf3 hk3;have hq3:=k3 hq2;refine rx ?_;refine s_buildS [iV cl.length] rfl rfl rfl rfl (fun w4 ho4 hf4 hs4=>?_);have g4:=g3.tr hf4;have hq4:=hq3.tr0 hf4;refine s_append g4.o rfl ho4.src rfl rfl Yhu Ynd Yne (fun v5 w5 ho5 hf5 hk5 _=>?_);obtain⟨g5,k5⟩:=g4.push (ms:=[(cl.length:Int)]) ho5 hf5 hk5;have hq5:=k5 hq4;refine rx ?_;refine s_append g5.o rfl (hc.tr0 g5.f) rfl Yhs (ints_one _ _) Ynd Yne (fun v6 w6 ho6 hf6 hk6 _=>?_);obtain⟨g6,k6⟩:=g5.push ho6 hf6 hk6;have hq6:=k6 hq5;refine rx ?_;refine s_c1 (encBC xb bl w6 (hb.tr0 g6.f) b1 b2) ?_;rintro ve w7 ⟨ho7,hf7⟩;have g7:=g6.tr hf7;have hel:=encB_len b2 b1;obtain⟨aoe,ce,rfl⟩:=ho7.slice;refine rx ?_;refine s_cE (bytesC sBra (encB bl) aoe ce w7 Yhy (encB_bys bl) Yhn ho7.src) ?_;rintro w8 hf8;have g8:=g7.tr hf8;obtain⟨hh,hhe⟩:=exq ((sumH (sb sBra) (wds (encB bl))).toNat);rw[<-hhe];refine rx ?_;refine s_conv (r:=toI hh) rfl rfl ?_;refine s_buildS [iV (toI hh)] rfl rfl rfl rfl (fun w9 ho9 hf9 hs9=>?_);have g9:=g8.tr hf9;refine s_append g9.o rfl ho9.src rfl rfl Yhu Ynd Yne (fun va wa hoa hfa hka _=>?_);obtain⟨ga,_⟩:=g9.push (ms:=[toI hh]) hoa hfa hka;rw[hhe,show[k,a,c,f,(path.length:Int)]++path++[(cl.length:Int)]++cl++[toI (sumH (sb sBra) (wds (encB bl))).toNat]=wdR k a c f path cl bl from rfl]at ga;have goa:=ga.o;obtain⟨aoa,ca,rfl⟩:=Own.slice goa;refine rx ?_;refine s_cE (sumC sRun (wdR k a c f path cl bl) aoa ca wa Yhy ow.2 Yhn (Own.src goa)) ?_;exact Ymr
theorem refSumRC(k a c f:Int)(path cl:List Int)(bl:List Bq)(xp xc xb:Value)(w:World)(h:RunOk k a c f path cl bl)(hp:Src w xp path.length (path.map (.int .i64)))(hc:Src w xc cl.length (cl.map (.int .i64)))(hb:Src w xb bl.length (bl.flatMap bqV)):
 Calls prog 9 #[.agg ([iV k,iV a,iV c]:List Value).toArray,iV f,xp,xc,xb] w fun e w'=>e=.returned (.int .u64 (sumH (sb sRun) (wdR k a c f path cl bl)).toNat)/\Fr [] w w':=by
 have ow:=h.words;obtain⟨⟨p1,p2⟩,⟨c1,c2⟩,⟨b1,b2⟩⟩:=And.intro h.path (And.intro h.cl h.bl);obtain⟨aop,cp,rfl,_⟩:=id hp;obtain⟨aoc,cc,rfl,_⟩:=id hc;have hb1:=Src.one hb;refine enter func9 rfl ntmps9 rfl ?_;refine rx ?_;refine s_boxN (l:=[iV k,iV a,iV c]) rfl rfl (fun w1 q hq hq1 hf1 hs1=>?_);refine rx ?_;refine s_buildS (([k,a,c,f,(path.length:Int)]:List Int).map (.int .i64)) rfl rfl rfl rfl (fun w2 ho2 hf2 hs2=>?_);have hq2:=hq1.tr0 hf2;have g2:GI w w2 q _ [k,a,c,f,(path.length:Int)]:=⟨ho2,hf1.trans0 hf2,fun x hx=>by simp[blks,Value.ownBlock]at hx;have:=hq1.lt;omega,hq2.lt⟩;refine rx ?_;refine s_append g2.o rfl (hp.tr0 g2.f) rfl Yhs (ints_one _ _) (by unfold maxLen;simp only[List.length_cons,List.length_nil];omega) (by simp only[List.length_cons,List.length_nil];omega) (fun v3 w3 ho3 hf3 hk3 _=>?_);obtain⟨g3,k3⟩:=g2.push ho3 hf3 hk3;have hq3:=k3 hq2;refine rx ?_;refine s_buildS [iV cl.length] rfl rfl rfl rfl (fun w4 ho4 hf4 hs4=>?_);have g4:=g3.tr hf4;have hq4:=hq3.tr0 hf4;refine s_append g4.o rfl ho4.src rfl rfl Yhu Ynd Yne (fun v5 w5 ho5 hf5 hk5 _=>?_);obtain⟨g5,k5⟩:=g4.push (ms:=[(cl.length:Int)]) ho5 hf5 hk5;have hq5:=k5 hq4;refine rx ?_;refine s_append g5.o rfl (hc.tr0 g5.f) rfl Yhs (ints_one _ _) Ynd Yne (fun v6 w6 ho6 hf6 hk6 _=>?_);obtain⟨g6,k6⟩:=g5.push ho6 hf6 hk6;have hq6:=k6 hq5;refine rx ?_;refine s_c1 (refEncBC xb bl w6 (hb.tr0 g6.f) b1 b2) ?_;rintro ve w7 ⟨ho7,hf7,_⟩;have g7:=g6.tr hf7;have hel:=encB_len b2 b1;obtain⟨aoe,ce,rfl⟩:=ho7.slice;refine rx ?_;refine s_cE (refBytesC sBra (encB bl) _ w7 Yhy (encB_bys bl) Yhn ho7.src) ?_;rintro w8 hf8;have g8:=g7.tr hf8;obtain⟨hh,hhe⟩:=exq ((sumH (sb sBra) (wds (encB bl))).toNat);rw[<-hhe];refine rx ?_;refine s_conv (r:=toI hh) rfl rfl ?_;refine s_buildS [iV (toI hh)] rfl rfl rfl rfl (fun w9 ho9 hf9 hs9=>?_);have g9:=g8.tr hf9;refine s_append g9.o rfl ho9.src rfl rfl Yhu Ynd Yne (fun va wa hoa hfa hka _=>?_);obtain⟨ga,_⟩:=g9.push (ms:=[toI hh]) hoa hfa hka;rw[hhe,show[k,a,c,f,(path.length:Int)]++path++[(cl.length:Int)]++cl++[toI (sumH (sb sBra) (wds (encB bl))).toNat]=wdR k a c f path cl bl from rfl]at ga;have goa:=ga.o;obtain⟨aoa,ca,rfl⟩:=Own.slice goa;refine rx ?_;refine s_cE (refSumC sRun (wdR k a c f path cl bl) aoa ca wa Yhy ow.2 Yhn (Own.src goa)) ?_;exact Ymr
end
end Go.Proofs.YtmlpcmjmniobdaaGreat
namespace Go.Rf
open Go.RowKit
variable{af:Array Edge}{f:Env}{n t:Nat}{x:Operand}{P:Program}{ps:String}{w:World}
theorem bst_cut(S:Bs)(j k:Nat):(bst S).extract j k=bst ((S.take k).drop j):=by
 apply ByteArray.ext;apply Array.toList_inj.1;simp[bst,List.drop_take]
theorem bst_size(S:Bs):(bst S).size=S.length:=by simp[bst,ByteArray.size]
theorem bst_inj{a b:Bs}:bst a=bst b↔a=b:=by
 constructor
 .intro h;have:=congrArg (fun x:ByteArray=>x.data.toList) h;simpa[bst]using this
 .rintro rfl;rfl
theorem bst_data(b:ByteArray):bst b.data.toList=b:=by cases b;simp[bst]
theorem r_lenS{d:Nat}{ty:TypeId}{gd:Option (Nat×Bool)}{s:ByteArray}[S:StrT P t](hx:ev n f x=.string s):
 (execOp (ev n f) ⟨some d,.call {callee:=.builtin .len,args:=#[x],argTypes:=#[t]},ty,ps,af,gd⟩).run P w=.ok (.value (iV s.size)) w:=by
 simp[execOp,resolve,invoke,builtin,Builtin.len_,run_underlying S.u,hx,goInt]
theorem r_strCut{d:Nat}{ty:TypeId}{gd:Option (Nat×Bool)}{y z:Operand}
 {s:ByteArray} {j k:Nat} {kj kk:IntKind} {a b:Int} [S:StrT P t] (hx:ev n f x=.string s) (hy:ev n f y=.int kj a) (hz:ev n f z=.int kk b) (ha:a=(j:Int)) (hb:b=(k:Int)) (hjk:j<=k) (hk:k<=s.size):
 (execOp (ev n f) ⟨some d,.slice t x (some y) (some z) none,ty,ps,af,gd⟩).run P w=.ok (.value (.string (s.extract j k))) w:=by
 subst ha hb;have h1:(0:Int)<=(j:Int):=by omega
 have h2:(0:Int)<=(k:Int):=by omega
 simp[execOp,hx,hy,hz,Instr.sliceAt,Instr.slice,run_underlying S.u,Instr.sliceBounds,Instr.sliceBound,asIntOf,hk,hjk]
theorem drop_get{S:Bs}{i:Nat}(h:i<S.length):S.drop i=S[i]::S.drop (i+1):=List.drop_eq_getElem_cons h
end Go.Rf
namespace Go.Proofs.YtmlpcmjmniobdaaGreat
open Go.Proofs.Tryz
open Go.Rf Go.RowKit
attribute [local irreducible] Code.wp wpList Exit.then Exit.inBlock bodyPost A Calls execOp Addr.add
theorem classC(b:UInt8)(w:World):Calls prog 57 #[.int .u8 b.toNat] w fun e w'=>e=.returned (iV (clsB b:Nat))/\w=w':=by
 unfold clsB clsN;have hb:b.toNat<256:=b.toNat_lt;generalize b.toNat=c at hb ⊢;refine enter func57 rfl ntmps57 rfl ?_;by_cases h1:c=32\/c=9\/c=10
 .rcases h1 with rfl|rfl|rfl
  all_goals
   refine Yeo ?_;exact⟨rfl,rfl⟩
 rw[if_neg h1];by_cases h2:c=95
 .subst h2;refine rx ?_;exact Yeb
 by_cases h3:c=35
 .subst h3;refine rx ?_;exact Yeb
 rw[if_neg h2,if_neg h3];have n1:¬c=32:=fun e=>h1 (.inl e)
 have n2:¬c=9:=fun e=>h1 (.inr (.inl e))
 have n3:¬c=10:=fun e=>h1 (.inr (.inr e))
 by_cases h4:97<=c/\c<=122
 .rw [if_pos h4];obtain⟨h4,h5⟩:=h4;refine rx ?_;exact Yeb
 rw[if_neg h4];by_cases h5:65<=c/\c<=90
 .rw [if_pos h5];obtain⟨h5,h6⟩:=h5;refine rx ?_;exact Yeb
 rw[if_neg h5];by_cases h6:48<=c/\c<=57
 .rw [if_pos h6];obtain⟨h6,h7⟩:=h6;refine rx ?_;exact Yeb
 rw[if_neg h6];refine rx ?_;repeat' ((first|refine s_eql rfl rfl (fun h=>?_) (fun h=>?_)|refine s_neq rfl rfl (fun h=>?_) (fun h=>?_)|refine s_lss rfl rfl (fun h=>?_) (fun h=>?_)|refine s_leq rfl rfl (fun h=>?_) (fun h=>?_)|refine s_gtr rfl rfl (fun h=>?_) (fun h=>?_)|refine s_geq rfl rfl (fun h=>?_) (fun h=>?_)|refine s_eqlE rfl rfl (fun h=>?_) (fun h=>?_)|refine s_neqE rfl rfl (fun h=>?_) (fun h=>?_)|refine s_lssS rfl rfl (fun h=>?_) (fun h=>?_)|refine s_gtrS rfl rfl (fun h=>?_) (fun h=>?_))<;>refine rx ?_)
 all_goals
  refine Yeo ?_;exact⟨rfl,rfl⟩
theorem i64b(b:UInt8):b.toNat<256:=b.toNat_lt
theorem skipP(S:Bs)(at_:Nat)(w:World)(ha:at_<=S.length)(hl:S.length<=1000000000000):
 Calls prog 55 #[.string (bst S),iV at_] w fun e w'=>e=.returned (iV ((at_+skipF false (S.drop at_):Nat):Int))/\w=w':=by
 refine enter func55 rfl ntmps55 rfl ?_;refine rx ?_;refine c_loopK 6 [1,5] (σ:=Nat×Bool) (fun i g u=>g 1=iV i.1/\g 5=.bool i.2/\i.1<=S.length/\i.1+skipF i.2 (S.drop i.1)=at_+skipF false (S.drop at_)/\w=u) (fun i=>S.length-i.1) (at_,false) ⟨rfl,rfl,ha,rfl,rfl⟩ ?_;rintro⟨i,cm⟩ g u ⟨h1,h5,hi,he,rfl⟩;simp only at h1 h5 hi he;rw[eq_upd h1,eq_upd h5];have hsz:=bst_size S;by_cases hlt:i<S.length
 case neg=>
  refine Yeo ?_;rw[List.drop_eq_nil_of_le Yhn]at he;refine⟨?_,rfl⟩;rw[<-he];rfl
 rw[drop_get hlt,skipF]at he;have hb:=i64b S[i];have hix:(bst S).data.toList[i]?=some S[i]:=by simp[bst,hlt]
 generalize hbb:S[i]=b at he hb hix;obtain⟨cm',hcm'⟩:=exq ((if b.toNat=10 then false else if b.toNat=35 then true else cm));rw[<-hcm']at he;have hstep:∀cmv,cm'=cmv->(¬(!cmv&&clsB b != 0)=true->i+1+skipF cmv (S.drop (i+1))=at_+skipF false (S.drop at_))/\((!cmv&&clsB b != 0)=true->i=at_+skipF false (S.drop at_)):=by
  rintro _ rfl;refine⟨fun h=>?_,fun h=>?_⟩
  .rw [if_neg h]at he;omega
  .rw [if_pos h]at he;omega
 clear he;by_cases h35:b.toNat=35
 .have hcls:clsB b=5:=by unfold clsB;rw[h35];rfl
  rw[if_neg Yhn,if_pos h35]at hcm';obtain⟨hs1,_⟩:=hstep true hcm';refine Yff ?_;refine s_indexStr rfl rfl hix ?_;refine rx ?_;exact q_roundK (i+1,true) Yhr ⟨rfl,rfl,by simp only;omega,hs1 Yhs,rfl⟩ Yhw
 by_cases h10:b.toNat=10
 .have hcls:clsB b=0:=by unfold clsB;rw[h10];rfl
  rw[if_pos h10]at hcm';obtain⟨hs1,_⟩:=hstep false hcm';refine Yff ?_;refine s_indexStr rfl rfl hix ?_;refine rx ?_;refine s_indexStr rfl rfl hix ?_;refine g_yes rfl ?_;refine s_cE (classC b w) ?_;rintro _ rfl;rw[hcls];refine rx ?_;exact q_roundK (i+1,false) Yhr ⟨rfl,rfl,by simp only;omega,hs1 (by rw[hcls];decide),rfl⟩ Yhw
 rw[if_neg h10,if_neg h35]at hcm';cases cm with
 |true=>
  obtain⟨hs1,_⟩:=hstep true hcm';refine Yff ?_;refine s_indexStr rfl rfl hix ?_;refine rx ?_;exact q_roundK (i+1,true) Yhr ⟨rfl,rfl,by simp only;omega,hs1 Yhs,rfl⟩ Yhw
 |false=>
  obtain⟨hs1,hs2⟩:=hstep false hcm';refine Yff ?_;refine s_indexStr rfl rfl hix ?_;refine rx ?_;refine s_indexStr rfl rfl hix ?_;refine g_yes rfl ?_;refine s_cE (classC b w) ?_;rintro _ rfl;by_cases hc:clsB b=0
  .refine rx ?_;exact q_roundK (i+1,false) Yhr ⟨rfl,rfl,by simp only;omega,hs1 (by rw[hc];decide),rfl⟩ Yhw
  .refine rx ?_;refine Yfw ?_;refine⟨?_,rfl⟩;rw[<-hs2 (by simpa using hc)]
theorem valueP(S:Bs)(w:World)(hd:∀b∈S,48<=b.toNat/\b.toNat<=57)(hl:S.length<=1000000000000):
 Calls prog 58 #[.string (bst S)] w fun e w'=>e=.returned (iV (valF S))/\w=w':=by
 refine enter func58 rfl ntmps58 rfl ?_;refine rx ?_;have hsz:=bst_size S;refine c_loopK 5 [3,4] (σ:=Nat×Int) (fun i g u=>g 4=iV i.1/\g 3=iV i.2/\i.1<=S.length/\0<=i.2/\i.2<=1099511627777/\(S.drop i.1).foldl (fun n b=>min (10*n+((b.toNat:Int)-48)) 1099511627777) i.2=valF S/\w=u) (fun i=>S.length-i.1) (0,0) ⟨rfl,rfl,by simp only;omega,by decide,by decide,rfl,rfl⟩ ?_;rintro⟨i,v⟩ g u ⟨h4,h3,hi,hv0,hv1,he,rfl⟩;simp only at h4 h3 hi hv0 hv1 he;rw[eq_upd h4,eq_upd h3];by_cases hlt:i<S.length
 case neg=>
  refine Yeo ?_;rw[List.drop_eq_nil_of_le Yhn]at he;exact⟨by rw[<-he];rfl,rfl⟩
 rw[drop_get hlt,List.foldl_cons]at he;obtain⟨hb1,hb2⟩:=hd S[i] Yhs;have hix:(bst S).data.toList[i]?=some S[i]:=by simp[bst,hlt]
 generalize S[i]=b at he hb1 hb2 hix;refine Yff ?_;refine s_min (r:=min (10*v+((b.toNat:Int)-48)) 1099511627777) rfl rfl Ykk ?_;refine rx ?_;exact q_roundK (i+1,min (10*v+((b.toNat:Int)-48)) 1099511627777) Yhr ⟨rfl,rfl,by simp only;omega,by simp only;omega,by simp only;omega,he,rfl⟩ Yhw
theorem symsC(w:World):Calls prog 112 #[] w fun e w'=>∃v,e=.returned v/\Own w' 9 1 v syms.length (syms.map fun t=>.string (bst t))/\Fr [] w w':=by
 refine enter func112 rfl ntmps112 rfl ?_;refine rx ?_;refine s_buildS (syms.map fun t=>.string (bst t)) rfl rfl rfl rfl (fun u ho hf hs=>?_);exact Ybe
def symG(l:List Bs)(x:Bs):Nat:=match l.find? (fun s=>s.isPrefixOf x)with
 |some s=>s.length
 |none=>0
theorem pre_iff{S s:Bs}{at_:Nat}(h:s.length<=2):s.isPrefixOf ((S.drop at_).take 2)=true↔(S.take (at_+s.length)).drop at_=s:=by
 rw[List.isPrefixOf_iff_prefix,List.prefix_iff_eq_take,List.take_take,Nat.min_eq_left h,List.drop_take,Nat.add_sub_cancel_left];exact eq_comm
theorem endP(S:Bs)(at_:Nat)(w:World)(ha:at_<S.length)(hl:S.length<=1000000000000):
 Calls prog 56 #[.string (bst S),iV at_] w fun e w'=>e=.returned (iV ((at_+endF (S.drop at_):Nat):Int))/\Fr [] w w':=by
 refine enter func56 rfl ntmps56 rfl ?_;have hsz:=bst_size S;have hix:(bst S).data.toList[at_]?=some S[at_]:=by simp[bst,ha]
 rw[drop_get ha,endF];generalize hbb:S[at_]=b at hix;refine rx ?_;refine s_indexStr rfl rfl hix ?_;refine s_cE (classC b w) ?_;rintro _ rfl;have hone:((at_:Int)+1)=((at_+1:Nat):Int):=by omega
 by_cases h1:clsB b=1
 .rw [if_pos h1];refine rx ?_;rw[hone];refine c_loopK 9 [5] (σ:=Nat) (fun k g u=>g 5=iV k/\k<=S.length/\k+spanF p1 (S.drop k)=at_+1+spanF p1 (S.drop (at_+1))/\w=u) (fun k=>S.length-k) (at_+1) ⟨rfl,by omega,rfl,rfl⟩ ?_;rintro k g u ⟨h5,hk,he,rfl⟩;rw[eq_upd h5];by_cases hkl:k<S.length
  case neg=>
   refine Yeo ?_;rw[List.drop_eq_nil_of_le Yhn]at he;refine⟨?_,Fr.refl _ _⟩;rw[<-Nat.add_assoc,<-he];rfl
  rw[drop_get hkl,spanF]at he;have hkx:(bst S).data.toList[k]?=some S[k]:=by simp[bst,hkl]
  generalize S[k]=c at he hkx;by_cases hc:clsB c=1
  .refine rx ?_;exact Ydz
  by_cases hc3:clsB c=3
  .have hc:=hc3;refine rx ?_;exact Yem
  by_cases hc4:clsB c=4
  .have hc:=hc4;refine rx ?_;refine s_indexStr rfl rfl hkx ?_;refine rx ?_;refine s_cE (classC _ w) ?_;rintro _ rfl;refine rx ?_;exact Yem
  .refine rx ?_;refine s_indexStr rfl rfl hkx ?_;refine rx ?_;refine s_cE (classC _ w) ?_;rintro _ rfl;refine rx ?_;refine s_indexStr rfl rfl hkx ?_;refine rx ?_;refine s_cE (classC _ w) ?_;rintro _ rfl;refine rx ?_;refine s_indexStr rfl rfl hkx ?_;refine rx ?_;refine s_cE (classC _ w) ?_;rintro _ rfl;refine rx ?_;refine Yfw ?_;rw[if_neg (by unfold p1;simp;omega)]at he;refine⟨?_,Fr.refl _ _⟩;rw[<-Nat.add_assoc,<-he];rfl
 rw[if_neg h1];by_cases h2:clsB b=2
 .rw [if_pos h2];refine rx ?_;rw[hone];refine c_loopK 9 [5] (σ:=Nat) (fun k g u=>g 5=iV k/\k<=S.length/\k+spanF p2 (S.drop k)=at_+1+spanF p2 (S.drop (at_+1))/\w=u) (fun k=>S.length-k) (at_+1) ⟨rfl,by omega,rfl,rfl⟩ ?_;rintro k g u ⟨h5,hk,he,rfl⟩;rw[eq_upd h5];by_cases hkl:k<S.length
  case neg=>
   refine Yeo ?_;rw[List.drop_eq_nil_of_le Yhn]at he;refine⟨?_,Fr.refl _ _⟩;rw[<-Nat.add_assoc,<-he];rfl
  rw[drop_get hkl,spanF]at he;have hkx:(bst S).data.toList[k]?=some S[k]:=by simp[bst,hkl]
  generalize S[k]=c at he hkx;by_cases hc:1<=clsB c
  .by_cases hc4:clsB c<=4
   .refine rx ?_;refine s_indexStr rfl rfl hkx ?_;refine rx ?_;refine s_cE (classC _ w) ?_;rintro _ rfl;refine rx ?_;refine s_indexStr rfl rfl hkx ?_;refine rx ?_;refine s_cE (classC _ w) ?_;rintro _ rfl;refine rx ?_;rw[if_pos (by unfold p2;simp;omega)]at he;exact Yt
   .refine rx ?_;refine s_indexStr rfl rfl hkx ?_;refine rx ?_;refine s_cE (classC _ w) ?_;rintro _ rfl;refine rx ?_;exact Ybr
  .refine rx ?_;exact Ybr
 rw[if_neg h2];by_cases h3:clsB b=3
 .rw [if_pos h3];refine rx ?_;rw[hone];refine c_loopK 9 [5] (σ:=Nat) (fun k g u=>g 5=iV k/\k<=S.length/\k+spanF p3 (S.drop k)=at_+1+spanF p3 (S.drop (at_+1))/\w=u) (fun k=>S.length-k) (at_+1) ⟨rfl,by omega,rfl,rfl⟩ ?_;rintro k g u ⟨h5,hk,he,rfl⟩;rw[eq_upd h5];by_cases hkl:k<S.length
  case neg=>
   refine Yeo ?_;rw[List.drop_eq_nil_of_le Yhn]at he;refine⟨?_,Fr.refl _ _⟩;rw[<-Nat.add_assoc,<-he];rfl
  rw[drop_get hkl,spanF]at he;have hkx:(bst S).data.toList[k]?=some S[k]:=by simp[bst,hkl]
  generalize S[k]=c at he hkx;by_cases hc:clsB c=3
  .refine rx ?_;refine s_indexStr rfl rfl hkx ?_;refine rx ?_;refine s_cE (classC _ w) ?_;rintro _ rfl;refine rx ?_;rw[if_pos (by unfold p3;rw[hc];rfl)]at he;exact Yt
  .refine rx ?_;refine s_indexStr rfl rfl hkx ?_;refine rx ?_;refine s_cE (classC _ w) ?_;rintro _ rfl;refine rx ?_;refine Yfw ?_;rw[if_neg (by unfold p3;simp;omega)]at he;refine⟨?_,Fr.refl _ _⟩;rw[<-Nat.add_assoc,<-he];rfl
 rw[if_neg h3];refine rx ?_;refine s_c1 (symsC w) ?_;rintro v u0 ⟨hown,hf0⟩;have hsrc:=hown.src;obtain⟨ao,c,rfl,hc,_⟩:=id hsrc;have hX:b::S.drop (at_+1)=S.drop at_:=by rw[drop_get ha,hbb]
 rw[hX];refine rx ?_;refine c_loopK 9 [7,8] (σ:=Nat) (fun i g u=>g 7=iV i/\i<=22/\symG (syms.drop i) ((S.drop at_).take 2)=symF ((S.drop at_).take 2)/\Fr [] u0 u) (fun i=>22-i) 0 ⟨rfl,by omega,rfl,Fr.refl _ _⟩ ?_;rintro i g u ⟨h7,hi,he,hf⟩;rw[eq_upd h7];have hs22:syms.length=22:=rfl;by_cases hlt:i<22
 case neg=>
  refine Yeo ?_;have:i=22:=by omega
  subst this;have h0:symF ((S.drop at_).take 2)=0:=he.symm;exact⟨by rw[h0];rfl,hf0.trans0 hf⟩
 have hm:syms[i]'Yhn∈syms:=List.getElem_mem _;have hlen:1<=(syms[i]'Yhn).length/\(syms[i]'Yhn).length<=2:=by
  have:∀s∈syms,1<=s.length/\s.length<=2:=by decide
  exact this _ hm
 obtain⟨ad,rfl,hcell⟩:=src_at (j:=i) (u:=.string (bst (syms[i]'Yhn))) (hsrc.tr0 hf) (by simp[hlt,hs22]);rw[List.drop_eq_getElem_cons Yhn,symG,List.find?_cons]at he;have hpre:=pre_iff (S:=S) (at_:=at_) hlen.2;have hcl:∀z,Fr [] u z->z.cell? (ad.add i)=some (.string (bst (syms[i]'Yhn))):=fun z hz=>src_cell ((hsrc.tr0 hf).tr0 hz) (by simp[hlt,hs22])
 generalize syms[i]'Yhn=s at hcell he hlen hpre hm hcl;have hsl:=bst_size s;have hto:((at_:Int)+(bst s).size)=((at_+s.length:Nat):Int):=by rw[hsl];omega
 refine rx ?_;rw[Nat.mul_one];refine Ymx ?_;refine rx ?_;rw[hto];refine d_begin (fun z=>Fr [] u z) Yhp rfl ?_;have hS:Fr [] u u.drew:=Fr.drew _ _;by_cases hle:at_+s.length<=S.length
 case neg=>
  have hno:s.isPrefixOf ((S.drop at_).take 2)=false:=by
   cases hq:s.isPrefixOf ((S.drop at_).take 2)
   .rfl
   .exfalso
    have:=congrArg List.length (hpre.1 hq);simp only[List.length_drop,List.length_take]at this;omega
  rw[hno]at he;refine d_z2 0 1 hS ?_;refine d_tx 2 hS ?_ (hrun:=by(intro u hu;exact(r_lenS rfl)));refine d_tx 3 hS ?_ (hrun:=by(intro u hu;exact(r_leq rfl rfl (decide_eq_false Yhn))));refine d_z4 4 5 6 7 hS ?_;refine d_z4 8 9 10 11 hS ?_;refine d_z2 12 13 hS ?_;refine d_z 14 hS ?_;refine Yfx ?_;refine rx ?_;exact Yga
 refine d_z2 0 1 hS ?_;refine d_tx 2 hS ?_ (hrun:=by(intro u hu;exact(r_lenS rfl)));refine d_tx 3 hS ?_ (hrun:=by(intro u hu;exact(r_leq rfl rfl (decide_eq_true Yhn))));refine d_z4 4 5 6 7 hS ?_;refine d_ty 8 hS ?_ (hrun:=by(intro u hu;exact(r_strCut (j:=at_) (k:=at_+s.length) rfl rfl rfl rfl rfl Yhn Yhn)));refine d_z2 9 10 hS ?_;refine d_ty 11 hS ?_ (hrun:=by(intro u hu;exact(r_index1 rfl rfl rfl Yhn rfl)));refine d_ty 12 hS ?_ (hrun:=by(intro u hu;exact(r_load rfl (hcl u hu))));by_cases hq:bst ((S.take (at_+s.length)).drop at_)=bst s
 .have hyes:=hpre.2 (bst_inj.1 hq);rw[hyes]at he;have he:s.length=symF ((S.drop at_).take 2):=he;refine d_ty 13 hS ?_ (hrun:=by(intro u hu;exact(r_eqlE (p:=true) rfl rfl (by rw[bst_cut];exact decide_eq_true hq))));refine d_z 14 hS ?_;refine Yfx ?_;refine Yeo ?_;exact⟨by rw[he],(hf0.trans0 hf).trans0 hS⟩
 .have hno:s.isPrefixOf ((S.drop at_).take 2)=false:=by
   cases hq2:s.isPrefixOf ((S.drop at_).take 2)
   .rfl
   .exact absurd (bst_inj.2 (hpre.1 hq2)) hq
  rw[hno]at he;refine d_ty 13 hS ?_ (hrun:=by(intro u hu;exact(r_eqlE (p:=false) rfl rfl (by rw[bst_cut];exact decide_eq_false hq))));refine d_z 14 hS ?_;refine Yfx ?_;refine rx ?_;exact Yga
end Go.Proofs.YtmlpcmjmniobdaaGreat
