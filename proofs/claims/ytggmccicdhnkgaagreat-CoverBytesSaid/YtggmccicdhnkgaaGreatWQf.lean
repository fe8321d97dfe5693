/-
 The reference's lexer:Tokens.
-/
import Derived.Test.YtggmccicdhnkgaaGreatWRf1
import Derived.Test.YtggmccicdhnkgaaGreatWPh
set_option linter.all false
set_option maxHeartbeats 64000000
namespace Go.Proofs.YtggmccicdhnkgaaGreat
open Go.Proofs.Tryz
open Go.Rf Go.RowKit
variable{e:Int}{p:Nat}{v':Value}{w w':World}
attribute [local irreducible] Code.wp wpList Exit.then Exit.inBlock bodyPost A Calls execOp Addr.add
def Sub(v v':Value):Prop:=∀ad' n' c',v'=.slice (some ad') n' c'->∃ad n c,v=.slice (some ad) n c/\ad'.block=ad.block
theorem Sub.refl(v:Value):Sub v v:=fun ad n c h=>⟨ad,n,c,h,rfl⟩
theorem Sub.trans{a b c:Value}(h:Sub a b)(k:Sub b c):Sub a c:=fun ad n cc e=>by
 obtain⟨ad1,n1,c1,e1,h1⟩:=k ad n cc e;obtain⟨ad2,n2,c2,e2,h2⟩:=h ad1 n1 c1 e1;exact⟨ad2,n2,c2,e2,h1.trans h2⟩
theorem Sub.off{v:Value}{ys ys':List Value}{S:List Nat}(h:Sub v v')(hl:0<ys'.length->0<ys.length)(ho:Off v ys S):Off v' ys' S:=fun ad n c e hp=>by
 obtain⟨ad1,n1,c1,e1,h1⟩:=h ad n c e;rw[h1];exact ho ad1 n1 c1 e1 (hl hp)
def IsR(w:World)(p:Nat)(v:Value)(bs:List Int)(e:Int):Prop:=
 Blk w p [v,iV e] 147/\Src w v bs.length (bs.map (.int .u8))/\Off v (bs.map (.int .u8)) [p]/\Bys bs
def JgK(p:Nat)(w:World)(v:Value)(bs':List Int)(e':Int)(w':World):Prop:=∃v',IsR w' p v' bs' e'/\Fr [p] w w'/\Sub v v'
theorem JgK.trans{w1 w2:World}{v v1:Value}{bs2:List Int}{e2:Int}(hf:Fr [p] w w1)(hs:Sub v v1)(h:JgK p w1 v1 bs2 e2 w2):JgK p w v bs2 e2 w2:=by
 obtain⟨v2,a,b,c⟩:=h;exact⟨v2,a,hf.trans b (fun x hx=>.inl hx),hs.trans c⟩
theorem IsR.src{v:Value}{bs:List Int}(h:IsR w p v bs e):Src w v bs.length (bs.map (.int .u8)):=h.2.1
theorem IsR.JnE{v:Value}{bs:List Int}{e':Int}(h:IsR w p v bs e)(hb:Blk w' p [v,iV e'] 147)(hf:Fr [p] w w'):JgK p w v bs e' w':=
 ⟨v,⟨hb,h.2.1.tr hf h.2.2.1,h.2.2.1,h.2.2.2⟩,hf,Sub.refl v⟩
theorem IsR.Jny{v:Value}{bs bs':List Int}(h:IsR w p v bs e)(hs:Src w v' bs'.length (bs'.map (.int .u8)))(hsub:Sub v v')(hl:bs'.length<=bs.length)(hB:Bys bs')(hb:Blk w' p [v',iV e] 147)(hf:Fr [p] w w'):JgK p w v bs' e w':=by
 have ho:Off v' (bs'.map (.int .u8)) [p]:=hsub.off (ys:=bs.map (.int .u8)) Yht h.2.2.1;exact⟨v',⟨hb,hs.tr hf ho,ho,hB⟩,hf,hsub⟩
theorem JmH(p:Nat)(v:Value)(bs:List Int)(e x:Int)(w:World)(hr:IsR w p v bs e):
 Calls prog 109 #[.pointer (some ⟨p,0,none⟩),iV x] w fun r w'=>r=.returned (.tuple #[])/\JgK p w v bs (if e=0 then x else e) w':=by
 refine enter func109 rfl ntmps109 rfl ?_;refine Ymw ?_;refine Vg rfl rfl (fun h=>?_) (fun h=>?_)
 .refine rn ?_
  ((with_reducible apply Ji);exact rfl;(conv=>lhs;whnf);exact rfl;exact hr.1;exact rfl)
  intro w1 hb1 hf1 _;refine rn ?_;refine WI rfl ⟨rfl,?_⟩;rw[Cb h];exact hr.JnE hb1 hf1
 .refine rn ?_;refine WI rfl ⟨rfl,?_⟩;rw[SH h];exact⟨v,hr,Fr.refl _ _,Sub.refl v⟩
theorem Jng(p:Nat)(v:Value)(bs:List Int)(e:Int)(w:World)(hr:IsR w p v bs e):
 Calls prog 74 #[.pointer (some ⟨p,0,none⟩)] w fun r w'=>r=.returned (.int .u64 (rdU bs e).1)/\JgK p w v (rdU bs e).2.1 (rdU bs e).2.2 w':=by
 obtain⟨ao,c,hve,_⟩:=id hr.src;subst hve;refine enter func74 rfl ntmps74 rfl ?_;refine Ymw ?_;refine Vd rfl rfl (fun h=>?_) (fun h=>?_)
 .refine rn ?_;refine Yfw ?_;rw[rdU,Cb h];exact⟨rfl,_,hr,Fr.refl _ _,Sub.refl _⟩
 .refine rn ?_;rw[rdU,SH Yil];subst h;refine Jbg (σ:=Nat×Nat) (fun s g u=>g 0=.pointer (some ⟨p,0,none⟩)/\g 3=.int .u64 s.2/\g 4=iV s.1/\s.1<=9/\s.1<=bs.length/\s.2<128^s.1/\u=w/\rdL bs 0 0=rdL (bs.drop s.1) s.1 s.2)
   (fun s=>10-s.1) (0,0) ⟨rfl,rfl,rfl,by omega,by simp,by simp,rfl,by simp⟩ ?_
  rintro⟨i,acc⟩ g u ⟨h0,h3,h4,hi9,hib,hacc,rfl,hrd⟩;simp only at h3 h4 hi9 hib hacc hrd;rw[Ja h0,Ja h3,Ja h4];refine Ymw ?_;refine rn ?_;refine Vf rfl rfl (fun hge=>?_) (fun hlt=>?_)
  .have hdr:bs.drop i=[]:=Oe Yhn;rw[hrd,hdr];refine rn ?_;refine Jg (JmH p _ bs 0 3 u hr) ?_;rintro w1 hs1;refine Yll ?_;exact⟨rfl,by simpa[rdL]using hs1⟩
  .have hlt':i<bs.length:=by omega
   have hbb:=hr.2.2.2 bs[i] Yhs;obtain⟨ad,rfl,hcell⟩:=KO (j:=i) (u:=.int .u8 bs[i]) hr.src (by simp[hlt']);have hdr:bs.drop i=bs[i]::bs.drop (i+1):=Dh hlt';rw[hdr]at hrd;generalize bs[i]=b at*;refine Ymw ?_;refine rn ?_;refine BZ rfl rfl rfl hlt' rfl ?_;refine KW rfl hcell ?_;refine rn ?_;refine JjD (fun g' u'=>u'=u/\g' 0=.pointer (some ⟨p,0,none⟩)/\g' 3=.int .u64 acc/\g' 4=iV i/\g' 5=.int .u8 b/\g' 42=.bool (decide (i=9/\1<b\/0<i/\b=0))) ?_ ?_
   .by_cases h9:i=9
    .by_cases hb1:1<b
     .refine rn ?_;exact Yml
     .by_cases hb0:b=0
      .refine rn ?_;exact Yml
      .refine rn ?_;exact Ymj
    .by_cases hi0:0<i
     .by_cases hb0:b=0
      .refine rn ?_;exact Yml
      .refine rn ?_;exact Ymj
     .refine rn ?_;exact Ymj
   .rintro g' _ ⟨rfl,k0,k3,k4,k5,k42⟩;by_cases hbad:i=9/\1<b\/0<i/\b=0
    .rw [SN hbad]at k42;rw[Ja k0,Ja k3,Ja k4,Ja k5,Ja k42];rw[hrd,rdL,Cb hbad];refine rn ?_;refine Jg (JmH p _ bs 0 2 _ hr) ?_;rintro w1 hs1;refine Yll ?_;exact⟨rfl,by simpa using hs1⟩
    .rw [SG hbad]at k42;rw[Ja k0,Ja k3,Ja k4,Ja k5,Ja k42];obtain⟨cN,hcN⟩:∃cN:Nat,b%128=(cN:Int):=⟨(b%128).toNat,by omega⟩;have hcE:(b%128).toNat=cN:=by omega
     have hc:cN<128:=by omega
     have h9:i=9->cN<=1:=by omega
     refine rn ?_;refine Jne rfl rfl (show _=(cN:Int) by rw[Jnu hbb.1 hbb.2,hcN]) ?_;refine rn ?_;refine Jh6 rfl rfl Yhn (JnD hi9 hc h9) ?_;refine Jkz rfl rfl (Jno hi9 hc h9 hacc) ?_;refine rn ?_;by_cases hb128:b<128
     .rw [hrd,rdL,SH hbad,Cb hb128,hcE];refine Ymw ?_;refine rn ?_;refine ND (i+1) bs.length hr.src rfl Yhs ⟨.i64,rfl⟩ rfl Yhn Yhn (fun ao' c' hcut hblk _=>?_);refine rn ?_
      ((with_reducible apply Ji);exact rfl;(conv=>lhs;whnf);exact rfl;exact hr.1;exact rfl)
      intro w1 hb1 hf1 _;refine Yll ?_;refine⟨rfl,hr.Jny (v':=.slice ao' (bs.length-(i+1)) c') ?_ ?_ ?_ ?_ hb1 hf1⟩
      .rw [Dq,Dq,SQ Yhs,<-List.map_drop]at hcut;simpa using hcut
      .intro ad' n' c'' e;simp only[Value.slice.injEq]at e;obtain⟨ad0,e0,hbk⟩:=hblk ad' e.1;simp only[Sj]at e0;exact⟨ad,_,_,rfl,by rw[hbk,e0]⟩
      .simp
      .intro x hx;exact hr.2.2.2 x (IG hx)
     .refine rn ?_;refine JaR (i+1,acc+cN*128^i) ⟨rfl,rfl,rfl,by simp only;omega,by simp only;omega,?_,rfl,?_⟩ Yhw
      .simp only;have:cN*128^i<=127*128^i:=Em _ Yhn;rw[Oa];omega
      .simp only;rw[hrd,rdL,SH hbad,SH hb128,hcE]
theorem JnF(p:Nat)(v:Value)(bs:List Int)(e:Int)(w:World)(hr:IsR w p v bs e):
 Calls prog 34 #[.pointer (some ⟨p,0,none⟩)] w fun r w'=>r=.returned (iV (rdI bs e).1)/\JgK p w v (rdI bs e).2.1 (rdI bs e).2.2 w':=by
 have hu:=(JlN (e:=e) hr.2.2.2).1;refine enter func34 rfl ntmps34 rfl ?_;refine rn ?_;refine Jg (Jng p v bs e w hr) ?_;rintro w1 hs1;unfold rdI;generalize (rdU bs e).1=u at*;refine rn ?_;refine Jfk rfl rfl Yhn (JnC u) ?_;refine rn ?_;refine Jne rfl rfl (and1 hu) ?_;refine rn ?_;by_cases h:u%2=1
 .rw [h];refine Jh5 rfl rfl (Jnv Yhn Yhn) ?_;refine Yll ?_;exact⟨by rw[back,Cb h],hs1⟩
 .have h0:u%2=0:=by omega
  rw[h0];refine Jh5 rfl rfl (Jnw Yhn Yhn) ?_;refine Yll ?_;exact⟨by rw[back,SH h],hs1⟩
theorem JnG(p:Nat)(v:Value)(bs:List Int)(e:Int)(w:World)(hr:IsR w p v bs e):
 Calls prog 76 #[.pointer (some ⟨p,0,none⟩)] w fun r w'=>r=.returned (iV (JlJ bs e))/\w=w':=by
 obtain⟨ao,c,hve,_⟩:=id hr.src;subst hve;refine enter func76 rfl ntmps76 rfl ?_;refine Ymw ?_;refine Vd rfl rfl (fun h=>?_) (fun h=>?_)
 .refine rn ?_;refine VH rfl hr.1 rfl ?_;refine Yll ?_;exact⟨by rw[JlJ,Cb h],rfl⟩
 .refine rn ?_;refine VH rfl hr.1 rfl ?_;refine rn ?_;refine Ve rfl rfl (fun h2=>?_) (fun h2=>?_)
  .refine rn ?_;refine Yfw ?_;exact⟨by rw[JlJ,SH Yil,Cb Yhn],rfl⟩
  .refine rn ?_;refine Yfw ?_;exact⟨by rw[JlJ,SH Yil,SH Yhn],rfl⟩
theorem Jmg{ao ao':Option Addr}{m c m' c':Nat}(h:∀ad',ao'=some ad'->∃ad,ao=some ad/\ad'.block=ad.block):Sub (.slice ao m c) (.slice ao' m' c'):=by
 intro ad' n' c'' e;simp only[Value.slice.injEq]at e;obtain⟨ad0,e0,hbk⟩:=h ad' e.1;exact⟨ad0,_,_,by rw[e0],hbk⟩
theorem Jm3(p:Nat)(v:Value)(bs:List Int)(e:Int)(w:World)(hr:IsR w p v bs e)(hl:bs.length<=1000000000000):
 Calls prog 73 #[.pointer (some ⟨p,0,none⟩)] w fun r w'=>r=.returned (iV (rdN bs e).1)/\JgK p w v (rdN bs e).2.1 (rdN bs e).2.2 w':=by
 have hu:=JlN (e:=e) hr.2.2.2;refine enter func73 rfl ntmps73 rfl ?_;refine rn ?_;refine Jg (Jng p v bs e w hr) ?_;rintro w1 ⟨v1,hr1,hf1,hsub1⟩;obtain⟨ao,c,hve,_⟩:=id hr1.src;subst hve;unfold rdN;rcases hq:rdU bs e with⟨u,l,x⟩
 rw[hq]at hr1 hu hsub1;simp only at hr1 hu hsub1 ⊢;refine rn ?_;refine VH rfl hr1.1 rfl ?_;refine Vg rfl rfl (fun h=>?_) (fun h=>?_)
 .subst h;rw[SH Yhs];refine rn ?_;refine VH rfl hr1.1 rfl ?_;refine rn ?_;refine Ve rfl rfl (fun h2=>?_) (fun h2=>?_)
  .refine rn ?_;refine Jg (JmH p _ l 0 3 w1 hr1) ?_;rintro w2 hs2;obtain⟨v2,hr2,hf2,hsub2⟩:=hs2;rw[Cb rfl]at hr2;refine rn ?_;refine VH rfl hr2.1 rfl ?_;refine Yll ?_;rw[Cb Yhn];exact⟨rfl,JgK.trans hf1 hsub1 ⟨v2,hr2,hf2,hsub2⟩⟩
  .refine rn ?_;refine VH rfl hr1.1 rfl ?_;refine Yll ?_;rw[SH Yhn];exact⟨rfl,_,hr1,hf1,hsub1⟩
 .rw [Cb h];refine rn ?_;refine VH rfl hr1.1 rfl ?_;refine Yll ?_;exact⟨rfl,_,hr1,hf1,hsub1⟩
theorem JnA(p:Nat)(v:Value)(bs:List Int)(e:Int)(n:Nat)(w:World)(hr:IsR w p v bs e)(hn:n<=bs.length):
 Calls prog 72 #[.pointer (some ⟨p,0,none⟩),iV n] w fun r w'=>∃ao c,r=.returned (.slice ao n c)/\Src w' (.slice ao n c) n ((bs.take n).map (.int .u8))/\Sub v (.slice ao n c)/\JgK p w v (bs.drop n) e w':=by
 obtain⟨ao,c,hve,_⟩:=id hr.src;subst hve;refine enter func72 rfl ntmps72 rfl ?_;refine Ymw ?_;refine rn ?_;refine ND 0 n hr.src rfl Yhs rfl ⟨.i64,rfl⟩ (SL _) hn (fun ao1 c1 hcut1 hblk1 _=>?_);rw[EJ]at hcut1 ⊢;refine Ymw ?_;refine rn ?_;refine ND n bs.length hr.src rfl Yhs ⟨.i64,rfl⟩ rfl hn (SX _) (fun ao2 c2 hcut2 hblk2 _=>?_);refine rn ?_
 ((with_reducible apply Ji);exact rfl;(conv=>lhs;whnf);exact rfl;exact hr.1;exact rfl)
 intro w1 hb1 hf1 _;have hst:JgK p w (.slice ao bs.length c) (bs.drop n) e w1:=by
  refine hr.Jny ?_ (Jmg hblk2) Yhs (hr.2.2.2.drop n) hb1 hf1;rw[Dq,Dq,SQ Yhs,<-List.map_drop]at hcut2;simpa using hcut2
 refine Yll ?_;have hc1:Src w (.slice ao1 n c1) n ((bs.take n).map (.int .u8)):=by simpa[<-List.map_take]using hcut1
 exact⟨ao1,c1,rfl,hc1.tr hf1 ((Jmg hblk1:Sub (.slice ao bs.length c) _).off (ys:=bs.map (.int .u8)) Yht hr.2.2.1),Jmg hblk1,hst⟩
theorem Jnz(p:Nat)(v:Value)(bs:List Int)(e:Int)(w:World)(hr:IsR w p v bs e)(hl:bs.length<=1000000000000):
 Calls prog 33 #[.pointer (some ⟨p,0,none⟩)] w fun r w'=>r=.returned (.string (strOf (rdR bs e).1))/\JgK p w v (rdR bs e).2.1 (rdR bs e).2.2 w':=by
 have hn:=JmF (e:=e) hr.2.2.2;refine enter func33 rfl ntmps33 rfl ?_;refine rn ?_;refine Jg (Jm3 p v bs e w hr Yhn) ?_;rintro w1 ⟨v1,hr1,hf1,hsub1⟩;refine JiH (JnA p v1 _ _ (rdN bs e).1 w1 hr1 hn.1) ?_;rintro ao c w2 ⟨hs2,_,hst2⟩;refine JmW hs2 rfl Yht ?_;refine Yll ?_;exact⟨rfl,JgK.trans hf1 hsub1 hst2⟩
theorem Jnx(x:Value)(bs:List Int)(w:World)(hx:Src w x bs.length (bs.map (.int .u8)))(hB:Bys bs)(hl:bs.length<=1000000000000):
 Calls prog 32 #[x] w fun r w'=>∃p v',r=.returned (.pointer (some ⟨p,0,none⟩))/\IsR w' p v' bs 0/\Fr [] w w'/\w.heap.size<=p/\(∀k∈blks v',w.heap.size<=k)/\Own w' 5 1 v' bs.length (bs.map (.int .u8)):=by
 obtain⟨ao,c,hve,_⟩:=id hx;subst hve;refine enter func32 rfl ntmps32 rfl ?_;refine rn ?_;refine Qr (fun w0 ho0 hf0 hs0=>?_);refine rn ?_;refine JC ho0 rfl (hx.tr0 hf0) rfl Yhs (Zp _ _) Yhv Yhn (fun v1 w1 ho1 hf1 hk1 _=>?_);obtain⟨ao1,c1,hv1⟩:=ho1.slice;subst hv1;refine JF [.slice ao1 (0+bs.length) c1,zI] rfl ?_;refine Gg rfl rfl (fun w2 hb2 hf2 hs2=>?_);refine Yll ?_;have hk1':∀k∈blks (.slice ao1 (0+bs.length) c1),w.heap.size<=k:=fun k hk=>by
  rcases hk1 k hk with h|h
  .simp [blks,Value.ownBlock]at h;omega
  .omega
 have hb0:blks (.slice (some ⟨w.heap.size,0,none⟩) 0 0)=[w.heap.size]:=rfl;rw[hb0]at hf1;have hsz0:=hf0.size;have hsz1:=hf1.size;have ho2:=ho1.tr0 hf2;have ho3:Own w2 5 1 (.slice ao1 (0+bs.length) c1) bs.length (bs.map (.int .u8)):=by simpa using ho2
 have hoff:Off (.slice ao1 (0+bs.length) c1) (bs.map (.int .u8)) [w1.heap.size]:=by
  have:=ho1.src.off (S:=[w1.heap.size]) (by intro k hk;simp at hk;omega);simpa using this
 exact⟨w1.heap.size,.slice ao1 (0+bs.length) c1,rfl,⟨hb2,ho3.src,hoff,hB⟩,(hf0.trans hf1 (by intro k hk;simp at hk;right;omega)).Jb hf2,by omega,hk1',ho3⟩
end Go.Proofs.YtggmccicdhnkgaaGreat
namespace Go.Rf
variable{m:Nat}
theorem Jmz(n:Nat):Bys (uv n):=by
 induction n using Nat.strongRecOn with
 |_ n ih=>
  by_cases h:n<128
  .rw [Jdo h];intro b hb;simp at hb;omega
  .rw [Je1 Yhn];intro b hb;rcases SC.1 hb with rfl|hb
   .omega
   .exact ih (n/128) Yhn b hb
theorem Bys.append{xs ys:List Int}(h:Bys xs)(k:Bys ys):Bys (xs++ys):=fun b hb=>by
 rcases SE.1 hb with hb|hb
 .exact h b hb
 .exact k b hb
theorem JlG(n:Int):Bys (iv n):=Jmz _
theorem Jms{bs:List Int}(h:Bys bs):Bys (raw bs):=(Jmz _).append h
theorem Jnm(m:Nat):∀(i acc:Nat) (rest:List Int),i<=9->m*128^i<18446744073709551616->(0<i->m≠0)->rdL (uv m++rest) i acc=.ok (acc+m*128^i,rest):=by
 induction m using Nat.strongRecOn with
 |_ m ih=>
  intro i acc rest hi hfit h0;have h9:i=9->m<=1:=by
   intro e;subst e;have e:(128:Nat)^9=9223372036854775808:=by decide
   rw[e]at hfit;omega
  by_cases h:m<128
  .rw [Jdo h,IB,rdL,SH Yhn,Cb Yhn];have:((m:Int)%128).toNat=m:=by omega
   rw[this]
  .rw [Je1 Yhn,CQ,rdL,SH Yhn,SH Yhn];have e1:(((m%128+128:Nat):Int)%128).toNat=m%128:=by omega
   have e2:m%128*128^i+m/128*128^(i+1)=m*128^i:=by
    rw[Oa,<-Nat.mul_assoc,Nat.mul_right_comm,<-Nat.add_mul]
    congr 1
    omega
   rw[e1,ih (m/128) Yhn (i+1) _ rest Yhn Yhn (fun _=>by omega),Nat.add_assoc,e2]
theorem JmE(h:m<18446744073709551616)(rest:List Int):rdU (uv m++rest) 0=(m,rest,0):=by
 rw[rdU,SH Yhs,Jnm m 0 0 rest Yhn Yil Yhn];simp
theorem Jnd(n:Int):back (zz n)=n:=by
 unfold back zz
 split<;>split<;>omega
theorem Jnn{n:Int}(h1: -9223372036854775808<=n)(h2:n<=9223372036854775807)(rest:List Int):rdI (iv n++rest) 0=(n,rest,0):=by
 rw[rdI,iv,JmE (JeV h1 h2),Jnd]
theorem Jnl{rest:List Int}(h:m<18446744073709551616)(hl:m<=rest.length):rdN (uv m++rest) 0=(m,rest,0):=by
 simp only[rdN,JmE h];rw[SH Yhs,SH Yhn]
theorem JmY{bs:List Int}(h:bs.length<18446744073709551616)(rest:List Int):rdR (raw bs++rest) 0=(bs,rest,0):=by
 simp only[rdR,raw,List.append_assoc];rw[Jnl h Yhs];simp
end Go.Rf
namespace Go.Proofs.YtggmccicdhnkgaaGreat
open Go.Rf Go.RowKit
attribute [local irreducible] Code.wp wpList Exit.then Exit.inBlock bodyPost A Calls execOp Addr.add
def Out(w w':World)(v':Value)(bs:List Int):Prop:=Own w' 5 1 v' bs.length (bs.map (.int .u8))/\Fr [] w w'/\∀k∈blks v',w.heap.size<=k
theorem Out.nil(w:World):Out w w (zS) []:=⟨Own.nil _ _ _,Fr.refl _ _,by simp[blks,Value.ownBlock]⟩
theorem Out.app{w w1 w2:World}{v v2:Value}{bs cs:List Int}(h:Out w w1 v bs){u:World}(hf:Fr [] w1 u)(ho:Own w2 5 1 v2 (bs.length+cs.length) (bs.map (.int .u8)++cs.map (.int .u8)))(hf2:Fr (blks v) u w2)
 (hk:∀b∈blks v2,b∈blks v\/u.heap.size<=b):Out w w2 v2 (bs++cs):=by
 obtain⟨h1,h2,h3⟩:=h;have z1:=h2.size;have z2:=hf.size;refine⟨by simpa using ho,(h2.Jb hf).trans hf2 (fun k hk'=>.inr (h3 k hk')),fun k hk'=>?_⟩;rcases hk k hk' with h|h
 .exact h3 k h
 .omega
end Go.Proofs.YtggmccicdhnkgaaGreat
namespace Go.Rf
open Go.RowKit
variable{af:Array Edge}{f:Env}{Q:Exit->Act->World->Prop}{rest:List Oper}{d n t:Nat}{x y:Operand}{P:Program}{ps:String}{w:World}
theorem LZ{D:Dfs}{ops:Array Oper}{ty:TypeId}{t2:Nat}
 {a b:Bs} (hx:ev n f x=.string (bst a)) (hy:ev n f y=.string (bst b)) (h:wpList P ops Q rest (A n (upd f d (.string (bst (a++b))))) w) (hl:a.length+b.length<=1000000000000):
 wpList P ops Q (⟨some d,.binOp .add t x y t2,ty,ps,af,none⟩::rest) (A n f) w:=by
 refine JR (v:=.string (bst (a++b))) (w':=w) ?_ h;have h1:(bst a).size=a.length:=by simp[bst,ByteArray.size]
 have h2:(bst b).size=b.length:=by simp[bst,ByteArray.size]
 simp only[execOp,hx,hy];simp[eqGuard,binOp,Op.stringOp,Jeg,h1,h2];omega
theorem JbE{D:Dfs}{ops:Array Oper}{ty:TypeId}{z:Operand}
 {s:ByteArray} {j k:Nat} {kj kk:IntKind} [S:StrT P t] (hx:ev n f x=.string s) {a b:Int} (hy:ev n f y=.int kj a) (hz:ev n f z=.int kk b) (ha:a=(j:Int)) (hb:b=(k:Int)) (hjk:j<=k) (hk:k<=s.size) (h:wpList P ops Q rest (A n (upd f d (.string (s.extract j k)))) w):
 wpList P ops Q (⟨some d,.slice t x (some y) (some z) none,ty,ps,af,none⟩::rest) (A n f) w:=by
 subst ha hb;refine JR (v:=.string (s.extract j k)) (w':=w) ?_ h;have h1:(0:Int)<=(j:Int):=by omega
 have h2:(0:Int)<=(k:Int):=by omega
 simp[execOp,hx,hy,hz,Instr.sliceAt,Instr.slice,run_underlying S.u,Instr.sliceBounds,Instr.sliceBound,asIntOf,hk,hjk]
end Go.Rf
namespace Go.Proofs.YtggmccicdhnkgaaGreat
open Go.Proofs.Tryz
open Go.Rf Go.RowKit
variable{n:Nat}
attribute [local irreducible] Code.wp wpList Exit.then Exit.inBlock bodyPost A Calls execOp Addr.add
def pk(l:List Int)(i m:Int):Int:=if i<0\/(l.length:Int)<=i then 0 else Jbq (l.getD i.toNat 0) m
theorem Zf{l:List Int}{i m:Int}(h:0<m):0<=pk l i m/\pk l i m<m:=by
 unfold pk
 split
 .omega
 .exact BI h
theorem pick(x:Value)(l:List Int)(i m:Int)(w:World)(hx:Src w x l.length (l.map (.int .i64)))(hl:∀n∈l,VE n)(hm:0<m):
 Calls prog 49 #[x,iV i,iV m] w fun e w'=>e=.returned (iV (pk l i m))/\w=w':=by
 obtain⟨ao,c,rfl,hc,_⟩:=id hx;refine enter func49 rfl ntmps49 rfl ?_;by_cases h1:i<0
 .refine rx ?_;refine Yfw ?_;exact⟨by simp[pk,h1],rfl⟩
 by_cases h2:(l.length:Int)<=i
 .refine rx ?_;refine Yfw ?_;exact⟨by simp[pk,h2],rfl⟩
 obtain⟨j,rfl⟩:∃j:Nat,i=(j:Int):=⟨i.toNat,by omega⟩;have hj:j<l.length:=by omega
 obtain⟨ad,rfl,hcell⟩:=KO (j:=j) (u:=iV l[j]) hx (by simp[hj]);refine rx ?_;rw[Dq];refine KW rfl hcell ?_;have hb:=hl l[j] Yhs;refine rx ?_;refine Jg (around l[j] m w hb.1 hb.2 hm) ?_;rintro _ rfl;refine Yeo ?_;refine⟨?_,rfl⟩;rw[pk,SH Yhn];simp[List.getD,hj]
def GW(w:World)(p:Nat):Prop:=∃(x:Value) (l:List Int) (i:Int),Blk w p [x,iV i] 171/\Src w x l.length (l.map (.int .i64))/\Off x (l.map (.int .i64)) [p]/\(∀n∈l,VE n)
theorem Uz(p:Nat)(m:Int)(w:World)(h:GW w p)(hm:0<m):
 Calls prog 86 #[.pointer (some ⟨p,0,none⟩),iV m] w fun e w'=>∃k:Int,e=.returned (iV k)/\0<=k/\k<m/\GW w' p/\Fr [p] w w':=by
 obtain⟨x,l,i,hb,hs,ho,hl⟩:=h;refine enter func86 rfl ntmps86 rfl ?_;refine rx ?_;refine XG rfl rfl rfl ?_;refine rx ?_
 ((with_reducible apply Ji);exact rfl;(conv=>lhs;whnf);exact rfl;exact hb;exact rfl)
 intro w1 hb1 hf1 hs1;have hs':=hs.tr hf1 ho;refine rx ?_;refine JE (fun z=>Fr [] w1 z) Yhp rfl ?_;have hS:Fr [] w1 w1.drew:=Fr.drew _ _;refine Jj 0 1 2 3 hS ?_;refine Jj 4 5 6 7 hS ?_;refine Kw 8 hS ?_ (hrun:=by(intro u hu;exact(Jfy rfl rfl rfl)));refine d_z 9 hS ?_;refine JJ (i:=10) rfl Yhp ?_;refine Jg (pick x l _ m _ (hs'.tr0 hS) hl hm) ?_;rintro _ rfl;refine Yfz ?_;refine JJ (i:=11) rfl Yhp ?_;refine rx ?_;refine Jv hS ?_;refine Yfx ?_;refine Yeo ?_;obtain⟨h1,h2⟩:=Zf (l:=l) (i:=IntKind.i64.wrap (IntKind.i64.wrap (i+1)-1)) hm;exact⟨_,rfl,h1,h2,⟨x,l,_,hb1.tr0 hS,hs'.tr0 hS,ho,hl⟩,hf1.Jb hS⟩
theorem XQ(p:Nat)(x:Value)(l:List Bs)(w:World)(h:GW w p)(hx:Src w x l.length (l.map fun t=>.string (bst t)))(ho:Off x (l.map fun t=>.string (bst t)) [p])(h0:0<l.length)(hl:l.length<=1000):
 Calls prog 87 #[.pointer (some ⟨p,0,none⟩),x] w fun e w'=>∃t∈l,e=.returned (.string (bst t))/\GW w' p/\Fr [p] w w':=by
 obtain⟨ao,c,rfl,hc,_⟩:=id hx;refine enter func87 rfl ntmps87 rfl ?_;refine rx ?_;refine Jl (Uz p l.length w h Yhn) ?_;rintro k w1 ⟨hk0,hk,hg,hf⟩;obtain⟨j,rfl⟩:∃j:Nat,k=(j:Int):=⟨k.toNat,by omega⟩;have hj:j<l.length:=by omega
 obtain⟨ad,rfl,hcell⟩:=KO (j:=j) (u:=.string (bst l[j])) (hx.tr hf ho) (by simp[hj]);refine rx ?_;rw[Dq];refine KW rfl hcell ?_;refine Yeo ?_;exact⟨l[j],by simp,rfl,hg,hf⟩
def dg(n:Nat):Bs:=[(48+n).toUInt8]
def dgs:List Bs:=[[48],[49],[50],[51],[52],[53],[54],[55],[56],[57]]
theorem Wi(h:n<10):dg n∈dgs:=by
 have:∀n<10,dg n∈dgs:=by decide
 exact this n h
theorem Jcm(k:Nat)(w:World)(hk:k<10):
 Calls prog 85 #[iV k] w fun e w'=>e=.returned (.string (bst (dg k)))/\w=w':=by
 refine enter func85 rfl ntmps85 rfl ?_;by_cases h0:k=0
 .subst h0;exact Ybc
 refine rx ?_;refine Jbg (σ:=Nat) (fun i g u=>g 0=iV k/\g 3=.string ⟨#[48,49,50,51,52,53,54,55,56,57]⟩/\w=u/\((i=1/\g 5=iV k/\g 4=zT)\/(i=0/\g 5=zI/\g 4=.string (bst (dg k))))) (fun i=>i) 1 ⟨rfl,rfl,rfl,.inl ⟨rfl,rfl,rfl⟩⟩ ?_;rintro i g u ⟨h0,h3,rfl,⟨rfl,h5,h4⟩|⟨rfl,h5,h4⟩⟩
 .rw [Ja h0,Ja h3,Ja h5,Ja h4];refine rx ?_;refine JbE (j:=k) (k:=k+1) rfl rfl rfl Yhn Yhn Yhn (by show k+1<=10;omega) ?_;have he:((⟨#[48,49,50,51,52,53,54,55,56,57]⟩:ByteArray).extract k (k+1))=bst (dg k):=by
   have:∀k<10,((⟨#[48,49,50,51,52,53,54,55,56,57]⟩:ByteArray).extract k (k+1))=bst (dg k):=by decide
   exact this k hk
  rw[he];refine rx ?_;refine LZ rfl rfl ?_ (by simp[dg]);refine rx ?_;exact JaR 0 ⟨rfl,rfl,rfl,.inr ⟨rfl,by show Value.int .i64 _=_;congr 1;omega,by rw[Ce];rfl⟩⟩ Yhn
 .rw [Ja h0,Ja h3,Ja h5,Ja h4];exact Ybc
end Go.Proofs.YtggmccicdhnkgaaGreat
namespace Go.Rf
open Go.RowKit
variable{af:Array Edge}{f:Env}{d n t:Nat}{x:Operand}{P:Program}{ps:String}{w:World}
theorem Jbl(S:Bs)(j k:Nat):(bst S).extract j k=bst ((S.take k).drop j):=by
 apply ByteArray.ext;apply Oc.1;simp[bst,FQ]
theorem VX(S:Bs):(bst S).size=S.length:=by simp[bst,ByteArray.size]
theorem GX{a b:Bs}:bst a=bst b↔a=b:=by
 constructor
 .intro h;have:=CZ (fun x:ByteArray=>x.data.toList) h;simpa[bst]using this
 .rintro rfl;rfl
theorem Zx(b:ByteArray):bst b.data.toList=b:=by cases b;simp[bst]
theorem JfE{ty:TypeId}{gd:Option (Nat×Bool)}{s:ByteArray}[S:StrT P t](hx:ev n f x=.string s):
 (execOp (ev n f) ⟨some d,.call {callee:=.builtin .len,args:=#[x],argTypes:=#[t]},ty,ps,af,gd⟩).run P w=.ok (.value (iV s.size)) w:=by
 simp[execOp,resolve,invoke,builtin,Builtin.len_,run_underlying S.u,hx,goInt]
theorem Jfz{ty:TypeId}{gd:Option (Nat×Bool)}{y z:Operand}
 {s:ByteArray} {j k:Nat} {kj kk:IntKind} {a b:Int} [S:StrT P t] (hx:ev n f x=.string s) (hy:ev n f y=.int kj a) (hz:ev n f z=.int kk b) (ha:a=(j:Int)) (hb:b=(k:Int)) (hjk:j<=k) (hk:k<=s.size):
 (execOp (ev n f) ⟨some d,.slice t x (some y) (some z) none,ty,ps,af,gd⟩).run P w=.ok (.value (.string (s.extract j k))) w:=by
 subst ha hb;have h1:(0:Int)<=(j:Int):=by omega
 have h2:(0:Int)<=(k:Int):=by omega
 simp[execOp,hx,hy,hz,Instr.sliceAt,Instr.slice,run_underlying S.u,Instr.sliceBounds,Instr.sliceBound,asIntOf,hk,hjk]
theorem VT{S:Bs}{i:Nat}(h:i<S.length):S.drop i=S[i]::S.drop (i+1):=Dh h
end Go.Rf
namespace Go.Proofs.YtggmccicdhnkgaaGreat
open Go.Proofs.Tryz
open Go.Rf Go.RowKit
attribute [local irreducible] Code.wp wpList Exit.then Exit.inBlock bodyPost A Calls execOp Addr.add
theorem Vq(b:UInt8)(w:World):Calls prog 114 #[.int .u8 b.toNat] w fun e w'=>e=.returned (iV (Kq b:Nat))/\w=w':=by
 unfold Kq JhR;have hb:b.toNat<256:=b.toNat_lt;generalize b.toNat=c at hb ⊢;refine enter func114 rfl ntmps114 rfl ?_;by_cases h1:c=32\/c=9\/c=10
 .rcases h1 with rfl|rfl|rfl
  all_goals
   refine Yeo ?_;exact⟨rfl,rfl⟩
 rw[SH h1];by_cases h2:c=95
 .subst h2;exact Ybc
 by_cases h3:c=35
 .subst h3;exact Ybc
 rw[SH h2,SH h3];have n1:¬c=32:=fun e=>h1 (.inl e)
 have n2:¬c=9:=fun e=>h1 (.inr (.inl e))
 have n3:¬c=10:=fun e=>h1 (.inr (.inr e))
 by_cases h4:97<=c/\c<=122
 .rw [Cb h4];obtain⟨h4,h5⟩:=h4;exact Ybc
 rw[SH h4];by_cases h5:65<=c/\c<=90
 .rw [Cb h5];obtain⟨h5,h6⟩:=h5;exact Ybc
 rw[SH h5];by_cases h6:48<=c/\c<=57
 .rw [Cb h6];obtain⟨h6,h7⟩:=h6;exact Ybc
 rw[SH h6];refine rx ?_;repeat' ((first|refine Vg rfl rfl (fun h=>?_) (fun h=>?_)|refine Vd rfl rfl (fun h=>?_) (fun h=>?_)|refine QZ rfl rfl (fun h=>?_) (fun h=>?_)|refine Vt rfl rfl (fun h=>?_) (fun h=>?_)|refine Ve rfl rfl (fun h=>?_) (fun h=>?_)|refine Vf rfl rfl (fun h=>?_) (fun h=>?_)|refine QB rfl rfl (fun h=>?_) (fun h=>?_)|refine Qv rfl rfl (fun h=>?_) (fun h=>?_)|refine WG rfl rfl (fun h=>?_) (fun h=>?_)|refine WY rfl rfl (fun h=>?_) (fun h=>?_))<;>refine rx ?_)
 all_goals
  refine Yeo ?_;exact⟨rfl,rfl⟩
theorem JkS(b:UInt8):b.toNat<256:=b.toNat_lt
theorem JbC(S:Bs)(at_:Nat)(w:World)(ha:at_<=S.length)(hl:S.length<=1000000000000):
 Calls prog 112 #[.string (bst S),iV at_] w fun e w'=>e=.returned (iV ((at_+Qm false (S.drop at_):Nat):Int))/\w=w':=by
 refine enter func112 rfl ntmps112 rfl ?_;refine rx ?_;refine Jh 6 [1,5] (σ:=Nat×Bool) (fun i g u=>g 1=iV i.1/\g 5=.bool i.2/\i.1<=S.length/\i.1+Qm i.2 (S.drop i.1)=at_+Qm false (S.drop at_)/\w=u) (fun i=>S.length-i.1) (at_,false) ⟨rfl,rfl,ha,rfl,rfl⟩ ?_;rintro⟨i,cm⟩ g u ⟨h1,h5,hi,he,rfl⟩;simp only at h1 h5 hi he;rw[Ja h1,Ja h5];have hsz:=VX S;by_cases hlt:i<S.length
 case neg=>
  refine Yeo ?_;rw[Ci Yhn]at he;refine⟨?_,rfl⟩;rw[<-he];rfl
 rw[VT hlt,Qm]at he;have hb:=JkS S[i];have hix:(bst S).data.toList[i]?=some S[i]:=by simp[bst,hlt]
 generalize hbb:S[i]=b at he hb hix;obtain⟨cm',hcm'⟩:=exq ((if b.toNat=10 then false else if b.toNat=35 then true else cm));rw[<-hcm']at he;have hstep:∀cmv,cm'=cmv->(¬(!cmv&&Kq b != 0)=true->i+1+Qm cmv (S.drop (i+1))=at_+Qm false (S.drop at_))/\((!cmv&&Kq b != 0)=true->i=at_+Qm false (S.drop at_)):=by
  rintro _ rfl;refine⟨fun h=>?_,fun h=>?_⟩
  .rw [SH h]at he;omega
  .rw [Cb h]at he;omega
 clear he;by_cases h35:b.toNat=35
 .have hcls:Kq b=5:=by unfold Kq;rw[h35];rfl
  rw[SH Yhn,Cb h35]at hcm';obtain⟨hs1,_⟩:=hstep true hcm';refine Yff ?_;refine J4 rfl rfl hix ?_;refine rx ?_;exact Jc (i+1,true) Yhr ⟨rfl,rfl,by simp only;omega,hs1 Yhs,rfl⟩ Yhw
 by_cases h10:b.toNat=10
 .have hcls:Kq b=0:=by unfold Kq;rw[h10];rfl
  rw[Cb h10]at hcm';obtain⟨hs1,_⟩:=hstep false hcm';refine Yff ?_;refine J4 rfl rfl hix ?_;refine rx ?_;refine J4 rfl rfl hix ?_;refine MH rfl ?_;refine Jg (Vq b w) ?_;rintro _ rfl;rw[hcls];refine rx ?_;exact Jc (i+1,false) Yhr ⟨rfl,rfl,by simp only;omega,hs1 (by rw[hcls];decide),rfl⟩ Yhw
 rw[SH h10,SH h35]at hcm';cases cm with
 |true=>
  obtain⟨hs1,_⟩:=hstep true hcm';refine Yff ?_;refine J4 rfl rfl hix ?_;refine rx ?_;exact Jc (i+1,true) Yhr ⟨rfl,rfl,by simp only;omega,hs1 Yhs,rfl⟩ Yhw
 |false=>
  obtain⟨hs1,hs2⟩:=hstep false hcm';refine Yff ?_;refine J4 rfl rfl hix ?_;refine rx ?_;refine J4 rfl rfl hix ?_;refine MH rfl ?_;refine Jg (Vq b w) ?_;rintro _ rfl;by_cases hc:Kq b=0
  .refine rx ?_;exact Jc (i+1,false) Yhr ⟨rfl,rfl,by simp only;omega,hs1 (by rw[hc];decide),rfl⟩ Yhw
  .refine rx ?_;refine Yfw ?_;refine⟨?_,rfl⟩;rw[<-hs2 (by simpa using hc)]
theorem Jiq(S:Bs)(w:World)(hd:∀b∈S,48<=b.toNat/\b.toNat<=57)(hl:S.length<=1000000000000):
 Calls prog 115 #[.string (bst S)] w fun e w'=>e=.returned (iV (ML S))/\w=w':=by
 refine enter func115 rfl ntmps115 rfl ?_;refine rx ?_;have hsz:=VX S;refine Jh 5 [3,4] (σ:=Nat×Int) (fun i g u=>g 4=iV i.1/\g 3=iV i.2/\i.1<=S.length/\0<=i.2/\i.2<=1099511627777/\(S.drop i.1).foldl (fun n b=>min (10*n+((b.toNat:Int)-48)) 1099511627777) i.2=ML S/\w=u) (fun i=>S.length-i.1) (0,0) ⟨rfl,rfl,by simp only;omega,by decide,by decide,rfl,rfl⟩ ?_;rintro⟨i,v⟩ g u ⟨h4,h3,hi,hv0,hv1,he,rfl⟩;simp only at h4 h3 hi hv0 hv1 he;rw[Ja h4,Ja h3];by_cases hlt:i<S.length
 case neg=>
  refine Yeo ?_;rw[Ci Yhn]at he;exact⟨by rw[<-he];rfl,rfl⟩
 rw[VT hlt,Dz]at he;obtain⟨hb1,hb2⟩:=hd S[i] Yhs;have hix:(bst S).data.toList[i]?=some S[i]:=by simp[bst,hlt]
 generalize S[i]=b at he hb1 hb2 hix;refine Yff ?_;refine Jh7 (r:=min (10*v+((b.toNat:Int)-48)) 1099511627777) rfl rfl Ykk ?_;refine rx ?_;exact Jc (i+1,min (10*v+((b.toNat:Int)-48)) 1099511627777) Yhr ⟨rfl,rfl,by simp only;omega,by simp only;omega,by simp only;omega,he,rfl⟩ Yhw
theorem JjI(w:World):Calls prog 161 #[] w fun e w'=>∃v,e=.returned v/\Own w' 9 1 v syms.length (syms.map fun t=>.string (bst t))/\Fr [] w w':=by
 refine enter func161 rfl ntmps161 rfl ?_;refine rx ?_;refine J3 (syms.map fun t=>.string (bst t)) rfl rfl rfl rfl (fun u ho hf hs=>?_);exact Ybe
def JjJ(l:List Bs)(x:Bs):Nat:=match l.find? (fun s=>s.isPrefixOf x)with
 |some s=>s.length
 |none=>0
theorem Jhb{S s:Bs}{at_:Nat}(h:s.length<=2):s.isPrefixOf ((S.drop at_).take 2)=true↔(S.take (at_+s.length)).drop at_=s:=by
 rw[Ij,List.prefix_iff_eq_take,List.take_take,Hw h,FQ,Eo];exact eq_comm
theorem endP(S:Bs)(at_:Nat)(w:World)(ha:at_<S.length)(hl:S.length<=1000000000000):
 Calls prog 113 #[.string (bst S),iV at_] w fun e w'=>e=.returned (iV ((at_+Q9 (S.drop at_):Nat):Int))/\Fr [] w w':=by
 refine enter func113 rfl ntmps113 rfl ?_;have hsz:=VX S;have hix:(bst S).data.toList[at_]?=some S[at_]:=by simp[bst,ha]
 rw[VT ha,Q9];generalize hbb:S[at_]=b at hix;refine rx ?_;refine J4 rfl rfl hix ?_;refine Jg (Vq b w) ?_;rintro _ rfl;have hone:((at_:Int)+1)=((at_+1:Nat):Int):=by omega
 by_cases h1:Kq b=1
 .rw [Cb h1];refine rx ?_;rw[hone];refine Jh 9 [5] (σ:=Nat) (fun k g u=>g 5=iV k/\k<=S.length/\k+Qq p1 (S.drop k)=at_+1+Qq p1 (S.drop (at_+1))/\w=u) (fun k=>S.length-k) (at_+1) ⟨rfl,by omega,rfl,rfl⟩ ?_;rintro k g u ⟨h5,hk,he,rfl⟩;rw[Ja h5];by_cases hkl:k<S.length
  case neg=>
   refine Yeo ?_;rw[Ci Yhn]at he;refine⟨?_,Fr.refl _ _⟩;rw[<-Nat.add_assoc,<-he];rfl
  rw[VT hkl,Qq]at he;have hkx:(bst S).data.toList[k]?=some S[k]:=by simp[bst,hkl]
  generalize S[k]=c at he hkx;by_cases hc:Kq c=1
  .refine rx ?_;exact Ydz
  by_cases hc3:Kq c=3
  .have hc:=hc3;refine rx ?_;exact Yem
  by_cases hc4:Kq c=4
  .have hc:=hc4;refine rx ?_;refine J4 rfl rfl hkx ?_;refine rx ?_;refine Jg (Vq _ w) ?_;rintro _ rfl;refine rx ?_;exact Yem
  .refine rx ?_;refine J4 rfl rfl hkx ?_;refine rx ?_;refine Jg (Vq _ w) ?_;rintro _ rfl;refine rx ?_;refine J4 rfl rfl hkx ?_;refine rx ?_;refine Jg (Vq _ w) ?_;rintro _ rfl;refine rx ?_;refine J4 rfl rfl hkx ?_;refine rx ?_;refine Jg (Vq _ w) ?_;rintro _ rfl;refine rx ?_;refine Yfw ?_;rw[SH (by unfold p1;simp;omega)]at he;refine⟨?_,Fr.refl _ _⟩;rw[<-Nat.add_assoc,<-he];rfl
 rw[SH h1];by_cases h2:Kq b=2
 .rw [Cb h2];refine rx ?_;rw[hone];refine Jh 9 [5] (σ:=Nat) (fun k g u=>g 5=iV k/\k<=S.length/\k+Qq p2 (S.drop k)=at_+1+Qq p2 (S.drop (at_+1))/\w=u) (fun k=>S.length-k) (at_+1) ⟨rfl,by omega,rfl,rfl⟩ ?_;rintro k g u ⟨h5,hk,he,rfl⟩;rw[Ja h5];by_cases hkl:k<S.length
  case neg=>
   refine Yeo ?_;rw[Ci Yhn]at he;refine⟨?_,Fr.refl _ _⟩;rw[<-Nat.add_assoc,<-he];rfl
  rw[VT hkl,Qq]at he;have hkx:(bst S).data.toList[k]?=some S[k]:=by simp[bst,hkl]
  generalize S[k]=c at he hkx;by_cases hc:1<=Kq c
  .by_cases hc4:Kq c<=4
   .refine rx ?_;refine J4 rfl rfl hkx ?_;refine rx ?_;refine Jg (Vq _ w) ?_;rintro _ rfl;refine rx ?_;refine J4 rfl rfl hkx ?_;refine rx ?_;refine Jg (Vq _ w) ?_;rintro _ rfl;refine rx ?_;rw[Cb (by unfold p2;simp;omega)]at he;exact Yt
   .refine rx ?_;refine J4 rfl rfl hkx ?_;refine rx ?_;refine Jg (Vq _ w) ?_;rintro _ rfl;refine rx ?_;exact Ybr
  .refine rx ?_;exact Ybr
 rw[SH h2];by_cases h3:Kq b=3
 .rw [Cb h3];refine rx ?_;rw[hone];refine Jh 9 [5] (σ:=Nat) (fun k g u=>g 5=iV k/\k<=S.length/\k+Qq p3 (S.drop k)=at_+1+Qq p3 (S.drop (at_+1))/\w=u) (fun k=>S.length-k) (at_+1) ⟨rfl,by omega,rfl,rfl⟩ ?_;rintro k g u ⟨h5,hk,he,rfl⟩;rw[Ja h5];by_cases hkl:k<S.length
  case neg=>
   refine Yeo ?_;rw[Ci Yhn]at he;refine⟨?_,Fr.refl _ _⟩;rw[<-Nat.add_assoc,<-he];rfl
  rw[VT hkl,Qq]at he;have hkx:(bst S).data.toList[k]?=some S[k]:=by simp[bst,hkl]
  generalize S[k]=c at he hkx;by_cases hc:Kq c=3
  .refine rx ?_;refine J4 rfl rfl hkx ?_;refine rx ?_;refine Jg (Vq _ w) ?_;rintro _ rfl;refine rx ?_;rw[Cb (by unfold p3;rw[hc];rfl)]at he;exact Yt
  .refine rx ?_;refine J4 rfl rfl hkx ?_;refine rx ?_;refine Jg (Vq _ w) ?_;rintro _ rfl;refine rx ?_;refine Yfw ?_;rw[SH (by unfold p3;simp;omega)]at he;refine⟨?_,Fr.refl _ _⟩;rw[<-Nat.add_assoc,<-he];rfl
 rw[SH h3];refine rx ?_;refine Jl (JjI w) ?_;rintro v u0 ⟨hown,hf0⟩;have hsrc:=hown.src;obtain⟨ao,c,rfl,hc,_⟩:=id hsrc;have hX:b::S.drop (at_+1)=S.drop at_:=by rw[VT ha,hbb]
 rw[hX];refine rx ?_;refine Jh 9 [7,8] (σ:=Nat) (fun i g u=>g 7=iV i/\i<=22/\JjJ (syms.drop i) ((S.drop at_).take 2)=Jek ((S.drop at_).take 2)/\Fr [] u0 u) (fun i=>22-i) 0 ⟨rfl,by omega,rfl,Fr.refl _ _⟩ ?_;rintro i g u ⟨h7,hi,he,hf⟩;rw[Ja h7];have hs22:syms.length=22:=rfl;by_cases hlt:i<22
 case neg=>
  refine Yeo ?_;have:i=22:=by omega
  subst this;have h0:Jek ((S.drop at_).take 2)=0:=he.symm;exact⟨by rw[h0];rfl,hf0.Jb hf⟩
 have hm:syms[i]'Yhn∈syms:=Cj _;have hlen:1<=(syms[i]'Yhn).length/\(syms[i]'Yhn).length<=2:=by
  have:∀s∈syms,1<=s.length/\s.length<=2:=by decide
  exact this _ hm
 obtain⟨ad,rfl,hcell⟩:=KO (j:=i) (u:=.string (bst (syms[i]'Yhn))) (hsrc.tr0 hf) (by simp[hlt,hs22]);rw[Dh Yhn,JjJ,Ho]at he;have hpre:=Jhb (S:=S) (at_:=at_) hlen.2;have hcl:∀z,Fr [] u z->z.cell? (ad.add i)=some (.string (bst (syms[i]'Yhn))):=fun z hz=>Vs ((hsrc.tr0 hf).tr0 hz) (by simp[hlt,hs22])
 generalize syms[i]'Yhn=s at hcell he hlen hpre hm hcl;have hsl:=VX s;have hto:((at_:Int)+(bst s).size)=((at_+s.length:Nat):Int):=by rw[hsl];omega
 refine rx ?_;rw[Dq];refine KW rfl hcell ?_;refine rx ?_;rw[hto];refine JE (fun z=>Fr [] u z) Yhp rfl ?_;have hS:Fr [] u u.drew:=Fr.drew _ _;by_cases hle:at_+s.length<=S.length
 case neg=>
  have hno:s.isPrefixOf ((S.drop at_).take 2)=false:=by
   cases hq:s.isPrefixOf ((S.drop at_).take 2)
   .rfl
   .exfalso
    have:=CZ List.length (hpre.1 hq);simp only[Dn,C9]at this;omega
  rw[hno]at he;refine JX 0 1 hS ?_;refine Kw 2 hS ?_ (hrun:=by(intro u hu;exact(JfE rfl)));refine Kw 3 hS ?_ (hrun:=by(intro u hu;exact(L9 rfl rfl (SG Yhn))));refine Jj 4 5 6 7 hS ?_;refine Jj 8 9 10 11 hS ?_;refine JX 12 13 hS ?_;refine d_z 14 hS ?_;refine Yev ?_;exact Yga
 refine JX 0 1 hS ?_;refine Kw 2 hS ?_ (hrun:=by(intro u hu;exact(JfE rfl)));refine Kw 3 hS ?_ (hrun:=by(intro u hu;exact(L9 rfl rfl (SN Yhn))));refine Jj 4 5 6 7 hS ?_;refine Kz 8 hS ?_ (hrun:=by(intro u hu;exact(Jfz (j:=at_) (k:=at_+s.length) rfl rfl rfl rfl rfl Yhn Yhn)));refine JX 9 10 hS ?_;refine Kz 11 hS ?_ (hrun:=by(intro u hu;exact(Gl rfl rfl rfl Yhn rfl)));refine Kz 12 hS ?_ (hrun:=by(intro u hu;exact(J7 rfl (hcl u hu))));by_cases hq:bst ((S.take (at_+s.length)).drop at_)=bst s
 .have hyes:=hpre.2 (GX.1 hq);rw[hyes]at he;have he:s.length=Jek ((S.drop at_).take 2):=he;refine Kz 13 hS ?_ (hrun:=by(intro u hu;exact(NQ (p:=true) rfl rfl (by rw[Jbl];exact SN hq))));refine d_z 14 hS ?_;refine Yfx ?_;refine Yeo ?_;exact⟨by rw[he],(hf0.Jb hf).Jb hS⟩
 .have hno:s.isPrefixOf ((S.drop at_).take 2)=false:=by
   cases hq2:s.isPrefixOf ((S.drop at_).take 2)
   .rfl
   .exact absurd (GX.2 (hpre.1 hq2)) hq
  rw[hno]at he;refine Kz 13 hS ?_ (hrun:=by(intro u hu;exact(NQ (p:=false) rfl rfl (by rw[Jbl];exact SG hq))));refine d_z 14 hS ?_;refine Yev ?_;exact Yga
end Go.Proofs.YtggmccicdhnkgaaGreat
namespace Go.Rf
open Go.RowKit
theorem JkB{P:Program}{fn:Func}{R:Ending->World->Prop}{n:Nat}{f:Env}{w:World}{t u s:Nat}{v x y:Value}(hr:fn.results=#[.tmp t,.tmp u,.tmp s])(hv:ev n f (.tmp t)=v)(hx:ev n f (.tmp u)=x)(hy:ev n f (.tmp s)=y)
 (h:R (.returned (.tuple #[v,x,y])) w):bodyPost P fn R .ret (A n f) w:=
 ⟨rfl,.tuple #[v,x,y],by
  have e:(A n f).tmps.getD t undef=v:=by rw[Wl];exact hv
  have e2:(A n f).tmps.getD u undef=x:=by rw[Wl];exact hx
  have e3:(A n f).tmps.getD s undef=y:=by rw[Wl];exact hy
  rw[DU]at e e2 e3;simp[results,hr,e,e2,e3],h⟩
def JbR(acc:List Tk)(r:Except (Int×Int) (List Tk)):Except (Int×Int) (List Tk):=match r with
 |.ok l=>.ok (acc++l)
 |.error e=>.error e
theorem Jdb{f:Nat}{at_:Nat}{S:Bs}(h:at_<S.length):V3 (f+1) (at_:Int) (S.drop at_)=
 (if Q9 (S.drop at_)=0 then .error ((at_:Int),2) else if bigT ((S.drop at_).take (Q9 (S.drop at_))) then .error ((at_:Int),4) else
  JbR [JY at_ ((S.drop at_).take (Q9 (S.drop at_)))] (V3 f ((at_+Q9 (S.drop at_)+Qm false (S.drop (at_+Q9 (S.drop at_))):Nat):Int) (S.drop (at_+Q9 (S.drop at_)+Qm false (S.drop (at_+Q9 (S.drop at_))))))):=by
 have hne:(S.drop at_).isEmpty=false:=by rw[VT h];rfl
 rw[V3,SH (by rw[hne];simp)];simp only[Iy];have e:((at_+Q9 (S.drop at_)+Qm false (S.drop (at_+Q9 (S.drop at_))):Nat):Int)=(at_:Int)+(Q9 (S.drop at_):Nat)+(Qm false (S.drop (at_+Q9 (S.drop at_))):Nat):=by omega
 rw[e];rfl
theorem ZK(a b:List Tk)(r:Except (Int×Int) (List Tk)):JbR a (JbR b r)=JbR (a++b) r:=by
 cases r<;>simp[JbR]
theorem Nw:∀(cm:Bool) (r:Bs),Qm cm r<=r.length
 |_,[]=>SX _
 |cm,b::r=>by
  rw[Qm];have:=Nw (if b.toNat=10 then false else if b.toNat=35 then true else cm) r;generalize (if b.toNat=10 then false else if b.toNat=35 then true else cm)=c at this ⊢
  split<;>simp only[SI]<;>omega
theorem Ji9{b:UInt8}{r:Bs}:bigT (b::r)=((decide (Kq b<=2)&&decide (16<(b::r).length))||(decide (Kq b=3)&&decide (1099511627776<ML (b::r)))):=rfl
theorem Jkb{a:Int}{b:UInt8}{r:Bs}:JY a (b::r)=⟨if Kq b=1 then 0 else if Kq b=2 then 1 else if Kq b=3 then 2 else 3,a,if Kq b=3 then ML (b::r) else 0,b::r⟩:=rfl
theorem BN(p:Nat->Bool):∀r:Bs,Qq p r<=r.length
 |[]=>SX _
 |b::r=>by
  rw[Qq];have:=BN p r
  split<;>simp only[SI]<;>omega
theorem Jfa(x:Bs):Jek x<=x.length:=by
 unfold Jek
 split
 .rename_i s hs;have:=Hq hs;rw[Ij]at this;exact this.length_le
 .exact SL _
theorem JhF:∀r:Bs,Q9 r<=r.length
 |[]=>SX _
 |b::r=>by
  rw[Q9];have h1:=BN p1 r;have h2:=BN p2 r;have h3:=BN p3 r;have h4:=Jfa ((b::r).take 2);have h5:((b::r).take 2).length<=(b::r).length:=by rw[C9];omega
  simp only[SI]at*
  split
  .omega
  .split
   .omega
   .split<;>omega
theorem Jko{b:UInt8}(h:Kq b=3):48<=b.toNat/\b.toNat<=57:=by
 unfold Kq JhR at h
 split at h
 .cases h
 .split at h
  .cases h
  .split at h
   .cases h
   .split at h
    .cases h
    .split at h
     .cases h
     .split at h
      .assumption
      .cases h
theorem Jh3:∀(r:Bs),∀b∈r.take (Qq p3 r),Kq b=3
 |[],b,h=>by simp at h
 |c::r,b,h=>by
  rw[Qq]at h
  split at h
  .rename_i hc;rw[D7,DT]at h;rcases SC.1 h with rfl|h
   .simpa [p3]using hc
   .exact Jh3 r b h
  .simp at h
theorem JkW{b:UInt8}{r:Bs}(h:Kq b=3):∀c∈(b::r).take (Q9 (b::r)),48<=c.toNat/\c.toNat<=57:=by
 rw[Q9,SH Yhn,SH Yhn,Cb h,D7,DT];intro c hc;rcases SC.1 hc with rfl|hc
 .exact Jko h
 .exact Jko (Jh3 r c hc)
theorem JcS{t:Bs}(h:∀b∈t,48<=b.toNat/\b.toNat<=57):0<=ML t/\ML t<=1099511627777:=by
 unfold ML;have:∀(t:Bs) (v:Int),(∀b∈t,48<=b.toNat/\b.toNat<=57)->0<=v->v<=1099511627777->0<=t.foldl (fun n b=>min (10*n+((b.toNat:Int)-48)) 1099511627777) v/\t.foldl (fun n b=>min (10*n+((b.toNat:Int)-48)) 1099511627777) v<=1099511627777:=by
  intro t
  induction t with
  |nil=>exact fun v _ h1 h2=>⟨h1,h2⟩
  |cons b t ih=>
   intro v hb h1 h2;rw[Dz];have:=hb b Yhs;exact ih _ (fun x hx=>hb x Yix) Yhn Yhn
 exact this t 0 h Yhn Yhn
end Go.Rf
namespace Go.Proofs.YtggmccicdhnkgaaGreat
open Go.Proofs.Tryz
open Go.Rf Go.RowKit
attribute [local irreducible] Code.wp wpList Exit.then Exit.inBlock bodyPost A Calls execOp Addr.add
def tkC(t:Tk):List Value:=[iV t.kind,iV t.at_,iV t.n,.string (bst t.text)]
def Jks(w w':World)(r:Except (Int×Int) (List Tk))(v:Value)(a e:Int):Prop:=Fr [] w w'/\match r with
 |.ok l=>Own w' 199 4 v l.length (l.flatMap tkC)/\(∀k∈blks v,w.heap.size<=k)/\a=0/\e=0
 |.error x=>(a,e)=x/\v=.slice none 0 0
theorem Jdq(S:Bs)(w:World)(hl:S.length<=1000000000000):
 Calls prog 77 #[.string (bst S)] w fun e w'=>∃v a er,e=.returned (.tuple #[v,iV a,iV er])/\Jks w w' (BG S) v a er:=by
 refine enter func77 rfl ntmps77 rfl ?_;have hsz:=VX S;unfold BG;by_cases h8:8192<S.length
 .rw [Cb h8];exact Ycp
 rw[SH h8];refine rx ?_;refine Jg (JbC S 0 w Yhn hl) ?_;rintro _ rfl;rw[D9,Di];refine rx ?_;have hsk:=Nw false S;refine Jh 10 [5,6,7,8,9] (σ:=Nat×Nat×List Tk×Value) (fun i g u=>g 5=i.2.2.2/\g 6=iV i.2.1/\i.2.1<=S.length/\S.length<i.2.1+i.1/\i.2.2.1.length<=i.2.1/\V3 (S.length+1) (Qm false S) (S.drop (Qm false S))=JbR i.2.2.1 (V3 i.1 i.2.1 (S.drop i.2.1))/\Own u 199 4 i.2.2.2 i.2.2.1.length (i.2.2.1.flatMap tkC)/\(∀k∈blks i.2.2.2,w.heap.size<=k)/\Fr [] w u) (fun i=>i.1) (S.length+1,Qm false S,[],zS)
  ⟨rfl,rfl,hsk,by simp only;omega,by simp,by simp only[JbR];split<;>simp_all,Own.nil _ _ _,by simp[blks,Value.ownBlock],Fr.refl _ _⟩ ?_
 rintro⟨f,at_,acc,v⟩ g u ⟨h5,h6,ha,hf1,hal,he,hown,hfr,hf⟩;simp only at h5 h6 ha hf1 hal he hown hfr;rw[Ja h5,Ja h6];by_cases hlt:at_<S.length
 case neg=>
  refine Yfc ?_;refine⟨_,_,_,rfl,hf,?_⟩;rw[he,Ci Yhn];obtain⟨q',rfl⟩:∃q,f=q+1:=⟨f-1,by omega⟩;have e0:V3 (q'+1) (at_:Int) []=.ok []:=by rw[V3];exact Cb rfl
  rw[e0];simp only[JbR,Ce];exact⟨hown,hfr,trivial,trivial⟩
 obtain⟨f',rfl⟩:∃q,f=q+1:=⟨f-1,by omega⟩;rw[Jdb hlt]at he;have hkl:=JhF (S.drop at_);rw[Dn]at hkl;refine rx ?_;refine Jg (endP S at_ u hlt hl) ?_;rintro u1 hf2;have hix:(bst S).data.toList[at_]?=some S[at_]:=by simp[bst,hlt]
 have hdr:=VT hlt;have hd3:Kq S[at_]=3->∀c∈(S.drop at_).take (Q9 (S.drop at_)),48<=c.toNat/\c.toNat<=57:=by rw[hdr];exact JkW
 have hcut:(bst S).extract at_ (at_+Q9 (S.drop at_))=bst ((S.drop at_).take (Q9 (S.drop at_))):=by rw[Jbl,FQ,Eo]
 obtain⟨k,hk⟩:=exq (Q9 (S.drop at_));obtain⟨T,hT⟩:=exq ((S.drop at_).take k);have hTl:T.length=k:=by rw[hT,C9,Dn];omega
 have hT0:k≠0->∃T',T=S[at_]::T':=by
  intro h0;obtain⟨q,hq⟩:∃q,k=q+1:=⟨k-1,by omega⟩;rw[hT,hq,hdr,DT];exact⟨_,rfl⟩
 rw[<-hk]at he hkl hd3 hcut;rw[<-hT]at he hd3 hcut;rw[<-hk];clear hT hk hdr;generalize S[at_]=b at hix hd3 hT0;by_cases hk0:k=0
 .subst hk0;rw[Cb rfl]at he;refine Yfc ?_;refine⟨_,_,_,rfl,hf.Jb hf2,?_⟩;rw[he];exact⟨rfl,rfl⟩
 rw[SH hk0]at he;obtain⟨T',rfl⟩:=hT0 hk0;rw[Ji9,Jkb]at he;refine rx ?_;have hTs:=VX (b::T');refine JbE (j:=at_) (k:=at_+k) rfl rfl rfl rfl rfl Yhn Yhn ?_;rw[hcut];refine rx ?_;refine JF [iV 3,iV at_,zI,.string (bst (b::T'))] rfl ?_;refine rx ?_;refine Jm (l:=[zI,zI,zI,zT]) rfl (fun u2 p hpe hb2 hf3 hs3=>?_);refine rx ?_;refine Jd (cs:=[iV 3,iV at_,zI,.string (bst (b::T'))]) rfl rfl hb2 Yhu rfl rfl (fun u3 hb3 hf4 hs4=>?_);refine Yff ?_;refine Jg (Vq b u3) ?_;rintro _ rfl;have hf13:Fr [] u u3:=(hf2.Jb hf3).trans hf4 (fun x hx=>.inr (by rw[Sv.1 hx,hpe];exact hf2.size));have hskk:=Nw false (S.drop (at_+k));rw[Dn]at hskk;have hat:at_+k+Qm false (S.drop (at_+k))<=S.length:=by omega
 have hp:u.heap.size<=p:=by rw[hpe];exact hf2.size
 by_cases hc1:Kq b=1
 .have hc3:¬Kq b=3:=by omega
  rw[Cb hc1,SH hc3,SG hc3,EZ,Ii,SN (show Kq b<=2 by omega),EM,hTl]at he;refine rx ?_;rw[show((Kq b:Nat):Int)-1=0 by omega]
  ((with_reducible apply Ji);exact rfl;(conv=>lhs;whnf);exact rfl;exact hb3;exact rfl)
  intro u4 hb4 hf5 hs5;have hf14:Fr [] u u4:=hf13.trans hf5 (fun x hx=>.inr Yjx);by_cases hbig:16<k
  .rw [Cb (SN hbig)]at he;exact Yck
  .rw [SH (by simpa using hbig)]at he;refine rx ?_;refine J3 [zI,iV at_,zI,.string (bst (b::T'))] rfl rfl rfl rfl (fun z1 ho1 hg1 hs1=>?_);refine rx ?_;refine JC (hown.tr0 ((hf14).Jb hg1)) rfl ho1.src rfl rfl Yhu Yhv Yhn (fun v' z2 hov hfv hbv _=>?_);refine rx ?_;refine Jg (JbC S (at_+k) z2 Yhn hl) ?_;rintro _ rfl;refine rx ?_;rw[ZK]at he;exact Jc (f',at_+k+Qm false (S.drop (at_+k)),acc++[⟨0,at_,0,b::T'⟩],v') Yhr ⟨rfl,rfl,hat,by simp only;omega,by simp only[Sm,Dx];omega,he,by simpa[tkC]using hov,fun q hq=>by
    rcases hbv q hq with h|h
    .exact hfr q h
    .have h1:=((hf.Jb (hf14)).Jb hg1).size;omega,((hf.Jb (hf14)).Jb hg1).trans hfv (fun q hq=>.inr (hfr q hq))⟩ Yhw
 by_cases hc2:Kq b=2
 .have hc3:¬Kq b=3:=by omega
  rw[SH hc1,Cb hc2,SH hc3,SG hc3,EZ,Ii,SN (show Kq b<=2 by omega),EM,hTl]at he;refine rx ?_;rw[show((Kq b:Nat):Int)-1=1 by omega]
  ((with_reducible apply Ji);exact rfl;(conv=>lhs;whnf);exact rfl;exact hb3;exact rfl)
  intro u4 hb4 hf5 hs5;have hf14:Fr [] u u4:=hf13.trans hf5 (fun x hx=>.inr Yjx);by_cases hbig:16<k
  .rw [Cb (SN hbig)]at he;exact Yck
  .rw [SH (by simpa using hbig)]at he;refine rx ?_;refine J3 [iV 1,iV at_,zI,.string (bst (b::T'))] rfl rfl rfl rfl (fun z1 ho1 hg1 hs1=>?_);refine rx ?_;refine JC (hown.tr0 ((hf14).Jb hg1)) rfl ho1.src rfl rfl Yhu Yhv Yhn (fun v' z2 hov hfv hbv _=>?_);refine rx ?_;refine Jg (JbC S (at_+k) z2 Yhn hl) ?_;rintro _ rfl;refine rx ?_;rw[ZK]at he;exact Jc (f',at_+k+Qm false (S.drop (at_+k)),acc++[⟨1,at_,0,b::T'⟩],v') Yhr ⟨rfl,rfl,hat,by simp only;omega,by simp only[Sm,Dx];omega,he,by simpa[tkC]using hov,fun q hq=>by
    rcases hbv q hq with h|h
    .exact hfr q h
    .have h1:=((hf.Jb (hf14)).Jb hg1).size;omega,((hf.Jb (hf14)).Jb hg1).trans hfv (fun q hq=>.inr (hfr q hq))⟩ Yhw
 by_cases hc3:Kq b=3
 .rw [SH hc1,SH hc2,Cb hc3,Cb hc3,SN hc3,EM,SG (show¬Kq b<=2 by omega),EZ,Ih]at he;have hdg:=hd3 hc3;obtain⟨hv0,hv1⟩:=JcS hdg;refine rx ?_;rw[show((Kq b:Nat):Int)-1=2 by omega]
  ((with_reducible apply Ji);exact rfl;(conv=>lhs;whnf);exact rfl;exact hb3;exact rfl)
  intro u4 hb4 hf5 hs5;have hf14:Fr [] u u4:=hf13.trans hf5 (fun x hx=>.inr Yjx);refine rx ?_;refine Jg (Jiq (b::T') u4 hdg Yhn) ?_;rintro _ rfl;generalize ML (b::T')=vv at he hv0 hv1 ⊢;refine rx ?_
  ((with_reducible apply Ji);exact rfl;(conv=>lhs;whnf);exact rfl;exact hb4;exact rfl)
  intro u5 hb5 hf6 hs6;have hf15:Fr [] u u5:=hf14.trans hf6 (fun x hx=>.inr Yjx);by_cases hbig:1099511627776<vv
  .rw [Cb (SN hbig)]at he;refine Yfc ?_;refine⟨_,_,_,rfl,hf.Jb (hf15),?_⟩;rw[he];exact⟨rfl,rfl⟩
  .rw [SH (by simpa using hbig)]at he;refine rx ?_;refine J3 [iV 2,iV at_,iV vv,.string (bst (b::T'))] rfl rfl rfl rfl (fun z1 ho1 hg1 hs1=>?_);refine rx ?_;refine JC (hown.tr0 ((hf15).Jb hg1)) rfl ho1.src rfl rfl Yhu Yhv Yhn (fun v' z2 hov hfv hbv _=>?_);refine rx ?_;refine Jg (JbC S (at_+k) z2 Yhn hl) ?_;rintro _ rfl;refine rx ?_;rw[ZK]at he;exact Jc (f',at_+k+Qm false (S.drop (at_+k)),acc++[⟨2,at_,vv,b::T'⟩],v') Yhr ⟨rfl,rfl,hat,by simp only;omega,by simp only[Sm,Dx];omega,he,by simpa[tkC]using hov,fun q hq=>by
    rcases hbv q hq with h|h
    .exact hfr q h
    .have h1:=((hf.Jb (hf15)).Jb hg1).size;omega,((hf.Jb (hf15)).Jb hg1).trans hfv (fun q hq=>.inr (hfr q hq))⟩ Yhw
 rw[SH hc1,SH hc2,SH hc3,SH hc3,SG hc3,EZ,Ii]at he;by_cases hc0:Kq b=0
 .rw [SN (show Kq b<=2 by omega),EM,hTl]at he;by_cases hbig:16<k
  .rw [Cb (SN hbig)]at he;refine Yfc ?_;refine⟨_,_,_,rfl,hf.Jb (hf13),?_⟩;rw[he];exact⟨rfl,rfl⟩
  .rw [SH (by simpa using hbig)]at he;exact Yr
 .rw [SG (show¬Kq b<=2 by omega),EZ,SH Yhs]at he;exact Yr
end Go.Proofs.YtggmccicdhnkgaaGreat
