/-
 The reference's lexer:blanks,values,the ends of tokens.
-/
import Derived.Test.YtggmccicdhnkgaaGreatVWr
import Derived.Test.YtggmccicdhnkgaaGreatVPh
set_option linter.all false
set_option maxHeartbeats 64000000
namespace Go.Proofs.YtggmccicdhnkgaaGreat
open Go.Proofs.Tryz
open Go.Rf Go.RowKit
section
attribute [local irreducible] Code.wp wpList Exit.then Exit.inBlock bodyPost A Calls execOp Addr.add
theorem Jge(x:Value)(bs:List Int)(m:Nat)(w:World)(hx:Src w x bs.length (bs.map (.int .i64)))(hm:m<=1000000):
 Calls prog 81 #[x,iV m] w fun e w'=>∃v',e=.returned v'/\bx w' 3 1 v' (bs.take m).length ((bs.take m).map (.int .i64))/\Fr [] w w'/\(∀k∈ag v',w.heap.size<=k):=by
 obtain⟨ao,c,wP,xG,yK,iez⟩:=id hx;subst wP;refine enter func81 rfl ntmps81 rfl ?_;refine rn ?_;refine Jh7 rfl rfl (show _=((min m bs.length:Nat):Int) by split<;>omega) ?_;refine ND 0 (min m bs.length) hx rfl ap rfl ⟨_,rfl⟩ (SL _) ab (fun pS c' oV _ _=>?_);simp only[Dq,EJ,D9,<-List.map_take]at oV ⊢;refine JC (bx.nil _ _ _) rfl oV rfl ap (Zp _ _) dt ab (fun v2 w2 gu aq cu xw=>?_);refine px ?_;have e:bs.take (min m bs.length)=bs.take m:=by
  rcases Nat.le_total m bs.length with h|h
  .rw [Hw h]
  .rw [Nat.min_eq_right h,Dk,SQ h]
 refine⟨v2,rfl,?_,?_,?_⟩
 .have e2:(bs.take m).length=0+min m bs.length:=by simp
  rw[e2,<-e];simpa using gu
 .exact aq.mono (fun x hx=>by simp[ag,Value.ownBlock]at hx)
 .intro k hk;rcases cu k hk with h|h
  .simp [ag,Value.ownBlock]at h
  .exact h
theorem JaH{xs ys:List Int}{i:Nat}(h:xs.take i=ys.take i)(hi:i<xs.length)(hj:i<ys.length)(e:xs[i]=ys[i]):xs.take (i+1)=ys.take (i+1):=by
 rw[SK hi,SK hj,h,e]
theorem Jeo(x y:Value)(xs ys:List Int)(w:World)(hx:Src w x xs.length (xs.map (.int .u8)))(hy:Src w y ys.length (ys.map (.int .u8)))(hl:xs.length<=1000000000000):
 Calls prog 30 #[x,y] w fun e w'=>e=.returned (.bool (decide (xs=ys)))/\Fr [] w w':=by
 obtain⟨ao,c,wP,_⟩:=id hx;obtain⟨bo,c2,hye,_⟩:=id hy;subst wP hye;refine enter func30 rfl ntmps30 rfl ?_;refine rn ?_;refine Vd rfl rfl (fun h=>?_) (fun h=>?_)
 .refine rn ?_;refine gZ ?_;refine⟨?_,Fr.refl _ _⟩;rw[SG];intro e;subst e;exact h rfl
 .refine rn ?_;have hlen:xs.length=ys.length:=by omega
  refine Jbg (σ:=Nat) (fun i g u=>g 0=.slice ao xs.length c/\g 1=.slice bo ys.length c2/\g 5=iV i/\i<=xs.length/\xs.take i=ys.take i/\Fr [] w u)
   (fun i=>xs.length-i) 0 ⟨rfl,rfl,rfl,SL _,rfl,Fr.refl _ _⟩ ?_
  rintro i g u ⟨h0,h1,h5,hi,yk,fv⟩;rw[Ja h0,Ja h1,Ja h5];refine rn ?_;refine QZ rfl rfl (fun aC=>?_) (fun hJ=>?_)
  .have zH:i<xs.length:=by omega
   have zu:i<ys.length:=by omega
   obtain⟨ad,rfl,zF⟩:=KO (j:=i) (u:=.int .u8 xs[i]) hx (by simp[zH]);obtain⟨bd,rfl,Rw⟩:=KO (j:=i) (u:=.int .u8 ys[i]) hy (by simp[zu]);have ha:=fun(z:World) (hz:Fr [] u z)=>Vs (hx.tr0 (fv.Jb hz)) (j:=i) (u:=.int .u8 xs[i]) (by simp[zH])
   have hb:=fun(z:World) (hz:Fr [] u z)=>Vs (hy.tr0 (fv.Jb hz)) (j:=i) (u:=.int .u8 ys[i]) (by simp[zu])
   refine rn ?_;refine JE (fun z=>Fr [] u z) az rfl ?_;have hS:Fr [] u u.drew:=Fr.drew _ _;refine JhI 0 hS ?_;refine JhI 1 hS ?_;refine Kw 2 hS ?_ (aw:=by(intro u hu;exact Gl rfl rfl rfl zH rfl));refine Kw 3 hS ?_ (aw:=by(intro u hu;exact J7 rfl (ha _ hu)));refine JhI 4 hS ?_;refine JhI 5 hS ?_;refine Kw 6 hS ?_ (aw:=by(intro u hu;exact Gl rfl rfl rfl zu rfl));refine Kw 7 hS ?_ (aw:=by(intro u hu;exact J7 rfl (hb _ hu)));by_cases he:xs[i]=ys[i]
   . (apply XU (i:=8);exact rfl;kernel_rfl;kernel_rfl;kernel_rfl;(intro u hu;exact WZ rfl rfl (SG (by simpa using he)));exact hS)
     refine gK ?_;refine rn ?_;exact JaR (i+1) ⟨rfl,rfl,rfl,by omega,JaH yk zH zu he,fv.Jb hS⟩ ab
   . (apply XU (i:=8);exact rfl;kernel_rfl;kernel_rfl;kernel_rfl;(intro u hu;exact WZ rfl rfl (SN he));exact hS)
     refine gK ?_;refine px ?_;refine⟨?_,fv.Jb hS⟩;rw[SG];intro e;subst e;exact he rfl
  .refine rn ?_;refine gZ ?_;refine⟨?_,fv⟩;rw[SN];have h1:xs.take i=xs:=SQ ab;have h2:ys.take i=ys:=SQ ab;rw[<-h1,<-h2,yk]
end
section
variable{e:Int}{p:Nat}{v':Value}{w w':World}
attribute [local irreducible] Code.wp wpList Exit.then Exit.inBlock bodyPost A Calls execOp Addr.add
def Sub(v v':Value):Prop:=∀lC n' c',v'=.slice (some lC) n' c'->∃ad n c,v=.slice (some ad) n c/\lC.block=ad.block
theorem Sub.refl(v:Value):Sub v v:=fun ad n c h=>⟨ad,n,c,h,rfl⟩
theorem Sub.trans{a b c:Value}(h:Sub a b)(k:Sub b c):Sub a c:=fun ad n cc e=>by
 obtain⟨ad1,n1,c1,e1,h1⟩:=k ad n cc e;obtain⟨tW,n2,c2,e2,h2⟩:=h ad1 n1 c1 e1;exact⟨tW,n2,c2,e2,h1.trans h2⟩
theorem Sub.off{v:Value}{ys zL:List Value}{S:List Nat}(h:Sub v v')(hl:0<zL.length->0<ys.length)(ho:mn v ys S):mn v' zL S:=fun ad n c e hp=>by
 obtain⟨ad1,n1,c1,e1,h1⟩:=h ad n c e;rw[h1];exact ho ad1 n1 c1 e1 (hl hp)
def qJ(w:World)(p:Nat)(v:Value)(bs:List Int)(e:Int):Prop:=
 aG w p [v,iV e] 147/\Src w v bs.length (bs.map (.int .u8))/\mn v (bs.map (.int .u8)) [p]/\fT bs
def rJ(p:Nat)(w:World)(v:Value)(tz:List Int)(e':Int)(w':World):Prop:=∃v',qJ w' p v' tz e'/\Fr [p] w w'/\Sub v v'
theorem rJ.trans{w1 w2:World}{v v1:Value}{yO:List Int}{e2:Int}(hf:Fr [p] w w1)(hs:Sub v v1)(h:rJ p w1 v1 yO e2 w2):rJ p w v yO e2 w2:=by
 obtain⟨v2,a,b,c⟩:=h;exact⟨v2,a,hf.trans b (fun x hx=>.inl hx),hs.trans c⟩
theorem qJ.src{v:Value}{bs:List Int}(h:qJ w p v bs e):Src w v bs.length (bs.map (.int .u8)):=h.2.1
theorem qJ.JnE{v:Value}{bs:List Int}{e':Int}(h:qJ w p v bs e)(hb:aG w' p [v,iV e'] 147)(hf:Fr [p] w w'):rJ p w v bs e' w':=
 ⟨v,⟨hb,h.2.1.tr hf h.2.2.1,h.2.2.1,h.2.2.2⟩,hf,Sub.refl v⟩
theorem qJ.Jny{v:Value}{bs tz:List Int}(h:qJ w p v bs e)(hs:Src w v' tz.length (tz.map (.int .u8)))(mC:Sub v v')(hl:tz.length<=bs.length)(hB:fT tz)(hb:aG w' p [v',iV e] 147)(hf:Fr [p] w w'):rJ p w v tz e w':=by
 have ho:mn v' (tz.map (.int .u8)) [p]:=mC.off (ys:=bs.map (.int .u8)) aZ h.2.2.1;exact⟨v',⟨hb,hs.tr hf ho,ho,hB⟩,hf,mC⟩
theorem JmH(p:Nat)(v:Value)(bs:List Int)(e x:Int)(w:World)(hr:qJ w p v bs e):
 Calls prog 109 #[.pointer (some ⟨p,0,none⟩),iV x] w fun r w'=>r=.returned (.tuple #[])/\rJ p w v bs (if e=0 then x else e) w':=by
 refine enter func109 rfl ntmps109 rfl ?_;refine PX ?_;refine Vg rfl rfl (fun h=>?_) (fun h=>?_)
 .refine rn ?_
  ((with_reducible apply Ji);exact rfl;(conv=>lhs;whnf);exact rfl;exact hr.1;exact rfl)
  intro w1 bJ aj _;refine rn ?_;refine WI rfl ⟨rfl,?_⟩;rw[Cb h];exact hr.JnE bJ aj
 .refine rn ?_;refine WI rfl ⟨rfl,?_⟩;rw[SH h];exact⟨v,hr,Fr.refl _ _,Sub.refl v⟩
theorem Jng(p:Nat)(v:Value)(bs:List Int)(e:Int)(w:World)(hr:qJ w p v bs e):
 Calls prog 74 #[.pointer (some ⟨p,0,none⟩)] w fun r w'=>r=.returned (.int .u64 (j2 bs e).1)/\rJ p w v (j2 bs e).2.1 (j2 bs e).2.2 w':=by
 obtain⟨ao,c,zm,_⟩:=id hr.src;subst zm;refine enter func74 rfl ntmps74 rfl ?_;refine PX ?_;refine Vd rfl rfl (fun h=>?_) (fun h=>?_)
 .refine rn ?_;refine gZ ?_;rw[j2,Cb h];exact⟨rfl,_,hr,Fr.refl _ _,Sub.refl _⟩
 .refine rn ?_;rw[j2,SH mE];subst h;refine Jbg (σ:=Nat×Nat) (fun s g u=>g 0=.pointer (some ⟨p,0,none⟩)/\g 3=.int .u64 s.2/\g 4=iV s.1/\s.1<=9/\s.1<=bs.length/\s.2<128^s.1/\u=w/\nC bs 0 0=nC (bs.drop s.1) s.1 s.2)
   (fun s=>10-s.1) (0,0) ⟨rfl,rfl,rfl,by omega,by simp,by simp,rfl,by simp⟩ ?_
  rintro⟨i,acc⟩ g u ⟨h0,h3,h4,hi9,hib,fw,rfl,sg⟩;simp only at h3 h4 hi9 hib fw sg;rw[Ja h0,Ja h3,Ja h4];refine PX ?_;refine rn ?_;refine Vf rfl rfl (fun hJ=>?_) (fun aC=>?_)
  .have cH:bs.drop i=[]:=Oe ab;rw[sg,cH];refine rn ?_;refine Jg (JmH p _ bs 0 3 u hr) ?_;rintro w1 bh;refine px ?_;exact⟨rfl,by simpa[nC]using bh⟩
  .have qX:i<bs.length:=by omega
   have ph:=hr.2.2.2 bs[i] ap;obtain⟨ad,rfl,bV⟩:=KO (j:=i) (u:=.int .u8 bs[i]) hr.src (by simp[qX]);have cH:bs.drop i=bs[i]::bs.drop (i+1):=Dh qX;rw[cH]at sg;generalize bs[i]=b at*;refine PX ?_;refine rn ?_;refine BZ rfl rfl rfl qX rfl ?_;refine KW rfl bV ?_;refine rn ?_;refine JjD (fun g' u'=>u'=u/\g' 0=.pointer (some ⟨p,0,none⟩)/\g' 3=.int .u64 acc/\g' 4=iV i/\g' 5=.int .u8 b/\g' 42=.bool (decide (i=9/\1<b\/0<i/\b=0))) ?_ ?_
   .by_cases h9:i=9
    .by_cases bJ:1<b
     .refine rn ?_;exact Ymf
     .by_cases ln:b=0
      .refine rn ?_;exact Ymf
      .refine rn ?_;exact Yme
    .by_cases lp:0<i
     .by_cases ln:b=0
      .refine rn ?_;exact Ymf
      .refine rn ?_;exact Yme
     .refine rn ?_;exact Yme
   .rintro g' _ ⟨rfl,k0,k3,k4,k5,k42⟩;by_cases fQ:i=9/\1<b\/0<i/\b=0
    .rw [SN fQ]at k42;rw[Ja k0,Ja k3,Ja k4,Ja k5,Ja k42];rw[sg,nC,Cb fQ];refine rn ?_;refine Jg (JmH p _ bs 0 2 _ hr) ?_;rintro w1 bh;refine px ?_;exact⟨rfl,by simpa using bh⟩
    .rw [SG fQ]at k42;rw[Ja k0,Ja k3,Ja k4,Ja k5,Ja k42];obtain⟨cN,hcN⟩:∃cN:Nat,b%128=(cN:Int):=⟨(b%128).toNat,by omega⟩;have hcE:(b%128).toNat=cN:=by omega
     have hc:cN<128:=by omega
     have h9:i=9->cN<=1:=by omega
     refine rn ?_;refine Jne rfl rfl (show _=(cN:Int) by rw[Jnu ph.1 ph.2,hcN]) ?_;refine rn ?_;refine Jh6 rfl rfl ab (JnD hi9 hc h9) ?_;refine Jkz rfl rfl (Jno hi9 hc h9 fw) ?_;refine rn ?_;by_cases P9:b<128
     .rw [sg,nC,SH fQ,Cb P9,hcE];refine PX ?_;refine rn ?_;refine ND (i+1) bs.length hr.src rfl ap ⟨.i64,rfl⟩ rfl ab ab (fun pS c' oV hblk _=>?_);refine rn ?_
      ((with_reducible apply Ji);exact rfl;(conv=>lhs;whnf);exact rfl;exact hr.1;exact rfl)
      intro w1 bJ aj _;refine px ?_;refine⟨rfl,hr.Jny (v':=.slice pS (bs.length-(i+1)) c') ?_ ?_ ?_ ?_ bJ aj⟩
      .rw [Dq,Dq,SQ ap,<-List.map_drop]at oV;simpa using oV
      .intro lC n' c'' e;simp only[Value.slice.injEq]at e;obtain⟨ad0,e0,hbk⟩:=hblk lC e.1;simp only[Sj]at e0;exact⟨ad,_,_,rfl,by rw[hbk,e0]⟩
      .simp
      .intro x hx;exact hr.2.2.2 x (IG hx)
     .refine rn ?_;refine JaR (i+1,acc+cN*128^i) ⟨rfl,rfl,rfl,by simp only;omega,by simp only;omega,?_,rfl,?_⟩ eM
      .simp only;have:cN*128^i<=127*128^i:=Em _ ab;rw[Oa];omega
      .simp only;rw[sg,nC,SH fQ,SH P9,hcE]
theorem JnF(p:Nat)(v:Value)(bs:List Int)(e:Int)(w:World)(hr:qJ w p v bs e):
 Calls prog 34 #[.pointer (some ⟨p,0,none⟩)] w fun r w'=>r=.returned (iV (qC bs e).1)/\rJ p w v (qC bs e).2.1 (qC bs e).2.2 w':=by
 have hu:=(JlN (e:=e) hr.2.2.2).1;refine enter func34 rfl ntmps34 rfl ?_;refine rn ?_;refine Jg (Jng p v bs e w hr) ?_;rintro w1 bh;unfold qC;generalize (j2 bs e).1=u at*;refine rn ?_;refine Jfk rfl rfl ab (JnC u) ?_;refine rn ?_;refine Jne rfl rfl (ieb hu) ?_;refine rn ?_;by_cases h:u%2=1
 .rw [h];refine Jh5 rfl rfl (Jnv ab ab) ?_;refine px ?_;exact⟨by rw[back,Cb h],bh⟩
 .have h0:u%2=0:=by omega
  rw[h0];refine Jh5 rfl rfl (Jnw ab ab) ?_;refine px ?_;exact⟨by rw[back,SH h],bh⟩
theorem JnG(p:Nat)(v:Value)(bs:List Int)(e:Int)(w:World)(hr:qJ w p v bs e):
 Calls prog 76 #[.pointer (some ⟨p,0,none⟩)] w fun r w'=>r=.returned (iV (th bs e))/\w=w':=by
 obtain⟨ao,c,zm,_⟩:=id hr.src;subst zm;refine enter func76 rfl ntmps76 rfl ?_;refine PX ?_;refine Vd rfl rfl (fun h=>?_) (fun h=>?_)
 .refine rn ?_;refine VH rfl hr.1 rfl ?_;refine px ?_;exact⟨by rw[th,Cb h],rfl⟩
 .refine rn ?_;refine VH rfl hr.1 rfl ?_;refine rn ?_;refine Ve rfl rfl (fun h2=>?_) (fun h2=>?_)
  .refine rn ?_;refine gZ ?_;exact⟨by rw[th,SH mE,Cb ab],rfl⟩
  .refine rn ?_;refine gZ ?_;exact⟨by rw[th,SH mE,SH ab],rfl⟩
theorem Jmg{ao pS:Option Addr}{m c m' c':Nat}(h:∀lC,pS=some lC->∃ad,ao=some ad/\lC.block=ad.block):Sub (.slice ao m c) (.slice pS m' c'):=by
 intro lC n' c'' e;simp only[Value.slice.injEq]at e;obtain⟨ad0,e0,hbk⟩:=h lC e.1;exact⟨ad0,_,_,by rw[e0],hbk⟩
theorem Jm3(p:Nat)(v:Value)(bs:List Int)(e:Int)(w:World)(hr:qJ w p v bs e)(hl:bs.length<=1000000000000):
 Calls prog 73 #[.pointer (some ⟨p,0,none⟩)] w fun r w'=>r=.returned (iV (lf bs e).1)/\rJ p w v (lf bs e).2.1 (lf bs e).2.2 w':=by
 have hu:=JlN (e:=e) hr.2.2.2;refine enter func73 rfl ntmps73 rfl ?_;refine rn ?_;refine Jg (Jng p v bs e w hr) ?_;rintro w1 ⟨v1,eN,aj,nh⟩;obtain⟨ao,c,zm,_⟩:=id eN.src;subst zm;unfold lf;rcases hq:j2 bs e with⟨u,l,x⟩
 rw[hq]at eN hu nh;simp only at eN hu nh ⊢;refine rn ?_;refine VH rfl eN.1 rfl ?_;refine Vg rfl rfl (fun h=>?_) (fun h=>?_)
 .subst h;rw[SH ap];refine rn ?_;refine VH rfl eN.1 rfl ?_;refine rn ?_;refine Ve rfl rfl (fun h2=>?_) (fun h2=>?_)
  .refine rn ?_;refine Jg (JmH p _ l 0 3 w1 eN) ?_;rintro w2 cz;obtain⟨v2,ea,aq,ibN⟩:=cz;rw[Cb rfl]at ea;refine rn ?_;refine VH rfl ea.1 rfl ?_;refine px ?_;rw[Cb ab];exact⟨rfl,rJ.trans aj nh ⟨v2,ea,aq,ibN⟩⟩
  .refine rn ?_;refine VH rfl eN.1 rfl ?_;refine px ?_;rw[SH ab];exact⟨rfl,_,eN,aj,nh⟩
 .rw [Cb h];refine rn ?_;refine VH rfl eN.1 rfl ?_;refine px ?_;exact⟨rfl,_,eN,aj,nh⟩
theorem JnA(p:Nat)(v:Value)(bs:List Int)(e:Int)(n:Nat)(w:World)(hr:qJ w p v bs e)(hn:n<=bs.length):
 Calls prog 72 #[.pointer (some ⟨p,0,none⟩),iV n] w fun r w'=>∃ao c,r=.returned (.slice ao n c)/\Src w' (.slice ao n c) n ((bs.take n).map (.int .u8))/\Sub v (.slice ao n c)/\rJ p w v (bs.drop n) e w':=by
 obtain⟨ao,c,zm,_⟩:=id hr.src;subst zm;refine enter func72 rfl ntmps72 rfl ?_;refine PX ?_;refine rn ?_;refine ND 0 n hr.src rfl ap rfl ⟨.i64,rfl⟩ (SL _) hn (fun ek c1 P' Ta _=>?_);rw[EJ]at P' ⊢;refine PX ?_;refine rn ?_;refine ND n bs.length hr.src rfl ap ⟨.i64,rfl⟩ rfl hn (SX _) (fun gS c2 Tb ibO _=>?_);refine rn ?_
 ((with_reducible apply Ji);exact rfl;(conv=>lhs;whnf);exact rfl;exact hr.1;exact rfl)
 intro w1 bJ aj _;have ai:rJ p w (.slice ao bs.length c) (bs.drop n) e w1:=by
  refine hr.Jny ?_ (Jmg ibO) ap (hr.2.2.2.drop n) bJ aj;rw[Dq,Dq,SQ ap,<-List.map_drop]at Tb;simpa using Tb
 refine px ?_;have gI:Src w (.slice ek n c1) n ((bs.take n).map (.int .u8)):=by simpa[<-List.map_take]using P'
 exact⟨ek,c1,rfl,gI.tr aj ((Jmg Ta:Sub (.slice ao bs.length c) _).off (ys:=bs.map (.int .u8)) aZ hr.2.2.1),Jmg Ta,ai⟩
theorem Jnz(p:Nat)(v:Value)(bs:List Int)(e:Int)(w:World)(hr:qJ w p v bs e)(hl:bs.length<=1000000000000):
 Calls prog 33 #[.pointer (some ⟨p,0,none⟩)] w fun r w'=>r=.returned (.string (strOf (pu bs e).1))/\rJ p w v (pu bs e).2.1 (pu bs e).2.2 w':=by
 have hn:=JmF (e:=e) hr.2.2.2;refine enter func33 rfl ntmps33 rfl ?_;refine rn ?_;refine Jg (Jm3 p v bs e w hr ab) ?_;rintro w1 ⟨v1,eN,aj,nh⟩;refine Y9 (JnA p v1 _ _ (lf bs e).1 w1 eN hn.1) ?_;rintro ao c w2 ⟨cz,_,iex⟩;refine JmW cz rfl aZ ?_;refine px ?_;exact⟨rfl,rJ.trans aj nh iex⟩
theorem Jnx(x:Value)(bs:List Int)(w:World)(hx:Src w x bs.length (bs.map (.int .u8)))(hB:fT bs)(hl:bs.length<=1000000000000):
 Calls prog 32 #[x] w fun r w'=>∃p v',r=.returned (.pointer (some ⟨p,0,none⟩))/\qJ w' p v' bs 0/\Fr [] w w'/\w.heap.size<=p/\(∀k∈ag v',w.heap.size<=k)/\bx w' 5 1 v' bs.length (bs.map (.int .u8)):=by
 obtain⟨ao,c,zm,_⟩:=id hx;subst zm;refine enter func32 rfl ntmps32 rfl ?_;refine rn ?_;refine Qr (fun w0 ho0 gL mF=>?_);refine rn ?_;refine JC ho0 rfl (hx.tr0 gL) rfl ap (Zp _ _) dt ab (fun v1 w1 ef aj ee _=>?_);obtain⟨ek,c1,iQ⟩:=ef.slice;subst iQ;refine JF [.slice ek (0+bs.length) c1,zI] rfl ?_;refine Gg rfl rfl (fun w2 dN aq cz=>?_);refine px ?_;have iey:∀k∈ag (.slice ek (0+bs.length) c1),w.heap.size<=k:=fun k hk=>by
  rcases ee k hk with h|h
  .simp [ag,Value.ownBlock]at h;omega
  .omega
 have ln:ag (.slice (some ⟨w.heap.size,0,none⟩) 0 0)=[w.heap.size]:=rfl;rw[ln]at aj;have jX:=gL.size;have j0:=aj.size;have gu:=ef.tr0 aq;have pw:bx w2 5 1 (.slice ek (0+bs.length) c1) bs.length (bs.map (.int .u8)):=by simpa using gu
 have py:mn (.slice ek (0+bs.length) c1) (bs.map (.int .u8)) [w1.heap.size]:=by
  have:=ef.src.off (S:=[w1.heap.size]) (by intro k hk;simp at hk;omega);simpa using this
 exact⟨w1.heap.size,.slice ek (0+bs.length) c1,rfl,⟨dN,pw.src,py,hB⟩,(gL.trans aj (by intro k hk;simp at hk;right;omega)).Jb aq,by omega,iey,pw⟩
end
end Go.Proofs.YtggmccicdhnkgaaGreat
namespace Go.Rf
variable{m:Nat}
theorem Jmz(n:Nat):fT (uv n):=by
 induction n using Nat.strongRecOn with
 |_ n ih=>
  by_cases h:n<128
  .rw [P2 h];intro b hb;simp at hb;omega
  .rw [YR ab];intro b hb;rcases SC.1 hb with rfl|hb
   .omega
   .exact ih (n/128) ab b hb
theorem fT.append{xs ys:List Int}(h:fT xs)(k:fT ys):fT (xs++ys):=fun b hb=>by
 rcases SE.1 hb with hb|hb
 .exact h b hb
 .exact k b hb
theorem vI(n:Int):fT (iv n):=Jmz _
theorem Jms{bs:List Int}(h:fT bs):fT (raw bs):=(Jmz _).append h
theorem Jnm(m:Nat):∀(i acc:Nat) (rest:List Int),i<=9->m*128^i<18446744073709551616->(0<i->m≠0)->nC (uv m++rest) i acc=.ok (acc+m*128^i,rest):=by
 induction m using Nat.strongRecOn with
 |_ m ih=>
  intro i acc rest hi kN h0;have h9:i=9->m<=1:=by
   intro e;subst e;have e:(128:Nat)^9=9223372036854775808:=by decide
   rw[e]at kN;omega
  by_cases h:m<128
  .rw [P2 h,IB,nC,SH ab,Cb ab];have:((m:Int)%128).toNat=m:=by omega
   rw[this]
  .rw [YR ab,CQ,nC,SH ab,SH ab];have e1:(((m%128+128:Nat):Int)%128).toNat=m%128:=by omega
   have e2:m%128*128^i+m/128*128^(i+1)=m*128^i:=by
    rw[Oa,<-Nat.mul_assoc,Nat.mul_right_comm,<-Nat.add_mul]
    congr 1
    omega
   rw[e1,ih (m/128) ab (i+1) _ rest ab ab (fun _=>by omega),Nat.add_assoc,e2]
theorem JmE(h:m<18446744073709551616)(rest:List Int):j2 (uv m++rest) 0=(m,rest,0):=by
 rw[j2,SH ap,Jnm m 0 0 rest ab mE ab];simp
theorem Jnd(n:Int):back (zz n)=n:=by
 unfold back zz
 split<;>split<;>omega
theorem Jnn{n:Int}(h1: -9223372036854775808<=n)(h2:n<=9223372036854775807)(rest:List Int):qC (iv n++rest) 0=(n,rest,0):=by
 rw[qC,iv,JmE (JeV h1 h2),Jnd]
theorem Jnl{rest:List Int}(h:m<18446744073709551616)(hl:m<=rest.length):lf (uv m++rest) 0=(m,rest,0):=by
 simp only[lf,JmE h];rw[SH ap,SH ab]
theorem JmY{bs:List Int}(h:bs.length<18446744073709551616)(rest:List Int):pu (raw bs++rest) 0=(bs,rest,0):=by
 simp only[pu,raw,List.append_assoc];rw[Jnl h ap];simp
end Go.Rf
namespace Go.Proofs.YtggmccicdhnkgaaGreat
open Go.Proofs.Tryz
open Go.Rf Go.RowKit
attribute [local irreducible] Code.wp wpList Exit.then Exit.inBlock bodyPost A Calls execOp Addr.add
def Out(w w':World)(v':Value)(bs:List Int):Prop:=bx w' 5 1 v' bs.length (bs.map (.int .u8))/\Fr [] w w'/\∀k∈ag v',w.heap.size<=k
theorem Out.nil(w:World):Out w w (zS) []:=⟨bx.nil _ _ _,Fr.refl _ _,by simp[ag,Value.ownBlock]⟩
theorem Out.app{w w1 w2:World}{v v2:Value}{bs cs:List Int}(h:Out w w1 v bs){u:World}(hf:Fr [] w1 u)(ho:bx w2 5 1 v2 (bs.length+cs.length) (bs.map (.int .u8)++cs.map (.int .u8)))(aq:Fr (ag v) u w2)
 (hk:∀b∈ag v2,b∈ag v\/u.heap.size<=b):Out w w2 v2 (bs++cs):=by
 obtain⟨h1,h2,h3⟩:=h;have z1:=h2.size;have z2:=hf.size;refine⟨by simpa using ho,(h2.Jb hf).trans aq (fun k nA=>.inr (h3 k nA)),fun k nA=>?_⟩;rcases hk k nA with h|h
 .exact h3 k h
 .omega
theorem JdC(n:Nat)(w:World)(hn:n<18446744073709551616):
 Calls prog 159 #[.int .u64 n] w fun e w'=>∃v',e=.returned v'/\Out w w' v' (uv n):=by
 refine enter func159 rfl ntmps159 rfl ?_;refine rn ?_;have Aw:=Xw n hn;refine Jh 4 [0,3] (σ:=Nat×Value×List Int) (fun s g u=>g 0=.int .u64 s.1/\g 3=s.2.1/\s.1<18446744073709551616/\uv n=s.2.2++uv s.1/\Out w u s.2.1 s.2.2)
  (fun s=>s.1) (n,zS,[]) ⟨rfl,rfl,hn,rfl,Out.nil w⟩ ?_
 rintro⟨m,vo,bo⟩ g u ⟨h0,h3,hm,sY,fp⟩;simp only at h0 h3 hm sY fp;rw[Ja h3,Ja h0];have hlen:bo.length<=10:=by
  have:=CZ List.length sY;simp only[Sm]at this;omega
 refine rn ?_;refine Ve rfl rfl (fun h=>?_) (fun h=>?_)
 .refine rn ?_
  ((with_reducible apply QO);(conv=>lhs;whnf);exact rfl)
  intro w1 ef aj bh;refine JC (fp.1.tr0 aj) rfl ef.src rfl rfl dQ dt ab (fun v2 w2 gu aq cu _=>?_);have ec:(128+(m:Int)%128)=((m%128+128:Nat):Int):=by omega
  rw[ec]at gu;refine rn ?_;refine Jc (m/128,v2,bo++[((m%128+128:Nat):Int)]) la ⟨rfl,rfl,by simp only;omega,?_,fp.app (cs:=[_]) aj gu aq cu⟩ eM;simp only;rw[sY,YR ab];simp
 .refine rn ?_
  ((with_reducible apply QO);(conv=>lhs;whnf);exact rfl)
  intro w1 ef aj bh;refine JC (fp.1.tr0 aj) rfl ef.src rfl rfl dQ dt ab (fun v2 w2 gu aq cu _=>?_);refine px ?_;refine⟨v2,rfl,?_⟩;rw[sY,P2 ab];exact fp.app (cs:=[_]) aj gu aq cu
theorem Jes(n:Int)(w:World)(hn:VE n):
 Calls prog 160 #[iV n] w fun e w'=>e=.returned (.int .u64 (zz n))/\w=w':=by
 obtain⟨h1,h2⟩:=hn;refine enter func160 rfl ntmps160 rfl ?_;by_cases hz:n<0
 .refine rn ?_;refine gZ ?_;exact⟨by unfold zz;rw[Cb hz];congr 2;omega,rfl⟩
 .refine rn ?_;refine gZ ?_;exact⟨by unfold zz;rw[SH hz];congr 2;omega,rfl⟩
theorem XO(n:Int)(w:World)(hn:VE n):
 Calls prog 106 #[iV n] w fun e w'=>∃v',e=.returned v'/\Out w w' v' (iv n):=by
 refine enter func106 rfl ntmps106 rfl ?_;refine rn ?_;refine Jg (Jes n w hn) ?_;rintro _ rfl;refine Jl (JdC (zz n) w (JeV hn.1 hn.2)) ?_;rintro v1 w1 h1;refine px ?_;exact⟨v1,rfl,h1⟩
theorem Jfu(x:Value)(bs:List Int)(w:World)(hx:Src w x bs.length (bs.map (.int .u8)))(hl:bs.length<=1000000000):
 Calls prog 105 #[x] w fun e w'=>∃v',e=.returned v'/\Out w w' v' (raw bs):=by
 obtain⟨ao,c,wP,_⟩:=id hx;subst wP;refine enter func105 rfl ntmps105 rfl ?_;refine rn ?_;refine Jl (JdC bs.length w ab) ?_;rintro v1 w1 h1;have Aw:=Xw bs.length ab;refine rn ?_;refine JC h1.1 rfl (hx.tr0 h1.2.1) rfl ap (Zp _ _) dt ab (fun v2 w2 gu aq cu _=>?_);refine px ?_;exact⟨v2,rfl,h1.app (Fr.refl _ _) gu aq cu⟩
end Go.Proofs.YtggmccicdhnkgaaGreat
namespace Go.Rf
open Go.RowKit
variable{af:Array Edge}{f:Env}{Q:Exit->Act->World->Prop}{rest:List Oper}{d n t:Nat}{x y:Operand}{P:Program}{ps:String}{w:World}
theorem LZ{D:Dfs}{ops:Array Oper}{ty:TypeId}{t2:Nat}
 {a b:Bs} (hx:ev n f x=.string (aA a)) (hy:ev n f y=.string (aA b)) (h:wpList P ops Q rest (A n (bz f d (.string (aA (a++b))))) w) (hl:a.length+b.length<=1000000000000):
 wpList P ops Q (⟨some d,.binOp .add t x y t2,ty,ps,af,none⟩::rest) (A n f) w:=by
 refine JR (v:=.string (aA (a++b))) (w':=w) ?_ h;have h1:(aA a).size=a.length:=by simp[aA,ByteArray.size]
 have h2:(aA b).size=b.length:=by simp[aA,ByteArray.size]
 simp only[execOp,hx,hy];simp[eqGuard,binOp,Op.stringOp,Jeg,h1,h2];omega
theorem JbE{D:Dfs}{ops:Array Oper}{ty:TypeId}{z:Operand}
 {s:ByteArray} {j k:Nat} {kj kk:IntKind} [S:StrT P t] (hx:ev n f x=.string s) {a b:Int} (hy:ev n f y=.int kj a) (hz:ev n f z=.int kk b) (ha:a=(j:Int)) (hb:b=(k:Int)) (R7:j<=k) (hk:k<=s.size) (h:wpList P ops Q rest (A n (bz f d (.string (s.extract j k)))) w):
 wpList P ops Q (⟨some d,.slice t x (some y) (some z) none,ty,ps,af,none⟩::rest) (A n f) w:=by
 subst ha hb;refine JR (v:=.string (s.extract j k)) (w':=w) ?_ h;have h1:(0:Int)<=(j:Int):=by omega
 have h2:(0:Int)<=(k:Int):=by omega
 simp[execOp,hx,hy,hz,Instr.sliceAt,Instr.slice,run_underlying S.u,Instr.sliceBounds,Instr.sliceBound,asIntOf,hk,R7]
end Go.Rf
namespace Go.Proofs.YtggmccicdhnkgaaGreat
open Go.Proofs.Tryz
open Go.Rf Go.RowKit
variable{n:Nat}
attribute [local irreducible] Code.wp wpList Exit.then Exit.inBlock bodyPost A Calls execOp Addr.add
def pk(l:List Int)(i m:Int):Int:=if i<0\/(l.length:Int)<=i then 0 else yN (l.getD i.toNat 0) m
theorem Zf{l:List Int}{i m:Int}(h:0<m):0<=pk l i m/\pk l i m<m:=by
 unfold pk
 split
 .omega
 .exact BI h
theorem pick(x:Value)(l:List Int)(i m:Int)(w:World)(hx:Src w x l.length (l.map (.int .i64)))(hl:∀n∈l,VE n)(hm:0<m):
 Calls prog 49 #[x,iV i,iV m] w fun e w'=>e=.returned (iV (pk l i m))/\w=w':=by
 obtain⟨ao,c,rfl,hc,_⟩:=id hx;refine enter func49 rfl ntmps49 rfl ?_;by_cases h1:i<0
 .refine rx ?_;refine gZ ?_;exact⟨by simp[pk,h1],rfl⟩
 by_cases h2:(l.length:Int)<=i
 .refine rx ?_;refine gZ ?_;exact⟨by simp[pk,h2],rfl⟩
 obtain⟨j,rfl⟩:∃j:Nat,i=(j:Int):=⟨i.toNat,by omega⟩;have hj:j<l.length:=by omega
 obtain⟨ad,rfl,bV⟩:=KO (j:=j) (u:=iV l[j]) hx (by simp[hj]);refine rx ?_;rw[Dq];refine KW rfl bV ?_;have hb:=hl l[j] ap;refine rx ?_;refine Jg (wk l[j] m w hb.1 hb.2 hm) ?_;rintro _ rfl;refine bM ?_;refine⟨?_,rfl⟩;rw[pk,SH ab];simp[List.getD,hj]
def GW(w:World)(p:Nat):Prop:=∃(x:Value) (l:List Int) (i:Int),aG w p [x,iV i] 171/\Src w x l.length (l.map (.int .i64))/\mn x (l.map (.int .i64)) [p]/\(∀n∈l,VE n)
theorem Uz(p:Nat)(m:Int)(w:World)(h:GW w p)(hm:0<m):
 Calls prog 86 #[.pointer (some ⟨p,0,none⟩),iV m] w fun e w'=>∃k:Int,e=.returned (iV k)/\0<=k/\k<m/\GW w' p/\Fr [p] w w':=by
 obtain⟨x,l,i,hb,hs,ho,hl⟩:=h;refine enter func86 rfl ntmps86 rfl ?_;refine rx ?_;refine XG rfl rfl rfl ?_;refine rx ?_
 ((with_reducible apply Ji);exact rfl;(conv=>lhs;whnf);exact rfl;exact hb;exact rfl)
 intro w1 bJ aj bh;have se:=hs.tr aj ho;refine rx ?_;refine JE (fun z=>Fr [] w1 z) az rfl ?_;have hS:Fr [] w1 w1.drew:=Fr.drew _ _;refine An ?_;refine Kw 8 hS ?_ (aw:=by(intro u hu;exact(Jfy rfl rfl rfl)));refine bH 9 hS ?_;refine JJ (i:=10) rfl az ?_;refine Jg (pick x l _ m _ (se.tr0 hS) hl hm) ?_;rintro _ rfl;refine ft ?_;refine JJ (i:=11) rfl az ?_;refine rx ?_;refine Jv hS ?_;refine gK ?_;refine bM ?_;obtain⟨h1,h2⟩:=Zf (l:=l) (i:=IntKind.i64.wrap (IntKind.i64.wrap (i+1)-1)) hm;exact⟨_,rfl,h1,h2,⟨x,l,_,bJ.tr0 hS,se.tr0 hS,ho,hl⟩,aj.Jb hS⟩
theorem XQ(p:Nat)(x:Value)(l:List Bs)(w:World)(h:GW w p)(hx:Src w x l.length (l.map fun t=>.string (aA t)))(ho:mn x (l.map fun t=>.string (aA t)) [p])(h0:0<l.length)(hl:l.length<=1000):
 Calls prog 87 #[.pointer (some ⟨p,0,none⟩),x] w fun e w'=>∃t∈l,e=.returned (.string (aA t))/\GW w' p/\Fr [p] w w':=by
 obtain⟨ao,c,rfl,hc,_⟩:=id hx;refine enter func87 rfl ntmps87 rfl ?_;refine rx ?_;refine Jl (Uz p l.length w h ab) ?_;rintro k w1 ⟨j7,hk,hg,hf⟩;obtain⟨j,rfl⟩:∃j:Nat,k=(j:Int):=⟨k.toNat,by omega⟩;have hj:j<l.length:=by omega
 obtain⟨ad,rfl,bV⟩:=KO (j:=j) (u:=.string (aA l[j])) (hx.tr hf ho) (by simp[hj]);refine rx ?_;rw[Dq];refine KW rfl bV ?_;refine bM ?_;exact⟨l[j],by simp,rfl,hg,hf⟩
def dg(n:Nat):Bs:=[(48+n).toUInt8]
def rP:List Bs:=[[48],[49],[50],[51],[52],[53],[54],[55],[56],[57]]
theorem Wi(h:n<10):dg n∈rP:=by
 have:∀n<10,dg n∈rP:=by decide
 exact this n h
theorem Jcm(k:Nat)(w:World)(hk:k<10):
 Calls prog 85 #[iV k] w fun e w'=>e=.returned (.string (aA (dg k)))/\w=w':=by
 refine enter func85 rfl ntmps85 rfl ?_;by_cases h0:k=0
 .subst h0;exact yi
 refine rx ?_;refine Jbg (σ:=Nat) (fun i g u=>g 0=iV k/\g 3=.string ⟨#[48,49,50,51,52,53,54,55,56,57]⟩/\w=u/\((i=1/\g 5=iV k/\g 4=zT)\/(i=0/\g 5=zI/\g 4=.string (aA (dg k))))) (fun i=>i) 1 ⟨rfl,rfl,rfl,.inl ⟨rfl,rfl,rfl⟩⟩ ?_;rintro i g u ⟨h0,h3,rfl,⟨rfl,h5,h4⟩|⟨rfl,h5,h4⟩⟩
 .rw [Ja h0,Ja h3,Ja h5,Ja h4];refine rx ?_;refine JbE (j:=k) (k:=k+1) rfl rfl rfl ab ab ab (by show k+1<=10;omega) ?_;have he:((⟨#[48,49,50,51,52,53,54,55,56,57]⟩:ByteArray).extract k (k+1))=aA (dg k):=by
   have:∀k<10,((⟨#[48,49,50,51,52,53,54,55,56,57]⟩:ByteArray).extract k (k+1))=aA (dg k):=by decide
   exact this k hk
  rw[he];refine rx ?_;refine LZ rfl rfl ?_ (by simp[dg]);refine rx ?_;exact JaR 0 ⟨rfl,rfl,rfl,.inr ⟨rfl,by show Value.int .i64 _=_;congr 1;omega,by rw[Ce];rfl⟩⟩ ab
 .rw [Ja h0,Ja h3,Ja h5,Ja h4];exact yi
end Go.Proofs.YtggmccicdhnkgaaGreat
namespace Go.Rf
open Go.RowKit
variable{af:Array Edge}{f:Env}{d n t:Nat}{x:Operand}{P:Program}{ps:String}{w:World}
theorem Jbl(S:Bs)(j k:Nat):(aA S).extract j k=aA ((S.take k).drop j):=by
 apply ByteArray.ext;apply Oc.1;simp[aA,FQ]
theorem VX(S:Bs):(aA S).size=S.length:=by simp[aA,ByteArray.size]
theorem GX{a b:Bs}:aA a=aA b↔a=b:=by
 constructor
 .intro h;have:=CZ (fun x:ByteArray=>x.data.toList) h;simpa[aA]using this
 .rintro rfl;rfl
theorem Zx(b:ByteArray):aA b.data.toList=b:=by cases b;simp[aA]
theorem JfE{ty:TypeId}{gd:Option (Nat×Bool)}{s:ByteArray}[S:StrT P t](hx:ev n f x=.string s):
 (execOp (ev n f) ⟨some d,.call {callee:=.builtin .len,args:=#[x],argTypes:=#[t]},ty,ps,af,gd⟩).run P w=.ok (.value (iV s.size)) w:=by
 simp[execOp,resolve,invoke,builtin,Builtin.len_,run_underlying S.u,hx,goInt]
theorem Jfz{ty:TypeId}{gd:Option (Nat×Bool)}{y z:Operand}
 {s:ByteArray} {j k:Nat} {kj kk:IntKind} {a b:Int} [S:StrT P t] (hx:ev n f x=.string s) (hy:ev n f y=.int kj a) (hz:ev n f z=.int kk b) (ha:a=(j:Int)) (hb:b=(k:Int)) (R7:j<=k) (hk:k<=s.size):
 (execOp (ev n f) ⟨some d,.slice t x (some y) (some z) none,ty,ps,af,gd⟩).run P w=.ok (.value (.string (s.extract j k))) w:=by
 subst ha hb;have h1:(0:Int)<=(j:Int):=by omega
 have h2:(0:Int)<=(k:Int):=by omega
 simp[execOp,hx,hy,hz,Instr.sliceAt,Instr.slice,run_underlying S.u,Instr.sliceBounds,Instr.sliceBound,asIntOf,hk,R7]
theorem VT{S:Bs}{i:Nat}(h:i<S.length):S.drop i=S[i]::S.drop (i+1):=Dh h
end Go.Rf
namespace Go.Proofs.YtggmccicdhnkgaaGreat
open Go.Proofs.Tryz
open Go.Rf Go.RowKit
attribute [local irreducible] Code.wp wpList Exit.then Exit.inBlock bodyPost A Calls execOp Addr.add
theorem Vq(b:UInt8)(w:World):Calls prog 114 #[.int .u8 b.toNat] w fun e w'=>e=.returned (iV (Kq b:Nat))/\w=w':=by
 unfold Kq JhR;have hb:b.toNat<256:=b.toNat_lt;generalize b.toNat=c at hb ⊢;refine enter func114 rfl ntmps114 rfl ?_;by_cases h1:c=32\/c=9\/c=10
 .rcases h1 with rfl|rfl|rfl
  all_goals
   refine bM ?_;exact⟨rfl,rfl⟩
 rw[SH h1];by_cases h2:c=95
 .subst h2;exact yi
 by_cases h3:c=35
 .subst h3;exact yi
 rw[SH h2,SH h3];have n1:¬c=32:=fun e=>h1 (.inl e)
 have n2:¬c=9:=fun e=>h1 (.inr (.inl e))
 have n3:¬c=10:=fun e=>h1 (.inr (.inr e))
 by_cases h4:97<=c/\c<=122
 .rw [Cb h4];obtain⟨h4,h5⟩:=h4;exact yi
 rw[SH h4];by_cases h5:65<=c/\c<=90
 .rw [Cb h5];obtain⟨h5,h6⟩:=h5;exact yi
 rw[SH h5];by_cases h6:48<=c/\c<=57
 .rw [Cb h6];obtain⟨h6,h7⟩:=h6;exact yi
 rw[SH h6];refine rx ?_;repeat' ((first|refine Vg rfl rfl (fun h=>?_) (fun h=>?_)|refine Vd rfl rfl (fun h=>?_) (fun h=>?_)|refine QZ rfl rfl (fun h=>?_) (fun h=>?_)|refine Vt rfl rfl (fun h=>?_) (fun h=>?_)|refine Ve rfl rfl (fun h=>?_) (fun h=>?_)|refine Vf rfl rfl (fun h=>?_) (fun h=>?_)|refine QB rfl rfl (fun h=>?_) (fun h=>?_)|refine Qv rfl rfl (fun h=>?_) (fun h=>?_)|refine WG rfl rfl (fun h=>?_) (fun h=>?_)|refine WY rfl rfl (fun h=>?_) (fun h=>?_))<;>refine rx ?_)
 all_goals
  refine bM ?_;exact⟨rfl,rfl⟩
theorem JkS(b:UInt8):b.toNat<256:=b.toNat_lt
theorem JbC(S:Bs)(at_:Nat)(w:World)(ha:at_<=S.length)(hl:S.length<=1000000000000):
 Calls prog 112 #[.string (aA S),iV at_] w fun e w'=>e=.returned (iV ((at_+Qm false (S.drop at_):Nat):Int))/\w=w':=by
 refine enter func112 rfl ntmps112 rfl ?_;refine rx ?_;refine Jh 6 [1,5] (σ:=Nat×Bool) (fun i g u=>g 1=iV i.1/\g 5=.bool i.2/\i.1<=S.length/\i.1+Qm i.2 (S.drop i.1)=at_+Qm false (S.drop at_)/\w=u) (fun i=>S.length-i.1) (at_,false) ⟨rfl,rfl,ha,rfl,rfl⟩ ?_;rintro⟨i,cm⟩ g u ⟨h1,h5,hi,he,rfl⟩;simp only at h1 h5 hi he;rw[Ja h1,Ja h5];have fA:=VX S;by_cases aC:i<S.length
 case neg=>
  refine bM ?_;rw[Ci ab]at he;refine⟨?_,rfl⟩;rw[<-he];rfl
 rw[VT aC,Qm]at he;have hb:=JkS S[i];have rQ:(aA S).data.toList[i]?=some S[i]:=by simp[aA,aC]
 generalize ph:S[i]=b at he hb rQ;obtain⟨cm',qg⟩:=aP ((if b.toNat=10 then false else if b.toNat=35 then true else cm));rw[<-qg]at he;have kQ:∀cmv,cm'=cmv->(¬(!cmv&&Kq b != 0)=true->i+1+Qm cmv (S.drop (i+1))=at_+Qm false (S.drop at_))/\((!cmv&&Kq b != 0)=true->i=at_+Qm false (S.drop at_)):=by
  rintro _ rfl;refine⟨fun h=>?_,fun h=>?_⟩
  .rw [SH h]at he;omega
  .rw [Cb h]at he;omega
 clear he;by_cases YP:b.toNat=35
 .have mY:Kq b=5:=by unfold Kq;rw[YP];rfl
  rw[SH ab,Cb YP]at qg;obtain⟨bh,_⟩:=kQ true qg;refine AR ?_;refine J4 rfl rfl rQ ?_;refine rx ?_;exact Jc (i+1,true) la ⟨rfl,rfl,by simp only;omega,bh ap,rfl⟩ eM
 by_cases ez:b.toNat=10
 .have mY:Kq b=0:=by unfold Kq;rw[ez];rfl
  rw[Cb ez]at qg;obtain⟨bh,_⟩:=kQ false qg;refine AR ?_;refine J4 rfl rfl rQ ?_;refine rx ?_;refine J4 rfl rfl rQ ?_;refine MH rfl ?_;refine Jg (Vq b w) ?_;rintro _ rfl;rw[mY];refine rx ?_;exact Jc (i+1,false) la ⟨rfl,rfl,by simp only;omega,bh (by rw[mY];decide),rfl⟩ eM
 rw[SH ez,SH YP]at qg;cases cm with
 |true=>
  obtain⟨bh,_⟩:=kQ true qg;refine AR ?_;refine J4 rfl rfl rQ ?_;refine rx ?_;exact Jc (i+1,true) la ⟨rfl,rfl,by simp only;omega,bh ap,rfl⟩ eM
 |false=>
  obtain⟨bh,cz⟩:=kQ false qg;refine AR ?_;refine J4 rfl rfl rQ ?_;refine rx ?_;refine J4 rfl rfl rQ ?_;refine MH rfl ?_;refine Jg (Vq b w) ?_;rintro _ rfl;by_cases hc:Kq b=0
  .refine rx ?_;exact Jc (i+1,false) la ⟨rfl,rfl,by simp only;omega,bh (by rw[hc];decide),rfl⟩ eM
  .refine rx ?_;refine gZ ?_;refine⟨?_,rfl⟩;rw[<-cz (by simpa using hc)]
theorem Jiq(S:Bs)(w:World)(hd:∀b∈S,48<=b.toNat/\b.toNat<=57)(hl:S.length<=1000000000000):
 Calls prog 115 #[.string (aA S)] w fun e w'=>e=.returned (iV (ML S))/\w=w':=by
 refine enter func115 rfl ntmps115 rfl ?_;refine rx ?_;have fA:=VX S;refine Jh 5 [3,4] (σ:=Nat×Int) (fun i g u=>g 4=iV i.1/\g 3=iV i.2/\i.1<=S.length/\0<=i.2/\i.2<=1099511627777/\(S.drop i.1).foldl (fun n b=>min (10*n+((b.toNat:Int)-48)) 1099511627777) i.2=ML S/\w=u) (fun i=>S.length-i.1) (0,0) ⟨rfl,rfl,by simp only;omega,by decide,by decide,rfl,rfl⟩ ?_;rintro⟨i,v⟩ g u ⟨h4,h3,hi,jL,iQ,he,rfl⟩;simp only at h4 h3 hi jL iQ he;rw[Ja h4,Ja h3];by_cases aC:i<S.length
 case neg=>
  refine bM ?_;rw[Ci ab]at he;exact⟨by rw[<-he];rfl,rfl⟩
 rw[VT aC,Dz]at he;obtain⟨bJ,dN⟩:=hd S[i] ap;have rQ:(aA S).data.toList[i]?=some S[i]:=by simp[aA,aC]
 generalize S[i]=b at he bJ dN rQ;refine AR ?_;refine Jh7 (r:=min (10*v+((b.toNat:Int)-48)) 1099511627777) rfl rfl T9 ?_;refine rx ?_;exact Jc (i+1,min (10*v+((b.toNat:Int)-48)) 1099511627777) la ⟨rfl,rfl,by simp only;omega,by simp only;omega,by simp only;omega,he,rfl⟩ eM
theorem JjI(w:World):Calls prog 161 #[] w fun e w'=>∃v,e=.returned v/\bx w' 9 1 v kV.length (kV.map fun t=>.string (aA t))/\Fr [] w w':=by
 refine enter func161 rfl ntmps161 rfl ?_;refine rx ?_;refine J3 (kV.map fun t=>.string (aA t)) rfl rfl rfl rfl (fun u ho hf hs=>?_);exact YH
def JjJ(l:List Bs)(x:Bs):Nat:=match l.find? (fun s=>s.isPrefixOf x)with
 |some s=>s.length
 |none=>0
theorem Jhb{S s:Bs}{at_:Nat}(h:s.length<=2):s.isPrefixOf ((S.drop at_).take 2)=true↔(S.take (at_+s.length)).drop at_=s:=by
 rw[Ij,List.prefix_iff_eq_take,List.take_take,Hw h,FQ,Eo];exact eq_comm
theorem iee(S:Bs)(at_:Nat)(w:World)(ha:at_<S.length)(hl:S.length<=1000000000000):
 Calls prog 113 #[.string (aA S),iV at_] w fun e w'=>e=.returned (iV ((at_+Q9 (S.drop at_):Nat):Int))/\Fr [] w w':=by
 refine enter func113 rfl ntmps113 rfl ?_;have fA:=VX S;have rQ:(aA S).data.toList[at_]?=some S[at_]:=by simp[aA,ha]
 rw[VT ha,Q9];generalize ph:S[at_]=b at rQ;refine rx ?_;refine J4 rfl rfl rQ ?_;refine Jg (Vq b w) ?_;rintro _ rfl;have rA:((at_:Int)+1)=((at_+1:Nat):Int):=by omega
 by_cases h1:Kq b=1
 .rw [Cb h1];refine rx ?_;rw[rA];refine Jh 9 [5] (σ:=Nat) (fun k g u=>g 5=iV k/\k<=S.length/\k+Qq p1 (S.drop k)=at_+1+Qq p1 (S.drop (at_+1))/\w=u) (fun k=>S.length-k) (at_+1) ⟨rfl,by omega,rfl,rfl⟩ ?_;rintro k g u ⟨h5,hk,he,rfl⟩;rw[Ja h5];by_cases jO:k<S.length
  case neg=>
   refine bM ?_;rw[Ci ab]at he;refine⟨?_,Fr.refl _ _⟩;rw[<-Nat.add_assoc,<-he];rfl
  rw[VT jO,Qq]at he;have p6:(aA S).data.toList[k]?=some S[k]:=by simp[aA,jO]
  generalize S[k]=c at he p6;by_cases hc:Kq c=1
  .refine rx ?_;exact Ydz
  by_cases oN:Kq c=3
  .have hc:=oN;refine rx ?_;exact Yem
  by_cases nI:Kq c=4
  .have hc:=nI;refine rx ?_;refine J4 rfl rfl p6 ?_;refine rx ?_;refine Jg (Vq _ w) ?_;rintro _ rfl;refine rx ?_;exact Yem
  .refine rx ?_;refine J4 rfl rfl p6 ?_;refine rx ?_;refine Jg (Vq _ w) ?_;rintro _ rfl;refine rx ?_;refine J4 rfl rfl p6 ?_;refine rx ?_;refine Jg (Vq _ w) ?_;rintro _ rfl;refine rx ?_;refine J4 rfl rfl p6 ?_;refine rx ?_;refine Jg (Vq _ w) ?_;rintro _ rfl;refine rx ?_;refine gZ ?_;rw[SH (by unfold p1;simp;omega)]at he;refine⟨?_,Fr.refl _ _⟩;rw[<-Nat.add_assoc,<-he];rfl
 rw[SH h1];by_cases h2:Kq b=2
 .rw [Cb h2];refine rx ?_;rw[rA];refine Jh 9 [5] (σ:=Nat) (fun k g u=>g 5=iV k/\k<=S.length/\k+Qq p2 (S.drop k)=at_+1+Qq p2 (S.drop (at_+1))/\w=u) (fun k=>S.length-k) (at_+1) ⟨rfl,by omega,rfl,rfl⟩ ?_;rintro k g u ⟨h5,hk,he,rfl⟩;rw[Ja h5];by_cases jO:k<S.length
  case neg=>
   refine bM ?_;rw[Ci ab]at he;refine⟨?_,Fr.refl _ _⟩;rw[<-Nat.add_assoc,<-he];rfl
  rw[VT jO,Qq]at he;have p6:(aA S).data.toList[k]?=some S[k]:=by simp[aA,jO]
  generalize S[k]=c at he p6;by_cases hc:1<=Kq c
  .by_cases nI:Kq c<=4
   .refine rx ?_;refine J4 rfl rfl p6 ?_;refine rx ?_;refine Jg (Vq _ w) ?_;rintro _ rfl;refine rx ?_;refine J4 rfl rfl p6 ?_;refine rx ?_;refine Jg (Vq _ w) ?_;rintro _ rfl;refine rx ?_;rw[Cb (by unfold p2;simp;omega)]at he;exact Yt
   .refine rx ?_;refine J4 rfl rfl p6 ?_;refine rx ?_;refine Jg (Vq _ w) ?_;rintro _ rfl;refine rx ?_;exact Ybr
  .refine rx ?_;exact Ybr
 rw[SH h2];by_cases h3:Kq b=3
 .rw [Cb h3];refine rx ?_;rw[rA];refine Jh 9 [5] (σ:=Nat) (fun k g u=>g 5=iV k/\k<=S.length/\k+Qq p3 (S.drop k)=at_+1+Qq p3 (S.drop (at_+1))/\w=u) (fun k=>S.length-k) (at_+1) ⟨rfl,by omega,rfl,rfl⟩ ?_;rintro k g u ⟨h5,hk,he,rfl⟩;rw[Ja h5];by_cases jO:k<S.length
  case neg=>
   refine bM ?_;rw[Ci ab]at he;refine⟨?_,Fr.refl _ _⟩;rw[<-Nat.add_assoc,<-he];rfl
  rw[VT jO,Qq]at he;have p6:(aA S).data.toList[k]?=some S[k]:=by simp[aA,jO]
  generalize S[k]=c at he p6;by_cases hc:Kq c=3
  .refine rx ?_;refine J4 rfl rfl p6 ?_;refine rx ?_;refine Jg (Vq _ w) ?_;rintro _ rfl;refine rx ?_;rw[Cb (by unfold p3;rw[hc];rfl)]at he;exact Yt
  .refine rx ?_;refine J4 rfl rfl p6 ?_;refine rx ?_;refine Jg (Vq _ w) ?_;rintro _ rfl;refine rx ?_;refine gZ ?_;rw[SH (by unfold p3;simp;omega)]at he;refine⟨?_,Fr.refl _ _⟩;rw[<-Nat.add_assoc,<-he];rfl
 rw[SH h3];refine rx ?_;refine Jl (JjI w) ?_;rintro v u0 ⟨cB,gL⟩;have eo:=cB.src;obtain⟨ao,c,rfl,hc,_⟩:=id eo;have hX:b::S.drop (at_+1)=S.drop at_:=by rw[VT ha,ph]
 rw[hX];refine rx ?_;refine Jh 9 [7,8] (σ:=Nat) (fun i g u=>g 7=iV i/\i<=22/\JjJ (kV.drop i) ((S.drop at_).take 2)=AU ((S.drop at_).take 2)/\Fr [] u0 u) (fun i=>22-i) 0 ⟨rfl,by omega,rfl,Fr.refl _ _⟩ ?_;rintro i g u ⟨h7,hi,he,hf⟩;rw[Ja h7];have xR:kV.length=22:=rfl;by_cases aC:i<22
 case neg=>
  refine bM ?_;have:i=22:=by omega
  subst this;have h0:AU ((S.drop at_).take 2)=0:=he.symm;exact⟨by rw[h0];rfl,gL.Jb hf⟩
 have hm:kV[i]'ab∈kV:=Cj _;have hlen:1<=(kV[i]'ab).length/\(kV[i]'ab).length<=2:=by
  have:∀s∈kV,1<=s.length/\s.length<=2:=by decide
  exact this _ hm
 obtain⟨ad,rfl,bV⟩:=KO (j:=i) (u:=.string (aA (kV[i]'ab))) (eo.tr0 hf) (by simp[aC,xR]);rw[Dh ab,JjJ,Ho]at he;have iL:=Jhb (S:=S) (at_:=at_) hlen.2;have fg:∀z,Fr [] u z->z.cell? (ad.add i)=some (.string (aA (kV[i]'ab))):=fun z hz=>Vs ((eo.tr0 hf).tr0 hz) (by simp[aC,xR])
 generalize kV[i]'ab=s at bV he hlen iL hm fg;have Aa:=VX s;have hto:((at_:Int)+(aA s).size)=((at_+s.length:Nat):Int):=by rw[Aa];omega
 refine rx ?_;rw[Dq];refine KW rfl bV ?_;refine rx ?_;rw[hto];refine JE (fun z=>Fr [] u z) az rfl ?_;have hS:Fr [] u u.drew:=Fr.drew _ _;by_cases hle:at_+s.length<=S.length
 case neg=>
  have PV:s.isPrefixOf ((S.drop at_).take 2)=false:=by
   cases hq:s.isPrefixOf ((S.drop at_).take 2)
   .rfl
   .exfalso
    have:=CZ List.length (iL.1 hq);simp only[Dn,C9]at this;omega
  rw[PV]at he;refine JX 0 1 hS ?_;refine Kw 2 hS ?_ (aw:=by(intro u hu;exact(JfE rfl)));refine Kw 3 hS ?_ (aw:=by(intro u hu;exact(L9 rfl rfl (SG ab))));refine Jj 4 5 6 7 hS ?_;refine Jj 8 9 10 11 hS ?_;refine JX 12 13 hS ?_;refine bH 14 hS ?_;refine j5 ?_;exact Yga
 refine JX 0 1 hS ?_;refine Kw 2 hS ?_ (aw:=by(intro u hu;exact(JfE rfl)));refine Kw 3 hS ?_ (aw:=by(intro u hu;exact(L9 rfl rfl (SN ab))));refine Jj 4 5 6 7 hS ?_;refine Kz 8 hS ?_ (aw:=by(intro u hu;exact(Jfz (j:=at_) (k:=at_+s.length) rfl rfl rfl rfl rfl ab ab)));refine JX 9 10 hS ?_;refine Kz 11 hS ?_ (aw:=by(intro u hu;exact(Gl rfl rfl rfl ab rfl)));refine Kz 12 hS ?_ (aw:=by(intro u hu;exact(J7 rfl (fg u hu))));by_cases hq:aA ((S.take (at_+s.length)).drop at_)=aA s
 .have ief:=iL.2 (GX.1 hq);rw[ief]at he;have he:s.length=AU ((S.drop at_).take 2):=he;refine Kz 13 hS ?_ (aw:=by(intro u hu;exact(NQ (p:=true) rfl rfl (by rw[Jbl];exact SN hq))));refine bH 14 hS ?_;refine gK ?_;refine bM ?_;exact⟨by rw[he],(gL.Jb hf).Jb hS⟩
 .have PV:s.isPrefixOf ((S.drop at_).take 2)=false:=by
   cases nv:s.isPrefixOf ((S.drop at_).take 2)
   .rfl
   .exact absurd (GX.2 (iL.1 nv)) hq
  rw[PV]at he;refine Kz 13 hS ?_ (aw:=by(intro u hu;exact(NQ (p:=false) rfl rfl (by rw[Jbl];exact SG hq))));refine bH 14 hS ?_;refine j5 ?_;exact Yga
end Go.Proofs.YtggmccicdhnkgaaGreat
