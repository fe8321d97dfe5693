/-
 New of package cover.
-/
import Derived.Test.YtggmccicdhnkgaaGreatVJb
set_option linter.all false
set_option maxHeartbeats 64000000
namespace Go.Rf
open Go.RowKit
variable{f:Env}{Q:Exit->Act->World->Prop}{l:List Oper}{bb fuel i j k n p pb:Nat}{P:Program}{w:World}{S:World->Prop}
theorem XJ{D:Dfs}{au:Array Bool}{o o' o'':Oper}(hi:l[i]?=some o)(hj:l[j]?=some o')(hk:l[k]?=some o'')(hr:Region.ready .any l.toArray au=[i,j,k])
 (h1:wpList P l.toArray (Exit.then (fun a' w'=>S w'/\wpAnyH P .any l.toArray Q S fuel (au.setIfInBounds i true) a' w') Q) [o] (A n f) w)
 (h2:wpList P l.toArray (Exit.then (fun a' w'=>S w'/\wpAnyH P .any l.toArray Q S fuel (au.setIfInBounds j true) a' w') Q) [o'] (A n f) w)
 (h3:wpList P l.toArray (Exit.then (fun a' w'=>S w'/\wpAnyH P .any l.toArray Q S fuel (au.setIfInBounds k true) a' w') Q) [o''] (A n f) w):wpAnyH P .any l.toArray Q S (fuel+1) au (A n f) w:=by
 refine wpAnyH_all hr ap fun m hm=>?_
 simp only[SC,S9,CU]at hm;rcases hm with rfl|rfl|rfl
 .exact KC hi h1
 .exact KC hj h2
 .exact KC hk h3
theorem JhJ{D:Dfs}{au:Array Bool}{m:Nat}{o o' o'' o3:Oper}(hi:l[i]?=some o)(hj:l[j]?=some o')(hk:l[k]?=some o'')(hm':l[m]?=some o3)(hr:Region.ready .any l.toArray au=[i,j,k,m])
 (h1:wpList P l.toArray (Exit.then (fun a' w'=>S w'/\wpAnyH P .any l.toArray Q S fuel (au.setIfInBounds i true) a' w') Q) [o] (A n f) w)
 (h2:wpList P l.toArray (Exit.then (fun a' w'=>S w'/\wpAnyH P .any l.toArray Q S fuel (au.setIfInBounds j true) a' w') Q) [o'] (A n f) w)
 (h3:wpList P l.toArray (Exit.then (fun a' w'=>S w'/\wpAnyH P .any l.toArray Q S fuel (au.setIfInBounds k true) a' w') Q) [o''] (A n f) w)
 (h4:wpList P l.toArray (Exit.then (fun a' w'=>S w'/\wpAnyH P .any l.toArray Q S fuel (au.setIfInBounds m true) a' w') Q) [o3] (A n f) w):wpAnyH P .any l.toArray Q S (fuel+1) au (A n f) w:=by
 refine wpAnyH_all hr ap fun m hm=>?_
 simp only[SC,S9,CU]at hm;rcases hm with rfl|rfl|rfl|rfl
 .exact KC hi h1
 .exact KC hj h2
 .exact KC hk h3
 .exact KC hm' h4
def In(L:List Nat)(a b:Nat):Prop:=∀x∈L,a<=x/\x<b
theorem Ao{e:Nat}{v:Value}{xs:List Value}(h:bx w e k v n xs):(ag v).Nodup:=by
 rcases h.2 with⟨rfl,_⟩|⟨g,cap,eS,rfl,_⟩<;>simp[ag,Value.ownBlock]
theorem Jj8{a b:List Nat}(ha:a.Nodup)(hb:b.Nodup)(h1:p≠bb)(h2:p≠pb)(h3:bb≠pb)(h4:∀x∈a,x≠p/\x≠bb/\x≠pb/\x∉b)(h5:∀x∈b,x≠p/\x≠bb/\x≠pb):(([p,bb,pb]++a)++b).Nodup:=by
 rw[DW,DW];refine⟨⟨by simp[h1,h2,h3],ha,fun x hx y hy e=>?_⟩,hb,fun x hx y hy e=>?_⟩
 .subst e;have:=h4 x hy;simp only[SC,S9,CU]at hx;rcases hx with rfl|rfl|rfl
  .exact this.1 rfl
  .exact this.2.1 rfl
  .exact this.2.2.1 rfl
 .subst e;have:=h5 x hy;simp only[SE,SC,S9,CU]at hx;rcases hx with(rfl|rfl|rfl)|hx
  .exact this.1 rfl
  .exact this.2.1 rfl
  .exact this.2.2 rfl
  .exact (h4 x hx).2.2.2 hy
theorem QE(n:Nat):bG [Value.int .i64 0] n=Vk (J6 n []).cls:=by
 have h1:(J6 n []).cls=List.replicate n 0:=by
  unfold J6;simp only[List.countP_nil];rw[List.map_const',FV]
 rw[h1];unfold Vk;rw[List.map_replicate];clear h1
 induction n with
 |zero=>rfl
 |succ n ih=>rw[bG,List.replicate_succ,ih];rfl
end Go.Rf
namespace Go.Proofs.YtggmccicdhnkgaaGreat
open Go.Proofs.Tryz
open Go.Rf Go.RowKit
variable{bb n p pb:Nat}{w:World}
attribute [local irreducible] Code.wp wpList Exit.then Exit.inBlock bodyPost A Calls execOp Addr.add
theorem RD.cks{S:List Nat}{d:De}{cs:List Value}(hd:RD w S (eR d) cs):(∃a c,cs[23]?=some (.slice a d.checks.length c))/\(∃a c,cs[24]?=some (.slice a d.classes.length c))/\d.classes.length<=1000000000000:=by
 obtain⟨_,rfl,r1⟩:=RD.JI (x:=iV d.kind) hd;obtain⟨_,rfl,r2⟩:=RD.JI (x:=.string d.name) r1;obtain⟨_,rfl,r3⟩:=RD.JI (x:=iV d.at_) r2;obtain⟨ct,iO,_,rfl,ni,r4⟩:=RD.lst (rows:=d.ctors.map iP) r3;obtain⟨pm,iG,_,rfl,tS,r5⟩:=RD.lst (rows:=d.params.map eK) r4;obtain⟨xN,_,rfl,nR,ee,r6⟩:=RD.ty (t:=d.type) r5;obtain⟨ty,ix,rfl,_⟩:=ee.slice;obtain⟨gV,dy,dz,gW,dA,dC,gX,dD,dE,_,rfl,qt,r7⟩:=RD.ex (e:=d.body) r6;obtain⟨_,rfl,r8⟩:=RD.JI (x:=iV d.depth) r7;obtain⟨gA,cY,cZ,gB,c8,c9,gC,da,de,_,rfl,hJ,r9⟩:=RD.gn (g:=d.gen) r8;obtain⟨dw,gv,_,rfl,uI,kx⟩:=RD.lst (rows:=d.draws.map fj) r9;obtain⟨ck,fX,_,rfl,iy,ky⟩:=RD.lst (rows:=d.checks.map dM) kx;obtain⟨cs,fR,_,rfl,fG,kz⟩:=RD.lst (rows:=d.classes.map dM) ky;obtain⟨cl,fY,_,rfl,fg,km⟩:=RD.lst (rows:=d.claims.map iw) kz;obtain⟨xO,_,rfl,lP,cu,kF⟩:=RD.ty (t:=d.state) km;obtain⟨st,ig,rfl,_⟩:=cu.slice;obtain⟨gD,df,dh,gE,dj,dl,gF,dm,dn,_,rfl,dq,kG⟩:=RD.ex (e:=d.init) kF;obtain⟨cm,fM,_,rfl,gO,kH⟩:=RD.lst (rows:=d.cmds.map gf) kG;obtain⟨op,fH,_,rfl,lh,nT⟩:=RD.lst (rows:=d.ops.map fV) kH;obtain⟨gw,cJ,cK,gx,cL,cM,gy,cO,cQ,_,rfl,nF,kI⟩:=RD.ex (e:=d.recov) (ds:=[]) xe;obtain rfl:=kI.inv0;clear r1 r2 r3 r4 r5 r6 r7 r8 r9 kx ky kz km kF kG kH nT kI ee cu;refine⟨⟨ck,fX,?_⟩,⟨cs,fR,?_⟩,by have:=fG.bound;rw[Sr]at this;exact this⟩
 .simp only[Sr];rfl
 .simp only[Sr];rfl
def Jh0(w:World)(ds:List De)(nm:ByteArray)(e:Ending)(w':World):Prop:=Fr [] w w'/\match jz ds 3 nm with
 |none=>e=.returned (.tuple #[.pointer none,.int .i64 6])
 |some d=>∃p M R,e=.returned (.tuple #[.pointer (some ⟨p,0,none⟩),.int .i64 0])/\Wj w' p M R ⟨nm,d.checks.length,d.classes.length,JM eO (KX ds nm)⟩ (J6 d.classes.length [])/\∀x∈M++R,w.heap.size<=x
theorem Jkc{u:World}{vr vc:Value}{P:Pp}{a0 a1 b0 b1:Nat}(hn:P.ncls=n)(hb:aG u p [.string P.prop,iV (P.checks:Nat),vr,zI,zI,zI,zI,vc,.map (some bb),.map (some pb)] 125)
 (hr:bx u 50 3 vr P.reach.length (P.reach.flatMap dH)) (hc:bx u 3 1 vc n (Vk (J6 n []).cls)) (jN:Mp gg (Value.int .i64) u bb []) (iU:Mp iC Value.bool u pb [])
 (ir:In (ag vr) a0 a1) (ic:In (ag vc) b0 b1) (d1:a1<=b0\/b1<=a0) (d2:bb≠pb) (d3:bb<a0\/a1<=bb) (d4:pb<a0\/a1<=pb) (d5:bb<b0\/b1<=bb) (d6:pb<b0\/b1<=pb) (d7:bb<p/\pb<p/\a1<=p/\b1<=p):Wj u p ([p,bb,pb]++ag vc) (ag vr) P (J6 P.ncls []):=by
 subst hn;refine⟨bb,pb,vr,vc,[],[],rfl,rfl,Jj8 (Ao hc) (Ao hr) ab ab d2 (fun x hx=>?_) (fun x hx=>?_),hb,hr,?_,jN,fE.nil,iU,BJ.nil.congr (fun b=>by simp[J6,JM]),JgP P [] ap⟩
 .have:=ic x hx;refine⟨by omega,by omega,by omega,fun hm=>?_⟩;have:=ir x hm;omega
 .have:=ir x hx;exact⟨by omega,by omega,by omega⟩
 .rw [show(J6 P.ncls []).cls.length=P.ncls by simp[J6]];exact hc
theorem Rc(ds:List De)(nm:ByteArray)(v0:Value)(w:World)(S0:List Nat)(fA:∀d∈ds,SzD d)(hl:ds.length<=50)(hd:DR w S0 (.l (ds.map eR)) v0):
 Calls prog 24 #[.agg ([v0]:List Value).toArray,.string nm] w (Jh0 w ds nm):=by
 have h01:=hd.one;refine enter func24 rfl ntmps24 rfl ?_;refine rx ?_;refine Ju (l:=[v0]) rfl rfl (fun w1 b2 RB dN aj bh=>?_);have ep:=hd.tr0 aj;refine rx ?_;refine aT (NW ds 3 nm v0 w1 S0 (fun d hd=>(fA d hd).cmds) ep) rfl ?_;rintro en w2 jM;obtain⟨cs,b,rfl,hlen,rA,aq,fS⟩:=fdX jM;refine⟨_,rfl,?_⟩;have dN:=dN.tr0 aq;have aS:=aj.Jb aq;refine rx ?_;refine Jm (l:=[zI,zT,zI,zS,zS,zI,zT,zS,zI,zT,zI,zS,zS,zS,zI,zI,zI,zT,zS,zS,zS,zI,zS,zS,zS,zS,zI,zT,zS,zI,zT,zI,zS,zS,zS,zI,zS,zS,zI,zT,zI,zS,zS,zS,zI]) rfl (fun w3 q nJ hq aF dO=>?_);have dN:=dN.tr0 aF;have ieM:=dN.lt;have cz:=aS.size;refine rx ?_;refine Jd (cs:=cs) rfl rfl hq rA rfl hlen (fun w4 mL aI eA=>?_);have dN:=dN.tr aI (by have:=RB;have:=aq.size;simp;omega);have bq:Fr [] w w4:=(aS.Jb aF).trans aI (fun x hx=>.inr bt);rcases fS with⟨hn,rfl⟩|⟨d,hsd,rfl,sg⟩
 .refine rx ?_;refine Ri ?_;unfold Jh0;rw[hn];exact⟨bq,rfl⟩
 obtain⟨⟨a23,c23,h23⟩,⟨a24,c24,h24⟩,iaO⟩:=RD.cks sg;have pO:=hd.tr0 bq;have idb:=bq.size;obtain⟨nc,kY⟩:=aP d.classes.length;rw[<-kY]at h24 iaO;obtain⟨rl,k7⟩:=aP (JM eO (KX ds nm));refine rx ?_;refine KZ 6 [4,5] (fun g u=>∃p M R,g 4=.pointer (some ⟨p,0,none⟩)/\g 5=zI/\Wj u p M R ⟨nm,d.checks.length,d.classes.length,JM eO (KX ds nm)⟩ (J6 d.classes.length [])/\(∀x∈M++R,w.heap.size<=x)/\Fr [] w u) ?_ ?_
 . (refine JE (fun z=>Fr [] w4 z) az rfl ?_)
   obtain⟨u,hu⟩:=aP w4.drew;rw[<-hu];have hS:Fr [] w4 u:=hu▸Fr.drew _ _;have hz:=hS.size;have ifM:=pO.tr0 hS;refine JX 0 1 hS ?_;refine Kw 2 hS ?_ (aw:=by(intro u hu;exact(J7 rfl (aG.cell (mL.tr0 hu) h23))));refine JX 3 4 hS ?_;refine bH 5 hS ?_;refine bH 7 hS ?_;refine Kw 8 hS ?_ (aw:=by(intro u hu;exact(J7 rfl (aG.cell (mL.tr0 hu) h24))));refine bH 9 hS ?_;refine JhJ (i:=6) (j:=10) (k:=11) (m:=12) rfl rfl rfl rfl az ?_ ?_ ?_ ?_
   .obtain ⟨n,hn⟩:=aP u.heap.size;refine Px ?_;rintro vr u ⟨hR,hf⟩;have yL:In (ag vr) n u.heap.size:=fun x hx=>⟨by have:=hR.2 x hx;omega,hR.1.lt x hx⟩
    have hR:=hR.1;rw[<-k7]at hR;obtain⟨mr,cr,rfl⟩:=hR.slice;have hz:=hf.size;have hS:=hS.Jb hf;clear hf;refine ft ?_;refine XJ (i:=10) (j:=11) (k:=12) rfl rfl rfl az ?_ ?_ ?_
    .obtain ⟨n,hn⟩:=aP u.heap.size;obtain⟨bC,rB⟩:=aP u.heap.size;refine Qh (k:=nc) rfl rfl ab dt (fun u hC hf RC=>?_);rw[<-rB]at hC ⊢;rw[QE]at hC;have qE:In (ag (Value.slice (some ⟨bC,0,none⟩) nc nc)) n u.heap.size:=fun x hx=>by simp[ag,Value.ownBlock]at hx;omega
     have hz:=hf.size;have hR:=hR.tr0 hf;exact Yei
    .obtain ⟨n,hn⟩:=aP u.heap.size;obtain⟨bB,jQ⟩:=aP u.heap.size;refine Kt (key:=gg) (val:=Value.int .i64) (fun u hB hf sr=>?_);rw[<-jQ]at hB ⊢;have hz:=hf.size;have hR:=hR.tr0 hf;exact Yef
    .obtain ⟨n,hn⟩:=aP u.heap.size;obtain⟨bP,rC⟩:=aP u.heap.size;refine Kt (key:=iC) (val:=Value.bool) (fun u hP hf RE=>?_);rw[<-rC]at hP ⊢;have hz:=hf.size;have hR:=hR.tr0 hf;exact Yee
   .obtain ⟨n,hn⟩:=aP u.heap.size;obtain⟨bC,rB⟩:=aP u.heap.size;refine Qh (k:=nc) rfl rfl ab dt (fun u hC hf RC=>?_);rw[<-rB]at hC ⊢;rw[QE]at hC;have qE:In (ag (Value.slice (some ⟨bC,0,none⟩) nc nc)) n u.heap.size:=fun x hx=>by simp[ag,Value.ownBlock]at hx;omega
    have hz:=hf.size;have hS:=hS.Jb hf;clear hf;refine ft ?_;refine XJ (i:=6) (j:=11) (k:=12) rfl rfl rfl az ?_ ?_ ?_
    .obtain ⟨n,hn⟩:=aP u.heap.size;refine Px ?_;rintro vr u ⟨hR,hf⟩;have yL:In (ag vr) n u.heap.size:=fun x hx=>⟨by have:=hR.2 x hx;omega,hR.1.lt x hx⟩
     have hR:=hR.1;rw[<-k7]at hR;obtain⟨mr,cr,rfl⟩:=hR.slice;have hz:=hf.size;have hC:=hC.tr0 hf;exact Yei
    .obtain ⟨n,hn⟩:=aP u.heap.size;obtain⟨bB,jQ⟩:=aP u.heap.size;refine Kt (key:=gg) (val:=Value.int .i64) (fun u hB hf sr=>?_);rw[<-jQ]at hB ⊢;have hz:=hf.size;have hC:=hC.tr0 hf;exact Yeh
    .obtain ⟨n,hn⟩:=aP u.heap.size;obtain⟨bP,rC⟩:=aP u.heap.size;refine Kt (key:=iC) (val:=Value.bool) (fun u hP hf RE=>?_);rw[<-rC]at hP ⊢;have hz:=hf.size;have hC:=hC.tr0 hf;exact Yeg
   .obtain ⟨n,hn⟩:=aP u.heap.size;obtain⟨bB,jQ⟩:=aP u.heap.size;refine Kt (key:=gg) (val:=Value.int .i64) (fun u hB hf sr=>?_);rw[<-jQ]at hB ⊢;have hz:=hf.size;have hS:=hS.Jb hf;clear hf;refine ft ?_;refine XJ (i:=6) (j:=10) (k:=12) rfl rfl rfl az ?_ ?_ ?_
    .obtain ⟨n,hn⟩:=aP u.heap.size;refine Px ?_;rintro vr u ⟨hR,hf⟩;have yL:In (ag vr) n u.heap.size:=fun x hx=>⟨by have:=hR.2 x hx;omega,hR.1.lt x hx⟩
     have hR:=hR.1;rw[<-k7]at hR;obtain⟨mr,cr,rfl⟩:=hR.slice;have hz:=hf.size;have hB:=hB.tr0 hf;exact Yef
    .obtain ⟨n,hn⟩:=aP u.heap.size;obtain⟨bC,rB⟩:=aP u.heap.size;refine Qh (k:=nc) rfl rfl ab dt (fun u hC hf RC=>?_);rw[<-rB]at hC ⊢;rw[QE]at hC;have qE:In (ag (Value.slice (some ⟨bC,0,none⟩) nc nc)) n u.heap.size:=fun x hx=>by simp[ag,Value.ownBlock]at hx;omega
     have hz:=hf.size;have hB:=hB.tr0 hf;exact Yeh
    .obtain ⟨n,hn⟩:=aP u.heap.size;obtain⟨bP,rC⟩:=aP u.heap.size;refine Kt (key:=iC) (val:=Value.bool) (fun u hP hf RE=>?_);rw[<-rC]at hP ⊢;have hz:=hf.size;have hB:=hB.tr0 hf;exact Yed
   .obtain ⟨n,hn⟩:=aP u.heap.size;obtain⟨bP,rC⟩:=aP u.heap.size;refine Kt (key:=iC) (val:=Value.bool) (fun u hP hf RE=>?_);rw[<-rC]at hP ⊢;have hz:=hf.size;have hS:=hS.Jb hf;clear hf;refine ft ?_;refine XJ (i:=6) (j:=10) (k:=11) rfl rfl rfl az ?_ ?_ ?_
    .obtain ⟨n,hn⟩:=aP u.heap.size;refine Px ?_;rintro vr u ⟨hR,hf⟩;have yL:In (ag vr) n u.heap.size:=fun x hx=>⟨by have:=hR.2 x hx;omega,hR.1.lt x hx⟩
     have hR:=hR.1;rw[<-k7]at hR;obtain⟨mr,cr,rfl⟩:=hR.slice;have hz:=hf.size;have hP:=hP.tr0 hf;exact Yee
    .obtain ⟨n,hn⟩:=aP u.heap.size;obtain⟨bC,rB⟩:=aP u.heap.size;refine Qh (k:=nc) rfl rfl ab dt (fun u hC hf RC=>?_);rw[<-rB]at hC ⊢;rw[QE]at hC;have qE:In (ag (Value.slice (some ⟨bC,0,none⟩) nc nc)) n u.heap.size:=fun x hx=>by simp[ag,Value.ownBlock]at hx;omega
     have hz:=hf.size;have hP:=hP.tr0 hf;exact Yeg
    .obtain ⟨n,hn⟩:=aP u.heap.size;obtain⟨bB,jQ⟩:=aP u.heap.size;refine Kt (key:=gg) (val:=Value.int .i64) (fun u hB hf sr=>?_);rw[<-jQ]at hB ⊢;have hz:=hf.size;have hP:=hP.tr0 hf;exact Yed
 rintro g u ⟨p,M,R,g4,g5,hC,hM,hF⟩;rw[Ja g4,Ja g5];refine Ymh ?_;unfold Jh0;rw[hsd];exact⟨hF,p,M,R,rfl,hC,hM⟩
end Go.Proofs.YtggmccicdhnkgaaGreat
