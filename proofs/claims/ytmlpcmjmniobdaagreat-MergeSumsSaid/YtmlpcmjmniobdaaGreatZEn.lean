/-
 What slices.Insert needs:copies between known rows,an append of zeros. It speaks of no program.
-/
import Derived.RecoverIn
import Derived.Test.YtmlpcmjmniobdaaGreatZEe
import Derived.Lib.Overlaps
set_option linter.all false
namespace Go.Ev
open Go.Rf Go.RowKit
section
variable{l xs:List Value}{d1 d2 f n:Nat}{P:Program}{w:World}
theorem foldl_same:∀(l:List (Nat×Value)) (f:Env),(∀p∈l,f p.1=p.2)->l.foldl (fun g p=>upd g p.1 p.2) f=f
 |[],f,_=>rfl
 |p::l,f,h=>by
  have e:upd f p.1 p.2=f:=by
   funext k
   by_cases hk:k=p.1
   .subst hk;rw[upd_same];exact(h p (List.mem_cons_self ..)).symm
   .exact upd_ne _ _ hk
  rw[List.foldl_cons,e];exact foldl_same l f fun q hq=>h q (List.mem_cons_of_mem _ hq)
theorem ER.e{L:Lay}{f:Env}:ER L .e f:=fun k v e=>by cases e
theorem enter_ER{β:Type}{r:β}{L:Lay}{args:List SV}{c:Tr SV->Option β}(h:setPs .e (List.range args.length) args c=some r)(ha:denL L args=some xs):∃T',c T'=some r/\ER L T' (envL 0 xs):=by
 obtain⟨T',h1,h2,h3⟩:=setPs_spec h (f:=envL 0 xs) ER.e ha;refine⟨T',h1,?_⟩;rw[foldl_same]at h3
 .exact h3
 .rintro ⟨i,v⟩ hm;obtain⟨k,hk⟩:=List.getElem?_of_mem hm;rw[List.getElem?_zip_eq_some]at hk;obtain⟨h4,h5⟩:=hk;have h6:i=k:=by
   obtain⟨h7,h8⟩:=List.getElem?_eq_some_iff.1 h4;simpa using h8.symm
  subst h6;have:=envL_get xs 0 i;rw[Nat.zero_add]at this;show envL 0 xs i=v;rw[this,List.getD_eq_getElem?_getD,h5];rfl
section
variable{P:Program}{nt:Nat}{L:Lay}{T:Tr SV}{f:Env}{h:H}{w:World}
def resOne(tmps:Array Value):ResultVar->Sem Value
 |.tmp t=>pure (tmps.getD t undef)
 |.cell a t=>do loadVar t (<-asAddr (tmps.getD a undef))
theorem res_spec{D:List Deferred}(hE:ER L T f)(R:Rep L h w){r:ResultVar}{v:SV}(e:resS P nt T h r=some v):∃y,den L v=some y/\(resOne (@A nt f ⟨D⟩).tmps r).run P w=.ok y w:=by
 cases r with
 |tmp t=>
  refine⟨ev nt f (.tmp t),cO_spec hE e,?_⟩;have:(@A nt f ⟨D⟩).tmps.getD t undef=ev nt f (.tmp t):=A_getD nt f t;show(pure ((@A nt f ⟨D⟩).tmps.getD t undef):Sem Value).run P w=_;rw[this];rfl
 |cell a t=>
  have hga:(@A nt f ⟨D⟩).tmps.getD a undef=ev nt f (.tmp a):=A_getD nt f a;have hb:∀(b:Addr),ev nt f (.tmp a)=.pointer (some b)->(resOne (@A nt f ⟨D⟩).tmps (.cell a t)).run P w=(loadVar t b).run P w:=fun b hb=>by
   show(asAddr ((@A nt f ⟨D⟩).tmps.getD a undef)>>=fun x=>loadVar t x).run P w=_;rw[hga,hb];simp[Sem.run_bind,asAddr,Result.andThen]
  simp only[resS]at e
  split at e
  .rename_i ha
   split at e
   .rename_i s hs;obtain⟨d,hd,had⟩:=aggT_spec ha;obtain⟨i',hi',rfl⟩:=szOf_spec hs;unfold loadA at e
    split at e
    .rename_i i o ex;obtain⟨b,h1,h2⟩:=den_at (cO_spec hE ex);obtain⟨ys,h3,h4,h5⟩:=cells1_spec R h1 e;exact⟨_,h3,by rw[hb _ h2,loadVar_agg hd had hi' h4 (fun j u hu=>by rw[add_lit];exact h5 j u hu)]⟩
    .cases e
   .cases e
  .rename_i ha;obtain⟨d,hd,had⟩:=aggT_spec ha;unfold loadV at e
   split at e
   .rename_i i o ex;obtain⟨b,h1,h2⟩:=den_at (cO_spec hE ex);obtain⟨y,h3,h4⟩:=cell1_spec R h1 e;exact⟨y,h3,by rw[hb _ h2,loadVar_one hd had h4]⟩
   .cases e
  .cases e
theorem ress_spec{D:List Deferred}(hE:ER L T f)(R:Rep L h w):∀{rs:List ResultVar} {vs:List SV},ressS P nt T h rs=some vs->∃ys,denL L vs=some ys/\(rs.mapM (resOne (@A nt f ⟨D⟩).tmps)).run P w=.ok ys w
 |[],vs,e=>by cases e;exact⟨[],denL_nil L,rfl⟩
 |r::rs,vs,e=>by
  simp only[ressS]at e
  split at e
  .rename_i v hv
   split at e
   .rename_i vs' hvs;cases e
    obtain⟨y,h1,h2⟩:=res_spec (D:=D) hE R hv;obtain⟨ys,h3,h4⟩:=ress_spec hE R hvs;exact⟨y::ys,denL_cons.2 ⟨y,ys,h1,h3,rfl⟩,by rw[List.mapM_cons,Sem.run_bind,h2,Result.andThen_ok,Sem.run_bind,h4];rfl⟩
   .cases e
  .cases e
def tupS:List SV->SV
 |[v]=>v
 |vs=>.tup vs
theorem results_spec{D:List Deferred}{fn:Func}(hE:ER L T f)(R:Rep L h w){vs:List SV}(e:ressS P nt T h fn.results.toList=some vs):∃y,den L (tupS vs)=some y/\(results fn (@A nt f ⟨D⟩).tmps).run P w=.ok y w:=by
 obtain⟨ys,h1,h2⟩:=ress_spec (D:=D) hE R e;have hr:results fn (@A nt f ⟨D⟩).tmps=(fn.results.mapM (resOne (@A nt f ⟨D⟩).tmps)>>=fun vs=>pure (if h:vs.size=1 then vs[0] else .tuple vs)):=rfl;have hm:fn.results.mapM (resOne (@A nt f ⟨D⟩).tmps)=List.toArray<$>fn.results.toList.mapM (resOne (@A nt f ⟨D⟩).tmps):=by
  rw[<-List.mapM_toArray]
 have hl:=denL_len h1;refine⟨if h:ys.toArray.size=1 then ys.toArray[0] else .tuple ys.toArray,?_,by rw[hr,hm,Sem.run_bind,map_eq_pure_bind,Sem.run_bind,h2];rfl⟩;unfold tupS
 split
 .rename_i v
  match ys,hl with
  |[y],_=>
   obtain⟨y',r,h3,h4,h5⟩:=denL_cons.1 h1;cases h5
   exact h3
 .rename_i hne;rw[dif_neg (fun hs=>by
   match vs,hl,hne with
   |[v],_,hne=>exact hne v rfl
   |[],hl,_=>
    have:ys.length=1:=by simpa using hs
    simp only[List.length_nil]at hl;omega
   |a::b::l,hl,_=>
    have:ys.length=1:=by simpa using hs
    simp only[List.length_cons]at hl;omega)]
  exact den_tup' h1
theorem enterMI{fid:FuncId}{fn:Func}{c:Code}{R:Ending->World->Prop}
 (hf:P.funcs[fid]?=some fn) (hb:fn.body=some c) (hn:fn.ntmps=n) (hl:Nat.ble l.length n=true)
 (h:c.wpIn Fence.wide 0 P (bodyPostM Fence.wide 0 P fn R) (A n (envL 0 l)) w):Calls P fid l.toArray w R:=by
 refine(callsIn_wide (n:=0)).1 (callsIn_of_wp_marks hf hb trivial ?_);rw[enter_act hn hl];exact h
theorem enterRI{fid:FuncId}{fn:Func}{id ty1 ty2:Nat}{ps1 ps2:String}{af1 af2:Array Edge}{ar:Array Operand}{at_:Array TypeId}{c:Code}{R:Ending->World->Prop}
 (hf:P.funcs[fid]?=some fn) (hb:fn.body=some (.seq (.region id #[⟨some d1,.call {callee:=.builtin .recover,args:=ar,argTypes:=at_},ty1,ps1,af1,none⟩,⟨some d2,.assign (.tmp d1),ty2,ps2,af2,none⟩] false) c)) (hn:fn.ntmps=n) (hl:Nat.ble l.length n=true) (hd:Nat.blt d1 n=true)
 (h:c.wpIn Fence.wide 0 P (bodyPost P fn R) (A n (upd (upd (envL 0 l) d1 .nilIface) d2 .nilIface)) w):CallsDIn Fence.wide 0 P fid l.toArray .returning w fun e u2 w'=>u2=.returning/\R e w':=by
 refine callsDIn_of_wpSIn hf hb trivial fun c₀ cs hu=>?_
 rw[enter_act hn hl];have hnone:recoverD (c₀::cs)=none:=by simp[recoverD,hu]
 have h2:c.wpSIn Fence.wide 0 P (bodyPostS P fn c₀ cs fun e u2 w'=>u2=.returning/\R e w') (A n (upd (upd (envL 0 l) d1 .nilIface) d2 .nilIface)) (c₀::cs) w:=by
  have hc:({c₀ with mode:=.returning}:Frame)=c₀:=by rw[<-hu]
  refine wpSIn_of_wpIn rfl (wpIn_mono h fun e a w hq=>?_);cases e with
  |normal=>obtain⟨h1,v,h2,h3⟩:=hq;exact⟨h1,.returning,by rw[hc],v,h2,rfl,h3⟩
  |ret=>obtain⟨h1,v,h2,h3⟩:=hq;exact⟨h1,.returning,by rw[hc],v,h2,rfl,h3⟩
  |panic ch=>obtain⟨h1,h3⟩:=hq;exact⟨h1,.returning,by rw[hc],rfl,h3⟩
  |exit id=>exact hq.elim
  |goto l=>exact hq.elim
  |outgrown=>exact⟨.returning,rfl,hq⟩
 refine wpSIn_seq (wpSIn_region ?_);have hev:ev n (upd (envL 0 l) d1 .nilIface) (.tmp d1)=.nilIface:=by
  show cond (Nat.blt d1 n) (upd (envL 0 l) d1 .nilIface d1) undef=_;rw[hd,upd_same];rfl
 have r2:List.range 2=[0,1]:=rfl;have e1:(execOp (ev n (envL 0 l)) ⟨some d1,.call {callee:=.builtin .recover,args:=ar,argTypes:=at_},ty1,ps1,af1,none⟩).run P w=.ok .recover w:=by simp[execOp,resolve,invoke,builtin]
 have e2:(execOp (ev n (upd (envL 0 l) d1 .nilIface)) ⟨some d2,.assign (.tmp d1),ty2,ps2,af2,none⟩).run P w=.ok (.value .nilIface) w:=by simp only[execOp,hev];rfl
 show wpOpsSIn _ _ P _ _ (List.range 2) _ _ _;rw[r2];unfold wpOpsSIn;simp only[Region.wanted,A_eval];simp only[List.getElem?_toArray,List.getElem?_cons_zero,if_true,e1,hnone,A_put,updo];refine⟨fun _ _=>trivial,?_⟩;unfold wpOpsSIn;simp only[Region.wanted,A_eval];simp only[List.getElem?_toArray,List.getElem?_cons_succ,List.getElem?_cons_zero,if_true,e2,A_put,updo];refine⟨fun _ _=>trivial,?_⟩;unfold wpOpsSIn;exact h2
end
section
variable{P:Program}{ih:IH}
def NoGo(P:Program):Prop:=∀(k:Nat) (fn:Func),P.funcs.toList[k]?=some fn->(fn.name== "runtime.NumGoroutine")=false
theorem funOf_spec{fn:Func}(h:funOf P f=some fn):P.funcs[f]?=some fn:=by
 unfold funOf at h
 rwa [Array.getElem?_toList]at h
theorem recovers_spec{body:Option Code}{c:Code}(h:recovers body=some (d1,d2,c)):∃id ar at_ ty1 ps1 af1 ty2 ps2 af2,body=some (.seq (.region id #[⟨some d1,.call {callee:=.builtin .recover,args:=ar,argTypes:=at_},ty1,ps1,af1,none⟩,⟨some d2,.assign (.tmp d1),ty2,ps2,af2,none⟩] false) c):=by
 unfold recovers at h
 split at h
 .rename_i id ops c'
  split at h
  .rename_i d1' ar at_ ty1 ps1 af1 d2' d3 ty2 ps2 af2 hl;by_cases hd:d1'=d3
   .subst hd;rw[nbeq,decide_eq_true rfl]at h;cases h
    refine⟨id,ar,at_,ty1,ps1,af1,ty2,ps2,af2,?_⟩
    congr 3
    apply Array.ext';rw[hl]
   .rw [nbeq,decide_eq_false hd]at h;cases h
  .cases h
 .cases h
theorem DR.nil'{L:Lay}{D:List Deferred}(h:DR L [] D):D=[]:=by cases h;rfl
theorem defF_sound(hno:NoGo P)(I:IHok P ih){cap:List SV}{h h':H}{L:Lay}(e:defF ih f cap h (funOf P f)=some h')(R:Rep L h w)(ha:denL L cap=some xs):
 FnT P f/\CallsDIn Fence.wide 0 P f xs.toArray .returning w fun e u2 w'=>u2=.returning/\(∃y,e=.returned y)/\∃L',Rep L' h' w'/\Ext L h w L' h' w':=by
 cases hf:funOf P f with
 |none=>rw[hf]at e;cases e
 |some fn=>
  rw[hf]at e;have hf':=funOf_spec hf;simp only[defF]at e
  split at e
  .rename_i d1 d2 c hrec;obtain⟨id,ar,at_,ty1,ps1,af1,ty2,ps2,af2,hb⟩:=recovers_spec hrec;refine⟨⟨⟨fn,hf',hno f fn hf,by rw[hb];rfl⟩⟩,?_⟩
   split at e
   .rename_i hres;have hres':fn.results=#[]:=Array.ext' hres;cases hc:(and (Nat.blt d1 fn.ntmps) (Nat.ble cap.length fn.ntmps):Bool)with
    |false=>rw[hc]at e;cases e
    |true=>
     rw[hc]at e;obtain⟨hd,hl⟩:=Bool.and_eq_true_iff.1 hc;obtain⟨T1,e1,hE1⟩:=enter_ER e ha;obtain⟨T2,e2,g2⟩:=set_spec _ _ _ _ _ _ e1;obtain⟨T3,e3,g3⟩:=set_spec _ _ _ _ _ _ e2;have hni:den L .inil=some .nilIface:=by unfold den;rfl
     have hE3:=(hE1.upd g2 hni).upd g3 hni;have hl':Nat.ble xs.length fn.ntmps=true:=by rw[denL_len ha];exact hl
     refine enterRI hf' hb rfl hl' hd ?_;have fin:∀x s',ih.c f none fn.ntmps c ⟨T3,[],h⟩=some (x,s')->s'.ds=[]->s'.h=h'->(x=.normal\/x=.ret)->
      c.wpIn Fence.wide 0 P (bodyPost P fn fun e w'=>(∃y,e=.returned y)/\∃L',Rep L' h' w'/\Ext L h w L' h' w') (A fn.ntmps (upd (upd (envL 0 xs) d1 .nilIface) d2 .nilIface)) w:=by
      intro x s' hi hds hh hx;have hw:=I.c _ _ _ _ _ _ _ hi L (upd (upd (envL 0 xs) d1 .nilIface) d2 .nilIface) [] w none ⟨hE3,.nil,R⟩ rfl;refine wpIn_mono hw ?_;rintro e a w1 ⟨rfl,L1,f1,D1,rfl,S1,X1⟩;have hD:D1=[]:=by have:=S1.d;rw[hds]at this;exact this.nil'
      subst hD;have hr:=results_none hres' (@A fn.ntmps f1 ⟨[]⟩).tmps P w1;have hR:=S1.r;rw[hh]at hR X1;rcases hx with rfl|rfl
      .exact ⟨rfl,_,hr,⟨_,rfl⟩,L1,hR,X1⟩
      .exact ⟨rfl,_,hr,⟨_,rfl⟩,L1,hR,X1⟩
     split at e3
     .rename_i T4 h4 hi;cases e3
      exact fin _ _ hi rfl rfl (.inl rfl)
     .rename_i T4 h4 hi;cases e3
      exact fin _ _ hi rfl rfl (.inr rfl)
     .cases e3
   .cases e
  .cases e
theorem markS_spec{d:Nat}{h h':H}(e:markS d h (h.get d)=some h'):h.get d=some .dfr/\h'.nx=h.nx/\∀j,h'.get j=if j=d then some .gone else h.get j:=by
 cases hg:h.get d with
 |none=>rw[hg]at e;cases e
 |some so=>
  rw[hg]at e;cases so with
  |dfr=>
   obtain⟨h1,e1,e2,e3⟩:=put_spec (show h.put d .gone some=some h' from e);cases e1
   exact⟨rfl,e2,e3⟩
  |_=>cases e
theorem defS_sound(hno:NoGo P)(I:IHok P ih){fn:Func}{tmps:Array Value}{Q:Ending->World->Prop}:∀{ds:List DF} {h h2:H} {L:Lay} {w:World} {D:List Deferred},defS P ih ds h=some h2->DR L ds D->Rep L h w->
 (∀L' w',Rep L' h2 w'->Ext L h w L' h2 w'->∃v,(results fn tmps).run P w'=.ok v w'/\Q (.returned v) w')->LeavesInM Fence.wide 0 P fn tmps Q D .returning w
 |[],h,h2,L,w,D,e,hD,R,k=>by
  cases e
  cases hD
  exact k L w R (Ext.refl _ _ _)
 |.mark d::ds,h,h2,L,w,D,e,hD,R,k=>by
  cases hD with
  |mark hl t=>
   rename_i x m;simp only[defS]at e
   split at e
   .rename_i h1 hm;obtain⟨hg,hn,hg'⟩:=markS_spec hm;have hO:=R.get hl hg;have hlt:=(R.lt _ _ hl).2;have hF:Fr [x.1] w (w.putObj x.1 (.deferred none)):=⟨rfl,rfl,rfl,by simp[World.putObj],fun k _ hk=>World.putObj_heap_other Yng,Nat.le_refl _⟩;obtain⟨R1,X1⟩:=R.put (so:=.gone) hl (by unfold live;rw[hg];simp) hn hg' hF trivial;refine⟨by simp,.inl ⟨x.1,_,rfl,run_takeDeferred hO,?_⟩⟩;exact defS_sound hno I e t R1 fun L' w' R' X'=>k L' w' R' (X1.trans X')
   .cases e
 |.fn f cap::ds,h,h2,L,w,D,e,hD,R,k=>by
  cases hD with
  |fn hc t=>
   rename_i xs m;simp only[defS]at e
   split at e
   .rename_i h1 hm;obtain⟨⟨fn0,g1,g2,g3⟩,hC⟩:=defF_sound hno I hm R hc;have g2':¬fn0.name= "runtime.NumGoroutine":=by simpa using g2
    have g3':¬fn0.body=none:=by intro e;rw[e]at g3;cases g3
    refine⟨by simp,.inr ⟨(fun h=>by simp[Fence.wide]at h),.func f,xs.toArray,f,xs.toArray,rfl,?_,fun _ _=>trivial,trivial,fun c cs hcm hroom=>?_⟩⟩
    .simp [invoke,callFunc,g1,g2',g3']
    .obtain ⟨e1,u',w',fr,⟨hu,⟨y,hy⟩,L1,R1,X1⟩,h3,h4,h5,h6⟩:=hC.2 c cs hcm hroom;subst hu hy;refine⟨_,_,w',fr,?_,h3,h4,h5,h6⟩;show LeavesInM Fence.wide 0 P fn tmps Q m (settle .returning) w';have:settle .returning=.returning:=rfl;rw[this];exact defS_sound hno I e (t.mono X1.le) R1 fun L' w' R' X'=>k L' w' R' (X1.trans X')
   .cases e
theorem backS_sound(hno:NoGo P)(I:IHok P ih){fn:Func}{r:Option (X×St)}{v:SV}{h h':H}{L:Lay}{nt:Nat}(hnt:fn.ntmps=nt)(e:backS P ih fn r=some (v,h')):∃x s',r=some (x,s')/\∀e a w1,CPost L h w nt x s' e a w1->
 bodyPostM Fence.wide 0 P fn (fun e w'=>∃L' y,e=.returned y/\den L' v=some y/\Rep L' h' w'/\Ext L h w L' h' w') e a w1:=by
 cases r with
 |none=>cases e
 |some p=>
  obtain⟨x,T,ds,h1⟩:=p;refine⟨x,_,rfl,?_⟩;rintro e0 a w1 ⟨rfl,L1,f1,D1,rfl,S1,X1⟩;have key:∀h2,defS P ih ds h1=some h2->(match ressS P fn.ntmps T h2 fn.results.toList with
   |some [v]=>some (v,h2)
   |some vs=>some (.tup vs,h2)
   |none=>none)=some (v,h')->LeavesInM Fence.wide 0 P fn (@A nt f1 ⟨D1⟩).tmps (fun e w'=>∃L' y,e=.returned y/\den L' v=some y/\Rep L' h' w'/\Ext L h w L' h' w') D1 .returning w1:=by
   intro h2 hd e;refine defS_sound hno I hd S1.d S1.r fun L2 w2 R2 X2=>?_
   cases hr:ressS P fn.ntmps T h2 fn.results.toList with
   |none=>rw[hr]at e;cases e
   |some vs=>
    rw[hr]at e;subst hnt;obtain⟨y,h3,h4⟩:=results_spec (D:=D1) (S1.e.mono X2.le) R2 hr;have hv:h2=h'/\tupS vs=v:=by
     split at e
     .rename_i u hu;cases hu;cases e;exact⟨rfl,rfl⟩
     .rename_i us hne hu;cases hu;cases e
      refine⟨rfl,?_⟩;unfold tupS
      split
      .exact absurd rfl (hne _)
      .rfl
     .rename_i hu;cases hu
    obtain⟨rfl,hv⟩:=hv;rw[hv]at h3;exact⟨y,h4,L2,y,rfl,h3,R2,X1.trans X2⟩
  simp only[backS]at e;cases x with
  |exit id=>cases e
  |normal=>
   simp only at e;cases hd:defS P ih ds h1 with
   |none=>rw[hd]at e;cases e
   |some h2=>rw[hd]at e;exact key h2 hd e
  |ret=>
   simp only at e;cases hd:defS P ih ds h1 with
   |none=>rw[hd]at e;cases e
   |some h2=>rw[hd]at e;exact key h2 hd e
theorem callS_sound(hno:NoGo P)(I:IHok P ih){args:List SV}{v:SV}{h h':H}(e:callS P ih f args h (funOf P f)=some (v,h')){L:Lay}(R:Rep L h w)(ha:denL L args=some xs):
 FnT P f/\Calls P f xs.toArray w (fun e w'=>∃L' y,e=.returned y/\den L' v=some y/\Rep L' h' w'/\Ext L h w L' h' w'):=by
 cases hf:funOf P f with
 |none=>rw[hf]at e;cases e
 |some fn=>
  rw[hf]at e;have hf':=funOf_spec hf;cases hb:fn.body with
  |none=>simp only[callS,hb]at e;cases e
  |some c=>
   simp only[callS,hb]at e;cases hl:Nat.ble args.length fn.ntmps with
   |false=>rw[hl]at e;cases e
   |true=>
    rw[hl]at e;refine⟨⟨⟨fn,hf',hno f fn hf,by rw[hb];rfl⟩⟩,?_⟩;obtain⟨T1,e1,hE1⟩:=enter_ER e ha;have hl':Nat.ble xs.length fn.ntmps=true:=by rw[denL_len ha];exact hl
    obtain⟨x,s',h1,h2⟩:=backS_sound (L:=L) (w:=w) (h:=h) hno I rfl e1;refine enterMI hf' hb rfl hl' ?_;refine wpIn_mono (I.c _ _ _ _ _ _ _ h1 L (envL 0 xs) [] w none ⟨hE1,.nil,R⟩ rfl) h2
end
section
variable{P:Program}{orc:Nat->List SV->H->Option (SV×H)}
def Orc(P:Program)(orc:Nat->List SV->H->Option (SV×H)):Prop:=∀f args h v h',orc f args h=some (v,h')->∀L w xs,Rep L h w->denL L args=some xs->FnT P f/\Calls P f xs.toArray w (fun e w'=>∃L' y,e=.returned y/\den L' v=some y/\Rep L' h' w'/\Ext L h w L' h' w')
theorem run_sound(hm:P.follows .mixedOrders=true)(hno:NoGo P)(hO:Orc P orc)(n:Nat):IHok P (run P orc n):=by
 induction n using Nat.strongRecOn with
 |_ n ih=>
  cases n with
  |zero=>exact⟨(fun _ _ _ _ _ _ _ e=>by cases e),(fun _ _ _ _ _ e=>by cases e)⟩
  |succ n=>
   refine⟨fun fid ro nt c s x s' e L f D w r S hro=>?_,fun f args h v h' e L w xs R ha=>?_⟩
   .exact code_sound hm (fun m hmn=>ih m (Nat.lt_succ_of_le hmn)) c n (Nat.le_refl n) fid ro nt s x s' e L f D w r S hro
   .have e':(match orc f args h with
     |some r=>some r
     |none=>callS P (run P orc n) f args h (funOf P f))=some (v,h'):=e
    cases ho:orc f args h with
    |none=>rw[ho]at e';exact callS_sound hno (ih n (Nat.lt_succ_self n)) e' R ha
    |some r=>rw[ho]at e';cases e';exact hO _ _ _ _ _ ho L w xs R ha
end
end
section
variable{w:World}
def okV(p:Nat->Bool):SV->Bool
 |.ptr i _=>p i
 |.slc i _ _ _=>p i
 |.esl i _ _ _=>p i
 |.asl i _ _ _=>p i
 |.map i=>p i
 |.yld i=>p i
 |.fn _ a c=>and (okVs a) (okVs c)
 |.ifc _ v=>okV p v
 |.agg l=>okVs l
 |.tup l=>okVs l
 |_=>true
where okVs:List SV->Bool
 |[]=>true
 |v::l=>and (okV p v) (okVs l)
def okE(p:Nat->Bool):List (SV×SV×Nat)->Bool
 |[]=>true
 |(k,v,_)::l=>and (okV p k) (and (okV p v) (okE p l))
def okO(p:Nat->Bool):SO->Bool
 |.row _ _ l _=>okV.okVs p l
 |.map es _=>okE p es
 |_=>false
mutual
theorem den_on{L L':Lay}{p:Nat->Bool}(hl:∀i x,p i=true->L i=some x->L' i=some x):(v:SV)->(x:Value)->okV p v=true->den L v=some x->den L' v=some x
 |.bool _,_,_,h=>h
 |.int _ _,_,_,h=>h
 |.str _,_,_,h=>h
 |.pnil,_,_,h=>h
 |.snil,_,_,h=>h
 |.mnil,_,_,h=>h
 |.fnil,_,_,h=>h
 |.inil,_,_,h=>h
 |.ptr i _,_,q,h=>by unfold den at h ⊢;cases e:L i with
  |none=>rw[e]at h;cases h
  |some x=>rw[e]at h;rw[hl i x Ynh e];exact h
 |.slc i _ _ _,_,q,h=>by unfold den at h ⊢;cases e:L i with
  |none=>rw[e]at h;cases h
  |some x=>rw[e]at h;rw[hl i x Ynh e];exact h
 |.esl i _ _ _,_,q,h=>by unfold den at h ⊢;cases e:L i with
  |none=>rw[e]at h;cases h
  |some x=>rw[e]at h;rw[hl i x Ynh e];exact h
 |.asl i _ _ _,_,q,h=>by unfold den at h ⊢;cases e:L i with
  |none=>rw[e]at h;cases h
  |some x=>rw[e]at h;rw[hl i x Ynh e];exact h
 |.map i,_,q,h=>by unfold den at h ⊢;cases e:L i with
  |none=>rw[e]at h;cases h
  |some x=>rw[e]at h;rw[hl i x Ynh e];exact h
 |.yld i,_,q,h=>by unfold den at h ⊢;cases e:L i with
  |none=>rw[e]at h;cases h
  |some x=>rw[e]at h;rw[hl i x Ynh e];exact h
 |.fn _ a c,_,q,h=>by
  simp only[okV,Bool.and_eq_true]at q;unfold den at h ⊢;cases e:den.denL L a with
  |none=>rw[e]at h;cases h
  |some x=>cases e':den.denL L c with
   |none=>rw[e,e']at h;cases h
   |some y=>rw[e,e']at h;rw[denL_on hl a x q.1 e,denL_on hl c y q.2 e'];exact h
 |.ifc _ v,_,q,h=>by
  simp only[okV]at q;unfold den at h ⊢;cases e:den L v with
  |none=>rw[e]at h;cases h
  |some x=>rw[e]at h;rw[den_on hl v x q e];exact h
 |.agg l,_,q,h=>by
  simp only[okV]at q;unfold den at h ⊢;cases e:den.denL L l with
  |none=>rw[e]at h;cases h
  |some x=>rw[e]at h;rw[denL_on hl l x q e];exact h
 |.tup l,_,q,h=>by
  simp only[okV]at q;unfold den at h ⊢;cases e:den.denL L l with
  |none=>rw[e]at h;cases h
  |some x=>rw[e]at h;rw[denL_on hl l x q e];exact h
theorem denL_on{L L':Lay}{p:Nat->Bool}(hl:∀i x,p i=true->L i=some x->L' i=some x):(l:List SV)->(x:List Value)->okV.okVs p l=true->den.denL L l=some x->den.denL L' l=some x
 |[],_,_,h=>h
 |v::l,_,q,h=>by
  simp only[okV.okVs,Bool.and_eq_true]at q;unfold den.denL at h ⊢;cases e:den L v with
  |none=>rw[e]at h;cases h
  |some x=>cases e':den.denL L l with
   |none=>rw[e,e']at h;cases h
   |some y=>rw[e,e']at h;rw[den_on hl v x q.1 e,denL_on hl l y q.2 e'];exact h
end
theorem denE_on{L L':Lay}{p:Nat->Bool}(hl:∀i x,p i=true->L i=some x->L' i=some x):∀{l:List (SV×SV×Nat)} {xs:List MapEntry},okE p l=true->denE L l=some xs->denE L' l=some xs
 |[],xs,_,h=>h
 |(k,v,b)::l,xs,q,h=>by
  simp only[okE,Bool.and_eq_true]at q;obtain⟨x,y,r,h1,h2,h3,rfl⟩:=denE_cons.1 h;exact denE_cons.2 ⟨x,y,r,den_on hl _ _ q.1 h1,den_on hl _ _ q.2.1 h2,denE_on hl q.2.2 h3,rfl⟩
theorem RepO.on{L L':Lay}{p:Nat->Bool}(hl:∀i x,p i=true->L i=some x->L' i=some x){x:Nat×Nat}:∀{so:SO},okO p so=true->RepO L w x so->RepO L' w x so
 |.row ty sz l k,q,h=>by
  cases k with
  |full=>obtain⟨xs,h1,h2⟩:=h;exact⟨xs,denL_on hl _ _ q h1,h2⟩
  |more=>obtain⟨xs,r,h1,h2⟩:=h;exact⟨xs,r,denL_on hl _ _ q h1,h2⟩
  |ro=>obtain⟨xs,h1,h2⟩:=h;exact⟨xs,denL_on hl _ _ q h1,h2⟩
 |.map es k,q,h=>by obtain⟨xs,h1,h2⟩:=h;exact⟨xs,denE_on hl q h1,h2⟩
 |.mit ..,q,_=>by cases q
 |.loop ..,q,_=>by cases q
 |.dfr,q,_=>by cases q
 |.gone,q,_=>by cases q
/-! ### equality of things of the heap -/
def beqK:Kd->Kd->Bool
 |.full,.full=>true
 |.more,.more=>true
 |.ro,.ro=>true
 |_,_=>false
def beqE:List (SV×SV×Nat)->List (SV×SV×Nat)->Bool
 |[],[]=>true
 |(k,v,b)::l,(k',v',b')::l'=>and (beqS k k') (and (beqS v v') (and (Nat.beq b b') (beqE l l')))
 |_,_=>false
def beqO:SO->SO->Bool
 |.row t s l k,.row t' s' l' k'=>and (and (Nat.beq t t') (Nat.beq s s')) (and (beqK k k') (beqS.beqL l l'))
 |.map es k,.map es' k'=>and (Nat.beq k k') (beqE es es')
 |_,_=>false
theorem beqK_eq:∀{a b:Kd},beqK a b=true->a=b
 |.full,.full,_=>rfl
 |.more,.more,_=>rfl
 |.ro,.ro,_=>rfl
theorem beqE_eq:∀{a b:List (SV×SV×Nat)},beqE a b=true->a=b
 |[],[],_=>rfl
 |(k,v,b)::l,(k',v',b')::l',h=>by
  simp only[beqE,Bool.and_eq_true,nbeq,decide_eq_true_eq]at h;rw[beqS_eq _ _ h.1,beqS_eq _ _ h.2.1,h.2.2.1,beqE_eq h.2.2.2]
theorem beqO_eq{a b:SO}(h:beqO a b=true):a=b:=by
 cases a with
 |row t s l k=>
  cases b<;>first|(simp[beqO]at h;done)|skip
  simp only[beqO,Bool.and_eq_true,nbeq,decide_eq_true_eq]at h;rw[h.1.1,h.1.2,beqK_eq h.2.1,beqL_eq _ _ h.2.2]
 |map es k=>
  cases b<;>first|(simp[beqO]at h;done)|skip
  simp only[beqO,Bool.and_eq_true,nbeq,decide_eq_true_eq]at h;rw[h.1,beqE_eq h.2]
 |_=>cases b<;>simp[beqO]at h
/-! ### a state from lists -/
noncomputable def mkT {α:Type}:List (Nat×α)->Option (Tr α)
 |[]=>some .e
 |(k,v)::l=>match mkT l with
  |some t=>Tr.set 40 t k v some
  |none=>none
noncomputable def mkS (ks:List (Nat×SV)) (os:List (Nat×SO)) (nx:Nat):Option St:=match mkT ks with
 |some T=>match mkT os with
  |some t=>some ⟨T,[],⟨nx,t⟩⟩
  |none=>none
 |none=>none
theorem mkT_spec{α:Type}:∀{l:List (Nat×α)} {t:Tr α},mkT l=some t->∀k v,t.get k=some v->(k,v)∈l
 |[],t,h,k,v,e=>by cases h;cases e
 |(j,u)::l,t,h,k,v,e=>by
  simp only[mkT]at h
  split at h
  .rename_i t1 h1;obtain⟨t2,h2,h3⟩:=set_spec _ _ _ _ _ _ h;cases h2
   rw[h3]at e;by_cases hk:k=j
   .subst hk;rw[if_pos rfl]at e;cases e;exact List.mem_cons_self ..
   .rw [if_neg hk]at e;exact List.mem_cons_of_mem _ (mkT_spec h1 k v e)
  .cases h
def isS{α:Type}:Option α->Bool
 |some _=>true
 |none=>false
noncomputable def inH (h:H) (i:Nat):Bool:=isS (h.get i)
noncomputable def okT (T:Tr SV) (p:Nat->Bool):List (Nat×SV)->Bool
 |[]=>true
 |(k,v)::l=>and (match T.get k with
  |some u=>beqS u v
  |none=>false) (and (okV p v) (okT T p l))
noncomputable def okH (h:H) (p:Nat->Bool):List (Nat×SO)->Bool
 |[]=>true
 |(i,o)::l=>and (match h.get i with
  |some u=>beqO u o
  |none=>false) (and (okO p o) (okH h p l))
noncomputable def okSt (s1:St) (ks:List (Nat×SV)) (os:List (Nat×SO)) (nx:Nat):Bool:=match s1 with
 |⟨T,[],h⟩=>match mkS ks os nx with
  |some s'=>and (Nat.beq h.nx nx) (and (okT T (inH s'.h) ks) (okH h (inH s'.h) os))
  |none=>false
 |_=>false
theorem okT_spec{T:Tr SV}{p:Nat->Bool}:∀{l:List (Nat×SV)},okT T p l=true->∀k v,(k,v)∈l->T.get k=some v/\okV p v=true
 |[],_,_,_,h=>by cases h
 |(j,u)::l,h,k,v,hm=>by
  simp only[okT,Bool.and_eq_true]at h;rcases List.mem_cons.1 hm with e|hm
  .cases e
   refine⟨?_,h.2.1⟩;have h1:=h.1
   split at h1
   .rename_i u hu;rw[hu,beqS_eq _ _ h1]
   .cases h1
  .exact okT_spec h.2.2 k v hm
theorem okH_spec{T:H}{p:Nat->Bool}:∀{l:List (Nat×SO)},okH T p l=true->∀k v,(k,v)∈l->T.get k=some v/\okO p v=true
 |[],_,_,_,h=>by cases h
 |(j,u)::l,h,k,v,hm=>by
  simp only[okH,Bool.and_eq_true]at h;rcases List.mem_cons.1 hm with e|hm
  .cases e
   refine⟨?_,h.2.1⟩;have h1:=h.1
   split at h1
   .rename_i u hu;rw[hu,beqO_eq h1]
   .cases h1
  .exact okH_spec h.2.2 k v hm
theorem okSt_sound{L:Lay}{s1:St}{f:Env}{D:List Deferred}{ks:List (Nat×SV)}{os:List (Nat×SO)}{nx:Nat}(S:Sim L s1 f D w)(h:okSt s1 ks os nx=true):∃s' L',mkS ks os nx=some s'/\D=[]/\Sim L' s' f [] w/\∀b,Mine L' s'.h b->Mine L s1.h b:=by
 obtain⟨T,ds,h1⟩:=s1;cases ds with
 |cons d ds=>simp only[okSt]at h;cases h
 |nil=>
  simp only[okSt]at h
  split at h
  .rename_i s' hs;simp only[Bool.and_eq_true,nbeq,decide_eq_true_eq]at h;obtain⟨hnx,hT,hH⟩:=h;obtain⟨hE,hD,R⟩:=S;have hD':D=[]:=hD.nil';subst hD';simp only at hE R;have hs0:=hs;unfold mkS at hs
   split at hs
   .rename_i T' hT'
    split at hs
    .rename_i t ht;cases hs
     have hget:∀i so,(⟨nx,t⟩:H).get i=some so->h1.get i=some so/\okO (inH ⟨nx,t⟩) so=true:=fun i so e=>okH_spec hH i so (mkT_spec ht i so e)
     have hl:∀i x,inH ⟨nx,t⟩ i=true->L i=some x->(fun i=>if inH ⟨nx,t⟩ i=true then L i else none) i=some x:=fun i x h1 h2=>by simp only[h1,if_true];exact h2
     refine⟨_,fun i=>if inH ⟨nx,t⟩ i=true then L i else none,hs0,rfl,⟨fun k v e=>?_,.nil,⟨fun i x e=>?_,fun i x e=>?_,fun i j x y e1 e2 l1 l2 hxy=>?_⟩⟩,?_⟩
     .obtain ⟨q1,q2⟩:=okT_spec hT k v (mkT_spec hT' k v e);exact den_on hl v _ q2 (hE k v q1)
     .split at e
      .rename_i hi;cases hg:(⟨nx,t⟩:H).get i with
       |none=>unfold inH at hi;rw[hg]at hi;cases hi
       |some so=>
        obtain⟨q1,q2⟩:=hget i so hg;exact⟨so,rfl,(R.get e q1).on hl q2⟩
      .cases e
     .split at e
      .have:=R.lt i x e;exact⟨by show i<nx;omega,this.2⟩
      .cases e
     .split at e1
      .rename_i hi
       split at e2
       .rename_i hj;have lv:∀i,inH ⟨nx,t⟩ i=true->live ⟨nx,t⟩ i->live h1 i:=fun i hi hl=>by
         cases hg:(⟨nx,t⟩:H).get i with
         |none=>unfold inH at hi;rw[hg]at hi;cases hi
         |some so=>unfold live at*;rw[(hget i so hg).1,<-hg];exact hl
        exact R.inj i j x y e1 e2 (lv i hi l1) (lv j hj l2) hxy
       .cases e2
      .cases e1
     .rintro b ⟨i,x,e,hlv,rfl⟩;simp only at e
      split at e
      .rename_i hi;refine⟨i,x,e,?_,rfl⟩;cases hg:(⟨nx,t⟩:H).get i with
       |none=>unfold inH at hi;rw[hg]at hi;cases hi
       |some so=>unfold live at*;rw[(hget i so hg).1,<-hg];exact hlv
      .cases e
    .cases hs
   .cases hs
  .cases h
end
section
variable{Q:Exit->Act->World->Prop}{fid m nt:Nat}{w w0:World}
def dropC:Nat->Code->Code
 |0,c=>c
 |n+1,c=>match c with
  |.seq _ b=>dropC n b
  |c=>c
noncomputable def stmts (P:Program) (ih:IH) (fid nt:Nat):Nat->Code->St->Option St
 |0,_,s=>some s
 |n+1,c,s=>match c with
  |.seq a b=>match (cC P fid none nt a).r ih s with
   |some (.normal,s)=>stmts P ih fid nt n b s
   |_=>none
  |_=>none
def bodyOf(P:Program)(f:Nat):Code:=match funOf P f with
 |some fn=>match fn.body with
  |some c=>c
  |none=>.skip
 |none=>.skip
def ntOf(P:Program)(f:Nat):Nat:=match funOf P f with
 |some fn=>fn.ntmps
 |none=>0
noncomputable def partB (P:Program) (ih:IH) (f off n:Nat) (s0:Option St) (ks:List (Nat×SV)) (os:List (Nat×SO)) (nx:Nat):Bool:=match s0 with
 |some s=>match stmts P ih f (ntOf P f) n (dropC off (bodyOf P f)) s with
  |some s1=>okSt s1 ks os nx
  |none=>false
 |none=>false
noncomputable def lastS (P:Program) (ih:IH) (f off:Nat) (s0:Option St):Bool:=match s0 with
 |some s=>match (cC P f none (ntOf P f) (dropC off (bodyOf P f))).r ih s with
  |some (.ret,⟨T,[],_⟩)=>match T.get 0 with
   |some (.bool b)=>b
   |_=>false
  |_=>false
 |none=>false
section
variable{P:Program}{orc:Nat->List SV->H->Option (SV×H)}
theorem stmts_sound(hm:P.follows .mixedOrders=true)(Hn:∀m,IHok P (run P orc m)):∀{n:Nat} {c:Code} {s s1:St},stmts P (run P orc m) fid nt n c s=some s1->∀{L:Lay} {f:Env} {D:List Deferred} {w:World},Sim L s f D w->
 (∀L' f' D' w',Sim L' s1 f' D' w'->Ext L s.h w L' s1.h w'->(dropC n c).wpIn (Fc none) 0 P Q (@A nt f' ⟨D'⟩) w')->c.wpIn (Fc none) 0 P Q (@A nt f ⟨D⟩) w
 |0,c,s,s1,h,L,f,D,w,S,k=>by cases h;exact k L f D w S (Ext.refl _ _ _)
 |n+1,c,s,s1,h,L,f,D,w,S,k=>by
  unfold stmts at h
  split at h
  .rename_i a b
   split at h
   .rename_i s2 h2;refine wpIn_seq (wpIn_mono (code_sound (n:=m) hm (fun m _=>Hn m) a m (Nat.le_refl _) fid none nt s _ s2 h2 L f D w none S rfl) ?_);rintro e a1 w1 ⟨rfl,L1,f1,D1,rfl,S1,X1⟩;exact stmts_sound hm Hn h S1 fun L' f' D' w' S' X'=>k L' f' D' w' S' (X1.trans X')
   .cases h
  .cases h
theorem dropC_add:∀(n m:Nat) (c:Code),dropC m (dropC n c)=dropC (n+m) c
 |0,m,c=>by rw[Nat.zero_add];rfl
 |n+1,m,c=>by
  rw[show n+1+m=(n+m)+1 by omega];cases c with
  |seq a b=>exact dropC_add n m b
  |_=>cases m<;>rfl
structure At (P:Program) (nt:Nat) (w0:World) (s:Option St) (a:Act) (w:World):Prop where
 x:∃L f s',s=some s'/\a= @A nt f ⟨[]⟩/\Sim L s' f [] w/\(∀b,Mine L s'.h b->w0.heap.size<=b)/\Fr [] w0 w
theorem part_sound(hm:P.follows .mixedOrders=true)(Hn:∀m,IHok P (run P orc m)){off n:Nat}{s0:Option St}{ks:List (Nat×SV)}{os:List (Nat×SO)}{nx:Nat}(h:partB P (run P orc m) fid off n s0 ks os nx=true){a:Act}(S:At P (ntOf P fid) w0 s0 a w)
 (k:∀a' w',At P (ntOf P fid) w0 (mkS ks os nx) a' w'->(dropC (off+n) (bodyOf P fid)).wpIn (Fc none) 0 P Q a' w'):(dropC off (bodyOf P fid)).wpIn (Fc none) 0 P Q a w:=by
 obtain⟨L,f,s,rfl,rfl,S,hM,hF⟩:=S.x;simp only[partB]at h
 split at h
 .rename_i s1 h1;refine stmts_sound hm Hn h1 S fun L1 f1 D1 w1 S1 X1=>?_
  obtain⟨s2,L2,e2,rfl,S2,hM2⟩:=okSt_sound S1 h;rw[dropC_add];refine k _ _ ⟨L2,f1,s2,e2,rfl,S2,fun b hb=>?_,?_⟩
  .rcases X1.own b (hM2 b hb)with h'|h'
   .exact Nat.le_trans hF.size h'
   .exact hM b h'
  .have h2:=X1.fr;exact⟨h2.os.trans hF.os,h2.tape.trans hF.tape,h2.output.trans hF.output,Nat.le_trans hF.size h2.size,fun k hk _=>by
    rw[<-hF.block k hk Yhs];exact h2.block k (Nat.lt_of_lt_of_le hk hF.size) fun hm=>by have:=hM k hm;omega,Nat.le_trans hF.draw h2.draw⟩
 .cases h
theorem last_sound(hm:P.follows .mixedOrders=true)(Hn:∀m,IHok P (run P orc m)){off:Nat}{s0:Option St}(h:lastS P (run P orc m) fid off s0=true){a:Act}(S:At P (ntOf P fid) w0 s0 a w):
 (dropC off (bodyOf P fid)).wpIn (Fc none) 0 P (fun e a' w'=>e=.ret/\∃f',a'= @A (ntOf P fid) f' ⟨[]⟩/\f' 0=.bool true/\Fr [] w0 w') a w:=by
 obtain⟨L,f,s,rfl,rfl,S,hM,hF⟩:=S.x;simp only[lastS]at h
 split at h
 .rename_i T h2 h1
  split at h
  .rename_i b hb;subst h;refine wpIn_mono (code_sound (n:=m) hm (fun m _=>Hn m) _ m (Nat.le_refl _) fid none (ntOf P fid) s _ _ h1 L f [] w none S rfl) ?_;rintro e a1 w1 ⟨rfl,L1,f1,D1,rfl,S1,X1⟩;have hD:=S1.d.nil';subst hD;have h3:=X1.fr;refine⟨rfl,f1,rfl,den_bool (S1.e 0 _ hb),h3.os.trans hF.os,h3.tape.trans hF.tape,h3.output.trans hF.output,Nat.le_trans hF.size h3.size,fun k hk _=>by
    rw[<-hF.block k hk Yhs];exact h3.block k (Nat.lt_of_lt_of_le hk hF.size) fun hm=>by have:=hM k hm;omega,Nat.le_trans hF.draw h3.draw⟩
  .cases h
 .cases h
theorem At.start{f:Env}:At P nt w (some ⟨.e,[],⟨0,.e⟩⟩) (@A nt f ⟨[]⟩) w:=by
 refine⟨fun _=>none,f,_,rfl,rfl,⟨ER.e,.nil,⟨(fun i x e=>by cases e),(fun i x e=>by cases e),(fun i j x y e=>by cases e)⟩⟩,?_,Fr.refl _ _⟩;rintro b ⟨j,y,e,_⟩;cases e
theorem body_call{fn:Func}(hf:P.funcs[fid]?=some fn)(hb:fn.body.isSome=true)(hr:fn.results=#[.tmp 0])(h0:Nat.blt 0 fn.ntmps=true)
 (h:∀a,At P (ntOf P fid) w (some ⟨.e,[],⟨0,.e⟩⟩) a w->(bodyOf P fid).wpIn (Fc none) 0 P (fun e a' w'=>e=.ret/\∃f',a'= @A (ntOf P fid) f' ⟨[]⟩/\f' 0=.bool true/\Fr [] w w') a w):Calls P fid #[] w fun e w'=>e=.returned (.bool true)/\Fr [] w w':=by
 have hfo:funOf P fid=some fn:=by unfold funOf;rw[Array.getElem?_toList];exact hf
 have hn:fn.ntmps=ntOf P fid:=by unfold ntOf;rw[hfo]
 have hb':fn.body=some (bodyOf P fid):=by
  unfold bodyOf;rw[hfo];cases hc:fn.body with
  |none=>rw[hc]at hb;cases hb
  |some c=>simp only[hc]
 refine enterMI (l:=[]) hf hb' hn rfl (wpIn_mono (h _ At.start) ?_);rintro e a w' ⟨rfl,f',rfl,hv,hF⟩;refine⟨.bool true,?_,rfl,hF⟩;rw[results_tmp hr,A_getD];rw[hn]at h0;rw[h0,hv];rfl
end
end
section
variable{kk:IntKind}{us zs:List Value}{by_ cap j k l m n o tb:Nat}{p:Operand}{P:Program}{w:World}
theorem Srcs.of{s q:Nat}{ty:Nat}{fz:Nat×Nat}(h:w.heap[j]?=some (.cells us.toArray ty fz))(hl:o+n*s<=us.length):Srcs P w s (.slice (some ⟨j,o,none⟩) n q) n ((us.drop o).take (n*s)):=by
 have hlen:((us.drop o).take (n*s)).length=n*s:=by rw[List.length_take,List.length_drop];omega
 refine⟨hlen,fun u=>by simp[Builtin.lenOf],fun k hk u hu=>?_⟩;have hks:k*s<=n*s:=Nat.mul_le_mul_right _ hk;refine run_firstCells_some u s k ⟨j,o,none⟩ n q _ (by rw[List.length_take,hlen];omega) fun i y hy=>?_
 rw[List.getElem?_take]at hy
 split at hy
 .rw [List.getElem?_take]at hy
  split at hy
  .rw [hu,add_lit];rw[List.getElem?_drop]at hy;exact RowAt.cell ⟨ty,[],fz,by rw[List.append_nil];exact h⟩ hy
  .cases hy
 .cases hy
theorem run_copyV{t u e b ty rty:Nat}{i:TypeInfo}{ys:List Value}{x:Value}(hu:P.underlying t=some (.slice e))(hi:P.info? e=some i)(h3:w.heap[b]?=some (.cells zs.toArray ty (0,0)))(hS:Srcs P w i.size x n ys)(h1:∀y∈ys.take (Nat.min n m*i.size),y.oneCell'=true)
 (hle:o+Nat.min n m*i.size<=zs.length):∃w',(Builtin.copy_ #[t,u] rty #[.slice (some ⟨b,o,none⟩) m cap,x]).run P w=.ok (goInt (Nat.min n m)) w'/\Fr [b] w w'/\w'.heap[b]?=some (.cells (zs.take o++ys.take (Nat.min n m*i.size)++zs.drop (o+Nat.min n m*i.size)).toArray ty (0,0)):=by
 have hyl:(ys.take (Nat.min n m*i.size)).length=Nat.min n m*i.size:=by
  rw[List.length_take,hS.len];have:Nat.min n m*i.size<=n*i.size:=Nat.mul_le_mul_right _ (Nat.min_le_left _ _);omega
 have hr:=run_storeCells_at P b o ty (ys.take (Nat.min n m*i.size)) 0 zs.toArray w h3 (by simp only[List.size_toArray];omega) h1;simp only[Nat.add_zero]at hr;have hf:=hS.cells (Nat.min n m) (Nat.min_le_left _ _) w (fun _=>rfl);have hlo:=hS.lenOf w;have hrow:(storeCells ⟨b,o,none⟩ (ys.take (Nat.min n m*i.size))).run P w=.ok () (w.setRow b (zs.take o++ys.take (Nat.min n m*i.size)++zs.drop (o+Nat.min n m*i.size)).toArray):=by
  rw[hr]
  congr 2
  simp[hyl]
 refine⟨w.setRow b (zs.take o++ys.take (Nat.min n m*i.size)++zs.drop (o+Nat.min n m*i.size)).toArray,?_,⟨rfl,rfl,rfl,by simp,fun q _ hq=>setRow_other w b q _ (by simpa using hq),Nat.le_refl _⟩,setRow_heap w b _ _ ty _ h3⟩;simp only[Builtin.copy_];simp[run_underlying hu,sizeOf,typeInfo,hi,hlo];simp[hf,hrow,goInt]
section
variable{D:Dfs}{P:Program}{ops:Array Oper}{Q:Exit->Act->World->Prop}{rest:List Oper}{nt:Nat}{f:Env}{w:World}{d:Nat}{ty:TypeId}{ps:String}{af:Array Edge}{x y:Operand}{t t2:Nat}
theorem s_copyB{e size b sb so c2 ts:Nat}{fz:Nat×Nat}[R:RowT P t e size by_](hx:ev nt f x=.slice (some ⟨b,o,none⟩) m cap)(hy:ev nt f y=.slice (some ⟨sb,so,none⟩) n c2)
 (hb:w.heap[b]?=some (.cells zs.toArray tb (0,0))) (hsb:w.heap[sb]?=some (.cells us.toArray ts fz)) (hk:Nat.min n m=k) (hn:so+n*size<=us.length) (hle:o+k*size<=zs.length) (h1:∀u∈((us.drop so).take (n*size)).take (k*size),u.oneCell'=true)
 (h:∀w',Fr [b] w w'->w'.heap[b]?=some (.cells (zs.take o++((us.drop so).take (n*size)).take (k*size)++zs.drop (o+k*size)).toArray tb (0,0))->wpList P ops Q rest (A nt (upd f d (iV k))) w'):
 wpList P ops Q (⟨some d,.call {callee:=.builtin .copy,args:=#[x,y],argTypes:=#[t,t2]},ty,ps,af,none⟩::rest) (A nt f) w:=by
 obtain⟨i,z,hi,hz,rfl,rfl,hzs⟩:=R.inf;subst hk;obtain⟨w',hr,hf,hw⟩:=run_copyV (u:=t2) (rty:=ty) (cap:=cap) (m:=m) (P:=P) R.und hi hb (Srcs.of (q:=c2) hsb hn) h1 hle;exact s_run (by simp[execOp,resolve,invoke,builtin,hx,hy,hr,goInt]) (h w' hf hw)
theorem s_cap{ao:Option Addr}{c e:Nat}[S:SliceT P t e](hx:ev nt f x=.slice ao l c)(h:wpList P ops Q rest (A nt (upd f d (iV c))) w):
 wpList P ops Q (⟨some d,.call {callee:=.builtin .cap,args:=#[x],argTypes:=#[t]},ty,ps,af,none⟩::rest) (A nt f) w:=
 s_run (by simp[execOp,resolve,invoke,builtin,Builtin.cap_,run_underlying S.u,hx,goInt]) h
theorem r_sliceLo{b c e size:Nat}[R:RowT P t e size by_](hx:ev nt f x=.slice (some ⟨b,o,none⟩) l c)(hp:ev nt f p=.int kk (j:Int))(h1:j<=l)(h2:l<=c)(h3:j<c)(hk:l-j=k):
 (execOp (ev nt f) ⟨some d,.slice t x (some p) none none,ty,ps,af,none⟩).run P w=.ok (.value (.slice (some ⟨b,o+j*size,none⟩) k (c-j))) w:=by
 obtain⟨i0,z,hi0,hz,hs,hb,hzs⟩:=R.inf;have e1:(j:Int)<=(l:Int):=by omega
 have e2:¬c=j:=by omega
 subst hk;simp[execOp,hx,hp,Instr.sliceAt,Instr.slice,run_underlying R.und,Instr.sliceBounds,Instr.sliceBound,asIntOf,sizeOf,typeInfo,hi0,hs,h1,h2,e2,add_lit]
theorem s_sliceLo{b c e size:Nat}[R:RowT P t e size by_](hx:ev nt f x=.slice (some ⟨b,o,none⟩) l c)(hp:ev nt f p=.int kk (j:Int))(h1:j<=l)(h2:l<=c)(h3:j<c)(hk:l-j=k)
 (h:wpList P ops Q rest (A nt (upd f d (.slice (some ⟨b,o+j*size,none⟩) k (c-j)))) w):wpList P ops Q (⟨some d,.slice t x (some p) none none,ty,ps,af,none⟩::rest) (A nt f) w:=s_run (r_sliceLo hx hp h1 h2 h3 hk) h
theorem s_sliceHi{b c e size:Nat}[R:RowT P t e size by_](hx:ev nt f x=.slice (some ⟨b,0,none⟩) l c)(hp:ev nt f p=.int kk (k:Int))(h1:k<=c)(h2:l<=c)
 (h:wpList P ops Q rest (A nt (upd f d (.slice (some ⟨b,0,none⟩) k c))) w):wpList P ops Q (⟨some d,.slice t x none (some p) none,ty,ps,af,none⟩::rest) (A nt f) w:=by
 refine s_slice (j:=0) (k:=k) hx rfl ⟨kk,hp⟩ (Nat.zero_le _) h1 h2 ?_;have e:(if c=0 then(some ⟨b,0,none⟩:Option Addr) else(some ⟨b,0,none⟩:Option Addr).map (·.add (0*size)))=some ⟨b,0,none⟩:=by split<;>simp[add_lit]
 rw[e];exact h
theorem s_appZ{e size b c:Nat}{fz:Nat×Nat}[R:RowT P t e size by_][I:IntT P t2 kk](hx:ev nt f x=.slice (some ⟨b,0,none⟩) n c)(hy:ev nt f y=iV (k:Int))(hb:w.heap[b]?=some (.cells zs.toArray tb fz))(hn:n*size<=zs.length)(hroom:c<n+k)(h63:n+k<=1000000)(hbig:(n+k)*by_<=140737488355328)
 (h:∀w' c2 rs,Fr [] w w'->w'.heap.size=w.heap.size+1->w'.heap[w.heap.size]?=some (.cells (zs.take (n*size)++rs).toArray e (0,0))->n*size+rs.length=c2*size->n+k<=c2->c2<=maxLen->wpList P ops Q rest (A nt (upd f d (.slice (some ⟨w.heap.size,0,none⟩) (n+k) c2))) w'):
 wpList P ops Q (⟨some d,.call {callee:=.builtin .append,args:=#[x,y],argTypes:=#[t,t2]},ty,ps,af,none⟩::rest) (A nt f) w:=by
 obtain⟨i,z,hi,hz,rfl,rfl,hzs⟩:=R.inf;have ht:=R.und;have htn:=I.u;have hw1:IntKind.i64.wrap (k:Int)=k:=by rw[IntKind.wrap_i64];omega
 have hneg:¬((k:Int)<0):=by omega
 have h63':¬(9223372036854775807<((n:Int)+(k:Int))):=by omega
 have h48i:¬(281474976710656<(k:Int)*(i.bytes:Int)):=by
  rw[<-Int.natCast_mul];have:k*i.bytes<=(n+k)*i.bytes:=Nat.mul_le_mul_right _ (Nat.le_add_left _ _);omega
 have h48':¬(281474976710656<Builtin.nextslicecap (n+k) c*i.bytes):=by
  have:=growslice_fits (bytes:=i.bytes) hroom hbig;omega
 have hroom':¬(n+k<=c):=by omega
 have hlen:(zs.take (n*i.size)).length=n*i.size:=by rw[List.length_take];omega
 have hold:=run_firstCells_some (P:=P) w.drew i.size n ⟨b,0,none⟩ n c (zs.take (n*i.size)) hlen (fun j u hu=>by
  rw[add_lit,Nat.zero_add];rw[List.getElem?_take]at hu
  split at hu
  .exact RowAt.cell (w:=w.drew) ⟨tb,[],fz,by rw[List.append_nil];exact hb⟩ hu
  .cases hu)
 have hge:=grownCap_ge w (n+k) c e;have hcm:grownCap w (n+k) c e<=maxLen:=grownCap_le_maxLen w (n+k) c e (maxLen_big h63);obtain⟨zc,hzc,hzl⟩:∃zc:Array Value,(if k*i.size=0 then(pure #[]:Sem (Array Value)) else(do pure (Builtin.zeroCells (<-zeroValue e).cells k))).run P w.drew=.ok zc w.drew/\zc.size=k*i.size:=by
  by_cases h0:k*i.size=0
  .exact ⟨#[],by rw[if_pos h0];rfl,by simp[h0]⟩
  .refine ⟨Builtin.zeroCells z.cells k,by rw[if_neg h0];simp[zeroValue,typeInfo,hi,hz],?_⟩;rw[size_zeroCells,hzs]
 obtain⟨g,hg⟩:=exq (grownCap w (n+k) c e);have hr:(Builtin.append_ #[t,t2] ty #[.slice (some ⟨b,0,none⟩) n c,iV k]).run P w=.ok (.slice (some ⟨w.heap.size,0,none⟩) (n+k) g) (w.drew.alloc (.cells ((zs.take (n*i.size)).toArray++zc++Builtin.zeroCells z.cells (g-(n+k))) e)):=by
  rw[hg];have hzc':=hzc;by_cases h0:k*i.size=0
  .rw [if_pos h0]at hzc';have:zc=#[]:=by simpa using hzc'.symm
   exact Ymh
  .rw [if_neg h0]at hzc';have:zc=Builtin.zeroCells z.cells k:=by simpa[zeroValue,typeInfo,hi,hz]using hzc'.symm
   exact Ymh
 rw[<-hg]at hge hcm;refine s_run (v:=.slice (some ⟨w.heap.size,0,none⟩) (n+k) g) (w':=w.drew.alloc (.cells ((zs.take (n*i.size)).toArray++zc++Builtin.zeroCells z.cells (g-(n+k))) e)) (by simp[execOp,resolve,invoke,builtin,hx,hy,hr]) (h _ g (zc++Builtin.zeroCells z.cells (g-(n+k))).toList ((Fr.drew _ w).trans0 (Fr.alloc [] _ _)) Yhs ?_ ?_ hge hcm)
 .have:=heap_alloc_new w.drew (.cells ((zs.take (n*i.size)).toArray++zc++Builtin.zeroCells z.cells (g-(n+k))) e);rw[show(zs.take (n*i.size)++(zc++Builtin.zeroCells z.cells (g-(n+k))).toList).toArray=(zs.take (n*i.size)).toArray++zc++Builtin.zeroCells z.cells (g-(n+k)) by apply Array.ext';simp];exact this
 .rw [Array.length_toList,Array.size_append,hzl,size_zeroCells,hzs,<-Nat.add_mul,<-Nat.add_mul]
  congr 1
  omega
theorem s_apart{kf tS tR e size a oa la ca b ob lb cb tA tB:Nat}[R:RowT P tS e size by_](hr1:∀args w,(callFunc kf args).run P w=((Extern.SlicesOverlaps.overlaps #[tS,tS] #[tR] args).run P w).andThen fun v w=>.ok (.value v) w)
 (hx:ev nt f x=.slice (some ⟨a,oa,none⟩) la ca) (hy:ev nt f y=.slice (some ⟨b,ob,none⟩) lb cb) (hab:a≠b) (ha:w.heap[a]?=some (.cells us.toArray tA (0,0))) (hb:w.heap[b]?=some (.cells zs.toArray tB (0,0))) (h0:zs.length≠0)
 (h:wpList P ops Q rest (A nt (upd f d (.bool false))) w) {at_:Array TypeId}:wpList P ops Q (⟨some d,.call {callee:=.value (.func kf),args:=#[x,y],argTypes:=at_},ty,ps,af,none⟩::rest) (A nt f) w:=by
 obtain⟨i,z,hi,hz,rfl,rfl,hzs⟩:=R.inf;have hsz:∀w,(sizeOf e).run P w=.ok i.size w:=fun w=>by simp[sizeOf,typeInfo,hi]
 have hov:=Lib.run_overlaps_apart (P:=P) w tS tR e R.und i.size hsz ⟨a,oa,none⟩ ⟨b,ob,none⟩ la ca lb cb hab tA tB us.length zs.length (by simp[World.shape?,ha]) (by simp[World.shape?,hb]) h0 (by simp[World.frozen?,ha]) (by simp[World.frozen?,ha]);have hev:ev nt f (.func kf)=.func (.func kf) #[] #[]:=rfl;exact s_run (by simp[execOp,resolve,invoke,hev,Deferred.ofValue,hx,hy,hr1,hov]) h
end
end
end Go.Ev
