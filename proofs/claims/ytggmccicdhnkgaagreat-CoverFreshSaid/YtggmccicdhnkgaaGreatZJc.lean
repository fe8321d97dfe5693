/-
 fits and Add of package cover.
-/
import Derived.Test.YtggmccicdhnkgaaGreatZCq
import Derived.Test.YtggmccicdhnkgaaGreatZFgu1
import Derived.Test.YtggmccicdhnkgaaGreatZJe
set_option linter.all false
namespace Go.Rf
open Go.RowKit
variable{st:Nat}
section
variable{α β:Type}
theorem ents_key(key:α->Value)(val:β->Value)(a:α)(v:β):∀{m:List (α×β)} {ns:List Nat} {i:Nat},ns.length=m.length->m[i]?=some (a,v)->(ents key val m ns).modify i (fun e=>{e with key:=key a})=ents key val m ns
 |[],ns,i,_,h=>by simp at h
 |q::m,[],i,h,_=>by simp at h
 |q::m,k::ns,0,h,h1=>by
  simp only[List.getElem?_cons_zero,Option.some.injEq]at h1
  subst h1
  simp[ents]
 |q::m,k::ns,i+1,h,h1=>by
  simp only[List.getElem?_cons_succ]at h1
  simp only[ents,List.modify_succ_cons]
  rw[ents_key key val a v Yic h1]
theorem ents_val(key:α->Value)(val:β->Value)(a:α)(v v':β):∀{m:List (α×β)} {ns:List Nat} {i:Nat},ns.length=m.length->m[i]?=some (a,v)->(ents key val m ns).modify i (fun e=>{e with val:=val v'})=ents key val (m.set i (a,v')) ns
 |[],ns,i,_,h=>by simp at h
 |q::m,[],i,h,_=>by simp at h
 |q::m,k::ns,0,h,h1=>by
  simp only[List.getElem?_cons_zero,Option.some.injEq]at h1
  subst h1
  simp[ents]
 |q::m,k::ns,i+1,h,h1=>by
  simp only[List.getElem?_cons_succ]at h1
  simp only[ents,List.modify_succ_cons,List.set_cons_succ]
  rw[ents_val key val a v v' Yic h1]
theorem ents_born(key:α->Value)(val:β->Value)(st:Nat):∀{m:List (α×β)} {ns:List Nat} {i:Nat},ns.length=m.length->ns.Nodup->ns[i]?=some st->(ents key val m ns).findIdx? (fun e=>(e.born:Int)==(st:Int))=some i
 |[],[],i,_,_,h=>by simp at h
 |[],k::ns,i,h,_,_=>by simp at h
 |q::m,[],i,h,_,_=>by simp at h
 |q::m,k::ns,0,h,_,h1=>by
  simp only[List.getElem?_cons_zero,Option.some.injEq]at h1
  subst h1
  simp[ents,List.findIdx?_cons]
 |q::m,k::ns,i+1,h,hn,h1=>by
  simp only[List.getElem?_cons_succ]at h1
  have hne:¬(k:Int)=(st:Int):=fun e=>by
   have:k=st:=by omega
   subst this
   exact(List.nodup_cons.1 hn).1 (List.mem_of_getElem? h1)
  simp only[ents,List.findIdx?_cons]
  rw[ents_born key val st Yic (List.nodup_cons.1 hn).2 h1]
  simp[hne]
variable[DecidableEq α]
theorem putM_set{a:α}{v v':β}:∀{m:List (α×β)} {i:Nat},(m.map Prod.fst).Nodup->m[i]?=some (a,v)->putM m a v'=m.set i (a,v')
 |[],i,_,h=>by simp at h
 |q::m,0,_,h=>by
  simp only[List.getElem?_cons_zero,Option.some.injEq]at h
  subst h
  simp[putM]
 |q::m,i+1,hn,h=>by
  simp only[List.getElem?_cons_succ]at h
  simp only[List.map_cons,List.nodup_cons]at hn
  have hne:¬a=q.1:=fun e=>hn.1 (by rw[<-e];exact List.mem_map.2 ⟨(a,v),List.mem_of_getElem? h,rfl⟩)
  simp only[putM,if_neg hne,List.set_cons_succ]
  rw[putM_set hn.2 h]
end
section
variable{α β:Type}[DecidableEq α]{key:α->Value}{val:β->Value}{w w':World}{b:Nat}{m:List (α×β)}
def MpS(key:α->Value)(val:β->Value)(w:World)(b:Nat)(m:List (α×β))(a:α)(st:Nat):Prop:=
 ∃ns clock,ns.length=m.length/\w.heap[b]?=some (.map (ents key val m ns).toArray clock)/\(m.map Prod.fst).Nodup/\ns.Nodup/\(∀n∈ns,n<clock)/\∃(i:Nat) (v:β),m[i]?=some (a,v)/\ns[i]?=some st
theorem MpS.mp{a:α}(h:MpS key val w b m a st):Mp key val w b m:=by
 obtain⟨ns,c,h1,h2,h3,h4,h5,_⟩:=h
 exact⟨ns,c,h1,h2,h3,h4,h5⟩
theorem MpS.tr{S:List Nat}{a:α}(h:MpS key val w b m a st)(hf:Fr S w w')(hS:b∉S):MpS key val w' b m a st:=by
 have hl:=h.mp.lt
 exact Ydc
variable{P:Program}{ops:Array Oper}{Q:Exit->Act->World->Prop}{rest:List Oper}{n:Nat}{f:Env}{D:Dfs}
variable{d:Nat}{d':Option Nat}{ty:TypeId}{ps:String}{af:Array Edge}{x y z:Operand}{t k e:Nat}
def entM(m:List (α×β))(a:α)(z:β):List (α×β):=match getM m a with|some _=>m|none=>m++[(a,z)]
theorem run_mapEntry{a:α}{z0:β}[T:MapT P t k e][K:KeyT P k key][Z:ZeroT P e (val z0)](hm:Mp key val w b m):
 ∃w' st,(Instr.mapEntry t (.map (some b)) (key a)).run P w=.ok (.tuple #[val ((getM m a).getD z0),iV (st:Nat)]) w'/\MpS key val w' b (entM m a z0) a st/\Fr [b] w w'/\w'.heap.size=w.heap.size:=by
 obtain⟨ns,c,h1,h2,h3,h4,h5⟩:=hm
 obtain⟨i,hi,hz⟩:=Z.z
 have hf:=find_key (P:=P) (k:=k) (w:=w) (key:=key) (val:=val) a h1
 have hg:=lookI_get m a 0
 cases hl:lookI m a 0 with
 |none=>
  rw[hl]at hf hg
  have hg:getM m a=none:=hg.symm
  have hnm:=lookI_none.1 hl
  have hs:=mp_set (o:=.map (ents key val (m++[(a,z0)]) (ns++[c])).toArray (c+1)) h2
  refine⟨_,c,?_,?_,hs.1,by simp[ChangeMaps.setBlock]⟩
  .simp only[Instr.mapEntry,Sem.run_bind,run_underlying T.u,Result.andThen_ok,MapKept.run_getObj_map h2,K.chk]
   rw[hf]
   simp only[Option.map_none,Result.andThen_ok,zeroValue,typeInfo,Sem.run_bind]
   rw[ents_snoc key val h1,hg]
   simp[hi,hz,MapKept.run_setObj_map _ h2,ChangeMaps.setBlock,goInt]
  .unfold entM
   rw[hg]
   refine⟨ns++[c],c+1,by simp[h1],hs.2,?_,?_,?_,m.length,z0,by simp,by rw[<-h1];simp⟩
   .rw [List.map_append,List.nodup_append]
    exact⟨h3,by simp,fun x hx y hy=>by simp at hy;subst hy;exact fun e=>hnm (e▸hx)⟩
   .rw [List.nodup_append]
    exact Ycs
   .intro q hq
    exact Ycz
 |some p=>
  obtain⟨j,v0⟩:=p
  rw[hl]at hf hg
  have hg:getM m a=some v0:=hg.symm
  obtain⟨_,g1,g2⟩:=lookI_some hl
  rw[Nat.sub_zero]at g1 g2
  have hjl:j<m.length:=(List.getElem?_eq_some_iff.1 g1).1
  have hs:=mp_set (o:=.map (ents key val m ns).toArray c) h2
  have hge:=ents_get key val (i:=j) g1 (List.getElem?_eq_getElem (show j<ns.length by omega))
  refine⟨_,ns[j]'Yhd,?_,?_,hs.1,by simp[ChangeMaps.setBlock]⟩
  .simp only[Instr.mapEntry,Sem.run_bind,run_underlying T.u,Result.andThen_ok,MapKept.run_getObj_map h2,K.chk]
   rw[hf]
   simp only[Option.map_some,Result.andThen_ok,Sem.run_bind,List.getElem?_toArray,hge,Option.getD_some,Instr.keyThatStays,K.same,if_true,Sem.run_pure,MapKept.run_setObj_map _ h2,List.modify_toArray]
   rw[ents_key key val a v0 h1 g1,hg]
   simp[ChangeMaps.setBlock,goInt]
  .unfold entM
   rw[hg]
   exact⟨ns,c,h1,hs.2,h3,h4,h5,j,v0,g1,List.getElem?_eq_getElem Yhd⟩
theorem run_entryStore{a:α}{v:β}(hm:MpS key val w b m a st):
 ∃w',(Instr.entryStore t (.map (some b)) (iV (st:Nat)) (val v)).run P w=.ok () w'/\Mp key val w' b (putM m a v)/\Fr [b] w w'/\w'.heap.size=w.heap.size:=by
 obtain⟨ns,c,h1,h2,h3,h4,h5,i,v0,hi,hs⟩:=hm
 have hp:=putM_set (v':=v) h3 hi
 have hst:=mp_set (o:=.map (ents key val (m.set i (a,v)) ns).toArray c) h2
 refine⟨_,?_,⟨ns,c,by rw[hp];simp[h1],?_,putM_nd h3,h4,h5⟩,hst.1,by simp[ChangeMaps.setBlock]⟩
 .simp only[Instr.entryStore,Sem.run_bind,MapKept.run_getObj_map h2,Result.andThen_ok,asInt,Sem.run_pure,asIntOf]
  rw[show(ents key val m ns).toArray.findIdx? (fun e=>(e.born:Int)==(st:Int))=some i by rw[List.findIdx?_toArray];exact ents_born key val st h1 h4 hs]
  simp only[MapKept.run_setObj_map _ h2,List.modify_toArray]
  rw[ents_val key val a v0 v h1 hi]
  simp[ChangeMaps.setBlock]
 .rw [hp];exact hst.2
theorem s_mapEntry{a:α}{z0:β}[T:MapT P t k e][K:KeyT P k key][Z:ZeroT P e (val z0)](hm:Mp key val w b m)(hx:ev n f x=.map (some b))(hy:ev n f y=key a)
 (h:∀w' st,MpS key val w' b (entM m a z0) a st->Fr [b] w w'->w'.heap.size=w.heap.size->wpList P ops Q rest (A n (upd f d (.tuple #[val ((getM m a).getD z0),iV (st:Nat)]))) w'):
 wpList P ops Q (⟨some d,.mapEntry t x y,ty,ps,af,none⟩::rest) (A n f) w:=by
 obtain⟨w',st,hr,h1,h2,h3⟩:=run_mapEntry (P:=P) (t:=t) (a:=a) (z0:=z0) hm
 refine s_run (w':=w') ?_ (h w' st h1 h2 h3)
 simp[execOp,hx,hy,hr,Result.andThen]
theorem s_entryStore{a:α}{v:β}(hm:MpS key val w b m a st)(hx:ev n f x=.map (some b))(hy:ev n f y=iV (st:Nat))(hz:ev n f z=val v)
 (h:∀w',Mp key val w' b (putM m a v)->Fr [b] w w'->w'.heap.size=w.heap.size->wpList P ops Q rest (A n (updo f d' undef)) w'):
 wpList P ops Q (⟨d',.entryStore t x y z,ty,ps,af,none⟩::rest) (A n f) w:=by
 obtain⟨w',hr,h1,h2,h3⟩:=run_entryStore (P:=P) (t:=t) (v:=v) hm
 refine s_skip (w':=w') ?_ (h w' h1 h2 h3)
 simp[execOp,hx,hy,hz,hr,Result.andThen]
end
end Go.Rf
namespace Go.Rf
open Go.RowKit
variable{k tb:Nat}{α:Type}{u w0:World}
section
variable{α:Type}{enc:α->List Value}{K:Nat}
theorem fm_takeK(hk:∀x,(enc x).length=K):∀(l:List α) (k:Nat),(l.flatMap enc).take (k*K)=(l.take k).flatMap enc
 |l,0=>by simp
 |[],k+1=>by simp
 |a::l,k+1=>by
  rw[List.flatMap_cons,List.take_succ_cons,List.flatMap_cons,<-fm_takeK hk l k,List.take_append,hk,Nat.succ_mul,List.take_of_length_le (by rw[hk];omega)]
  congr 2;omega
theorem fm_dropK(hk:∀x,(enc x).length=K):∀(l:List α) (k:Nat),(l.flatMap enc).drop (k*K)=(l.drop k).flatMap enc
 |l,0=>by simp
 |[],k+1=>by simp
 |a::l,k+1=>by
  rw[List.flatMap_cons,List.drop_succ_cons,<-fm_dropK hk l k,List.drop_append,hk,Nat.succ_mul,List.drop_eq_nil_of_le (by rw[hk];omega),List.nil_append]
  congr 1;omega
theorem fm_get(hk:∀x,(enc x).length=K):∀(l:List α) (i j:Nat) (hi:i<l.length),j<K->(l.flatMap enc)[i*K+j]?=(enc l[i])[j]?
 |a::l,0,j,_,hj=>by
  rw[List.flatMap_cons,Nat.zero_mul,Nat.zero_add,List.getElem?_append_left (by rw[hk];exact hj)];rfl
 |a::l,i+1,j,hi,hj=>by
  rw[List.flatMap_cons,List.getElem?_append_right (by rw[hk,Nat.succ_mul];omega),hk,show(i+1)*K+j-K=i*K+j by rw[Nat.succ_mul];omega,fm_get hk l i j Yip hj]
  rfl
end
theorem take_all{lt:α->α->Bool}(T:Tot lt){l:List α}(ha:Asc lt l){x:α}(hk:k<=l.length)(h:k=0\/∀h:k-1<l.length,lt l[k-1] x=true):∀i (hi:i<l.length),i<k->lt l[i] x=true:=fun i hi hik=>by
 rcases h with h|h
 .omega
 .have h1:=h Yhd
  rcases Nat.lt_or_ge i (k-1)with h2|h2
  .exact T.tr (List.pairwise_iff_getElem.1 ha i (k-1) hi Yhd h2) h1
  .obtain rfl:i=k-1:=by omega
   exact h1
section
variable{D:Dfs}
variable{P:Program}{ops:Array Oper}{Q:Exit->Act->World->Prop}{rest:List Oper}{n:Nat}{f:Env}{w:World}
variable{d:Nat}{ty:TypeId}{ps:String}{af:Array Edge}{x s:Operand}{t:Nat}
end
theorem PO.nil:PO w0 tb u [] (zS):=⟨Own.nil _ _ _,fun b hb=>by simp[blks,Value.ownBlock]at hb⟩
theorem PO.tr0{u':World}{l:List Pr}{v:Value}(h:PO w0 tb u l v)(hf:Fr [] u u'):PO w0 tb u' l v:=⟨h.1.tr0 hf,h.2⟩
theorem brV_l3(b:Br):(brV b).length=3:=rfl
theorem prV_l6(p:Pr):(prV p).length=6:=rfl
theorem getEq{l:List α}{x:α}(hk:k<l.length):l[k]?=some x↔l[k]=x:=by rw[List.getElem?_eq_getElem hk];simp
end Go.Rf
namespace Go.Proofs.YtggmccicdhnkgaaGreat
open Go.Proofs.Tryz
open Go.Rf Go.RowKit
variable{S:List Nat}{u:World}
section
variable{α:Type}{enc:α->List Value}{K:Nat}
theorem src_rows(hk:∀x,(enc x).length=K){l:List α}{ao:Option Addr}{m c:Nat}(h:Src u (.slice ao m c) m (l.flatMap enc)){i:Nat}(hi:i<l.length)(hK:0<K):∃ad,ao=some ad/\Cells u (ad.add (i*K)) (enc l[i]):=by
 have hg:∀j,j<K->∃u,(l.flatMap enc)[i*K+j]?=some u:=fun j hj=>⟨_,(fm_get hk l i j hi hj).trans (List.getElem?_eq_getElem (by rw[hk];exact hj))⟩
 obtain⟨y,hy⟩:=hg 0 hK
 obtain⟨ao',c',e,hm,hh⟩:=h
 cases e
 cases ao with
 |none=>
  obtain⟨ad,e,_⟩:=src_at (w:=u) ⟨none,c,rfl,hm,hh⟩ hy
  cases e
 |some ad=>
  refine⟨ad,rfl,fun j v hj=>?_⟩
  have hjK:j<K:=by rw[<-hk l[i]];exact(List.getElem?_eq_some_iff.1 hj).1
  rw[add_add]
  exact src_cell ⟨some ad,c,rfl,hm,hh⟩ ((fm_get hk l i j hi hjK).trans hj)
end
attribute [local irreducible] Code.wp wpList Exit.then Exit.inBlock bodyPost A Calls execOp Addr.add
set_option maxHeartbeats 16000000 in
theorem refPutC(l:List Br)(b:Br)(v:Value)(w0 w:World)(h:BO w0 50 w l v)(hw:w0.heap.size<=w.heap.size)(ha:Asc ltB l)(hl:l.length<=1000000):
 Calls prog 157 #[v,.agg (brV b).toArray] w fun e w'=>∃v',e=.returned v'/\BO w0 50 w' (insL ltB b l) v'/\Fr [] w w':=by
 obtain⟨ao,c,hv⟩:=h.1.slice
 subst hv
 refine enter func157 rfl ntmps157 rfl ?_
 refine rx ?_
 refine s_boxN (l:=brV b) rfl rfl (fun w1 p hp hb1 hf1 hs1=>?_)
 replace hb1:Blk w1 p [.string b.decl,iV b.at_,iV b.arm] _:=hb1
 refine rx ?_
 refine c_loopK 7 [5] (σ:=Nat) (fun k g u=>g 5=iV (k:Nat)/\k<=l.length/\(∀i (hi:i<l.length),k<=i->ltB l[i] b=false)/\Fr [] w1 u) (fun k=>k) l.length ⟨rfl,Nat.le_refl _,fun i hi h=>by omega,Fr.refl _ _⟩ ?_
 rintro k g u ⟨g5,hk,hge,hF⟩
 rw[eq_upd g5]
 have hFu:=hf1.trans0 hF
 have hsz0:=hFu.size
 have hbu:=hb1.tr0 hF
 refine wp_seq ?_
 refine wp_seq ?_
 refine c_cutK 7 [] (fun g u'=>Fr [] u u'/\∃bb,g 20=.bool bb/\(bb=true->0<k/\∀h:k-1<l.length,ltB l[k-1] b=false)/\(bb=false->k=0\/∀h:k-1<l.length,ltB l[k-1] b=true)) ?_ ?_
 . (refine d_begin (fun z=>Fr [] u z) Yhf rfl ?_)
   obtain⟨u1,hu1⟩:=exq u.drew
   rw[<-hu1]
   have hS:Fr [] u u1:=hu1▸Fr.drew _ _
   by_cases hk0:k=0
   . (refine d_z4 0 1 2 3 hS ?_;refine d_z4 4 5 6 7 hS ?_;refine d_z4 8 9 10 11 hS ?_)
     refine Yfp ?_
     exact q_cutK Yhb ⟨hS,false,rfl,fun h=>Yik,fun _=>.inl hk0⟩
   .have hkl:k-1<l.length:=by omega
    obtain⟨ad,rfl,hc⟩:=src_rows brV_l3 (h.1.src.tr0 hFu) hkl Yho
    have hc:Cells u (ad.add ((k-1)*3)) [.string l[k-1].decl,iV l[k-1].at_,iV l[k-1].arm]:=hc
    refine d_z4 0 1 2 3 hS ?_;refine d_z2 4 5 hS ?_;refine d_z 6 hS ?_
    rw[show((k:Int)-1)=((k-1:Nat):Int) by omega]
    refine d_z2 7 8 hS ?_
    refine Ygn ?_
    refine rx ?_
    refine s_cE (refCmpBC b l[k-1] u1) ?_
    rintro u2 hf2
    have hS2:=hS.trans0 hf2
    refine wpList_nil (q_held hS2 ?_)
    by_cases hle:cmpB b l[k-1]<=0
    . (refine d_z2 10 11 hS2 ?_)
      refine Yfp ?_
      exact q_cutK Yhb ⟨hS2,true,rfl,fun _=>⟨by omega,fun _=>cmpB_le.1 hle⟩,fun h=>by cases h⟩
    . (refine d_z2 10 11 hS2 ?_)
      refine Yfp ?_
      refine q_cutK Yhb ⟨hS2,false,rfl,fun h=>Yik,fun _=>.inr fun _=>?_⟩
      cases hq:ltB l[k-1] b with
      |true=>rfl
      |false=>exact absurd (cmpB_le.2 hq) hle
 clear hbu hFu hsz0
 rintro g1 u ⟨hfu,bb,g20,ht,hff⟩
 rw[eq_upd g20]
 have hF:=hF.trans0 hfu
 cases bb with
 |true=>
  obtain⟨hk0,hlt⟩:=ht rfl
  refine rx ?_
  refine q_roundK (k-1) Yhb ⟨?_,by omega,fun i hi hki=>?_,hF⟩ Yhd
  .show Value.int .i64 ((k:Int)-1)=_
   rw[show((k:Int)-1)=((k-1:Nat):Int) by omega]
  .rcases Nat.lt_or_ge i k with h1|h1
   .obtain rfl:i=k-1:=by omega
    exact hlt hi
   .exact hge i hi h1
 |false=>
 have hal:=take_all totB ha hk (hff rfl)
 have hins:=ins_at totB k l hk hal (fun h=>hge k h (Nat.le_refl _))
 have hFu:=hf1.trans0 hF
 have hsz0:=hFu.size
 have hbu:=hb1.tr0 hF
 have hsu:=h.1.src.tr0 hFu
 refine rx ?_
 refine c_cutK 7 [] (fun g u'=>Fr [] u u'/\g 34=.bool (decide (l[k]?=some b))) ?_ ?_
 . (refine d_begin (fun z=>Fr [] u z) Yhf rfl ?_)
   obtain⟨u1,hu1⟩:=exq u.drew
   rw[<-hu1]
   have hS:Fr [] u u1:=hu1▸Fr.drew _ _
   by_cases hkl:k<l.length
   .obtain ⟨ad,rfl,hc⟩:=src_rows brV_l3 hsu hkl Yho
    have hc:Cells u (ad.add (k*3)) [.string l[k].decl,iV l[k].at_,iV l[k].arm]:=hc
    refine d_z4 0 1 2 3 hS ?_;refine d_z4 4 5 6 7 hS ?_;refine d_z2 8 9 hS ?_
    refine d_ty 10 hS ?_ (hrun:=by(intro u hu;exact(r_eqlB (a:=l[k]) (b:=b) rfl rfl rfl)))
    refine d_z 11 hS ?_
    refine Yfp ?_
    refine q_cutK Yhb ⟨hS,?_⟩
    simp only[getEq hkl]
    rfl
   . (refine d_z4 0 1 2 3 hS ?_;refine d_z4 4 5 6 7 hS ?_;refine d_z4 8 9 10 11 hS ?_)
     refine Yfp ?_
     refine q_cutK Yhb ⟨hS,?_⟩
     rw[List.getElem?_eq_none Yhd]
     rfl
 clear hbu hsu
 rintro g1 u ⟨hfu,g34⟩
 rw[eq_upd g34]
 replace hF:=hF.trans0 hfu
 replace hFu:=hFu.trans0 hfu
 replace hsz0:=hFu.size
 have hbu:=hb1.tr0 hF
 have hsu:=h.1.src.tr0 hFu
 by_cases he:l[k]?=some b
 .rw [decide_eq_true he]
  rw[if_pos he]at hins
  refine Yei ?_
  rw[hins]
  exact⟨_,rfl,⟨h.1.tr0 hFu,h.2⟩,hFu⟩
 rw[decide_eq_false he]
 rw[if_neg he]at hins
 refine rx ?_
 refine s_cut 0 k hsu rfl (by rw[brV_flen]) rfl ⟨_,rfl⟩ Yhd hk (fun ao1 c1 hc1 _ _=>?_)
 rw[Nat.zero_mul,List.drop_zero,fm_takeK brV_l3,Nat.sub_zero]at hc1
 refine rx ?_
 refine s_appB (w0:=u) BO.nil rfl rfl (by rw[List.length_take,Nat.min_eq_left hk]) hc1 (by unfold maxLen;simp;omega) Yhj (Nat.le_refl _) (fun v1 u1 hB1 hfr1=>?_)
 have hF1:=hfr1 [] (Fr.refl _ _)
 have hs1':=hF1.size
 have hbu:=hbu.tr0 hF1
 rw[List.nil_append]at hB1
 refine rx ?_
 refine s_rows1 (c1:=brV b) rfl rfl rfl (fun u2 q2 hq2 ho2 hf2 hs2=>?_)
 have hF2:=hF1.trans0 hf2
 refine rx ?_
 refine s_appB (al:=[b]) (hB1.tr0 hf2) rfl rfl rfl (show Src u2 (.slice (some ⟨q2,0,none⟩) 1 1) 1 ([b].flatMap brV) from by simpa using ho2.src) (by unfold maxLen;simp;omega) Yhj Yhd (fun v3 u3 hB3 hfr3=>?_)
 have hF3:=hfr3 [] hF2
 refine rx ?_
 refine s_cut k l.length (hsu.tr0 hF3) rfl (by rw[brV_flen]) ⟨_,rfl⟩ rfl hk (Nat.le_refl _) (fun ao4 c4 hc4 _ _=>?_)
 rw[<-brV_flen,List.take_length,fm_dropK brV_l3]at hc4
 refine rx ?_
 refine s_appB (al:=l.drop k) hB3 rfl rfl (by rw[List.length_drop]) hc4 (by unfold maxLen;simp;omega) Yhj hF3.size (fun v5 u5 hB5 hfr5=>?_)
 have hF5:=hfr5 [] hF3
 refine Yei ?_
 rw[hins]
 refine⟨v5,rfl,⟨?_,fun x hx=>by have:=hB5.2 x hx;omega⟩,hFu.trans0 hF5⟩
 have h1:=hB5.1
 rw[List.append_assoc,List.singleton_append]at h1
 exact h1
set_option maxHeartbeats 8000000 in
theorem refSetC(l:List Br)(v:Value)(w:World)(hd:DR w S (.l (l.map brC)) v)(hl:l.length<=1000000):
 Calls prog 101 #[v] w fun e w'=>∃v',e=.returned v'/\BO w 50 w' (setL ltB l) v'/\Fr [] w w':=by
 have hll:(l.map brC).length=l.length:=List.length_map ..
 obtain⟨ao,c,rfl,_⟩:=hd.slice
 rw[hll]at hd ⊢
 refine enter func101 rfl ntmps101 rfl ?_
 refine rx ?_
 refine c_loopK 5 [3,4] (σ:=Nat×Value) (fun s g u=>g 3=s.2/\g 4=iV (s.1:Nat)/\s.1<=l.length/\BO w 50 u (setL ltB (l.take s.1)) s.2/\Fr [] w u) (fun s=>l.length-s.1) (0,_) ⟨rfl,rfl,Nat.zero_le _,BO.nil,Fr.refl _ _⟩ ?_
 rintro⟨i,va⟩ g u ⟨g3,g4,hi,hB,hF⟩
 simp only at g3 g4 hi hB
 rw[eq_upd g3,eq_upd g4]
 by_cases hlt:i<l.length
 case neg=>
  rw[List.take_of_length_le Yhd]at hB
  refine Yei ?_
  exact⟨va,rfl,hB,hF⟩
 obtain⟨ad,rfl,hc⟩:=(hd.tr0 hF).br hlt
 refine rx ?_
 refine s_c1 (refPutC (setL ltB (l.take i)) l[i] va w u hB hF.size (setL_asc totB _) (by have:=setL_len (lt:=ltB) (l:=l.take i);rw[List.length_take]at this;omega)) ?_
 rintro v' u1 ⟨hB1,hf1⟩
 refine rx ?_
 refine q_roundK (i+1,v') Yhb ⟨rfl,rfl,hlt,?_,hF.trans0 hf1⟩ Yhm
 simp only
 rw[List.take_succ_eq_append_getElem hlt,setL_app totB]
 exact hB1
set_option maxHeartbeats 8000000 in
theorem refUnionC(l m:List Br)(v va:Value)(w:World){S':List Nat}(hd:DR w S (.l (l.map brC)) v)(hm:DR w S' (.l (m.map brC)) va)(hl:l.length+m.length<=1000000):
 Calls prog 132 #[v,va] w fun e w'=>∃v',e=.returned v'/\BO w 50 w' (setL ltB (l++m)) v'/\Fr [] w w':=by
 have hll:(m.map brC).length=m.length:=List.length_map ..
 obtain⟨ao,c,rfl,_⟩:=hm.slice
 rw[hll]at hm ⊢
 refine enter func132 rfl ntmps132 rfl ?_
 refine rx ?_
 refine s_c1 (refSetC l v w hd Yhd) ?_
 rintro v1 w1 ⟨hB1,hf1⟩
 refine rx ?_
 refine c_loopK 7 [5,6] (σ:=Nat×Value) (fun s g u=>g 5=s.2/\g 6=iV (s.1:Nat)/\s.1<=m.length/\BO w 50 u (setL ltB (l++m.take s.1)) s.2/\Fr [] w u) (fun s=>m.length-s.1) (0,_) ⟨rfl,rfl,Nat.zero_le _,by rw[List.take_zero,List.append_nil];exact hB1,hf1⟩ ?_
 clear hB1 hf1
 rintro⟨i,vb⟩ g u ⟨g5,g6,hi,hB,hF⟩
 simp only at g5 g6 hi hB
 rw[eq_upd g5,eq_upd g6]
 by_cases hlt:i<m.length
 case neg=>
  rw[List.take_of_length_le Yhd]at hB
  refine Yei ?_
  exact⟨vb,rfl,hB,hF⟩
 obtain⟨ad,rfl,hc⟩:=(hm.tr0 hF).br hlt
 refine rx ?_
 refine s_c1 (refPutC (setL ltB (l++m.take i)) m[i] vb w u hB hF.size (setL_asc totB _) (by have:=setL_len (lt:=ltB) (l:=l++m.take i);rw[List.length_append,List.length_take]at this;omega)) ?_
 rintro v' u1 ⟨hB2,hf1⟩
 refine rx ?_
 refine q_roundK (i+1,v') Yhb ⟨rfl,rfl,hlt,?_,hF.trans0 hf1⟩ Yhm
 simp only
 rw[List.take_succ_eq_append_getElem hlt,<-List.append_assoc,setL_app totB (l:=l++m.take i)]
 exact hB2
end Go.Proofs.YtggmccicdhnkgaaGreat
namespace Go.Rf
open Go.RowKit
variable{af:Array Edge}{a:Br}{f:Env}{l:List Int}{S:List Nat}{bb d e i j k n p t:Nat}{x y:Operand}{P:Program}{r:Rn}{s:St}{ps:String}{u w:World}
theorem r_neqBC{ty:TypeId}{gd:Option (Nat×Bool)}{t2:Nat}{a b p:Bool}(hu:P.underlying t=some .bool)(hx:ev n f x=.bool a)(hy:ev n f y=.bool b)(hp:(!(a==b))=p):
 (execOp (ev n f) ⟨some d,.binOp .neq t x y t2,ty,ps,af,gd⟩).run P w=.ok (.value (.bool p)) w:=by
 exact Ybn
theorem ints_src{v:Value}(h:DR w S (.l (l.map intR)) v):Src w v l.length (l.map (.int .i64)):=by
 obtain⟨ys,h1,h2,h3⟩:=h.typed
 have:ys=l.map (.int .i64):=by
  clear h1 h2 h
  induction h3 with
  |nil=>rfl
  |cons ha hb ih=>
   rw[ih]
   obtain⟨_,rfl,r⟩:=RD.invC (x:=iV _) ha
   rw[r.inv0];rfl
 rw[<-this];exact h1
theorem DR.brs{l:List Br}{v:Value}(h:DR w S (.l (l.map brC)) v):Src w v l.length (l.flatMap brV):=by
 obtain⟨ys,h1,h2,h3⟩:=h.typed
 have:ys=l.flatMap brV:=by
  clear h1 h2 h
  induction h3 with
  |nil=>rfl
  |cons ha hb ih=>rw[ih,brR.1 ha];rfl
 rw[<-this];exact h1
theorem int_get(h:i<l.length):(l.map (Value.int .i64))[i]?=some (iV l[i]):=by
 rw[List.getElem?_map,List.getElem?_eq_getElem h];rfl
theorem nd_cov{pb:Nat}{a b:List Nat}(h:(([p,bb,pb]++a)++b).Nodup):p≠bb/\p≠pb/\bb≠pb/\p∉a/\bb∉a/\pb∉a/\p∉b/\bb∉b/\pb∉b/\∀x∈a,x∉b:=by
 simp only[List.nodup_append,List.nodup_cons,List.mem_cons,List.mem_append,List.not_mem_nil,or_false,not_or]at h
 obtain⟨⟨⟨⟨h1,h2⟩,h3,_⟩,_,h4⟩,_,h5⟩:=h
 exact⟨h1,h2,h3,fun hm=>h4 p (.inl rfl) p hm rfl,fun hm=>h4 bb (.inr (.inl rfl)) bb hm rfl,fun hm=>h4 pb (.inr (.inr rfl)) pb hm rfl,fun hm=>h5 p (.inl (.inl rfl)) p hm rfl,fun hm=>h5 bb (.inl (.inr (.inl rfl))) bb hm rfl,fun hm=>h5 pb (.inl (.inr (.inr rfl))) pb hm rfl,fun x hx hm=>h5 x (.inr hx) x hm rfl⟩
theorem getM_snoc{α β:Type}[DecidableEq α]{m:List (α×β)}{a x:α}{v:β}(h:getM m a=none):getM (m++[(a,v)]) x=if x=a then some v else getM m x:=by
 rw[<-putM_new (getM_none.1 h),getM_put]
theorem RelB.entry{m:List (Br×Int)}{cnt:Br->Nat}(h:RelB m cnt)(hn:n≠0):RelB (putM (entM m a (0:Int)) a (n:Int)) (fun x=>if x=a then n else cnt x):=fun x=>by
 rw[getM_put]
 by_cases e:x=a
 .simp [e,hn]
 .simp only[if_neg e]
  unfold entM
  cases hg:getM m a with
  |some v=>exact h x
  |none=>simp only;rw[getM_snoc hg,if_neg e];exact h x
theorem r_cntG{ty:TypeId}{gd:Option (Nat×Bool)}{b c:Nat}{m:List (Br×Int)}[T:MapT P t k e][K:KeyT P k brK][Z:ZeroT P e (zI)](hx:ev n f x=.map (some b))(hy:ev n f y=.agg (brV a).toArray)(hm:Mp brK (Value.int .i64) w b m)(hr:(getM m a).getD 0=(c:Int)):
 (execOp (ev n f) ⟨some d,.lookup t x y false,ty,ps,af,gd⟩).run P w=.ok (.value (iV (c:Nat))) w:=by
 rw[r_look hx (show _=brK a from hy) hm,<-hr]
 cases getM m a<;>rfl
theorem r_cnt{ty:TypeId}{gd:Option (Nat×Bool)}{b:Nat}{m:List (Br×Int)}{cnt:Br->Nat}[T:MapT P t k e][K:KeyT P k brK][Z:ZeroT P e (zI)](hx:ev n f x=.map (some b))(hy:ev n f y=.agg (brV a).toArray)(hm:Mp brK (Value.int .i64) w b m)(hr:RelB m cnt):
 (execOp (ev n f) ⟨some d,.lookup t x y false,ty,ps,af,gd⟩).run P w=.ok (.value (iV (cnt a:Nat))) w:=r_cntG hx hy hm (hr.look a)
theorem r_has{ty:TypeId}{gd:Option (Nat×Bool)}{b:Nat}{m:List (Pr×Bool)}{q:Pr->Prop}[DecidablePred q]{a:Pr}[T:MapT P t k e][K:KeyT P k prK][Z:ZeroT P e (.bool false)](hx:ev n f x=.map (some b))(hy:ev n f y=.agg (prV a).toArray)(hm:Mp prK Value.bool w b m)(hr:RelP m q):
 (execOp (ev n f) ⟨some d,.lookup t x y false,ty,ps,af,gd⟩).run P w=.ok (.value (.bool (decide (q a)))) w:=by
 rw[r_look hx (show _=prK a from hy) hm]
 by_cases h0:q a
 .rw [(hr a).1 h0,decide_eq_true h0];rfl
 .rw [(hr a).2 h0,decide_eq_false h0];rfl
def SB(u:World)(bb:Nat)(cnt:Br->Nat)(z:World):Prop:=Fr [bb] u z/\∃m,Mp brK (Value.int .i64) z bb m/\∀b,(getM m b).getD 0=(cnt b:Int)
theorem r_cntS{ty:TypeId}{gd:Option (Nat×Bool)}{b:Nat}{cnt:Br->Nat}[T:MapT P t k e][K:KeyT P k brK][Z:ZeroT P e (zI)](hx:ev n f x=.map (some b))(hy:ev n f y=.agg (brV a).toArray)(hm:SB u b cnt w):
 (execOp (ev n f) ⟨some d,.lookup t x y false,ty,ps,af,gd⟩).run P w=.ok (.value (iV (cnt a:Nat))) w:=by
 obtain⟨_,m,h1,h2⟩:=hm
 exact r_cntG hx hy h1 (h2 a)
theorem SB.entry{z z':World}{cnt:Br->Nat}{m:List (Br×Int)}{st:Nat}(hz:Fr [bb] u z)(hr:RelB m cnt)(hf:Fr [bb] z z')(h:MpS brK (Value.int .i64) z' bb (entM m a (0:Int)) a st):SB u bb cnt z':=by
 refine⟨hz.trans hf (fun x hx=>.inl hx),_,h.mp,fun b=>?_⟩
 have h1:=hr.look b
 unfold entM
 cases hg:getM m a with
 |some v=>exact h1
 |none=>
  simp only
  rw[getM_snoc hg]
  by_cases e:b=a
  .subst e
   rw[hg]at h1
   rw[if_pos rfl];exact h1
  .rw [if_neg e];exact h1
def clsI(s:St)(r:Rn)(i:Nat):List Nat:=s.cls.mapIdx (fun(j:Nat) n=>n+b2n (decide ((j:Int)∈r.cl.take i)))
theorem clsI_len:(clsI s r i).length=s.cls.length:=by simp[clsI]
theorem clsI_zero:clsI s r 0=s.cls:=by
 unfold clsI
 apply List.ext_getElem
 .simp
 .intro i h1 h2
  simp[b2n]
theorem clsI_all:clsI s r r.cl.length=(stAdd s r).cls:=by
 unfold clsI stAdd
 rw[List.take_length]
theorem clsI_at(hok:clsOk n r.cl=true)(hi:i<r.cl.length)(hj:(j:Int)=r.cl[i])(hl:j<s.cls.length):(clsI s r i)[j]'(by rw[clsI_len];exact hl)=s.cls[j]:=by
 simp only[clsI,List.getElem_mapIdx]
 rw[decide_eq_false (by rw[hj];exact cls_nd hok hi)]
 rfl
theorem clsI_step(hok:clsOk n r.cl=true)(hi:i<r.cl.length)(hj:(j:Int)=r.cl[i])(hl:j<s.cls.length):(clsI s r i).set j (s.cls[j]+1)=clsI s r (i+1):=by
 apply List.ext_getElem
 .simp [clsI]
 .intro k h1 h2
  rw[List.getElem_set]
  simp only[clsI,List.getElem_mapIdx,List.take_succ_eq_append_getElem hi,List.mem_append,List.mem_singleton,<-hj]
  by_cases e:j=k
  .subst e
   simp[b2n]
  .have:¬(k:Int)=(j:Int):=by omega
   simp[e,this]
theorem fits_no{P:Pp}(h:outOk P.checks r=false):fitsR P r=false:=by unfold fitsR;rw[h];rfl
theorem fits_cl{P:Pp}(h:clsOk P.ncls r.cl=false):fitsR P r=false:=by unfold fitsR;rw[h];simp
theorem fits_yes{P:Pp}(h:outOk P.checks r=true)(k:clsOk P.ncls r.cl=true):fitsR P r=true:=by unfold fitsR;rw[h,k];rfl
theorem cls_no(hi:i<l.length)(h:¬(0<=l[i]/\l[i]<n/\∀h:0<i,l[i-1]<l[i])):clsOk n l=false:=by
 refine clsOk_false hi ?_
 unfold clsAt
 refine decide_eq_false (fun h1=>h ?_)
 rw[getD_at hi]at h1
 refine⟨h1.1,h1.2.1,fun h0=>?_⟩
 have:=h1.2.2 h0
 rw[getD_at Yhd]at this
 exact this
theorem cls_yes(hi:i<l.length)(h:0<=l[i]/\l[i]<n/\∀h:0<i,l[i-1]<l[i]):clsAt n l i=true:=by
 unfold clsAt
 rw[getD_at hi]
 refine decide_eq_true ⟨h.1,h.2.1,fun h0=>?_⟩
 rw[getD_at Yhd]
 exact h.2.2 h0
end Go.Rf
namespace Go.Proofs.YtggmccicdhnkgaaGreat
open Go.Proofs.Tryz
open Go.Rf Go.RowKit
variable{M R S:List Nat}{p:Nat}{s:St}
attribute [local irreducible] Code.wp wpList Exit.then Exit.inBlock bodyPost A Calls execOp Addr.add
set_option maxHeartbeats 16000000 in
theorem fitsC{P:Pp}(r:Rn)(vb vl:Value)(w:World)(hC:CovM w p M R P s)(hl:DR w S (.l (r.cl.map intR)) vl)(h1b:vb.oneCell'=true):
 Calls prog 50 #[.pointer (some ⟨p,0,none⟩),.agg ([iV r.kind,iV r.at_,iV r.code,vb,vl,zI]:List Value).toArray] w fun e w'=>e=.returned (.bool (fitsR P r))/\Fr [] w w':=by
 obtain⟨bb,pb,vr,vc,mb,mp,rfl,rfl,hnd,hb,hr,hc,hmb,hrb,hmp,hrp,hok⟩:=hC
 have hncls:=hok.ncls
 obtain⟨aoc,cc,rfl⟩:=hc.slice
 have h1l:=hl.one
 have hlbd:=hl.bound
 obtain⟨aol,cl,rfl,_⟩:=hl.slice
 rw[List.length_map]at hl h1l hlbd ⊢
 refine enter func50 rfl ntmps50 rfl ?_
 refine rx ?_
 refine s_boxN (l:=[iV r.kind,iV r.at_,iV r.code,vb,(.slice aol r.cl.length cl),zI]) rfl rfl (fun w1 b3 hb3 h3 hf1 hs1=>?_)
 refine rx ?_
 refine s_allocN (l:=[zI,zI,zI]) rfl (fun w2 b5 hb5 h5 hf2 hs2=>?_)
 have h3:=h3.tr0 hf2
 refine rx ?_
 refine s_storeAggB (cs:=[iV r.kind,iV r.at_,iV r.code]) rfl rfl h5 Yhk rfl rfl (fun w3 h5 hf3 hs3=>?_)
 have h3:=h3.tr hf3 Yhj
 have hF3:Fr [] w w3:=(hf1.trans0 hf2).trans hf3 (fun x hx=>.inr Yhg)
 have hb:=hb.tr0 hF3
 refine wpList_nil ?_
 refine q_then ?_
 (repeat refine wp_seq ?_)
 refine c_region ?_
 refine Yeu ?_
 (repeat refine wp_seq ?_)
 refine c_cutK 12 [] (fun g u=>Fr [] w3 u/\outOk P.checks r=true) ?_ ?_
 .by_cases k0:r.kind=0
  .by_cases a0:r.at_=0
   .by_cases c0:r.code=0
    .refine rx ?_
     exact q_cutK Yhb ⟨Fr.refl _ _,decide_eq_true Yhd⟩
    .refine rx ?_
     exact Ycc
   .refine rx ?_
    exact Ycc
  by_cases k1:r.kind=1
  .refine rx ?_
   refine d_begin (fun z=>Fr [] w3 z) Yhf rfl ?_
   obtain⟨u1,hu1⟩:=exq w3.drew
   rw[<-hu1]
   have hS:Fr [] w3 u1:=hu1▸Fr.drew _ _
   by_cases a0:r.at_<0
   . (refine d_z4 0 1 2 3 hS ?_;refine d_z4 4 5 6 7 hS ?_;refine d_z4 8 9 10 11 hS ?_;refine d_z4 12 13 14 15 hS ?_;refine d_z4 16 17 18 19 hS ?_;refine d_z 20 hS ?_)
     exact Ys
   by_cases a1:(P.checks:Int)<=r.at_
   . (refine d_z4 0 1 2 3 hS ?_;refine d_z4 4 5 6 7 hS ?_;refine d_z4 8 9 10 11 hS ?_;refine d_z4 12 13 14 15 hS ?_;refine d_z4 16 17 18 19 hS ?_;refine d_z 20 hS ?_)
     exact Ys
   by_cases c0:r.code=0
   . (refine d_z4 0 1 2 3 hS ?_;refine d_z4 4 5 6 7 hS ?_;refine d_z4 8 9 10 11 hS ?_;refine d_z4 12 13 14 15 hS ?_;refine d_z2 16 17 hS ?_;refine d_z 18 hS ?_)
     exact Ybd
   . (refine d_z4 0 1 2 3 hS ?_;refine d_z4 4 5 6 7 hS ?_;refine d_z4 8 9 10 11 hS ?_;refine d_z4 12 13 14 15 hS ?_;refine d_z2 16 17 hS ?_;refine d_z 18 hS ?_)
     exact Ydu
  by_cases k2:r.kind=2
  .refine rx ?_
   refine d_begin (fun z=>Fr [] w3 z) Yhf rfl ?_
   obtain⟨u1,hu1⟩:=exq w3.drew
   rw[<-hu1]
   have hS:Fr [] w3 u1:=hu1▸Fr.drew _ _
   by_cases a0:r.at_<0
   . (refine d_z4 0 1 2 3 hS ?_;refine d_z4 4 5 6 7 hS ?_;refine d_z4 8 9 10 11 hS ?_;refine d_z4 12 13 14 15 hS ?_;refine d_z4 16 17 18 19 hS ?_;refine d_z 20 hS ?_)
     exact Ys
   by_cases a1:(P.checks:Int)<=r.at_
   . (refine d_z4 0 1 2 3 hS ?_;refine d_z4 4 5 6 7 hS ?_;refine d_z4 8 9 10 11 hS ?_;refine d_z4 12 13 14 15 hS ?_;refine d_z4 16 17 18 19 hS ?_;refine d_z 20 hS ?_)
     exact Ys
   by_cases c0:r.code=0
   . (refine d_z4 0 1 2 3 hS ?_;refine d_z4 4 5 6 7 hS ?_;refine d_z4 8 9 10 11 hS ?_;refine d_z4 12 13 14 15 hS ?_;refine d_z2 16 17 hS ?_;refine d_z 18 hS ?_)
     exact Ydu
   . (refine d_z4 0 1 2 3 hS ?_;refine d_z4 4 5 6 7 hS ?_;refine d_z4 8 9 10 11 hS ?_;refine d_z4 12 13 14 15 hS ?_;refine d_z2 16 17 hS ?_;refine d_z 18 hS ?_)
     exact Ybd
  .refine rx ?_
   exact Ycc
 rintro g w4 ⟨hf4,hout⟩
 have hF4:=hF3.trans0 hf4
 have h3:=h3.tr0 hf4
 clear h5 hb
 have hb:Blk w4 p _ _:= ‹Blk w p _ _›.tr0 hF4
 refine rx ?_
 refine c_loopK 49 [6,7] (σ:=Nat) (fun i g u=>g 49=iV (i:Nat)/\i<=r.cl.length/\(∀j,j<i->clsAt P.ncls r.cl j=true)/\Fr [] w4 u) (fun i=>r.cl.length-i) 0 ⟨rfl,Nat.zero_le _,fun j h=>by omega,Fr.refl _ _⟩ ?_
 rintro i g u ⟨g49,hi,hpre,hF⟩
 rw[eq_upd g49]
 have hFu:=hF4.trans0 hF
 have h3:=h3.tr0 hF
 have hb:=hb.tr0 hF
 by_cases hlt:i<r.cl.length
 case neg=>
  refine Yei ?_
  exact⟨by rw[fits_yes hout (clsOk_true (fun j hj=>hpre j Yhd))],hFu⟩
 obtain⟨adl,hadl,hcell⟩:=src_at (ints_src (hl.tr0 hFu)) (int_get hlt)
 subst hadl
 refine rx ?_
 refine s_load rfl (by rw[Nat.mul_one];exact hcell) ?_
 by_cases c1:r.cl[i]<0
 .refine rx ?_
  exact Ydb
 by_cases c2:s.cls.length<=r.cl[i]
 .refine rx ?_
  exact Ydb
 by_cases c3:i=0
 .refine rx ?_
  exact Ybe
 have hcell1:=src_cell (ints_src (hl.tr0 hFu)) (int_get (show i-1<r.cl.length by omega))
 refine rx ?_
 rw[show((i:Int)-1)=((i-1:Nat):Int) by omega]
 refine rx ?_
 refine s_load rfl (by rw[Nat.mul_one];exact hcell1) ?_
 by_cases c4:r.cl[i]<=r.cl[i-1]
 .refine rx ?_
  refine Yfn ?_
  exact⟨by rw[fits_cl (cls_no hlt (fun h=>by have:=h.2.2 Yhd;omega))],hFu⟩
 .refine rx ?_
  exact Ybe
set_option maxHeartbeats 16000000 in
theorem addC{P:Pp}(r:Rn)(vb vl:Value)(w:World)(hC:CovM w p M R P s)(hMS:∀x∈M,x∈S)(hbr:DR w S (.l (r.bs.map brC)) vb)(hl:DR w S (.l (r.cl.map intR)) vl)(hrn:s.runs<=1000000)(hbl:r.bs.length<=1000000):
 Calls prog 15 #[.pointer (some ⟨p,0,none⟩),.agg ([iV r.kind,iV r.at_,iV r.code,vb,vl,zI]:List Value).toArray] w fun e w'=>if fitsR P r=true then e=.returned (zI)/\CovM w' p M R P (stAdd s r)/\Fr M w w' else e=.returned (iV 1)/\Fr [] w w':=by
 have hC0:=hC
 have h1b:=hbr.one
 have hl0:=hl
 have h1l:=hl.one
 obtain⟨bb,pb,vr,vc,mb,mp,rfl,rfl,hnd,hb,hr,hc,hmb,hrb,hmp,hrp,hok⟩:=hC
 obtain⟨n1,n2,n3,n4,n5,n6,n7,n8,n9,n10⟩:=nd_cov hnd
 have hncls:=hok.ncls
 obtain⟨aoc,cc,rfl⟩:=hc.slice
 have hlbd:=hl.bound
 obtain⟨aol,cl,rfl,_⟩:=hl.slice
 obtain⟨aob,cb,rfl,_⟩:=hbr.slice
 simp only[List.length_map]at hl hbr h1b h1l hl0 hlbd ⊢
 refine enter func15 rfl ntmps15 rfl ?_
 refine rx ?_
 refine s_boxN (l:=[iV r.kind,iV r.at_,iV r.code,(.slice aob r.bs.length cb),(.slice aol r.cl.length cl),zI]) rfl rfl (fun w1 b3 hb3 h3 hf1 hs1=>?_)
 refine rx ?_
 refine s_cE (fitsC r (.slice aob r.bs.length cb) (.slice aol r.cl.length cl) w1 (hC0.tr0 hf1) (hl.tr0 hf1) h1b) ?_
 rintro w2 hf2
 have hF2:=hf1.trans0 hf2
 cases hfit:fitsR P r with
 |false=>
  refine Yei ?_
  rw[if_neg Yhi]
  exact⟨rfl,hF2⟩
 |true=>
 have hfit':=hfit
 unfold fitsR at hfit'
 rw[Bool.and_eq_true]at hfit'
 have hout:=of_decide_eq_true hfit'.1
 have hcls:=hfit'.2
 have h3:=h3.tr0 hf2
 have hb2:=hb.tr0 hF2
 have hltM:=hC0.lt
 have hoo:=hok.o
 have hplt:p<w.heap.size:=hb.lt
 have hbblt:bb<w.heap.size:=hmb.lt
 have hpblt:pb<w.heap.size:=hmp.lt
 have hvclt:=hc.lt
 refine rx ?_
 ((with_reducible apply s_storeB);exact rfl;(conv=>lhs;whnf);exact rfl;exact hb2;exact rfl)
 intro w3 hb3' hf3 hs3
 replace hb3':Blk w3 p [.string P.prop,iV (P.checks:Nat),vr,iV ((s.runs+1):Nat),iV (s.o 0:Nat),iV (s.o 1:Nat),iV (s.o 2:Nat),(.slice aoc s.cls.length cc),.map (some bb),.map (some pb)] _:=hb3'
 have h3:=h3.tr hf3 Yhj
 have hF3:Fr [p] w w3:=(hF2.mono Yhi).trans hf3 (fun x hx=>.inl hx)
 refine wpList_nil ?_
 refine q_then ?_
 (repeat refine wp_seq ?_)
 refine c_cutK 11 [] (fun g u=>Fr [p] w3 u/\Blk u p [.string P.prop,iV (P.checks:Nat),vr,iV ((stAdd s r).runs:Nat),iV ((stAdd s r).o 0:Nat),iV ((stAdd s r).o 1:Nat),iV ((stAdd s r).o 2:Nat),(.slice aoc s.cls.length cc),.map (some bb),.map (some pb)] 125) ?_ ?_
 .rcases (show r.kind=0\/r.kind=1\/r.kind=2 by omega)with hk|hk|hk
  .rw [hk]at h3
   have e0:(stAdd s r).o 0=s.o 0+1:=by show s.o 0+b2n (decide (r.kind=((0:Nat):Int)))=_;rw[hk];rfl
   have e1:(stAdd s r).o 1=s.o 1:=by show s.o 1+b2n (decide (r.kind=((1:Nat):Int)))=_;rw[hk];rfl
   have e2:(stAdd s r).o 2=s.o 2:=by show s.o 2+b2n (decide (r.kind=((2:Nat):Int)))=_;rw[hk];rfl
   rw[e0,e1,e2]
   refine u_begin 12 (fun z=>Fr [] w3 z) Yhf rfl ?_
   obtain⟨u1,hu1⟩:=exq w3.drew
   rw[<-hu1]
   have hS:Fr [] w3 u1:=hu1▸Fr.drew _ _
   ((refine u_tx 0 hS ?_);(refine u_tx 1 hS ?_);(refine u_tx 2 hS ?_);(refine u_tx 3 hS ?_);(refine u_tx 4 hS ?_);(refine u_tx 5 hS ?_))
   refine u_tx 6 hS ?_ (hrun:=(by intro u hu;exact(r_addrB (j:=0) rfl rfl Yho)))
   refine u_tx 7 hS ?_ (hrun:=Yjb)
   ((refine u_tx 8 hS ?_))
   refine Yfa ?_
   rw[add_lit]
   refine wpList_nil (q_uh hS ?_)
   refine u_tx 11 hS ?_ (hrun:=(by intro u hu;exact(r_addrB (j:=0) rfl rfl Yho)))
   exact Yq
  .rw [hk]at h3
   have e0:(stAdd s r).o 0=s.o 0:=by show s.o 0+b2n (decide (r.kind=((0:Nat):Int)))=_;rw[hk];rfl
   have e1:(stAdd s r).o 1=s.o 1+1:=by show s.o 1+b2n (decide (r.kind=((1:Nat):Int)))=_;rw[hk];rfl
   have e2:(stAdd s r).o 2=s.o 2:=by show s.o 2+b2n (decide (r.kind=((2:Nat):Int)))=_;rw[hk];rfl
   rw[e0,e1,e2]
   refine u_begin 12 (fun z=>Fr [] w3 z) Yhf rfl ?_
   obtain⟨u1,hu1⟩:=exq w3.drew
   rw[<-hu1]
   have hS:Fr [] w3 u1:=hu1▸Fr.drew _ _
   ((refine u_tx 0 hS ?_);(refine u_tx 1 hS ?_);(refine u_tx 2 hS ?_);(refine u_tx 3 hS ?_);(refine u_tx 4 hS ?_);(refine u_tx 5 hS ?_))
   refine u_tx 6 hS ?_ (hrun:=(by intro u hu;exact(r_addrB (j:=1) rfl rfl Yho)))
   refine u_tx 7 hS ?_ (hrun:=Yjb)
   ((refine u_tx 8 hS ?_))
   refine Yfa ?_
   rw[add_lit]
   refine wpList_nil (q_uh hS ?_)
   refine u_tx 11 hS ?_ (hrun:=(by intro u hu;exact(r_addrB (j:=1) rfl rfl Yho)))
   exact Yq
  .rw [hk]at h3
   have e0:(stAdd s r).o 0=s.o 0:=by show s.o 0+b2n (decide (r.kind=((0:Nat):Int)))=_;rw[hk];rfl
   have e1:(stAdd s r).o 1=s.o 1:=by show s.o 1+b2n (decide (r.kind=((1:Nat):Int)))=_;rw[hk];rfl
   have e2:(stAdd s r).o 2=s.o 2+1:=by show s.o 2+b2n (decide (r.kind=((2:Nat):Int)))=_;rw[hk];rfl
   rw[e0,e1,e2]
   refine u_begin 12 (fun z=>Fr [] w3 z) Yhf rfl ?_
   obtain⟨u1,hu1⟩:=exq w3.drew
   rw[<-hu1]
   have hS:Fr [] w3 u1:=hu1▸Fr.drew _ _
   ((refine u_tx 0 hS ?_);(refine u_tx 1 hS ?_);(refine u_tx 2 hS ?_);(refine u_tx 3 hS ?_);(refine u_tx 4 hS ?_);(refine u_tx 5 hS ?_))
   refine u_tx 6 hS ?_ (hrun:=(by intro u hu;exact(r_addrB (j:=2) rfl rfl Yho)))
   refine u_tx 7 hS ?_ (hrun:=Yjb)
   ((refine u_tx 8 hS ?_))
   refine Yfa ?_
   rw[add_lit]
   refine wpList_nil (q_uh hS ?_)
   refine u_tx 11 hS ?_ (hrun:=(by intro u hu;exact(r_addrB (j:=2) rfl rfl Yho)))
   exact Yq
 clear hb3'
 rintro g w4 ⟨hf4,hb4⟩
 have h3:=h3.tr hf4 Yhj
 have hF4:Fr [p] w w4:=hF3.trans hf4 (fun x hx=>.inl hx)
 have hs4:=hF4.size
 have hr4:=hr.tr hF4 (fun x hx hm=>n7 Yhq)
 have hc4:=hc.tr hF4 (fun x hx hm=>n4 Yhq)
 have hmb4:=hmb.tr hF4 (by simpa using fun h=>n1 h.symm)
 have hmp4:=hmp.tr hF4 (by simpa using fun h=>n2 h.symm)
 clear hb hb2 hf1 hf2 hf3 hs1
 obtain⟨K,hK⟩:=exq ([p,bb,pb]++blks (Value.slice aoc s.cls.length cc))
 have hKm:∀{x:Nat},x∈K↔x=p\/x=bb\/x=pb\/x∈blks (Value.slice aoc s.cls.length cc):=fun{x}=>by rw[hK];simp[or_assoc]
 rw[<-hK]at hMS ⊢
 have hF4K:Fr K w w4:=hF4.mono (fun x hx=>.inl (by rw[List.mem_singleton.1 hx];exact hKm.2 (.inl rfl)))
 have hvcK:∀x∈blks (Value.slice aoc s.cls.length cc),x∈K:=fun x hx=>hKm.2 (.inr (.inr (.inr hx)))
 refine rx ?_
 refine c_loopK 42 [6] (σ:=Nat) (fun i g u=>g 42=iV (i:Nat)/\i<=r.cl.length/\Own u 3 1 (Value.slice aoc s.cls.length cc) s.cls.length (natsV (clsI s r i))/\Fr (blks (Value.slice aoc s.cls.length cc)) w4 u) (fun i=>r.cl.length-i) 0 ⟨rfl,Nat.zero_le _,by rw[clsI_zero];exact hc4,Fr.refl _ _⟩ ?_
 clear hc4
 rintro i g u ⟨g42,hi,hcu,hF⟩
 rw[eq_upd g42]
 have hFw:Fr K w u:=hF4K.trans hF (fun x hx=>.inl (hvcK x hx))
 have hb3u:=h3.tr hF (fun hm=>by have:=hvclt b3 hm;omega)
 have hbu:=hb4.tr hF n4
 by_cases hlt:i<r.cl.length
 .obtain ⟨adl,hadl,hcell⟩:=src_at (ints_src (hl.tr (hFw.mono (fun x hx=>.inl (hMS x hx))))) (int_get hlt)
  subst hadl
  have hin:=cls_in hcls (List.getElem_mem hlt)
  obtain⟨j,hj⟩:∃j:Nat,(j:Int)=r.cl[i]:=⟨r.cl[i].toNat,Int.toNat_of_nonneg hin.1⟩
  have hjl:j<s.cls.length:=by omega
  obtain⟨adc,hadc,hcc⟩:=src_at hcu.src (natsV_get (l:=clsI s r i) (i:=j) (by rw[clsI_len];exact hjl))
  rw[clsI_at hcls hlt hj hjl]at hcc
  have hcb:=hok.ocls _ (List.getElem_mem hjl)
  refine rx ?_
  refine s_load rfl (by rw[Nat.mul_one];exact hcell) ?_
  refine rx ?_
  refine s_index1 rfl rfl hj.symm hjl hadc ?_
  refine s_load rfl hcc ?_
  refine rx ?_
  refine s_index1 rfl rfl hj.symm hjl hadc ?_
  refine s_storeOwn hcu hadc hjl rfl rfl rfl (fun u1 hcu1 hf5 hs5=>?_)
  refine rx ?_
  refine q_roundK (i+1) Yhb ⟨rfl,hlt,?_,hF.trans hf5 (fun x hx=>.inl hx)⟩ Yhd
  rw[<-clsI_step hcls hlt hj hjl,<-natsV_set]
  exact hcu1
 have hil:i=r.cl.length:=by omega
 subst hil
 rw[clsI_all]at hcu
 have hr5:=hr4.tr hF (fun x hx hm=>n10 x hm hx)
 have hmb5:=hmb4.tr hF n5
 have hmp5:=hmp4.tr hF n6
 clear hb4 h3 hr4 hmb4 hmp4 hlt
 have hbru:=hbr.tr (hFw.mono (fun x hx=>.inl (hMS x hx)))
 refine rx ?_
 refine s_c1 (setC r.bs _ u hbru hbl) ?_
 rintro vq u5 ⟨hBq,hf5⟩
 obtain⟨l1,hl1⟩:=exq (setL ltB r.bs)
 rw[<-hl1]at hBq
 obtain⟨aoq,cq,rfl⟩:=hBq.1.slice
 have hl1n:l1.length<=1000000:=by rw[hl1];exact Nat.le_trans setL_len hbl
 have hl1d:l1.Nodup:=hl1▸Asc.nd totB (setL_asc totB _)
 have hqge:=hBq.2
 have hFw5:=hFw.trans0 hf5
 have hb3u:=hb3u.tr0 hf5
 have hbu:=hbu.tr0 hf5
 have hr5:=hr5.tr0 hf5
 have hmb5:=hmb5.tr0 hf5
 have hmp5:=hmp5.tr0 hf5
 have hcu:=hcu.tr0 hf5
 have hsw:=hFw.size
 have hs5:=hf5.size
 obtain⟨cntI,hcntI⟩:∃c:Nat->Br->Nat,c=fun i b=>s.cnt b+b2n (decide (b∈l1.take i)):=⟨_,rfl⟩
 refine rx ?_
 refine c_loopK 60 [8] (σ:=Nat×List (Br×Int)) (fun q g u=>g 60=iV (q.1:Nat)/\q.1<=l1.length/\Mp brK (Value.int .i64) u bb q.2/\RelB q.2 (cntI q.1)/\Fr [bb] u5 u) (fun q=>l1.length-q.1) (0,mb) ⟨rfl,Nat.zero_le _,hmb5,hrb.congr (fun b=>by rw[hcntI];simp[b2n]),Fr.refl _ _⟩ ?_
 clear hmb5
 rintro⟨i,m⟩ g u6 ⟨g60,hi,hmu,hru,hF6⟩
 simp only at g60 hi hmu hru
 rw[eq_upd g60]
 have hs6:=hF6.size
 have hFw6:Fr K w u6:=hFw5.trans hF6 (fun x hx=>.inl (by rw[List.mem_singleton.1 hx];exact hKm.2 (.inr (.inl rfl))))
 have hb3u:=hb3u.tr hF6 Yhj
 have hbu:=hbu.tr hF6 (by simpa using n1)
 by_cases hlt:i<l1.length
 .obtain ⟨adq,hadq,hcq⟩:=src_rows brV_l3 ((hBq.1.src).tr hF6 (fun ad n c e _ hm=>by
   cases e
   have:=hqge ad.block Yhs
   rw[List.mem_singleton.1 hm]at this;omega)) hlt Yho
  subst hadq
  have hcq:Cells u6 (adq.add (i*3)) [.string l1[i].decl,iV l1[i].at_,iV l1[i].arm]:=hcq
  have hcb:cntI i l1[i]=s.cnt l1[i]:=by
   rw[hcntI]
   simp only
   rw[decide_eq_false (fun hm=>by
    obtain⟨k,hk,e⟩:=List.getElem_of_mem hm
    rw[List.length_take]at hk
    rw[List.getElem_take]at e
    exact List.pairwise_iff_getElem.1 hl1d k i Yhd hlt Yhd e)]
   rfl
  have hcn:=hok.ocnt l1[i]
  refine rx ?_
  refine s_allocN (l:=[zT,zI,zI]) rfl (fun u7 b8 hb8e hb8 hf7 hs7=>?_)
  refine rx ?_
  refine s_storeAggB (cs:=brV l1[i]) rfl rfl hb8 (brV_one1 _) rfl rfl (fun u8 hb8 hf8 hs8=>?_)
  replace hb8:Blk u8 b8 [.string l1[i].decl,iV l1[i].at_,iV l1[i].arm] _:=hb8
  have hF8:Fr [] u6 u8:=hf7.trans hf8 (fun x hx=>.inr Yhg)
  have hb3u:=hb3u.tr0 hF8
  have hbu:=hbu.tr0 hF8
  have hmu8:=hmu.tr0 hF8
  have hs68:=hF8.size
  refine rx ?_
  have hpn:p∉[bb]:=by simpa using n1
  have hb8n:b8∉[bb]:=by simp;omega
  refine u_begin 9 (SB u8 bb (cntI i)) Yhf rfl ?_
  obtain⟨u9,hu9⟩:=exq u8.drew
  rw[<-hu9]
  have hS0:Fr [] u8 u9:=hu9▸Fr.drew _ _
  have hS:SB u8 bb (cntI i) u9:=⟨hS0.mono Yhi,m,hmu8.tr0 hS0,fun b=>hru.look b⟩
  ((refine u_tx 0 hS ?_);(refine u_tx 1 hS ?_);(refine u_tx 2 hS ?_))
  refine u_tx 3 hS ?_ (hrun:=(by intro u hu;exact(r_load rfl (Blk.cell (hbu.tr hu.1 hpn) rfl))))
  refine u_tx 4 hS ?_ (hrun:=(by intro u hu;exact(r_loadC rfl (Cells.ofBlk (hb8.tr hu.1 hb8n)) Yia)))
  refine u_tx 5 hS ?_ (hrun:=(by intro u hu;refine(r_cntS (P:=prog) (t:=122) (a:=l1[i]) ?_ ?_ hu);exact rfl;exact rfl))
  rw[hcb]
  ((refine u_tx 6 hS ?_))
  refine Ygc ?_
  refine s_mapEntry (key:=brK) (val:=Value.int .i64) (a:=l1[i]) (z0:=0) (hmu8.tr0 hS0) rfl rfl (fun u10 st hm10 hf10 hs10=>?_)
  have hS10:=SB.entry (a:=l1[i]) (st:=st) hS.1 hru hf10 hm10
  refine wpList_nil (q_uh hS10 ?_)
  ((refine u_tx 8 hS10 ?_))
  refine u_one (i:=9) rfl Yhf ?_
  refine s_entryStore (v:=(s.cnt l1[i]:Int)+1) hm10 rfl rfl rfl (fun u11 hm11 hf11 hs11=>?_)
  refine Yeo ?_
  have hF11:Fr [bb] u5 u11:=((hF6.trans0 hF8).trans0 hS0).trans (hf10.trans hf11 (fun x hx=>.inl hx)) (fun x hx=>.inl hx)
  refine q_roundK (i+1,_) Yhb ⟨rfl,hlt,hm11,?_,hF11⟩ Yhm
  refine(hru.entry (a:=l1[i]) (n:=s.cnt l1[i]+1) Yhd).congr (fun b=>?_)
  rw[hcntI]
  simp only[List.take_succ_eq_append_getElem hlt,List.mem_append,List.mem_singleton]
  by_cases e:b=l1[i]
  .rw [if_pos e,e];simp[b2n]
  .simp [e]
 have hil:i=l1.length:=by omega
 subst hil
 have hrb6:RelB m (stAdd s r).cnt:=hru.congr (fun b=>by
  rw[hcntI]
  show s.cnt b+b2n (decide (b∈l1.take l1.length))=s.cnt b+b2n (decide (b∈r.bs))
  rw[List.take_length,hl1]
  simp only[mem_setL totB])
 have hr6:=hr5.tr hF6 (fun x hx hm=>n8 Yhq)
 have hmp6:=hmp5.tr hF6 (by simpa using fun h=>n3 h.symm)
 have hcu:=hcu.tr hF6 (fun x hx hm=>n5 Yhq)
 clear hru hr5 hmp5 hlt hBq
 have hbru:=hbr.tr (hFw6.mono (fun x hx=>.inl (hMS x hx)))
 refine rx ?_
 refine s_c1 (pairsC r.bs _ u6 hbru hbl) ?_
 rintro vq u7 ⟨hBq,hf7⟩
 obtain⟨l2,hl2⟩:=exq (setL ltP (pairsL r.bs))
 rw[<-hl2]at hBq
 obtain⟨aop,cp,rfl⟩:=hBq.1.slice
 have hl2n:l2.length<=1000000:=by
  have h1:=setL_len (lt:=ltP) (l:=pairsL r.bs)
  have h2:=pairsL_len (l:=r.bs)
  rw[hl2];omega
 have hqge:=hBq.2
 have hs67:=hf7.size
 have hbu:=hbu.tr0 hf7
 have hr7:=hr6.tr0 hf7
 have hmp7:=hmp6.tr0 hf7
 have hcu:=hcu.tr0 hf7
 have hmb7:=hmu.tr0 hf7
 have hFw7:=hFw6.trans0 hf7
 have hsw6:=hFw6.size
 refine rx ?_
 refine c_loopK 78 [10] (σ:=Nat×List (Pr×Bool)) (fun q g u=>g 78=iV (q.1:Nat)/\q.1<=l2.length/\Mp prK Value.bool u pb q.2/\RelP q.2 (fun a=>a∈s.ps\/a∈l2.take q.1)/\Fr [pb] u7 u) (fun q=>l2.length-q.1) (0,mp) ⟨rfl,Nat.zero_le _,hmp7,hrp.congr (fun b=>by simp),Fr.refl _ _⟩ ?_
 clear hmp7
 rintro⟨i,m2⟩ g u8 ⟨g78,hi,hmu2,hru,hF8⟩
 simp only at g78 hi hmu2 hru
 rw[eq_upd g78]
 have hs8:=hF8.size
 have hFw8:Fr K w u8:=hFw7.trans hF8 (fun x hx=>.inl (by rw[List.mem_singleton.1 hx];exact hKm.2 (.inr (.inr (.inl rfl)))))
 have hbu:=hbu.tr hF8 (by simpa using n2)
 by_cases hlt:i<l2.length
 .obtain ⟨adq,hadq,hcq⟩:=src_rows prV_l6 ((hBq.1.src).tr hF8 (fun ad n c e _ hm=>by
   cases e
   have:=hqge ad.block Yhs
   rw[List.mem_singleton.1 hm]at this;omega)) hlt Yho
  subst hadq
  have hcq:Cells u8 (adq.add (i*6)) (prV l2[i]):=hcq
  refine rx ?_
  refine s_allocN (l:=[zT,zI,zI,zT,zI,zI]) rfl (fun u9 b8 hb8e hb8 hf9 hs9=>?_)
  refine rx ?_
  refine s_storeAggB (cs:=prV l2[i]) rfl rfl hb8 (prV_one1 _) rfl rfl (fun u10 hb8 hf10 hs10=>?_)
  replace hb8:Blk u10 b8 (prV l2[i]) _:=hb8
  have hF10:Fr [] u8 u10:=hf9.trans hf10 (fun x hx=>.inr Yhg)
  have hbu:=hbu.tr0 hF10
  have hmu10:=hmu2.tr0 hF10
  refine rx ?_
  refine u_begin 5 (fun z=>Fr [] u10 z) Yhf rfl ?_
  obtain⟨u11,hu11⟩:=exq u10.drew
  rw[<-hu11]
  have hS:Fr [] u10 u11:=hu11▸Fr.drew _ _
  ((refine u_tx 0 hS ?_);(refine u_tx 1 hS ?_);(refine u_tx 2 hS ?_);(refine u_tx 3 hS ?_);(refine u_tx 4 hS ?_))
  refine Ygb ?_
  refine s_mapUpd (key:=prK) (val:=Value.bool) (a:=l2[i]) (v:=true) (hmu10.tr0 hS) rfl rfl rfl (fun u12 hm12 hf12 hs12=>?_)
  refine Yeo ?_
  have hF12:Fr [pb] u7 u12:=((hF8.trans0 hF10).trans0 hS).trans hf12 (fun x hx=>.inl hx)
  refine q_roundK (i+1,_) Yhb ⟨rfl,hlt,hm12,hru.put.congr (fun b=>?_),hF12⟩ Yhm
  simp only[List.take_succ_eq_append_getElem hlt,List.mem_append,List.mem_singleton]
  constructor
  .rintro (h|h|h)
   .exact .inr (.inr h)
   .exact .inl h
   .exact .inr (.inl h)
  .rintro (h|h|h)
   .exact .inr (.inl h)
   .exact .inr (.inr h)
   .exact .inl h
 have hil:i=l2.length:=by omega
 subst hil
 have hrp8:RelP m2 (· ∈(stAdd s r).ps):=hru.congr (fun b=>by
  show b∈s.ps\/b∈l2.take l2.length↔b∈setL ltP (s.ps++pairsL r.bs)
  rw[List.take_length,hl2,mem_setL totP,mem_setL totP,List.mem_append])
 refine Yei ?_
 rw[if_pos rfl]
 refine⟨rfl,?_,hFw8⟩
 rw[hK]
 exact⟨bb,pb,vr,_,m,m2,rfl,rfl,hnd,hbu,hr7.tr hF8 (fun x hx hm=>n9 Yhq),by rw[show(stAdd s r).cls.length=s.cls.length by simp[stAdd]];exact hcu.tr hF8 (fun x hx hm=>n6 Yhq),hmb7.tr hF8 (by simpa using n3),hrb6,hmu2,hrp8,hok.mono r hfit⟩
end Go.Proofs.YtggmccicdhnkgaaGreat
