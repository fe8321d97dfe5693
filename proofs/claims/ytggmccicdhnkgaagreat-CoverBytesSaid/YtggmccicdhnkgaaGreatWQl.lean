/-
 The reference's parser:lists of expressions,bounds,operators.
-/
import Derived.Test.YtggmccicdhnkgaaGreatWCa
set_option linter.all false
set_option maxHeartbeats 64000000
namespace Go.Proofs.YtggmccicdhnkgaaGreat
open Go.Proofs.Tryz
open Go.Rf Go.RowKit
attribute [local irreducible] Code.wp wpList Exit.then Exit.inBlock bodyPost A Calls execOp Addr.add
theorem Jjn(l:List Gn)(sl:Value)(w:World)(S:List Nat)(hd:DR w S (.l (l.map gnC)) sl)
 (H:∀x∈l,∀(cs:List Value) (u:World) (S:List Nat),RD u S (gnC x) cs->Calls prog 142 #[.agg cs.toArray] u fun e u'=>∃cs',e=.returned (.agg cs'.toArray)/\RD u' (rg u) (gnC x) cs'/\Fr [] u u'):
 Calls prog 184 #[sl,.func (.func 142) #[] #[]] w fun e w'=>∃sl',e=.returned sl'/\DR w' (rg w) (.l (l.map gnC)) sl'/\Fr [] w w':=by
 have hbd:=hd.bound;have hl:(l.map gnC).length=l.length:=Sr ..;obtain⟨ao,c,rfl,_⟩:=hd.slice;rw[hl]at hd ⊢;refine enter func184 rfl ntmps184 rfl ?_;by_cases h0:l.length=0
 .refine rx ?_;exact Yo
 refine rx ?_;refine Qh (k:=l.length) rfl rfl Yhn Yhv (fun w1 ho1 hf1 hs1=>?_);refine rx ?_;obtain⟨N,hN⟩:∃N,w.heap.size=N:=⟨_,rfl⟩;rw[hN]at ho1 hs1 ⊢;refine Jh 7 [6] (σ:=Nat×List Value) (fun st g u=>g 13=.slice ao l.length c/\g 14=iV l.length/\g 15=iV st.1/\st.1<=l.length/\st.2.length=st.1*6/\
  Own u 98 6 (.slice (some ⟨N,0,none⟩) l.length l.length) l.length (st.2++zeros [zI,.string .empty,zS,zS,zS,zI] (l.length-st.1))/\Rws (fun x cs=>RD u (N::rg w) (gnC x) cs) (l.take st.1) st.2/\Fr [N] w1 u)
  (fun st=>l.length-st.1) (0,[]) ⟨rfl,rfl,rfl,SL _,rfl,ho1,by simpa using Rws.nil,Fr.refl _ _⟩ ?_
 rintro⟨i,ys⟩ g u ⟨h13,h14,h15,hi,hys,hou,hru,hfu⟩;simp only at h15 hi hys hou hru;rw[Ja h13,Ja h14,Ja h15];have hF:Fr [] w u:=hf1.trans hfu Yht;by_cases hlt:i<l.length
 case neg=>
  refine Yeo ?_;have ei:i=l.length:=by omega
  subst ei;rw[DV,show zeros [zI,.string .empty,zS,zS,zS,zI] 0=[] from rfl,Ce]at hou;refine⟨_,rfl,DR.ofTyped KG Yhn ⟨ys,hou.src,fun ad n c e hm=>?_,?_⟩,hF⟩
  .simp only[Value.slice.injEq,Sj]at e;exact Yx
  .rw [Dk]at hru;exact Yz
 obtain⟨ad,cs,had,hr,hcx⟩:=DR.at KG (hd.tr0 hF) hlt;subst had;have hlen:cs.length=6:=by rw[hr.len,KG]
 refine Yew ?_;rintro _ u1 ⟨cs',rfl,hx',hf1'⟩;refine⟨_,rfl,?_⟩;have hlen':cs'.length=6:=by rw[hx'.len,KG]
 have hou1:=hou.tr0 hf1';have hszu:=hfu.size;refine rx ?_;refine Qj (q:=i*6) (m:=6) (cs:=cs') hou1 rfl rfl rfl rfl hlen' (RD.one hx') Yhn (fun u2 hou2 hf2 hs2=>?_);rw[Qk hys rfl hlt]at hou2;have hblk:blks (.slice (some ⟨N,0,none⟩) l.length l.length)=[N]:=rfl;rw[hblk]at hf2;refine rx ?_;refine Jc (i+1,ys++cs') Yhl ?_ Yhw;refine⟨rfl,rfl,rfl,by simp only;omega,by simp only[Sm];omega,hou2,?_,(hfu.Jb hf1').trans hf2 Yhs⟩;simp only;rw[SK hlt];refine Rws.app (hru.imp (fun x cs _ h=>(RD.old h hf1' Yhs).old hf2 (Je Yhs))) (Rws.one ?_);refine((RD.mono hx' (T:=N::rg w) (fun b hb=>.inl (Jk.2 ?_))).old hf2 (Je Yhs));rcases SC.1 hb with rfl|hb
 .omega
 .have:=Jk.1 hb;omega
theorem JhV(l:List Ct)(sl:Value)(w:World)(S:List Nat)(hd:DR w S (.l (l.map ctC)) sl)
 (H:∀x∈l,∀(cs:List Value) (u:World) (S:List Nat),RD u S (ctC x) cs->Calls prog 137 #[.agg cs.toArray] u fun e u'=>∃cs',e=.returned (.agg cs'.toArray)/\RD u' (rg u) (ctC x) cs'/\Fr [] u u'):
 Calls prog 136 #[sl,.func (.func 137) #[] #[]] w fun e w'=>∃sl',e=.returned sl'/\DR w' (rg w) (.l (l.map ctC)) sl'/\Fr [] w w':=by
 have hbd:=hd.bound;have hl:(l.map ctC).length=l.length:=Sr ..;obtain⟨ao,c,rfl,_⟩:=hd.slice;rw[hl]at hd ⊢;refine enter func136 rfl ntmps136 rfl ?_;by_cases h0:l.length=0
 .refine rx ?_;exact Yo
 refine rx ?_;refine Qh (k:=l.length) rfl rfl Yhn Yhv (fun w1 ho1 hf1 hs1=>?_);refine rx ?_;obtain⟨N,hN⟩:∃N,w.heap.size=N:=⟨_,rfl⟩;rw[hN]at ho1 hs1 ⊢;refine Jh 7 [6] (σ:=Nat×List Value) (fun st g u=>g 13=.slice ao l.length c/\g 14=iV l.length/\g 15=iV st.1/\st.1<=l.length/\st.2.length=st.1*2/\
  Own u 219 2 (.slice (some ⟨N,0,none⟩) l.length l.length) l.length (st.2++zeros [.string .empty,zS] (l.length-st.1))/\Rws (fun x cs=>RD u (N::rg w) (ctC x) cs) (l.take st.1) st.2/\Fr [N] w1 u)
  (fun st=>l.length-st.1) (0,[]) ⟨rfl,rfl,rfl,SL _,rfl,ho1,by simpa using Rws.nil,Fr.refl _ _⟩ ?_
 rintro⟨i,ys⟩ g u ⟨h13,h14,h15,hi,hys,hou,hru,hfu⟩;simp only at h15 hi hys hou hru;rw[Ja h13,Ja h14,Ja h15];have hF:Fr [] w u:=hf1.trans hfu Yht;by_cases hlt:i<l.length
 case neg=>
  refine Yeo ?_;have ei:i=l.length:=by omega
  subst ei;rw[DV,show zeros [.string .empty,zS] 0=[] from rfl,Ce]at hou;refine⟨_,rfl,DR.ofTyped VU Yhn ⟨ys,hou.src,fun ad n c e hm=>?_,?_⟩,hF⟩
  .simp only[Value.slice.injEq,Sj]at e;exact Yx
  .rw [Dk]at hru;exact Yz
 obtain⟨ad,cs,had,hr,hcx⟩:=DR.at VU (hd.tr0 hF) hlt;subst had;have hlen:cs.length=2:=by rw[hr.len,VU]
 refine Yew ?_;rintro _ u1 ⟨cs',rfl,hx',hf1'⟩;refine⟨_,rfl,?_⟩;have hlen':cs'.length=2:=by rw[hx'.len,VU]
 have hou1:=hou.tr0 hf1';have hszu:=hfu.size;refine rx ?_;refine Qj (q:=i*2) (m:=2) (cs:=cs') hou1 rfl rfl rfl rfl hlen' (RD.one hx') Yhn (fun u2 hou2 hf2 hs2=>?_);rw[Qk hys rfl hlt]at hou2;have hblk:blks (.slice (some ⟨N,0,none⟩) l.length l.length)=[N]:=rfl;rw[hblk]at hf2;refine rx ?_;refine Jc (i+1,ys++cs') Yhl ?_ Yhw;refine⟨rfl,rfl,rfl,by simp only;omega,by simp only[Sm];omega,hou2,?_,(hfu.Jb hf1').trans hf2 Yhs⟩;simp only;rw[SK hlt];refine Rws.app (hru.imp (fun x cs _ h=>(RD.old h hf1' Yhs).old hf2 (Je Yhs))) (Rws.one ?_);refine((RD.mono hx' (T:=N::rg w) (fun b hb=>.inl (Jk.2 ?_))).old hf2 (Je Yhs));rcases SC.1 hb with rfl|hb
 .omega
 .have:=Jk.1 hb;omega
theorem Jcr(l:List Pm)(sl:Value)(w:World)(S:List Nat)(hd:DR w S (.l (l.map pmC)) sl)
 (H:∀x∈l,∀(cs:List Value) (u:World) (S:List Nat),RD u S (pmC x) cs->Calls prog 139 #[.agg cs.toArray] u fun e u'=>∃cs',e=.returned (.agg cs'.toArray)/\RD u' (rg u) (pmC x) cs'/\Fr [] u u'):
 Calls prog 138 #[sl,.func (.func 139) #[] #[]] w fun e w'=>∃sl',e=.returned sl'/\DR w' (rg w) (.l (l.map pmC)) sl'/\Fr [] w w':=by
 have hbd:=hd.bound;have hl:(l.map pmC).length=l.length:=Sr ..;obtain⟨ao,c,rfl,_⟩:=hd.slice;rw[hl]at hd ⊢;refine enter func138 rfl ntmps138 rfl ?_;by_cases h0:l.length=0
 .refine rx ?_;exact Yo
 refine rx ?_;refine Qh (k:=l.length) rfl rfl Yhn Yhv (fun w1 ho1 hf1 hs1=>?_);refine rx ?_;obtain⟨N,hN⟩:∃N,w.heap.size=N:=⟨_,rfl⟩;rw[hN]at ho1 hs1 ⊢;refine Jh 7 [6] (σ:=Nat×List Value) (fun st g u=>g 13=.slice ao l.length c/\g 14=iV l.length/\g 15=iV st.1/\st.1<=l.length/\st.2.length=st.1*4/\
  Own u 223 4 (.slice (some ⟨N,0,none⟩) l.length l.length) l.length (st.2++zeros [.string .empty,zI,.string .empty,zS] (l.length-st.1))/\Rws (fun x cs=>RD u (N::rg w) (pmC x) cs) (l.take st.1) st.2/\Fr [N] w1 u)
  (fun st=>l.length-st.1) (0,[]) ⟨rfl,rfl,rfl,SL _,rfl,ho1,by simpa using Rws.nil,Fr.refl _ _⟩ ?_
 rintro⟨i,ys⟩ g u ⟨h13,h14,h15,hi,hys,hou,hru,hfu⟩;simp only at h15 hi hys hou hru;rw[Ja h13,Ja h14,Ja h15];have hF:Fr [] w u:=hf1.trans hfu Yht;by_cases hlt:i<l.length
 case neg=>
  refine Yeo ?_;have ei:i=l.length:=by omega
  subst ei;rw[DV,show zeros [.string .empty,zI,.string .empty,zS] 0=[] from rfl,Ce]at hou;refine⟨_,rfl,DR.ofTyped Xn Yhn ⟨ys,hou.src,fun ad n c e hm=>?_,?_⟩,hF⟩
  .simp only[Value.slice.injEq,Sj]at e;exact Yx
  .rw [Dk]at hru;exact Yz
 obtain⟨ad,cs,had,hr,hcx⟩:=DR.at Xn (hd.tr0 hF) hlt;subst had;have hlen:cs.length=4:=by rw[hr.len,Xn]
 refine Yew ?_;rintro _ u1 ⟨cs',rfl,hx',hf1'⟩;refine⟨_,rfl,?_⟩;have hlen':cs'.length=4:=by rw[hx'.len,Xn]
 have hou1:=hou.tr0 hf1';have hszu:=hfu.size;refine rx ?_;refine Qj (q:=i*4) (m:=4) (cs:=cs') hou1 rfl rfl rfl rfl hlen' (RD.one hx') Yhn (fun u2 hou2 hf2 hs2=>?_);rw[Qk hys rfl hlt]at hou2;have hblk:blks (.slice (some ⟨N,0,none⟩) l.length l.length)=[N]:=rfl;rw[hblk]at hf2;refine rx ?_;refine Jc (i+1,ys++cs') Yhl ?_ Yhw;refine⟨rfl,rfl,rfl,by simp only;omega,by simp only[Sm];omega,hou2,?_,(hfu.Jb hf1').trans hf2 Yhs⟩;simp only;rw[SK hlt];refine Rws.app (hru.imp (fun x cs _ h=>(RD.old h hf1' Yhs).old hf2 (Je Yhs))) (Rws.one ?_);refine((RD.mono hx' (T:=N::rg w) (fun b hb=>.inl (Jk.2 ?_))).old hf2 (Je Yhs));rcases SC.1 hb with rfl|hb
 .omega
 .have:=Jk.1 hb;omega
theorem Jd3(l:List Dw)(sl:Value)(w:World)(S:List Nat)(hd:DR w S (.l (l.map dwC)) sl)
 (H:∀x∈l,∀(cs:List Value) (u:World) (S:List Nat),RD u S (dwC x) cs->Calls prog 144 #[.agg cs.toArray] u fun e u'=>∃cs',e=.returned (.agg cs'.toArray)/\RD u' (rg u) (dwC x) cs'/\Fr [] u u'):
 Calls prog 143 #[sl,.func (.func 144) #[] #[]] w fun e w'=>∃sl',e=.returned sl'/\DR w' (rg w) (.l (l.map dwC)) sl'/\Fr [] w w':=by
 have hbd:=hd.bound;have hl:(l.map dwC).length=l.length:=Sr ..;obtain⟨ao,c,rfl,_⟩:=hd.slice;rw[hl]at hd ⊢;refine enter func143 rfl ntmps143 rfl ?_;by_cases h0:l.length=0
 .refine rx ?_;exact Yo
 refine rx ?_;refine Qh (k:=l.length) rfl rfl Yhn Yhv (fun w1 ho1 hf1 hs1=>?_);refine rx ?_;obtain⟨N,hN⟩:∃N,w.heap.size=N:=⟨_,rfl⟩;rw[hN]at ho1 hs1 ⊢;refine Jh 7 [6] (σ:=Nat×List Value) (fun st g u=>g 13=.slice ao l.length c/\g 14=iV l.length/\g 15=iV st.1/\st.1<=l.length/\st.2.length=st.1*11/\
  Own u 230 11 (.slice (some ⟨N,0,none⟩) l.length l.length) l.length (st.2++zeros [.string .empty,zI,.string .empty,zS,zI,.string .empty,zS,zS,zS,zI,.bool false] (l.length-st.1))/\Rws (fun x cs=>RD u (N::rg w) (dwC x) cs) (l.take st.1) st.2/\Fr [N] w1 u)
  (fun st=>l.length-st.1) (0,[]) ⟨rfl,rfl,rfl,SL _,rfl,ho1,by simpa using Rws.nil,Fr.refl _ _⟩ ?_
 rintro⟨i,ys⟩ g u ⟨h13,h14,h15,hi,hys,hou,hru,hfu⟩;simp only at h15 hi hys hou hru;rw[Ja h13,Ja h14,Ja h15];have hF:Fr [] w u:=hf1.trans hfu Yht;by_cases hlt:i<l.length
 case neg=>
  refine Yeo ?_;have ei:i=l.length:=by omega
  subst ei;rw[DV,show zeros [.string .empty,zI,.string .empty,zS,zI,.string .empty,zS,zS,zS,zI,.bool false] 0=[] from rfl,Ce]at hou;refine⟨_,rfl,DR.ofTyped VQ Yhn ⟨ys,hou.src,fun ad n c e hm=>?_,?_⟩,hF⟩
  .simp only[Value.slice.injEq,Sj]at e;exact Yx
  .rw [Dk]at hru;exact Yz
 obtain⟨ad,cs,had,hr,hcx⟩:=DR.at VQ (hd.tr0 hF) hlt;subst had;have hlen:cs.length=11:=by rw[hr.len,VQ]
 refine Yew ?_;rintro _ u1 ⟨cs',rfl,hx',hf1'⟩;refine⟨_,rfl,?_⟩;have hlen':cs'.length=11:=by rw[hx'.len,VQ]
 have hou1:=hou.tr0 hf1';have hszu:=hfu.size;refine rx ?_;refine Qj (q:=i*11) (m:=11) (cs:=cs') hou1 rfl rfl rfl rfl hlen' (RD.one hx') Yhn (fun u2 hou2 hf2 hs2=>?_);rw[Qk hys rfl hlt]at hou2;have hblk:blks (.slice (some ⟨N,0,none⟩) l.length l.length)=[N]:=rfl;rw[hblk]at hf2;refine rx ?_;refine Jc (i+1,ys++cs') Yhl ?_ Yhw;refine⟨rfl,rfl,rfl,by simp only;omega,by simp only[Sm];omega,hou2,?_,(hfu.Jb hf1').trans hf2 Yhs⟩;simp only;rw[SK hlt];refine Rws.app (hru.imp (fun x cs _ h=>(RD.old h hf1' Yhs).old hf2 (Je Yhs))) (Rws.one ?_);refine((RD.mono hx' (T:=N::rg w) (fun b hb=>.inl (Jk.2 ?_))).old hf2 (Je Yhs));rcases SC.1 hb with rfl|hb
 .omega
 .have:=Jk.1 hb;omega
theorem Jct(l:List Ck)(sl:Value)(w:World)(S:List Nat)(hd:DR w S (.l (l.map ckC)) sl)
 (H:∀x∈l,∀(cs:List Value) (u:World) (S:List Nat),RD u S (ckC x) cs->Calls prog 146 #[.agg cs.toArray] u fun e u'=>∃cs',e=.returned (.agg cs'.toArray)/\RD u' (rg u) (ckC x) cs'/\Fr [] u u'):
 Calls prog 145 #[sl,.func (.func 146) #[] #[]] w fun e w'=>∃sl',e=.returned sl'/\DR w' (rg w) (.l (l.map ckC)) sl'/\Fr [] w w':=by
 have hbd:=hd.bound;have hl:(l.map ckC).length=l.length:=Sr ..;obtain⟨ao,c,rfl,_⟩:=hd.slice;rw[hl]at hd ⊢;refine enter func145 rfl ntmps145 rfl ?_;by_cases h0:l.length=0
 .refine rx ?_;exact Yo
 refine rx ?_;refine Qh (k:=l.length) rfl rfl Yhn Yhv (fun w1 ho1 hf1 hs1=>?_);refine rx ?_;obtain⟨N,hN⟩:∃N,w.heap.size=N:=⟨_,rfl⟩;rw[hN]at ho1 hs1 ⊢;refine Jh 7 [6] (σ:=Nat×List Value) (fun st g u=>g 13=.slice ao l.length c/\g 14=iV l.length/\g 15=iV st.1/\st.1<=l.length/\st.2.length=st.1*8/\
  Own u 132 8 (.slice (some ⟨N,0,none⟩) l.length l.length) l.length (st.2++zeros [.string .empty,zI,.string .empty,zI,zS,zS,zS,zI] (l.length-st.1))/\Rws (fun x cs=>RD u (N::rg w) (ckC x) cs) (l.take st.1) st.2/\Fr [N] w1 u)
  (fun st=>l.length-st.1) (0,[]) ⟨rfl,rfl,rfl,SL _,rfl,ho1,by simpa using Rws.nil,Fr.refl _ _⟩ ?_
 rintro⟨i,ys⟩ g u ⟨h13,h14,h15,hi,hys,hou,hru,hfu⟩;simp only at h15 hi hys hou hru;rw[Ja h13,Ja h14,Ja h15];have hF:Fr [] w u:=hf1.trans hfu Yht;by_cases hlt:i<l.length
 case neg=>
  refine Yeo ?_;have ei:i=l.length:=by omega
  subst ei;rw[DV,show zeros [.string .empty,zI,.string .empty,zI,zS,zS,zS,zI] 0=[] from rfl,Ce]at hou;refine⟨_,rfl,DR.ofTyped QM Yhn ⟨ys,hou.src,fun ad n c e hm=>?_,?_⟩,hF⟩
  .simp only[Value.slice.injEq,Sj]at e;exact Yx
  .rw [Dk]at hru;exact Yz
 obtain⟨ad,cs,had,hr,hcx⟩:=DR.at QM (hd.tr0 hF) hlt;subst had;have hlen:cs.length=8:=by rw[hr.len,QM]
 refine Yew ?_;rintro _ u1 ⟨cs',rfl,hx',hf1'⟩;refine⟨_,rfl,?_⟩;have hlen':cs'.length=8:=by rw[hx'.len,QM]
 have hou1:=hou.tr0 hf1';have hszu:=hfu.size;refine rx ?_;refine Qj (q:=i*8) (m:=8) (cs:=cs') hou1 rfl rfl rfl rfl hlen' (RD.one hx') Yhn (fun u2 hou2 hf2 hs2=>?_);rw[Qk hys rfl hlt]at hou2;have hblk:blks (.slice (some ⟨N,0,none⟩) l.length l.length)=[N]:=rfl;rw[hblk]at hf2;refine rx ?_;refine Jc (i+1,ys++cs') Yhl ?_ Yhw;refine⟨rfl,rfl,rfl,by simp only;omega,by simp only[Sm];omega,hou2,?_,(hfu.Jb hf1').trans hf2 Yhs⟩;simp only;rw[SK hlt];refine Rws.app (hru.imp (fun x cs _ h=>(RD.old h hf1' Yhs).old hf2 (Je Yhs))) (Rws.one ?_);refine((RD.mono hx' (T:=N::rg w) (fun b hb=>.inl (Jk.2 ?_))).old hf2 (Je Yhs));rcases SC.1 hb with rfl|hb
 .omega
 .have:=Jk.1 hb;omega
theorem Jjo(l:List Cm)(sl:Value)(w:World)(S:List Nat)(hl6:l.length<=1000000)(hd:DR w S (.l (l.map cmC)) sl)
 (H:∀x∈l,∀(cs:List Value) (u:World) (S:List Nat),RD u S (cmC x) cs->Calls prog 149 #[.agg cs.toArray] u fun e u'=>∃cs',e=.returned (.agg cs'.toArray)/\RD u' (rg u) (cmC x) cs'/\Fr [] u u'):
 Calls prog 148 #[sl,.func (.func 149) #[] #[]] w fun e w'=>∃sl',e=.returned sl'/\DR w' (rg w) (.l (l.map cmC)) sl'/\Fr [] w w':=by
 have hbd:=hd.bound;have hl:(l.map cmC).length=l.length:=Sr ..;obtain⟨ao,c,rfl,_⟩:=hd.slice;rw[hl]at hd ⊢;refine enter func148 rfl ntmps148 rfl ?_;by_cases h0:l.length=0
 .refine rx ?_;exact Yo
 refine rx ?_;refine Qh (k:=l.length) rfl rfl Yhn Yhv (fun w1 ho1 hf1 hs1=>?_);refine rx ?_;obtain⟨N,hN⟩:∃N,w.heap.size=N:=⟨_,rfl⟩;rw[hN]at ho1 hs1 ⊢;refine Jh 7 [6] (σ:=Nat×List Value) (fun st g u=>g 13=.slice ao l.length c/\g 14=iV l.length/\g 15=iV st.1/\st.1<=l.length/\st.2.length=st.1*23/\
  Own u 176 23 (.slice (some ⟨N,0,none⟩) l.length l.length) l.length (st.2++zeros [.string .empty,zS,zI,.string .empty,zI,zS,zS,zS,zI,zI,.string .empty,zI,zS,zS,zS,zI,zI,.string .empty,zI,zS,zS,zS,zI] (l.length-st.1))/\Rws (fun x cs=>RD u (N::rg w) (cmC x) cs) (l.take st.1) st.2/\Fr [N] w1 u)
  (fun st=>l.length-st.1) (0,[]) ⟨rfl,rfl,rfl,SL _,rfl,ho1,by simpa using Rws.nil,Fr.refl _ _⟩ ?_
 rintro⟨i,ys⟩ g u ⟨h13,h14,h15,hi,hys,hou,hru,hfu⟩;simp only at h15 hi hys hou hru;rw[Ja h13,Ja h14,Ja h15];have hF:Fr [] w u:=hf1.trans hfu Yht;by_cases hlt:i<l.length
 case neg=>
  refine Yeo ?_;have ei:i=l.length:=by omega
  subst ei;rw[DV,show zeros [.string .empty,zS,zI,.string .empty,zI,zS,zS,zS,zI,zI,.string .empty,zI,zS,zS,zS,zI,zI,.string .empty,zI,zS,zS,zS,zI] 0=[] from rfl,Ce]at hou;refine⟨_,rfl,DR.ofTyped WU Yhn ⟨ys,hou.src,fun ad n c e hm=>?_,?_⟩,hF⟩
  .simp only[Value.slice.injEq,Sj]at e;exact Yx
  .rw [Dk]at hru;exact Yz
 obtain⟨ad,cs,had,hr,hcx⟩:=DR.at WU (hd.tr0 hF) hlt;subst had;have hlen:cs.length=23:=by rw[hr.len,WU]
 refine Yew ?_;rintro _ u1 ⟨cs',rfl,hx',hf1'⟩;refine⟨_,rfl,?_⟩;have hlen':cs'.length=23:=by rw[hx'.len,WU]
 have hou1:=hou.tr0 hf1';have hszu:=hfu.size;refine rx ?_;refine Qj (q:=i*23) (m:=23) (cs:=cs') hou1 rfl rfl rfl rfl hlen' (RD.one hx') Yhn (fun u2 hou2 hf2 hs2=>?_);rw[Qk hys rfl hlt]at hou2;have hblk:blks (.slice (some ⟨N,0,none⟩) l.length l.length)=[N]:=rfl;rw[hblk]at hf2;refine rx ?_;refine Jc (i+1,ys++cs') Yhl ?_ Yhw;refine⟨rfl,rfl,rfl,by simp only;omega,by simp only[Sm];omega,hou2,?_,(hfu.Jb hf1').trans hf2 Yhs⟩;simp only;rw[SK hlt];refine Rws.app (hru.imp (fun x cs _ h=>(RD.old h hf1' Yhs).old hf2 (Je Yhs))) (Rws.one ?_);refine((RD.mono hx' (T:=N::rg w) (fun b hb=>.inl (Jk.2 ?_))).old hf2 (Je Yhs));rcases SC.1 hb with rfl|hb
 .omega
 .have:=Jk.1 hb;omega
theorem Jkp(l:List Rf.Op)(sl:Value)(w:World)(S:List Nat)(hd:DR w S (.l (l.map opC)) sl)
 (H:∀x∈l,∀(cs:List Value) (u:World) (S:List Nat),RD u S (opC x) cs->Calls prog 151 #[.agg cs.toArray] u fun e u'=>∃cs',e=.returned (.agg cs'.toArray)/\RD u' (rg u) (opC x) cs'/\Fr [] u u'):
 Calls prog 150 #[sl,.func (.func 151) #[] #[]] w fun e w'=>∃sl',e=.returned sl'/\DR w' (rg w) (.l (l.map opC)) sl'/\Fr [] w w':=by
 have hbd:=hd.bound;have hl:(l.map opC).length=l.length:=Sr ..;obtain⟨ao,c,rfl,_⟩:=hd.slice;rw[hl]at hd ⊢;refine enter func150 rfl ntmps150 rfl ?_;by_cases h0:l.length=0
 .refine rx ?_;exact Yo
 refine rx ?_;refine Qh (k:=l.length) rfl rfl Yhn Yhv (fun w1 ho1 hf1 hs1=>?_);refine rx ?_;obtain⟨N,hN⟩:∃N,w.heap.size=N:=⟨_,rfl⟩;rw[hN]at ho1 hs1 ⊢;refine Jh 7 [6] (σ:=Nat×List Value) (fun st g u=>g 13=.slice ao l.length c/\g 14=iV l.length/\g 15=iV st.1/\st.1<=l.length/\st.2.length=st.1*3/\
  Own u 179 3 (.slice (some ⟨N,0,none⟩) l.length l.length) l.length (st.2++zeros [.string .empty,zS,zS] (l.length-st.1))/\Rws (fun x cs=>RD u (N::rg w) (opC x) cs) (l.take st.1) st.2/\Fr [N] w1 u)
  (fun st=>l.length-st.1) (0,[]) ⟨rfl,rfl,rfl,SL _,rfl,ho1,by simpa using Rws.nil,Fr.refl _ _⟩ ?_
 rintro⟨i,ys⟩ g u ⟨h13,h14,h15,hi,hys,hou,hru,hfu⟩;simp only at h15 hi hys hou hru;rw[Ja h13,Ja h14,Ja h15];have hF:Fr [] w u:=hf1.trans hfu Yht;by_cases hlt:i<l.length
 case neg=>
  refine Yeo ?_;have ei:i=l.length:=by omega
  subst ei;rw[DV,show zeros [.string .empty,zS,zS] 0=[] from rfl,Ce]at hou;refine⟨_,rfl,DR.ofTyped QX Yhn ⟨ys,hou.src,fun ad n c e hm=>?_,?_⟩,hF⟩
  .simp only[Value.slice.injEq,Sj]at e;exact Yx
  .rw [Dk]at hru;exact Yz
 obtain⟨ad,cs,had,hr,hcx⟩:=DR.at QX (hd.tr0 hF) hlt;subst had;have hlen:cs.length=3:=by rw[hr.len,QX]
 refine Yew ?_;rintro _ u1 ⟨cs',rfl,hx',hf1'⟩;refine⟨_,rfl,?_⟩;have hlen':cs'.length=3:=by rw[hx'.len,QX]
 have hou1:=hou.tr0 hf1';have hszu:=hfu.size;refine rx ?_;refine Qj (q:=i*3) (m:=3) (cs:=cs') hou1 rfl rfl rfl rfl hlen' (RD.one hx') Yhn (fun u2 hou2 hf2 hs2=>?_);rw[Qk hys rfl hlt]at hou2;have hblk:blks (.slice (some ⟨N,0,none⟩) l.length l.length)=[N]:=rfl;rw[hblk]at hf2;refine rx ?_;refine Jc (i+1,ys++cs') Yhl ?_ Yhw;refine⟨rfl,rfl,rfl,by simp only;omega,by simp only[Sm];omega,hou2,?_,(hfu.Jb hf1').trans hf2 Yhs⟩;simp only;rw[SK hlt];refine Rws.app (hru.imp (fun x cs _ h=>(RD.old h hf1' Yhs).old hf2 (Je Yhs))) (Rws.one ?_);refine((RD.mono hx' (T:=N::rg w) (fun b hb=>.inl (Jk.2 ?_))).old hf2 (Je Yhs));rcases SC.1 hb with rfl|hb
 .omega
 .have:=Jk.1 hb;omega
theorem Jjq(l:List Ac)(sl:Value)(w:World)(S:List Nat)(hd:DR w S (.l (l.map acC)) sl)
 (H:∀x∈l,∀(cs:List Value) (u:World) (S:List Nat),RD u S (acC x) cs->Calls prog 186 #[.agg cs.toArray] u fun e u'=>∃cs',e=.returned (.agg cs'.toArray)/\RD u' (rg u) (acC x) cs'/\Fr [] u u'):
 Calls prog 185 #[sl,.func (.func 186) #[] #[]] w fun e w'=>∃sl',e=.returned sl'/\DR w' (rg w) (.l (l.map acC)) sl'/\Fr [] w w':=by
 have hbd:=hd.bound;have hl:(l.map acC).length=l.length:=Sr ..;obtain⟨ao,c,rfl,_⟩:=hd.slice;rw[hl]at hd ⊢;refine enter func185 rfl ntmps185 rfl ?_;by_cases h0:l.length=0
 .refine rx ?_;exact Yo
 refine rx ?_;refine Qh (k:=l.length) rfl rfl Yhn Yhv (fun w1 ho1 hf1 hs1=>?_);refine rx ?_;obtain⟨N,hN⟩:∃N,w.heap.size=N:=⟨_,rfl⟩;rw[hN]at ho1 hs1 ⊢;refine Jh 7 [6] (σ:=Nat×List Value) (fun st g u=>g 13=.slice ao l.length c/\g 14=iV l.length/\g 15=iV st.1/\st.1<=l.length/\st.2.length=st.1*14/\
  Own u 181 14 (.slice (some ⟨N,0,none⟩) l.length l.length) l.length (st.2++zeros [zI,.string .empty,zI,zS,zS,zS,zI,zI,.string .empty,zI,zS,zS,zS,zI] (l.length-st.1))/\Rws (fun x cs=>RD u (N::rg w) (acC x) cs) (l.take st.1) st.2/\Fr [N] w1 u)
  (fun st=>l.length-st.1) (0,[]) ⟨rfl,rfl,rfl,SL _,rfl,ho1,by simpa using Rws.nil,Fr.refl _ _⟩ ?_
 rintro⟨i,ys⟩ g u ⟨h13,h14,h15,hi,hys,hou,hru,hfu⟩;simp only at h15 hi hys hou hru;rw[Ja h13,Ja h14,Ja h15];have hF:Fr [] w u:=hf1.trans hfu Yht;by_cases hlt:i<l.length
 case neg=>
  refine Yeo ?_;have ei:i=l.length:=by omega
  subst ei;rw[DV,show zeros [zI,.string .empty,zI,zS,zS,zS,zI,zI,.string .empty,zI,zS,zS,zS,zI] 0=[] from rfl,Ce]at hou;refine⟨_,rfl,DR.ofTyped Wn Yhn ⟨ys,hou.src,fun ad n c e hm=>?_,?_⟩,hF⟩
  .simp only[Value.slice.injEq,Sj]at e;exact Yx
  .rw [Dk]at hru;exact Yz
 obtain⟨ad,cs,had,hr,hcx⟩:=DR.at Wn (hd.tr0 hF) hlt;subst had;have hlen:cs.length=14:=by rw[hr.len,Wn]
 refine Yew ?_;rintro _ u1 ⟨cs',rfl,hx',hf1'⟩;refine⟨_,rfl,?_⟩;have hlen':cs'.length=14:=by rw[hx'.len,Wn]
 have hou1:=hou.tr0 hf1';have hszu:=hfu.size;refine rx ?_;refine Qj (q:=i*14) (m:=14) (cs:=cs') hou1 rfl rfl rfl rfl hlen' (RD.one hx') Yhn (fun u2 hou2 hf2 hs2=>?_);rw[Qk hys rfl hlt]at hou2;have hblk:blks (.slice (some ⟨N,0,none⟩) l.length l.length)=[N]:=rfl;rw[hblk]at hf2;refine rx ?_;refine Jc (i+1,ys++cs') Yhl ?_ Yhw;refine⟨rfl,rfl,rfl,by simp only;omega,by simp only[Sm];omega,hou2,?_,(hfu.Jb hf1').trans hf2 Yhs⟩;simp only;rw[SK hlt];refine Rws.app (hru.imp (fun x cs _ h=>(RD.old h hf1' Yhs).old hf2 (Je Yhs))) (Rws.one ?_);refine((RD.mono hx' (T:=N::rg w) (fun b hb=>.inl (Jk.2 ?_))).old hf2 (Je Yhs));rcases SC.1 hb with rfl|hb
 .omega
 .have:=Jk.1 hb;omega
theorem Jjt{w:World}{a:Addr}{v:Value}{l:List Value}(h:Cells w a (v::l)):w.cell? a=some v:=by
 exact Ydb
theorem JhX(l:List (List ByteArray))(sl:Value)(w:World)(S:List Nat)(hd:DR w S (.l (l.map JD)) sl)
 (H:∀x∈l,∀(cs:List Value) (u:World) (S:List Nat),RD u S (JD x) cs->Calls prog 180 #[cs.headD undef] u fun e u'=>∃v',e=.returned v'/\RD u' (rg u) (JD x) [v']/\Fr [] u u'):
 Calls prog 181 #[sl,.func (.func 180) #[] #[]] w fun e w'=>∃sl',e=.returned sl'/\DR w' (rg w) (.l (l.map JD)) sl'/\Fr [] w w':=by
 have hbd:=hd.bound;have hl:(l.map JD).length=l.length:=Sr ..;obtain⟨ao,c,rfl,_⟩:=hd.slice;rw[hl]at hd ⊢;refine enter func181 rfl ntmps181 rfl ?_;by_cases h0:l.length=0
 .refine rx ?_;exact Yo
 refine rx ?_;refine Qh (k:=l.length) rfl rfl Yhn Yhv (fun w1 ho1 hf1 hs1=>?_);refine rx ?_;obtain⟨N,hN⟩:∃N,w.heap.size=N:=⟨_,rfl⟩;rw[hN]at ho1 hs1 ⊢;refine Jh 7 [6] (σ:=Nat×List Value) (fun st g u=>g 13=.slice ao l.length c/\g 14=iV l.length/\g 15=iV st.1/\st.1<=l.length/\st.2.length=st.1*1/\
  Own u 91 1 (.slice (some ⟨N,0,none⟩) l.length l.length) l.length (st.2++zeros [zS] (l.length-st.1))/\Rws (fun x cs=>RD u (N::rg w) (JD x) cs) (l.take st.1) st.2/\Fr [N] w1 u)
  (fun st=>l.length-st.1) (0,[]) ⟨rfl,rfl,rfl,SL _,rfl,ho1,by simpa using Rws.nil,Fr.refl _ _⟩ ?_
 rintro⟨i,ys⟩ g u ⟨h13,h14,h15,hi,hys,hou,hru,hfu⟩;simp only at h15 hi hys hou hru;rw[Ja h13,Ja h14,Ja h15];have hF:Fr [] w u:=hf1.trans hfu Yht;by_cases hlt:i<l.length
 case neg=>
  refine Yeo ?_;have ei:i=l.length:=by omega
  subst ei;rw[DV,show zeros [zS] 0=[] from rfl,Ce]at hou;refine⟨_,rfl,DR.ofTyped Zz Yhn ⟨ys,hou.src,fun ad n c e hm=>?_,?_⟩,hF⟩
  .simp only[Value.slice.injEq,Sj]at e;exact Yx
  .rw [Dk]at hru;exact Yz
 obtain⟨ad,cs,had,hr,hcx⟩:=DR.at Zz (hd.tr0 hF) hlt;subst had;obtain⟨v,cs1,rfl,hv,hn⟩:=RD.inv hr;obtain rfl:=hn.inv0;have hcell:=Jjt hcx;refine rx ?_;refine KW rfl hcell ?_;refine rx ?_;refine ZF (first:=[]) (cap:=[]) (H l[i] Yhs [v] u S hr) rfl rfl rfl ?_;rintro _ u1 ⟨v',rfl,hx',hf1'⟩;refine⟨_,rfl,?_⟩;have hou1:=hou.tr0 hf1';have hszu:=hfu.size;refine rx ?_;refine JbF (q:=i*1) (u:=v') hou1 rfl rfl rfl rfl (RD.one hx' v' Yhs) Yhn (fun u2 hou2 hf2 hs2=>?_);have hfn:=Qk (cs:=[v']) (z:=[zS]) hys rfl hlt;rw[Dq]at hfn hou2;rw[hfn]at hou2;have hblk:blks (.slice (some ⟨N,0,none⟩) l.length l.length)=[N]:=rfl;rw[hblk]at hf2;refine rx ?_;refine Jc (i+1,ys++[v']) Yhl ?_ Yhw;refine⟨rfl,rfl,rfl,by simp only;omega,by simp only[Sm,SI,SY];omega,hou2,?_,(hfu.Jb hf1').trans hf2 Yhs⟩;simp only;rw[SK hlt];refine Rws.app (hru.imp (fun x cs _ h=>(RD.old h hf1' Yhs).old hf2 (Je Yhs))) (Rws.one ?_);refine((RD.mono hx' (T:=N::rg w) (fun b hb=>.inl (Jk.2 ?_))).old hf2 (Je Yhs));rcases SC.1 hb with rfl|hb
 .omega
 .have:=Jk.1 hb;omega
theorem ZU(t:Ty)(cs:List Value)(w:World)(S:List Nat)(hd:RD w S (tyC t) cs):Calls prog 140 #[.agg cs.toArray] w fun e w'=>∃cs',e=.returned (.agg cs'.toArray)/\RD w' (rg w) (tyC t) cs'/\Fr [] w w':=by
 obtain⟨s,rfl,hk⟩:=tyR.1 hd;refine enter func140 rfl ntmps140 rfl ?_;refine rx ?_;refine Ju (l:=[iV t.kind,.string t.name,s]) rfl rfl (fun w1 b hbe hb hf1 hs1=>?_);refine rx ?_;refine Jm (l:=[zI,zT,zS]) rfl (fun w2 r hre hr hf2 hs2=>?_);have hb:=hb.tr0 hf2;have hF2:Fr [] w w2:=hf1.Jb hf2;refine rx ?_;refine Jl (Jd1 t.kids s w2 S (hk.tr0 hF2) (fun x hx cs u S h=>ZU x cs u S h)) ?_;rintro v w3 ⟨hv,hf3⟩;have hs3:=hf3.size;have hb:=hb.tr0 hf3;have hr:=hr.tr0 hf3;have hF3:Fr [] w w3:=hF2.Jb hf3;have hv:=hv.down (w0:=w2) Yhn;refine rx ?_
 ((with_reducible apply Ji);exact rfl;(conv=>lhs;whnf);exact hv.one;exact hb;exact rfl)
 intro w4 hb hf4 hs4;replace hb:Blk w4 b [iV t.kind,.string t.name,v] 90:=hb;have hr:=hr.tr hf4 Yht;have hF4:Fr [] w w4:=hF3.trans hf4 (fun x hx=>.inr Yhq);have hv:=hv.old hf4 (Jf Yhn);refine rx ?_;have hdr:RD w4 (rg w2) (tyC t) [iV t.kind,.string t.name,v]:=tyR.2 ⟨v,rfl,hv⟩;refine Jd (cs:=[iV t.kind,.string t.name,v]) rfl rfl hr (RD.one hdr) rfl rfl (fun u hr2 hfu hsu=>?_);exact Ybd
termination_by SizeOf.sizeOf t
decreasing_by
 have h1:=F8 hx;have h2:SizeOf.sizeOf t.kids<SizeOf.sizeOf t:=by cases t;simp;omega
 omega
theorem JhT{l:List (List ByteArray)}:∀x∈l,∀(cs:List Value) (u:World) (S:List Nat),RD u S (JD x) cs->Calls prog 180 #[cs.headD undef] u fun e u'=>∃v',e=.returned v'/\RD u' (rg u) (JD x) [v']/\Fr [] u u':=by
 intro x hx cs u S h;obtain⟨v,cs1,rfl,hv,hn⟩:=RD.inv h;obtain rfl:=hn.inv0;exact(Jii x v u S hv).mono (fun e u' ⟨v',h1,h2,h3⟩=>⟨v',h1,.cons h2 .nil,h3⟩)
theorem VW(e:Ex)(cs:List Value)(w:World)(S:List Nat)(hd:RD w S (exC e) cs):Calls prog 141 #[.agg cs.toArray] w fun e1 w'=>∃cs',e1=.returned (.agg cs'.toArray)/\RD w' (rg w) (exC e) cs'/\Fr [] w w':=by
 obtain⟨s1,s2,s3,rfl,hk1,hk2,hk3⟩:=exR.1 hd;refine enter func141 rfl ntmps141 rfl ?_;refine rx ?_;refine Ju (l:=[iV e.kind,.string e.name,iV e.n,s1,s2,s3,iV e.at_]) rfl rfl (fun w1 b hbe hb hf1 hs1=>?_);refine rx ?_;refine Jm (l:=[zI,zT,zI,zS,zS,zS,zI]) rfl (fun w2 r hre hr hf2 hs2=>?_);have hb:=hb.tr0 hf2;have hF2:Fr [] w w2:=hf1.Jb hf2;refine rx ?_;refine Jl (Jii e.names s1 w2 S (DR.tr0 hk1 hF2)) ?_;rintro v1 w3 ⟨hv1,hf3⟩;have hs3:=hf3.size;have hb:=hb.tr0 hf3;have hr:=hr.tr0 hf3;have hF3:Fr [] w w3:=hF2.Jb hf3;have hv1:=hv1.down (w0:=w2) Yhn;refine rx ?_
 ((with_reducible apply Ji);exact rfl;(conv=>lhs;whnf);exact hv1.one;exact hb;exact rfl)
 intro w4 hb hf4 hs4;replace hb:Blk w4 b [iV e.kind,.string e.name,iV e.n,v1,s2,s3,iV e.at_] 95:=hb;have hr:=hr.tr hf4 Yht;have hF4:Fr [] w w4:=hF3.trans hf4 (fun x hx=>.inr Yhq);have hv1:=hv1.old hf4 (Jf Yhn);refine rx ?_;refine Jl (JhX e.binds s2 w4 S (hk2.tr0 hF4) JhT) ?_;rintro v2 w5 ⟨hv2,hf5⟩;have hs5:=hf5.size;have hb:=hb.tr0 hf5;have hr:=hr.tr0 hf5;have hF5:Fr [] w w5:=hF4.Jb hf5;have hv1:=hv1.old hf5 Yhs;have hv2:=hv2.down (w0:=w2) Yhn;refine rx ?_
 ((with_reducible apply Ji);exact rfl;(conv=>lhs;whnf);exact hv2.one;exact hb;exact rfl)
 intro w6 hb hf6 hs6;replace hb:Blk w6 b [iV e.kind,.string e.name,iV e.n,v1,v2,s3,iV e.at_] 95:=hb;have hr:=hr.tr hf6 Yht;have hF6:Fr [] w w6:=hF5.trans hf6 (fun x hx=>.inr Yhq);have hv1:=hv1.old hf6 (Jf Yhn);have hv2:=hv2.old hf6 (Jf Yhn);refine rx ?_;refine Jl (Jd2 e.kids s3 w6 S (hk3.tr0 hF6) (fun x hx cs u S h=>VW x cs u S h)) ?_;rintro v3 w7 ⟨hv3,hf7⟩;have hs7:=hf7.size;have hb:=hb.tr0 hf7;have hr:=hr.tr0 hf7;have hF7:Fr [] w w7:=hF6.Jb hf7;have hv1:=hv1.old hf7 Yhs;have hv2:=hv2.old hf7 Yhs;have hv3:=hv3.down (w0:=w2) Yhn;refine rx ?_
 ((with_reducible apply Ji);exact rfl;(conv=>lhs;whnf);exact hv3.one;exact hb;exact rfl)
 intro w8 hb hf8 hs8;replace hb:Blk w8 b [iV e.kind,.string e.name,iV e.n,v1,v2,v3,iV e.at_] 95:=hb;have hr:=hr.tr hf8 Yht;have hF8:Fr [] w w8:=hF7.trans hf8 (fun x hx=>.inr Yhq);have hv1:=hv1.old hf8 (Jf Yhn);have hv2:=hv2.old hf8 (Jf Yhn);have hv3:=hv3.old hf8 (Jf Yhn);refine rx ?_;have hdr:RD w8 (rg w2) (exC e) [iV e.kind,.string e.name,iV e.n,v1,v2,v3,iV e.at_]:=exR.2 ⟨v1,v2,v3,rfl,hv1,hv2,hv3⟩;refine Jd (cs:=[iV e.kind,.string e.name,iV e.n,v1,v2,v3,iV e.at_]) rfl rfl hr (RD.one hdr) rfl rfl (fun u hr2 hfu hsu=>?_);exact Yci
termination_by SizeOf.sizeOf e
decreasing_by
 have h1:=F8 hx;have h2:SizeOf.sizeOf e.kids<SizeOf.sizeOf e:=by cases e;simp;omega
 omega
theorem Jdi(g:Gn)(cs:List Value)(w:World)(S:List Nat)(hd:RD w S (gnC g) cs):Calls prog 142 #[.agg cs.toArray] w fun e w'=>∃cs',e=.returned (.agg cs'.toArray)/\RD w' (rg w) (gnC g) cs'/\Fr [] w w':=by
 obtain⟨s1,s2,s3,rfl,hk1,hk2,hk3⟩:=gnR.1 hd;refine enter func142 rfl ntmps142 rfl ?_;refine rx ?_;refine Ju (l:=[iV g.kind,.string g.name,s1,s2,s3,iV g.at_]) rfl rfl (fun w1 b hbe hb hf1 hs1=>?_);refine rx ?_;refine Jm (l:=[zI,zT,zS,zS,zS,zI]) rfl (fun w2 r hre hr hf2 hs2=>?_);have hb:=hb.tr0 hf2;have hF2:Fr [] w w2:=hf1.Jb hf2;refine rx ?_;refine Jl (Jkg g.ws s1 w2 S (hk1.tr0 hF2)) ?_;rintro v1 w3 ⟨hv1,hf3⟩;have hs3:=hf3.size;have hb:=hb.tr0 hf3;have hr:=hr.tr0 hf3;have hF3:Fr [] w w3:=hF2.Jb hf3;have hv1:=hv1.down (w0:=w2) Yhn;refine rx ?_
 ((with_reducible apply Ji);exact rfl;(conv=>lhs;whnf);exact hv1.one;exact hb;exact rfl)
 intro w4 hb hf4 hs4;replace hb:Blk w4 b [iV g.kind,.string g.name,v1,s2,s3,iV g.at_] 98:=hb;have hr:=hr.tr hf4 Yht;have hF4:Fr [] w w4:=hF3.trans hf4 (fun x hx=>.inr Yhq);have hv1:=hv1.old hf4 (Jf Yhn);refine rx ?_;refine Jl (Jd2 g.args s2 w4 S (hk2.tr0 hF4) (fun x hx cs u S h=>VW x cs u S h)) ?_;rintro v2 w5 ⟨hv2,hf5⟩;have hs5:=hf5.size;have hb:=hb.tr0 hf5;have hr:=hr.tr0 hf5;have hF5:Fr [] w w5:=hF4.Jb hf5;have hv1:=hv1.old hf5 Yhs;have hv2:=hv2.down (w0:=w2) Yhn;refine rx ?_
 ((with_reducible apply Ji);exact rfl;(conv=>lhs;whnf);exact hv2.one;exact hb;exact rfl)
 intro w6 hb hf6 hs6;replace hb:Blk w6 b [iV g.kind,.string g.name,v1,v2,s3,iV g.at_] 98:=hb;have hr:=hr.tr hf6 Yht;have hF6:Fr [] w w6:=hF5.trans hf6 (fun x hx=>.inr Yhq);have hv1:=hv1.old hf6 (Jf Yhn);have hv2:=hv2.old hf6 (Jf Yhn);refine rx ?_;refine Jl (Jjn g.kids s3 w6 S (hk3.tr0 hF6) (fun x hx cs u S h=>Jdi x cs u S h)) ?_;rintro v3 w7 ⟨hv3,hf7⟩;have hs7:=hf7.size;have hb:=hb.tr0 hf7;have hr:=hr.tr0 hf7;have hF7:Fr [] w w7:=hF6.Jb hf7;have hv1:=hv1.old hf7 Yhs;have hv2:=hv2.old hf7 Yhs;have hv3:=hv3.down (w0:=w2) Yhn;refine rx ?_
 ((with_reducible apply Ji);exact rfl;(conv=>lhs;whnf);exact hv3.one;exact hb;exact rfl)
 intro w8 hb hf8 hs8;replace hb:Blk w8 b [iV g.kind,.string g.name,v1,v2,v3,iV g.at_] 98:=hb;have hr:=hr.tr hf8 Yht;have hF8:Fr [] w w8:=hF7.trans hf8 (fun x hx=>.inr Yhq);have hv1:=hv1.old hf8 (Jf Yhn);have hv2:=hv2.old hf8 (Jf Yhn);have hv3:=hv3.old hf8 (Jf Yhn);refine rx ?_;have hdr:RD w8 (rg w2) (gnC g) [iV g.kind,.string g.name,v1,v2,v3,iV g.at_]:=gnR.2 ⟨v1,v2,v3,rfl,hv1,hv2,hv3⟩;refine Jd (cs:=[iV g.kind,.string g.name,v1,v2,v3,iV g.at_]) rfl rfl hr (RD.one hdr) rfl rfl (fun u hr2 hfu hsu=>?_);exact Yci
termination_by SizeOf.sizeOf g
decreasing_by
 have h1:=F8 hx;have h2:SizeOf.sizeOf g.kids<SizeOf.sizeOf g:=by cases g;simp;omega
 omega
theorem NY:∀f,PC 123 [] (fun _=>Lh f) tyC
 |0,bd,p,n,r,w,x,r',hP,hg=>by simp[Lh]at hg
 |f+1,bd,p,n,r,w,x,r',hP,hg=>by
  refine enter func123 rfl ntmps123 rfl ?_;refine rx ?_;refine Jm (l:=[zI,zT,zS]) rfl (fun w0 q hqq hbq hf0 hs0=>?_);have hP0:=hP.tr0 hf0;have hF0:Fr [p] w w0:=hf0.mono Yhs;have hbd:bd<=w.heap.size:=hP.le;have hpw:p<w.heap.size:=SV hP.lt hbd;simp only[Lh]at hg;refine rx ?_;refine Jg (J8 [105,110,116] p n _ _ hP0) ?_;rintro w1 ⟨hP1,hf1⟩;have hF1:=hF0.trans hf1 Yhm;have hs1:=hf1.size;have hbq:=hbq.tr hf1 Yho;cases h1:isT [105,110,116] r with
  |true=>
   simp only[h1,Jz,CX,Sj,Sz]at hg hP1;obtain⟨rfl,rfl⟩:=hg;refine rx ?_;refine JF [zI,zT,zS] rfl ?_;refine rx ?_;refine Jd (cs:=[zI,zT,zS]) rfl rfl hbq Yhu rfl rfl (fun u hu hfu hsu=>?_);refine rx ?_;exact Qc rfl rfl hu rfl (QJ (w0:=w0) hqq Yhn Yhn Yhn hP1 hF1 hfu (tyR.2 ⟨_,rfl,.nil⟩))
  |false=>
  simp only[h1,Jz,SS,CW]at hg hP1;refine rx ?_;refine Jg (J8 [98,111,111,108] p n _ _ hP1) ?_;rintro w2 ⟨hP2,hf2⟩;have hF2:=hF1.trans hf2 Yhm;have hs2:=hf2.size;have hbq:=hbq.tr hf2 Yho;cases h2:isT [98,111,111,108] r with
  |true=>
   simp only[h2,Jz,CX,Sj,Sz]at hg hP2;obtain⟨rfl,rfl⟩:=hg;refine rx ?_;refine JF [iV 1,zT,zS] rfl ?_;refine rx ?_;refine Jd (cs:=[iV 1,zT,zS]) rfl rfl hbq Yhu rfl rfl (fun u hu hfu hsu=>?_);refine rx ?_;exact Qc rfl rfl hu rfl (QJ (w0:=w0) hqq Yhn Yhn Yhn hP2 hF2 hfu (tyR.2 ⟨_,rfl,.nil⟩))
  |false=>
  simp only[h2,Jz,SS,CW]at hg hP2;refine rx ?_;refine Jg (J8 [91] p n _ _ hP2) ?_;rintro w3 ⟨hP3,hf3⟩;have hF3:=hF2.trans hf3 Yhm;have hs3:=hf3.size;have hbq:=hbq.tr hf3 Yho;cases h3:isT [91] r with
  |true=>
   simp only[h3,Jz,CX]at hg hP3;obtain⟨⟨t,r1⟩,h4,hg⟩:=bind_some hg;obtain⟨r2,h5,hg⟩:=bind_some hg;simp only[Sj,Sz]at hg;obtain⟨rfl,rfl⟩:=hg;refine rx ?_;refine Jl ((NY f) bd p n _ _ _ _ hP3 h4) ?_;rintro cs w4 ⟨hd,hP4,hf4⟩;have hF4:=hF3.trans hf4 Yhm;have hs4:=hf4.size;have hl:cs.length=3:=by rw[hd.len,QT]
   have hbq:=hbq.tr hf4 Yho;refine KR (l:=[zI,zT,zS]) (cs:=cs) rfl rfl hl hd.one rfl (fun v=>rfl) (fun w5 a hqa hba hf5 hs5=>?_);have hP5:=hP4.tr0 hf5;have hF5:=hF4.Jb hf5;have hbq:=hbq.tr hf5 Yho;have hd:=RD.keep hd hf5 Yho;refine rx ?_;refine Jg (JL hP5 h5) ?_;rintro w6 ⟨hP6,hf6⟩;have hF6:=hF5.trans hf6 Yhm;have hs6:=hf6.size;have hbq:=hbq.tr hf6 Yho;have hba:=hba.tr hf6 Yho;have hd:=RD.keep hd hf6 Yho;refine rx ?_;refine KE rfl hba hl ?_;refine JQ rfl hl rfl (fun w7 k hk ho hf7 hs7=>?_);have hP7:=hP6.tr0 hf7;have hF7:=hF6.Jb hf7;have hbq:=hbq.tr hf7 Yho;have hd:=RD.keep hd hf7 Yho;refine rx ?_;refine JF [iV 2,zT,.slice (some ⟨k,0,none⟩) 1 1] rfl ?_;have hd7:RD w7 (rg w0) (tyC ⟨2,bst [],[t]⟩) [iV 2,zT,.slice (some ⟨k,0,none⟩) 1 1]:=tyR.2 ⟨_,rfl,Jgr ho (hd.down Yhn) Yjo⟩;refine rx ?_;refine Jd (cs:=[iV 2,zT,.slice (some ⟨k,0,none⟩) 1 1]) rfl rfl hbq Yhu rfl rfl (fun u hu hfu hsu=>?_);refine rx ?_;exact Qc rfl rfl hu rfl (QJ (w0:=w0) hqq Yhn Yhn Yhn hP7 hF7 hfu hd7)
  |false=>
  simp only[h3,Jz,SS,CW]at hg hP3;obtain⟨⟨t,r1⟩,h4,hg⟩:=bind_some hg;simp only[Sj,Sz]at hg;obtain⟨rfl,rfl⟩:=hg;refine rx ?_;refine Jg (VF hP3 h4) ?_;rintro w4 ⟨hP4,hf4⟩;have hF4:=hF3.trans hf4 Yhm;have hs4:=hf4.size;have hbq:=hbq.tr hf4 Yho;refine Yex ?_;refine JF [iV 3,.string (bst t.text),zS] rfl ?_;refine rx ?_;refine Jd (cs:=[iV 3,.string (bst t.text),zS]) rfl rfl hbq Yhu rfl rfl (fun u hu hfu hsu=>?_);refine rx ?_;exact Qc rfl rfl hu rfl (QJ (w0:=w0) hqq Yhn Yhn Yhn hP4 hF4 hfu (tyR.2 ⟨_,rfl,.nil⟩))
theorem Jhd(f:Nat)(hf:f<=1000000):PL 209 [] (fun _=>N7 f) (fun l=>l.map fun t=>JV (bst t)):=by
 intro bd p n r w x r' hP0 hg;have hbd:bd<=w.heap.size:=hP0.le;have hpw:p<w.heap.size:=SV hP0.lt hbd;have hF0:Fr [p] w w:=Fr.refl _ _;refine enter func209 rfl ntmps209 rfl ?_;refine rx ?_;simp only[N7]at hg;refine Jg (J8 [40] p n _ _ hP0) ?_;rintro w1 ⟨hP1,hf1⟩;have hF1:=hF0.trans hf1 Yhm;have hs1:=hf1.size;cases h1:isT [40] r with
 |false=>
  simp only[h1,Jz,SS,CW,Sj,Sz]at hg hP1;obtain⟨rfl,rfl⟩:=hg;refine Yeo ?_;exact⟨_,rfl,.nil,hP1,hF1⟩
 |true=>
 simp only[h1,Jz,CX]at hg hP1;obtain⟨⟨l,r1⟩,h2,hg⟩:=bind_some hg;obtain⟨r2,h3,hg⟩:=bind_some hg;simp only[Sj,Sz]at hg;obtain⟨rfl,rfl⟩:=hg;refine rx ?_;refine Jh 5 [3,4] (σ:=Nat×List Bs×List Tk×Bool) (fun s g u=>∃v,g 3=v/\g 4=.bool s.2.2.2/\LI bd p n w (rg w) 9 1 (fun t=>JV (bst t)) Gs l r1 s.1 s.2.1 s.2.2.1 s.2.2.2 u v) (fun s=>2*s.1+s.2.2.2.toNat) (f,[],r.tail,true) ⟨_,rfl,rfl,hP1,hF1,.nil,by simpa using hf,fun _=>⟨l,h2,rfl⟩,fun h=>by cases h⟩ ?_;rintro⟨f,acc,r,b⟩ g u ⟨v,h4,h5,hP2,hF2,hL,hlen,ht,hfl⟩;simp only at hP2 hF2 hL hlen ht hfl;rw[Ja h4,Ja h5];have hs2:=hF2.size;obtain⟨S0,T0,ao0,c0,i0,hb0,_⟩:=id hP2;cases b with
 |false=>
  obtain⟨rfl,rfl⟩:=hfl rfl;refine rx ?_;refine Jg (JL hP2 h3) ?_;rintro w3 ⟨hP3,hf3⟩;have hF3:=hF2.trans hf3 Yhm;have hs3:=hf3.size;have hL:=LS.keep hL hf3 Yih;refine Yeo ?_;have hd:=LS.dr hL (k:=1) (fun _=>rfl) Yhn;exact⟨_,rfl,hd,hP3,hF3⟩
 |true=>
 obtain⟨l',hgo,hacc⟩:=ht rfl;cases f with
 |zero=>simp[Gs]at hgo
 |succ f=>
 simp only[Gs]at hgo;obtain⟨⟨t,r3⟩,h6,hgo⟩:=bind_some hgo;refine rx ?_;refine Jg (VF hP2 h6) ?_;rintro w3 ⟨hP3,hf3⟩;have hF3:=hF2.trans hf3 Yhm;have hs3:=hf3.size;have hL:=LS.keep hL hf3 Yih;refine XF (l:=tkC t) rfl rfl ?_;refine WL hL (fun _=>rfl) rfl rfl rfl (S0:=blks v++rg w) (a:=t.text) (.cons (.c rfl) .nil) (fun b hb=>.inl Yks) rfl rfl rfl Yhv Yhn Yjy (fun v' w4 hL' hf4 hk4=>?_);have hge4:=LS.ge hL (w0:=w) Yin;have hP4:=hP3.tr hf4 (fun k hk=>CG hbd (hge4 k hk));have hF4:=hF3.trans hf4 (fun k hk=>.inr (hge4 k hk));have hs4:=hf4.size;refine rx ?_;refine Jg (J8 [44] p n _ _ hP4) ?_;rintro w5 ⟨hP5,hf5⟩;have hF5:=hF4.trans hf5 Yhm;have hs5:=hf5.size;have hL':=LS.keep hL' hf5 Yih;refine rx ?_;obtain⟨e1,e2⟩:=Xg (go:=Gs) hgo hacc;exact Jc (f,acc++[t.text],Jz (isT [44] r3) r3,isT [44] r3) Yhr ⟨_,rfl,rfl,hP5,hF5,hL',by simp only[Sm,SI,SY];omega,e1,e2⟩ (by cases isT [44] r3<;>simp<;>omega)
theorem Jhg(f:Nat)(hf:f+1<=1000000)(ih:∀f'<f,PC 125 [] (fun n=>J5 n f') exC)(e:Bs):PL 208 [.string (bst e)] (fun n=>Q8 n (f+1) e) (fun l=>l.map exC):=by
 intro bd p n r w x r' hP0 hg;have hbd:bd<=w.heap.size:=hP0.le;have hpw:p<w.heap.size:=SV hP0.lt hbd;have hF0:Fr [p] w w:=Fr.refl _ _;refine enter func208 rfl ntmps208 rfl ?_;refine rx ?_;simp only[Q8]at hg;refine Jg (J8 e p n _ _ hP0) ?_;rintro w1 ⟨hP1,hf1⟩;have hF1:=hF0.trans hf1 Yhm;have hs1:=hf1.size;cases h1:isT e r with
 |true=>
  simp only[h1,Jz,CX,Sj,Sz]at hg hP1;obtain⟨rfl,rfl⟩:=hg;refine Yeo ?_;exact⟨_,rfl,.nil,hP1,hF1⟩
 |false=>
 simp only[h1,Jz,SS,CW]at hg hP1;obtain⟨⟨l,r1⟩,h2,hg⟩:=bind_some hg;obtain⟨r2,h3,hg⟩:=bind_some hg;simp only[Sj,Sz]at hg;obtain⟨rfl,rfl⟩:=hg;refine rx ?_;refine Jh 7 [5,6] (σ:=Nat×List Ex×List Tk×Bool) (fun s g u=>∃v,g 5=v/\g 6=.bool s.2.2.2/\s.1<=f/\LI bd p n w (rg w) 95 7 exC (Zm n) l r1 s.1 s.2.1 s.2.2.1 s.2.2.2 u v) (fun s=>2*s.1+s.2.2.2.toNat) (f,[],r,true) ⟨_,rfl,rfl,SX _,hP1,hF1,.nil,by simp only[SY];omega,fun _=>⟨l,h2,rfl⟩,fun h=>by cases h⟩ ?_;rintro⟨f',acc,r,b⟩ g u ⟨v,h4,h5,hff,hP2,hF2,hL,hlen,ht,hfl⟩;simp only at hff hP2 hF2 hL hlen ht hfl;rw[Ja h4,Ja h5];have hs2:=hF2.size;obtain⟨S0,T0,ao0,c0,i0,hb0,_⟩:=id hP2;cases b with
 |false=>
  obtain⟨rfl,rfl⟩:=hfl rfl;refine rx ?_;refine Jg (JL hP2 h3) ?_;rintro w3 ⟨hP3,hf3⟩;have hF3:=hF2.trans hf3 Yhm;have hs3:=hf3.size;have hL:=LS.keep hL hf3 Yih;refine Yeo ?_;have hd:=LS.dr hL (k:=7) Jq Yhn;exact⟨_,rfl,hd,hP3,hF3⟩
 |true=>
 obtain⟨l',hgo,hacc⟩:=ht rfl;cases f' with
 |zero=>simp[Zm]at hgo
 |succ f'=>
 simp only[Zm]at hgo;obtain⟨⟨t,r3⟩,h6,hgo⟩:=bind_some hgo;have hlt:=hL.lt;refine rx ?_;refine Jl ((ih f' Yhn) bd p n _ _ _ _ hP2 h6) ?_;rintro cs w3 ⟨hd,hP3,hf3⟩;have hF3:=hF2.trans hf3 Yhm;have hs3:=hf3.size;have hL:=LS.keep hL hf3 Yih;refine WL hL Jq rfl rfl rfl hd (fun b hb=>.inl (Jk.2 (hb.elim (fun h=>hlt b h) (fun h=>by have:=Jk.1 h;omega)))) rfl rfl rfl Yhv Yhn Yjy (fun v' w4 hL' hf4 hk4=>?_);have hge4:=LS.ge hL (w0:=w) Yin;have hP4:=hP3.tr hf4 (fun k hk=>CG hbd (hge4 k hk));have hF4:=hF3.trans hf4 (fun k hk=>.inr (hge4 k hk));have hs4:=hf4.size;refine rx ?_;refine Jg (J8 [44] p n _ _ hP4) ?_;rintro w5 ⟨hP5,hf5⟩;have hF5:=hF4.trans hf5 Yhm;have hs5:=hf5.size;have hL':=LS.keep hL' hf5 Yih;refine rx ?_;obtain⟨e1,e2⟩:=Xg (go:=Zm n) hgo hacc;exact Jc (f',acc++[t],Jz (isT [44] r3) r3,isT [44] r3) Yhr ⟨_,rfl,rfl,by simp only;omega,hP5,hF5,hL',by simp only[Sm,SI,SY];omega,e1,e2⟩ (by cases isT [44] r3<;>simp<;>omega)
theorem JbW(f:Nat)(ih:PC 125 [] (fun n=>J5 n f) exC):PL 207 [] (fun n=>ZN n f) (fun l=>l.map exC):=by
 intro bd p n r w x r' hP0 hg;have hbd:bd<=w.heap.size:=hP0.le;have hpw:p<w.heap.size:=SV hP0.lt hbd;have hF0:Fr [p] w w:=Fr.refl _ _;refine enter func207 rfl ntmps207 rfl ?_;refine rx ?_;simp only[ZN]at hg;obtain⟨⟨t1,r1⟩,h1,hg⟩:=bind_some hg;obtain⟨r2,h2,hg⟩:=bind_some hg;obtain⟨⟨t2,r3⟩,h3,hg⟩:=bind_some hg;simp only[Sj,Sz]at hg;obtain⟨rfl,rfl⟩:=hg;refine Jl (ih bd p n _ _ _ _ hP0 h1) ?_;rintro cs w1 ⟨hd,hP1,hf1⟩;have hF1:=hF0.trans hf1 Yhm;have hs1:=hf1.size;have hl:cs.length=7:=by rw[hd.len,Jq]
 refine KR (l:=[zI,zT,zI,zS,zS,zS,zI]) (cs:=cs) rfl rfl hl hd.one rfl (fun v=>rfl) (fun w2 a hqa hba hf2 hs2=>?_);have hP2:=hP1.tr0 hf2;have hF2:=hF1.Jb hf2;have hd:=RD.keep hd hf2 Yho;refine rx ?_;refine Jg (JL hP2 h2) ?_;rintro w3 ⟨hP3,hf3⟩;have hF3:=hF2.trans hf3 Yhm;have hs3:=hf3.size;have hba:=hba.tr hf3 Yho;have hd:=RD.keep hd hf3 Yho;refine rx ?_
 ((refine JE (fun z=>Fr [p] w3 z) Yhp rfl ?_);obtain⟨w4,hw4⟩:=exq w3.drew;rw[<-hw4];have hf4:Fr [] w3 w4:=hw4▸Fr.drew _ _;have hS4:Fr [p] w3 w4:=hf4.mono Yhs;have hP4:=hP3.tr0 hf4;have hF4:=hF3.Jb hf4;have hs4:=hf4.size)
 refine Kw 0 hS4 ?_ (hrun:=by(intro u hu;exact(Kv rfl (Cells.VO (hba.tr hu Yho)) hl)));refine d_z 1 hS4 ?_;have hd:=RD.keep hd hf4 Yho;refine JJ (i:=2) rfl Yhp ?_;refine Jl (ih bd p n _ _ _ _ hP4 h3) ?_;rintro cs2 w5 ⟨hd2,hP5,hf5⟩;have hF5:=hF4.trans hf5 Yhm;have hs5:=hf5.size;have hl2:cs2.length=7:=by rw[hd2.len,Jq]
 have hd:=RD.keep hd hf5 Yho;have hS5:=hS4.trans hf5 Yhs;refine wpList_nil (Jv hS5 ?_);refine JJ (i:=3) rfl Yhp ?_;refine Xj rfl rfl hl hl2 rfl (fun w6 k hk ho hf6 hs6=>?_);have hP6:=hP5.tr0 hf6;have hF6:=hF5.Jb hf6;have hd:=RD.keep hd hf6 Yho;have hd2:=RD.keep hd2 hf6 Yho;have hS6:=hS5.trans hf6 Yhs;refine wpList_nil (Jv hS6 ?_);refine JJ (i:=4) rfl Yhp ?_;refine rx ?_;refine Jv hS6 ?_;refine Yfx ?_;refine Yeo ?_;exact⟨_,rfl,GR (rows:=[exC t1,exC t2]) ho (.cons (hd.down Yhn) (.one (hd2.down Yhn))) (by simp[Jq]) Yhs Yig,hP6,hF6⟩
theorem N9(k:Nat)(h1:1<=k)(h6:k<=6)(w:World):Calls prog 229 #[iV k] w fun e w'=>∃v,e=.returned v/\Own w' 9 1 v (VN k).length ((VN k).map fun t=>.string (bst t))/\Fr [] w w':=by
 have hk:k=1\/k=2\/k=3\/k=4\/k=5\/k=6:=by omega
 rcases hk with rfl|rfl|rfl|rfl|rfl|rfl<;>refine enter func229 rfl ntmps229 rfl ?_<;>refine rx ?_
 .refine J3 ((VN 1).map fun t=>.string (bst t)) rfl rfl rfl rfl (fun u ho hf hs=>?_);exact Ybe
 .refine J3 ((VN 2).map fun t=>.string (bst t)) rfl rfl rfl rfl (fun u ho hf hs=>?_);exact Ybe
 . (apply Jc1;exact rfl;(conv=>lhs;whnf))
   exact⟨_,rfl,Own.nil _ _ _,Fr.refl _ _⟩
 .refine J3 ((VN 4).map fun t=>.string (bst t)) rfl rfl rfl rfl (fun u ho hf hs=>?_);exact Ybe
 .refine J3 ((VN 5).map fun t=>.string (bst t)) rfl rfl rfl rfl (fun u ho hf hs=>?_);exact Ybe
 .refine J3 ((VN 6).map fun t=>.string (bst t)) rfl rfl rfl rfl (fun u ho hf hs=>?_);exact Ybe
theorem JfN(k:Nat)(h1:1<=k)(h6:k<=6)(bd p:Nat)(n:Int)(r:List Tk)(w:World)(hP:PS bd w p n r):
 Calls prog 211 #[.pointer (some ⟨p,0,none⟩),iV k] w fun e w'=>e=.returned (.string (bst ((JW k r).getD [])))/\Fr [] w w':=by
 refine enter func211 rfl ntmps211 rfl ?_;refine rx ?_;refine Jl (N9 k h1 h6 w) ?_;rintro v w1 ⟨ho,hf1⟩;obtain⟨ao,c,rfl⟩:=ho.slice;have hlen:(VN k).length<=4:=by
  have hk:k=1\/k=2\/k=3\/k=4\/k=5\/k=6:=by omega
  rcases hk with rfl|rfl|rfl|rfl|rfl|rfl<;>decide
 refine rx ?_;refine Jh 7 [6] (σ:=Nat) (fun i g u=>g 6=iV i/\i<=(VN k).length/\((VN k).drop i).find? (fun o=>isT o r)=JW k r/\Fr [] w1 u) (fun i=>(VN k).length-i) 0 ⟨rfl,by omega,by simp[JW],Fr.refl _ _⟩ ?_;rintro i g u ⟨h5,hi,he,hfu⟩;rw[Ja h5];by_cases hlt:i<(VN k).length
 case neg=>
  refine Yeo ?_;rw[<-he,Ci Yhn];exact⟨rfl,hf1.Jb hfu⟩
 obtain⟨ad,had,hcell⟩:=KO (j:=i) (u:=.string (bst (VN k)[i])) (ho.src.tr0 hfu) (by simp[hlt]);subst had;rw[Dh hlt,Ho]at he;refine rx ?_;rw[Dq];refine KW rfl hcell ?_;refine Jg (isC (VN k)[i] p n r u ((hP.tr0 hf1).tr0 hfu)) ?_;rintro u2 hf2;have hcell2:=(KO (j:=i) (u:=.string (bst (VN k)[i])) ((ho.src.tr0 hfu).tr0 hf2) (by simp[hlt]));obtain⟨ad2,had2,hcell2⟩:=hcell2;simp only[Sj]at had2;subst had2;cases hq:isT (VN k)[i] r with
 |true=>
  rw[hq]at he;refine rx ?_;rw[Dq];refine KW rfl hcell2 ?_;refine Yeo ?_;rw[<-he];exact⟨rfl,hf1.Jb (hfu.Jb hf2)⟩
 |false=>
  rw[hq]at he;refine rx ?_;exact Jc (i+1) Yhr ⟨rfl,by omega,he,hfu.Jb hf2⟩ Yhn
end Go.Proofs.YtggmccicdhnkgaaGreat
