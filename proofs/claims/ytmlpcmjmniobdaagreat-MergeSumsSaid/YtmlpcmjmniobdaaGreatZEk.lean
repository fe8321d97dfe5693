/-
 lives():the states between its parts.
-/
import Derived.Test.YtmlpcmjmniobdaaGreatZEn
import Derived.Test.YtmlpcmjmniobdaaGreatZLv
set_option linter.all false
namespace Go.Proofs.YtmlpcmjmniobdaaGreat
section
open Go.Proofs.Tryz
open Go Go.Ev Go.Rf Go.RowKit
set_option maxRecDepth 100000
attribute [local irreducible] Code.wp wpList Exit.then Exit.inBlock bodyPost A Calls execOp Addr.add
theorem apartC(args:Array Value)(w:World):(callFunc 200 args).run prog w=((Extern.SlicesOverlaps.overlaps #[138,138] #[4] args).run prog w).andThen fun v w=>.ok (.value v) w:=
 run_callFunc_extern (P:=prog) (f:=200) func200 Yhp Yhp Yhp Yhp args w
theorem ins_list{zs ys:List Value}{a m l:Nat}(h:a<=l)(hl:l<=zs.length)(hy:ys.length=m)(hr:l+m<=zs.length){z1:List Value}(h1:z1=zs.take (a+m)++(zs.drop a).take (l-a)++zs.drop (a+m+(l-a))):
 z1.take a++ys++z1.drop (a+m)=(zs.take a++ys++(zs.take l).drop a)++zs.drop (l+m):=by
 subst h1;have e1:(zs.take (a+m)).length=a+m:=by rw[List.length_take];omega
 have e2:((zs.drop a).take (l-a)).length=l-a:=by rw[List.length_take,List.length_drop];omega
 have e3:(zs.take l).drop a=(zs.drop a).take (l-a):=by rw[List.drop_take]
 have t1:(zs.take (a+m)++(zs.drop a).take (l-a)++zs.drop (a+m+(l-a))).take a=zs.take a:=by
  rw[List.append_assoc,List.take_append_of_le_length Yhn,List.take_take,Nat.min_eq_left Yhn]
 have t2:(zs.take (a+m)++(zs.drop a).take (l-a)++zs.drop (a+m+(l-a))).drop (a+m)=(zs.drop a).take (l-a)++zs.drop (a+m+(l-a)):=by
  rw[List.append_assoc,List.drop_append_of_le_length Yhn,List.drop_of_length_le Yhn,List.nil_append]
 rw[t1,t2,e3,show a+m+(l-a)=l+m by omega];simp[List.append_assoc]
theorem put_at{x r v:List Value}{A k:Nat}(hx:x.length=A):(x++r).take A++v++(x++r).drop (A+k)=x++v++r.drop k:=by
 subst hx;rw[List.take_left,<-List.drop_drop,List.drop_left]
theorem insertC(b c l a m j o q tj:Nat)(zs us:List Value)(w:World)(hb:w.heap[b]?=some (.cells zs.toArray 90 (0,0)))(hz:zs.length=c*6)(hlc:l<=c)(hc:c<=maxLen)(hj:w.heap[j]?=some (.cells us.toArray tj (0,0)))(hu:o+m*6<=us.length)(hjb:j≠b)(ha:a<l)(hm:0<m)(hl5:l<=100000)(hm5:m<=100000)
 (h1:∀u∈(us.drop o).take (m*6),u.oneCell'=true) (h2:∀u∈zs.take (l*6),u.oneCell'=true):
 Calls prog 107 #[.slice (some ⟨b,0,none⟩) l c,iV a,.slice (some ⟨j,o,none⟩) m q] w fun e w'=>
  ∃b' c' r,e=.returned (.slice (some ⟨b',0,none⟩) (l+m) c')/\(b'=b\/w.heap.size<=b')/\w'.heap[b']?=some (.cells ((zs.take (a*6)++(us.drop o).take (m*6)++(zs.take (l*6)).drop (a*6))++r).toArray 90 (0,0))/\(l+m)*6+r.length=c'*6/\l+m<=c'/\c'<=maxLen/\Fr [b] w w':=by
 have hjw:j<w.heap.size:=(Array.getElem?_eq_some_iff.1 hj).1;have hbw:b<w.heap.size:=(Array.getElem?_eq_some_iff.1 hb).1;have hML:maxLen=9223372036854775807:=rfl;have hyl:((us.drop o).take (m*6)).length=m*6:=by rw[List.length_take,List.length_drop];omega
 refine enter func107 rfl ntmps107 rfl ?_;refine rn ?_;refine s_sliceLo rfl rfl Yhn hlc Yhn rfl ?_;refine rn ?_;refine s_cap rfl ?_;refine s_gtr rfl rfl (fun hgr=>?_) (fun hle=>?_)
 . --a new row
   refine rn ?_;refine s_sliceHi rfl rfl Yhn hlc ?_;refine rn ?_;refine s_appZ (k:=l+m-a) rfl (by show Value.int _ _=_;congr 1;omega) hb Yhn Yhn Yhn Yhn (fun w1 c2 rs hf1 hs1 hb1 hrl hc1 hc2=>?_);have hc1':l+m<=c2:=by omega
   rw[show a+(l+m-a)=l+m by omega];refine rn ?_;refine s_sliceLo rfl rfl Yhn Yhn Yhn rfl ?_;refine rn ?_;have hj1:w1.heap[j]?=some (.cells us.toArray tj (0,0)):=(hf1.block _ hjw Yhs).trans hj;have hta:(zs.take (a*6)).length=a*6:=by rw[List.length_take];omega
   refine s_copyB (o:=0+a*6) (k:=m) rfl rfl hb1 hj1 (Nat.min_eq_left Yhn) hu (by rw[List.length_append,hta];omega) (fun u hu=>h1 u (List.mem_of_mem_take hu)) (fun w2 hf2 hb2=>?_);have hb2':w2.heap[w.heap.size]?=some (.cells ((zs.take (a*6)++(us.drop o).take (m*6))++rs.drop (m*6)).toArray 90 (0,0)):=by
    rw[hb2,Nat.zero_add,put_at hta,List.take_take,Nat.min_self]
   refine Ymt ?_;have hbx:w2.drew.heap[b]?=some (.cells zs.toArray 90 (0,0)):=((hf2.block _ Yhn Yht).trans (hf1.block _ hbw Yhs)).trans hb;have htb:(zs.take (a*6)++(us.drop o).take (m*6)).length=0+(a+m)*6:=by rw[List.length_append,hta,hyl];omega
   refine d_one (i:=8) rfl Yhp ?_;refine s_copyB (o:=0+(a+m)*6) (so:=0+a*6) (n:=l-a) (k:=l-a) rfl rfl (show w2.drew.heap[w.heap.size]?=_ from hb2') hbx (Nat.min_eq_left Yhn) Yhn (by rw[List.length_append,htb,List.length_drop];omega) (fun u hu=>h2 u ?_) (fun w3 hf3 hb3=>?_)
   .have:=List.mem_of_mem_take hu;rw[Nat.zero_add]at this;have e:(zs.drop (a*6)).take ((l-a)*6)=(zs.take (l*6)).drop (a*6):=by rw[List.drop_take];congr 1;omega
    rw[e]at this;exact List.mem_of_mem_drop this
   .rw [put_at htb,List.take_take,Nat.min_self]at hb3;refine wpList_nil (q_held trivial ?_);refine Yfx ?_;refine Yll ?_;refine⟨_,_,(rs.drop (m*6)).drop ((l-a)*6),rfl,.inr (Nat.le_refl _),?_,?_,hc1',hc2,?_⟩
    .rw [hb3];have e:(zs.drop (0+a*6)).take ((l-a)*6)=(zs.take (l*6)).drop (a*6):=by rw[Nat.zero_add,List.drop_take];congr 1;omega
     rw[e]
    .simp only[List.length_drop];omega
    .have k1:Fr [b] w w1:=hf1.mono Yhs;exact((k1.trans hf2 Yhs).trans0 (Fr.drew [] w2)).trans hf3 Yhs
 . --in place
   refine rn ?_;refine s_sliceHi (k:=l+m) rfl rfl Yhn hlc ?_;refine rn ?_;refine s_sliceLo (j:=a+m) rfl rfl Yhn Yhn Yhn rfl ?_;refine s_apart (tS:=138) (tR:=4) apartC rfl rfl hjb hj hb Yhn ?_;refine Ymt ?_;refine d_one (i:=8) rfl Yhp ?_;refine s_copyB (o:=0+(a+m)*6) (so:=0+a*6) (n:=l+m-a) (m:=l+m-(a+m)) (k:=l-a) rfl rfl (show w.drew.heap[b]?=_ from hb) (show w.drew.heap[b]?=_ from hb) (by show min _ _=_;omega) Yhn Yhn (fun u hu=>h2 u ?_) (fun w3 hf3 hb3=>?_)
   .rw [List.take_take,Nat.min_eq_left Yhn,Nat.zero_add]at hu;have e:(zs.drop (a*6)).take ((l-a)*6)=(zs.take (l*6)).drop (a*6):=by rw[List.drop_take];congr 1;omega
    rw[e]at hu;exact List.mem_of_mem_drop hu
   .refine wpList_nil (q_held trivial ?_);refine Yfx ?_;refine rn ?_;refine s_sliceLo (j:=a) rfl rfl Yhn Yhn Yhn rfl ?_;refine rn ?_;have hj3:w3.heap[j]?=some (.cells us.toArray tj (0,0)):=(hf3.block _ hjw (by simpa using hjb)).trans hj;have hl3:∀v:List Value,(zs.take (0+(a+m)*6)++((zs.drop (0+a*6)).take ((l+m-a)*6)).take ((l-a)*6)++v).length=(l+m)*6+v.length:=by
     intro v;simp only[List.length_append,List.length_take,List.length_drop];omega
    refine s_copyB (o:=0+a*6) (so:=o) (n:=m) (m:=l+m-a) (k:=m) rfl rfl hb3 hj3 (Nat.min_eq_left Yhn) hu (by rw[hl3];omega) (fun u hu=>h1 u (List.mem_of_mem_take hu)) (fun w4 hf4 hb4=>?_);have ht:((us.drop o).take (m*6)).take (m*6)=(us.drop o).take (m*6):=by rw[List.take_take,Nat.min_self]
    rw[ht]at hb4;have h9:=ins_list (zs:=zs) (ys:=(us.drop o).take (m*6)) (a:=a*6) (m:=m*6) (l:=l*6) Yhn Yhn hyl Yhn (z1:=zs.take (0+(a+m)*6)++((zs.drop (0+a*6)).take ((l+m-a)*6)).take ((l-a)*6)++zs.drop (0+(a+m)*6+(l-a)*6))
     (by rw[List.take_take,Nat.min_eq_left Yhn,Nat.zero_add,Nat.zero_add,Nat.add_mul,Nat.sub_mul])
    simp only[Nat.zero_add]at hb4 h9;rw[h9]at hb4;refine Yll ?_;refine⟨b,c,zs.drop (l*6+m*6),rfl,.inl rfl,hb4,?_,by omega,hc,?_⟩
    .simp only[List.length_drop];omega
    .exact ((Fr.drew [b] w).trans hf3 Yhs).trans hf4 Yhs
end
section
open Go Go.Ev Go.RowKit
noncomputable def orc:Nat->List SV->H->Option (SV×H):=fun f a h=>cond (Nat.beq f 107) (insS 90 6 a h) none
noncomputable def st0:Option St:=some ⟨.e,[],⟨0,.e⟩⟩
def ks1:List (Nat×SV):=[(0,.bool false),(1,.ptr 0 0),(2,.ptr 2 0),(3,.ptr 5 0),(4,.ptr 161 0),(5,.int .i64 (.ofNat 0)),(6,.ptr 2610 0),(7,.bool true)]
def os1:List (Nat×SO):=[(2609,.row 5 1 [.int .u8 (.ofNat 26),.int .u8 (.ofNat 4),.int .u8 (.ofNat 2),.int .u8 (.ofNat 0),.int .u8 (.ofNat 0),.int .u8 (.ofNat 6),.int .u8 (.ofNat 0),.int .u8 (.ofNat 0),.int .u8 (.ofNat 0),.int .u8 (.ofNat 0),.int .u8 (.ofNat 0),.int .u8 (.ofNat 0),.int .u8 (.ofNat 0),.int .u8 (.ofNat 0),.int .u8 (.ofNat 6),.int .u8 (.ofNat 0),.int .u8 (.ofNat 0),.int .u8 (.ofNat 0),.int .u8 (.ofNat 0),.int .u8 (.ofNat 0),.int .u8 (.ofNat 0),.int .u8 (.ofNat 2),.int .u8 (.ofNat 0),.int .u8 (.ofNat 0),.int .u8 (.ofNat 0),.int .u8 (.ofNat 0),.int .u8 (.ofNat 0),.int .u8 (.ofNat 200),.int .u8 (.ofNat 1),.int .u8 (.ofNat 0)] .more),
 (2535,.row 5 1 [.int .u8 (.ofNat 1),.int .u8 (.ofNat 112),.int .u8 (.ofNat 20),.int .u8 (.ofNat 20),.int .u8 (.ofNat 0),.int .u8 (.ofNat 0),.int .u8 (.ofNat 0),.int .u8 (.ofNat 0),.int .u8 (.ofNat 0)] .more),
 (2610,.row 90 6 [.int .i64 (.ofNat 0),.int .i64 (.ofNat 10),.slc 2535 0 9 1,.slc 2609 0 30 1,.snil,.int .u64 (.ofNat 12369243400559760062)] .full),
 (158,.row 3 1 [.int .i64 (.ofNat 0)] .more),
 (150,.row 75 12 [.int .i64 (.ofNat 1),.str [],.int .i64 (.ofNat 0),.int .i64 (.ofNat 3),.snil,.snil,.snil,.snil,.int .i64 (.ofNat 0),.int .i64 (.ofNat 0),.str [],.snil,.int .i64 (.ofNat 3),.str [],.int .i64 (.ofNat 0),.int .i64 (.ofNat 0),.snil,.snil,.snil,.slc 158 0 1 1,.int .i64 (.ofNat 0),.int .i64 (.ofNat 0),.str [],.snil] .full),
 (143,.row 84 8 [.str [99],.int .i64 (.ofNat 1),.str [],.int .i64 (.ofNat 1),.snil,.snil,.snil,.int .i64 (.ofNat 0)] .full),
 (138,.row 43 7 [.int .i64 (.ofNat 0),.str [],.int .i64 (.ofNat 0),.snil,.snil,.snil,.int .i64 (.ofNat 0),.int .i64 (.ofNat 0),.str [],.int .i64 (.ofNat 3),.snil,.snil,.snil,.int .i64 (.ofNat 0)] .full),
 (131,.row 82 11 [.str [120],.int .i64 (.ofNat 0),.str [],.snil,.int .i64 (.ofNat 1),.str [],.snil,.slc 138 0 2 7,.snil,.int .i64 (.ofNat 0),.bool false] .full),
 (116,.row 53 45 [.int .i64 (.ofNat 3),.str [112],.int .i64 (.ofNat 0),.snil,.snil,.int .i64 (.ofNat 0),.str [],.snil,.int .i64 (.ofNat 0),.str [],.int .i64 (.ofNat 0),.snil,.snil,.snil,.int .i64 (.ofNat 0),.int .i64 (.ofNat 0),.int .i64 (.ofNat 0),.str [],.snil,.snil,.snil,.int .i64 (.ofNat 0),.slc 131 0 1 11,.slc 143 0 1 8,.snil,.snil,.int .i64 (.ofNat 0),.str [],.snil,.int .i64 (.ofNat 0),.str [],.int .i64 (.ofNat 0),.snil,.snil,.snil,.int .i64 (.ofNat 0),.snil,.snil,.int .i64 (.ofNat 0),.str [],.int .i64 (.ofNat 0),.snil,.snil,.snil,.int .i64 (.ofNat 0)] .full),
 (161,.row 140 5 [.slc 116 0 1 45,.str [112],.slc 150 0 2 12,.int .i64 (.ofNat 100),.snil] .full),
 (3,.row 3 1 [.int .i64 (.ofNat 0)] .full),
 (4,.row 75 12 [.int .i64 (.ofNat 1),.str [],.int .i64 (.ofNat 0),.int .i64 (.ofNat 3),.snil,.snil,.snil,.snil,.int .i64 (.ofNat 0),.int .i64 (.ofNat 0),.str [],.snil,.int .i64 (.ofNat 3),.str [],.int .i64 (.ofNat 0),.int .i64 (.ofNat 0),.snil,.snil,.snil,.slc 3 0 1 1,.int .i64 (.ofNat 0),.int .i64 (.ofNat 0),.str [],.snil] .full),
 (7,.row 84 8 [.str [99],.int .i64 (.ofNat 1),.str [],.int .i64 (.ofNat 1),.snil,.snil,.snil,.int .i64 (.ofNat 0)] .full),
 (6,.row 82 11 [.str [120],.int .i64 (.ofNat 0),.str [],.snil,.int .i64 (.ofNat 1),.str [],.snil,.slc 1 0 2 7,.snil,.int .i64 (.ofNat 0),.bool false] .full),
 (8,.row 53 45 [.int .i64 (.ofNat 3),.str [112],.int .i64 (.ofNat 0),.snil,.snil,.int .i64 (.ofNat 0),.str [],.snil,.int .i64 (.ofNat 0),.str [],.int .i64 (.ofNat 0),.snil,.snil,.snil,.int .i64 (.ofNat 0),.int .i64 (.ofNat 0),.int .i64 (.ofNat 0),.str [],.snil,.snil,.snil,.int .i64 (.ofNat 0),.slc 6 0 1 11,.slc 7 0 1 8,.snil,.snil,.int .i64 (.ofNat 0),.str [],.snil,.int .i64 (.ofNat 0),.str [],.int .i64 (.ofNat 0),.snil,.snil,.snil,.int .i64 (.ofNat 0),.snil,.snil,.int .i64 (.ofNat 0),.str [],.int .i64 (.ofNat 0),.snil,.snil,.snil,.int .i64 (.ofNat 0)] .full),
 (5,.row 80 3 [.slc 8 0 1 45,.str [112],.slc 4 0 2 12] .full),
 (1,.row 43 7 [.int .i64 (.ofNat 0),.str [],.int .i64 (.ofNat 0),.snil,.snil,.snil,.int .i64 (.ofNat 0),.int .i64 (.ofNat 0),.str [],.int .i64 (.ofNat 3),.snil,.snil,.snil,.int .i64 (.ofNat 0)] .full),
 (2,.row 46 6 [.int .i64 (.ofNat 1),.str [],.snil,.slc 1 0 2 7,.snil,.int .i64 (.ofNat 0)] .full),
 (0,.row 43 7 [.int .i64 (.ofNat 1),.str [],.int .i64 (.ofNat 1),.snil,.snil,.snil,.int .i64 (.ofNat 0)] .full)]
def nx1:Nat:=2611
def ks2:List (Nat×SV):=[(0,.bool false),(1,.ptr 0 0),(2,.ptr 2 0),(3,.ptr 5 0),(4,.ptr 161 0),(5,.int .i64 (.ofNat 0)),(6,.ptr 2610 0),(7,.bool true),(8,.ptr 5059 0),(9,.bool true)]
def os2:List (Nat×SO):=[(5058,.row 5 1 [.int .u8 (.ofNat 26),.int .u8 (.ofNat 4),.int .u8 (.ofNat 2),.int .u8 (.ofNat 0),.int .u8 (.ofNat 0),.int .u8 (.ofNat 6),.int .u8 (.ofNat 0),.int .u8 (.ofNat 0),.int .u8 (.ofNat 0),.int .u8 (.ofNat 0),.int .u8 (.ofNat 0),.int .u8 (.ofNat 0),.int .u8 (.ofNat 0),.int .u8 (.ofNat 0),.int .u8 (.ofNat 6),.int .u8 (.ofNat 0),.int .u8 (.ofNat 0),.int .u8 (.ofNat 0),.int .u8 (.ofNat 0),.int .u8 (.ofNat 0),.int .u8 (.ofNat 0),.int .u8 (.ofNat 2),.int .u8 (.ofNat 0),.int .u8 (.ofNat 0),.int .u8 (.ofNat 0),.int .u8 (.ofNat 0),.int .u8 (.ofNat 0),.int .u8 (.ofNat 200),.int .u8 (.ofNat 1),.int .u8 (.ofNat 0)] .more),
 (4984,.row 5 1 [.int .u8 (.ofNat 1),.int .u8 (.ofNat 112),.int .u8 (.ofNat 20),.int .u8 (.ofNat 20),.int .u8 (.ofNat 0),.int .u8 (.ofNat 0),.int .u8 (.ofNat 0),.int .u8 (.ofNat 0),.int .u8 (.ofNat 0)] .more),
 (5059,.row 90 6 [.int .i64 (.ofNat 20),.int .i64 (.ofNat 10),.slc 4984 0 9 1,.slc 5058 0 30 1,.snil,.int .u64 (.ofNat 16383928402118390971)] .full),
 (2609,.row 5 1 [.int .u8 (.ofNat 26),.int .u8 (.ofNat 4),.int .u8 (.ofNat 2),.int .u8 (.ofNat 0),.int .u8 (.ofNat 0),.int .u8 (.ofNat 6),.int .u8 (.ofNat 0),.int .u8 (.ofNat 0),.int .u8 (.ofNat 0),.int .u8 (.ofNat 0),.int .u8 (.ofNat 0),.int .u8 (.ofNat 0),.int .u8 (.ofNat 0),.int .u8 (.ofNat 0),.int .u8 (.ofNat 6),.int .u8 (.ofNat 0),.int .u8 (.ofNat 0),.int .u8 (.ofNat 0),.int .u8 (.ofNat 0),.int .u8 (.ofNat 0),.int .u8 (.ofNat 0),.int .u8 (.ofNat 2),.int .u8 (.ofNat 0),.int .u8 (.ofNat 0),.int .u8 (.ofNat 0),.int .u8 (.ofNat 0),.int .u8 (.ofNat 0),.int .u8 (.ofNat 200),.int .u8 (.ofNat 1),.int .u8 (.ofNat 0)] .more),
 (2535,.row 5 1 [.int .u8 (.ofNat 1),.int .u8 (.ofNat 112),.int .u8 (.ofNat 20),.int .u8 (.ofNat 20),.int .u8 (.ofNat 0),.int .u8 (.ofNat 0),.int .u8 (.ofNat 0),.int .u8 (.ofNat 0),.int .u8 (.ofNat 0)] .more),
 (2610,.row 90 6 [.int .i64 (.ofNat 0),.int .i64 (.ofNat 10),.slc 2535 0 9 1,.slc 2609 0 30 1,.snil,.int .u64 (.ofNat 12369243400559760062)] .full),
 (158,.row 3 1 [.int .i64 (.ofNat 0)] .more),
 (150,.row 75 12 [.int .i64 (.ofNat 1),.str [],.int .i64 (.ofNat 0),.int .i64 (.ofNat 3),.snil,.snil,.snil,.snil,.int .i64 (.ofNat 0),.int .i64 (.ofNat 0),.str [],.snil,.int .i64 (.ofNat 3),.str [],.int .i64 (.ofNat 0),.int .i64 (.ofNat 0),.snil,.snil,.snil,.slc 158 0 1 1,.int .i64 (.ofNat 0),.int .i64 (.ofNat 0),.str [],.snil] .full),
 (143,.row 84 8 [.str [99],.int .i64 (.ofNat 1),.str [],.int .i64 (.ofNat 1),.snil,.snil,.snil,.int .i64 (.ofNat 0)] .full),
 (138,.row 43 7 [.int .i64 (.ofNat 0),.str [],.int .i64 (.ofNat 0),.snil,.snil,.snil,.int .i64 (.ofNat 0),.int .i64 (.ofNat 0),.str [],.int .i64 (.ofNat 3),.snil,.snil,.snil,.int .i64 (.ofNat 0)] .full),
 (131,.row 82 11 [.str [120],.int .i64 (.ofNat 0),.str [],.snil,.int .i64 (.ofNat 1),.str [],.snil,.slc 138 0 2 7,.snil,.int .i64 (.ofNat 0),.bool false] .full),
 (116,.row 53 45 [.int .i64 (.ofNat 3),.str [112],.int .i64 (.ofNat 0),.snil,.snil,.int .i64 (.ofNat 0),.str [],.snil,.int .i64 (.ofNat 0),.str [],.int .i64 (.ofNat 0),.snil,.snil,.snil,.int .i64 (.ofNat 0),.int .i64 (.ofNat 0),.int .i64 (.ofNat 0),.str [],.snil,.snil,.snil,.int .i64 (.ofNat 0),.slc 131 0 1 11,.slc 143 0 1 8,.snil,.snil,.int .i64 (.ofNat 0),.str [],.snil,.int .i64 (.ofNat 0),.str [],.int .i64 (.ofNat 0),.snil,.snil,.snil,.int .i64 (.ofNat 0),.snil,.snil,.int .i64 (.ofNat 0),.str [],.int .i64 (.ofNat 0),.snil,.snil,.snil,.int .i64 (.ofNat 0)] .full),
 (161,.row 140 5 [.slc 116 0 1 45,.str [112],.slc 150 0 2 12,.int .i64 (.ofNat 100),.snil] .full),
 (3,.row 3 1 [.int .i64 (.ofNat 0)] .full),
 (4,.row 75 12 [.int .i64 (.ofNat 1),.str [],.int .i64 (.ofNat 0),.int .i64 (.ofNat 3),.snil,.snil,.snil,.snil,.int .i64 (.ofNat 0),.int .i64 (.ofNat 0),.str [],.snil,.int .i64 (.ofNat 3),.str [],.int .i64 (.ofNat 0),.int .i64 (.ofNat 0),.snil,.snil,.snil,.slc 3 0 1 1,.int .i64 (.ofNat 0),.int .i64 (.ofNat 0),.str [],.snil] .full),
 (7,.row 84 8 [.str [99],.int .i64 (.ofNat 1),.str [],.int .i64 (.ofNat 1),.snil,.snil,.snil,.int .i64 (.ofNat 0)] .full),
 (6,.row 82 11 [.str [120],.int .i64 (.ofNat 0),.str [],.snil,.int .i64 (.ofNat 1),.str [],.snil,.slc 1 0 2 7,.snil,.int .i64 (.ofNat 0),.bool false] .full),
 (8,.row 53 45 [.int .i64 (.ofNat 3),.str [112],.int .i64 (.ofNat 0),.snil,.snil,.int .i64 (.ofNat 0),.str [],.snil,.int .i64 (.ofNat 0),.str [],.int .i64 (.ofNat 0),.snil,.snil,.snil,.int .i64 (.ofNat 0),.int .i64 (.ofNat 0),.int .i64 (.ofNat 0),.str [],.snil,.snil,.snil,.int .i64 (.ofNat 0),.slc 6 0 1 11,.slc 7 0 1 8,.snil,.snil,.int .i64 (.ofNat 0),.str [],.snil,.int .i64 (.ofNat 0),.str [],.int .i64 (.ofNat 0),.snil,.snil,.snil,.int .i64 (.ofNat 0),.snil,.snil,.int .i64 (.ofNat 0),.str [],.int .i64 (.ofNat 0),.snil,.snil,.snil,.int .i64 (.ofNat 0)] .full),
 (5,.row 80 3 [.slc 8 0 1 45,.str [112],.slc 4 0 2 12] .full),
 (1,.row 43 7 [.int .i64 (.ofNat 0),.str [],.int .i64 (.ofNat 0),.snil,.snil,.snil,.int .i64 (.ofNat 0),.int .i64 (.ofNat 0),.str [],.int .i64 (.ofNat 3),.snil,.snil,.snil,.int .i64 (.ofNat 0)] .full),
 (2,.row 46 6 [.int .i64 (.ofNat 1),.str [],.snil,.slc 1 0 2 7,.snil,.int .i64 (.ofNat 0)] .full),
 (0,.row 43 7 [.int .i64 (.ofNat 1),.str [],.int .i64 (.ofNat 1),.snil,.snil,.snil,.int .i64 (.ofNat 0)] .full)]
def nx2:Nat:=5060
def ks3:List (Nat×SV):=[(0,.bool false),(1,.ptr 0 0),(2,.ptr 2 0),(3,.ptr 5 0),(4,.ptr 161 0),(5,.int .i64 (.ofNat 0)),(6,.ptr 2610 0),(7,.bool true),(8,.ptr 5059 0),(9,.bool true),(10,.ptr 7508 0),(11,.bool true)]
def os3:List (Nat×SO):=[(7507,.row 5 1 [.int .u8 (.ofNat 26),.int .u8 (.ofNat 4),.int .u8 (.ofNat 2),.int .u8 (.ofNat 0),.int .u8 (.ofNat 0),.int .u8 (.ofNat 6),.int .u8 (.ofNat 0),.int .u8 (.ofNat 0),.int .u8 (.ofNat 0),.int .u8 (.ofNat 0),.int .u8 (.ofNat 0),.int .u8 (.ofNat 0),.int .u8 (.ofNat 0),.int .u8 (.ofNat 0),.int .u8 (.ofNat 6),.int .u8 (.ofNat 0),.int .u8 (.ofNat 0),.int .u8 (.ofNat 0),.int .u8 (.ofNat 0),.int .u8 (.ofNat 0),.int .u8 (.ofNat 0),.int .u8 (.ofNat 2),.int .u8 (.ofNat 0),.int .u8 (.ofNat 0),.int .u8 (.ofNat 0),.int .u8 (.ofNat 0),.int .u8 (.ofNat 0),.int .u8 (.ofNat 200),.int .u8 (.ofNat 1),.int .u8 (.ofNat 0)] .more),
 (7433,.row 5 1 [.int .u8 (.ofNat 1),.int .u8 (.ofNat 112),.int .u8 (.ofNat 20),.int .u8 (.ofNat 20),.int .u8 (.ofNat 0),.int .u8 (.ofNat 0),.int .u8 (.ofNat 0),.int .u8 (.ofNat 0),.int .u8 (.ofNat 0)] .more),
 (7508,.row 90 6 [.int .i64 (.ofNat 5),.int .i64 (.ofNat 10),.slc 7433 0 9 1,.slc 7507 0 30 1,.snil,.int .u64 (.ofNat 11540582981098754036)] .full),
 (5058,.row 5 1 [.int .u8 (.ofNat 26),.int .u8 (.ofNat 4),.int .u8 (.ofNat 2),.int .u8 (.ofNat 0),.int .u8 (.ofNat 0),.int .u8 (.ofNat 6),.int .u8 (.ofNat 0),.int .u8 (.ofNat 0),.int .u8 (.ofNat 0),.int .u8 (.ofNat 0),.int .u8 (.ofNat 0),.int .u8 (.ofNat 0),.int .u8 (.ofNat 0),.int .u8 (.ofNat 0),.int .u8 (.ofNat 6),.int .u8 (.ofNat 0),.int .u8 (.ofNat 0),.int .u8 (.ofNat 0),.int .u8 (.ofNat 0),.int .u8 (.ofNat 0),.int .u8 (.ofNat 0),.int .u8 (.ofNat 2),.int .u8 (.ofNat 0),.int .u8 (.ofNat 0),.int .u8 (.ofNat 0),.int .u8 (.ofNat 0),.int .u8 (.ofNat 0),.int .u8 (.ofNat 200),.int .u8 (.ofNat 1),.int .u8 (.ofNat 0)] .more),
 (4984,.row 5 1 [.int .u8 (.ofNat 1),.int .u8 (.ofNat 112),.int .u8 (.ofNat 20),.int .u8 (.ofNat 20),.int .u8 (.ofNat 0),.int .u8 (.ofNat 0),.int .u8 (.ofNat 0),.int .u8 (.ofNat 0),.int .u8 (.ofNat 0)] .more),
 (5059,.row 90 6 [.int .i64 (.ofNat 20),.int .i64 (.ofNat 10),.slc 4984 0 9 1,.slc 5058 0 30 1,.snil,.int .u64 (.ofNat 16383928402118390971)] .full),
 (2609,.row 5 1 [.int .u8 (.ofNat 26),.int .u8 (.ofNat 4),.int .u8 (.ofNat 2),.int .u8 (.ofNat 0),.int .u8 (.ofNat 0),.int .u8 (.ofNat 6),.int .u8 (.ofNat 0),.int .u8 (.ofNat 0),.int .u8 (.ofNat 0),.int .u8 (.ofNat 0),.int .u8 (.ofNat 0),.int .u8 (.ofNat 0),.int .u8 (.ofNat 0),.int .u8 (.ofNat 0),.int .u8 (.ofNat 6),.int .u8 (.ofNat 0),.int .u8 (.ofNat 0),.int .u8 (.ofNat 0),.int .u8 (.ofNat 0),.int .u8 (.ofNat 0),.int .u8 (.ofNat 0),.int .u8 (.ofNat 2),.int .u8 (.ofNat 0),.int .u8 (.ofNat 0),.int .u8 (.ofNat 0),.int .u8 (.ofNat 0),.int .u8 (.ofNat 0),.int .u8 (.ofNat 200),.int .u8 (.ofNat 1),.int .u8 (.ofNat 0)] .more),
 (2535,.row 5 1 [.int .u8 (.ofNat 1),.int .u8 (.ofNat 112),.int .u8 (.ofNat 20),.int .u8 (.ofNat 20),.int .u8 (.ofNat 0),.int .u8 (.ofNat 0),.int .u8 (.ofNat 0),.int .u8 (.ofNat 0),.int .u8 (.ofNat 0)] .more),
 (2610,.row 90 6 [.int .i64 (.ofNat 0),.int .i64 (.ofNat 10),.slc 2535 0 9 1,.slc 2609 0 30 1,.snil,.int .u64 (.ofNat 12369243400559760062)] .full),
 (158,.row 3 1 [.int .i64 (.ofNat 0)] .more),
 (150,.row 75 12 [.int .i64 (.ofNat 1),.str [],.int .i64 (.ofNat 0),.int .i64 (.ofNat 3),.snil,.snil,.snil,.snil,.int .i64 (.ofNat 0),.int .i64 (.ofNat 0),.str [],.snil,.int .i64 (.ofNat 3),.str [],.int .i64 (.ofNat 0),.int .i64 (.ofNat 0),.snil,.snil,.snil,.slc 158 0 1 1,.int .i64 (.ofNat 0),.int .i64 (.ofNat 0),.str [],.snil] .full),
 (143,.row 84 8 [.str [99],.int .i64 (.ofNat 1),.str [],.int .i64 (.ofNat 1),.snil,.snil,.snil,.int .i64 (.ofNat 0)] .full),
 (138,.row 43 7 [.int .i64 (.ofNat 0),.str [],.int .i64 (.ofNat 0),.snil,.snil,.snil,.int .i64 (.ofNat 0),.int .i64 (.ofNat 0),.str [],.int .i64 (.ofNat 3),.snil,.snil,.snil,.int .i64 (.ofNat 0)] .full),
 (131,.row 82 11 [.str [120],.int .i64 (.ofNat 0),.str [],.snil,.int .i64 (.ofNat 1),.str [],.snil,.slc 138 0 2 7,.snil,.int .i64 (.ofNat 0),.bool false] .full),
 (116,.row 53 45 [.int .i64 (.ofNat 3),.str [112],.int .i64 (.ofNat 0),.snil,.snil,.int .i64 (.ofNat 0),.str [],.snil,.int .i64 (.ofNat 0),.str [],.int .i64 (.ofNat 0),.snil,.snil,.snil,.int .i64 (.ofNat 0),.int .i64 (.ofNat 0),.int .i64 (.ofNat 0),.str [],.snil,.snil,.snil,.int .i64 (.ofNat 0),.slc 131 0 1 11,.slc 143 0 1 8,.snil,.snil,.int .i64 (.ofNat 0),.str [],.snil,.int .i64 (.ofNat 0),.str [],.int .i64 (.ofNat 0),.snil,.snil,.snil,.int .i64 (.ofNat 0),.snil,.snil,.int .i64 (.ofNat 0),.str [],.int .i64 (.ofNat 0),.snil,.snil,.snil,.int .i64 (.ofNat 0)] .full),
 (161,.row 140 5 [.slc 116 0 1 45,.str [112],.slc 150 0 2 12,.int .i64 (.ofNat 100),.snil] .full),
 (3,.row 3 1 [.int .i64 (.ofNat 0)] .full),
 (4,.row 75 12 [.int .i64 (.ofNat 1),.str [],.int .i64 (.ofNat 0),.int .i64 (.ofNat 3),.snil,.snil,.snil,.snil,.int .i64 (.ofNat 0),.int .i64 (.ofNat 0),.str [],.snil,.int .i64 (.ofNat 3),.str [],.int .i64 (.ofNat 0),.int .i64 (.ofNat 0),.snil,.snil,.snil,.slc 3 0 1 1,.int .i64 (.ofNat 0),.int .i64 (.ofNat 0),.str [],.snil] .full),
 (7,.row 84 8 [.str [99],.int .i64 (.ofNat 1),.str [],.int .i64 (.ofNat 1),.snil,.snil,.snil,.int .i64 (.ofNat 0)] .full),
 (6,.row 82 11 [.str [120],.int .i64 (.ofNat 0),.str [],.snil,.int .i64 (.ofNat 1),.str [],.snil,.slc 1 0 2 7,.snil,.int .i64 (.ofNat 0),.bool false] .full),
 (8,.row 53 45 [.int .i64 (.ofNat 3),.str [112],.int .i64 (.ofNat 0),.snil,.snil,.int .i64 (.ofNat 0),.str [],.snil,.int .i64 (.ofNat 0),.str [],.int .i64 (.ofNat 0),.snil,.snil,.snil,.int .i64 (.ofNat 0),.int .i64 (.ofNat 0),.int .i64 (.ofNat 0),.str [],.snil,.snil,.snil,.int .i64 (.ofNat 0),.slc 6 0 1 11,.slc 7 0 1 8,.snil,.snil,.int .i64 (.ofNat 0),.str [],.snil,.int .i64 (.ofNat 0),.str [],.int .i64 (.ofNat 0),.snil,.snil,.snil,.int .i64 (.ofNat 0),.snil,.snil,.int .i64 (.ofNat 0),.str [],.int .i64 (.ofNat 0),.snil,.snil,.snil,.int .i64 (.ofNat 0)] .full),
 (5,.row 80 3 [.slc 8 0 1 45,.str [112],.slc 4 0 2 12] .full),
 (1,.row 43 7 [.int .i64 (.ofNat 0),.str [],.int .i64 (.ofNat 0),.snil,.snil,.snil,.int .i64 (.ofNat 0),.int .i64 (.ofNat 0),.str [],.int .i64 (.ofNat 3),.snil,.snil,.snil,.int .i64 (.ofNat 0)] .full),
 (2,.row 46 6 [.int .i64 (.ofNat 1),.str [],.snil,.slc 1 0 2 7,.snil,.int .i64 (.ofNat 0)] .full),
 (0,.row 43 7 [.int .i64 (.ofNat 1),.str [],.int .i64 (.ofNat 1),.snil,.snil,.snil,.int .i64 (.ofNat 0)] .full)]
def nx3:Nat:=7509
def ks4:List (Nat×SV):=[(0,.bool false),(1,.ptr 0 0),(2,.ptr 2 0),(3,.ptr 5 0),(4,.ptr 161 0),(5,.int .i64 (.ofNat 0)),(6,.ptr 2610 0),(7,.bool true),(8,.ptr 5059 0),(9,.bool true),(10,.ptr 7508 0),(11,.bool true),(12,.ptr 9957 0),(13,.bool true)]
def os4:List (Nat×SO):=[(9956,.row 5 1 [.int .u8 (.ofNat 26),.int .u8 (.ofNat 4),.int .u8 (.ofNat 2),.int .u8 (.ofNat 0),.int .u8 (.ofNat 0),.int .u8 (.ofNat 6),.int .u8 (.ofNat 0),.int .u8 (.ofNat 0),.int .u8 (.ofNat 0),.int .u8 (.ofNat 0),.int .u8 (.ofNat 0),.int .u8 (.ofNat 0),.int .u8 (.ofNat 0),.int .u8 (.ofNat 0),.int .u8 (.ofNat 6),.int .u8 (.ofNat 0),.int .u8 (.ofNat 0),.int .u8 (.ofNat 0),.int .u8 (.ofNat 0),.int .u8 (.ofNat 0),.int .u8 (.ofNat 0),.int .u8 (.ofNat 2),.int .u8 (.ofNat 0),.int .u8 (.ofNat 0),.int .u8 (.ofNat 0),.int .u8 (.ofNat 0),.int .u8 (.ofNat 0),.int .u8 (.ofNat 200),.int .u8 (.ofNat 1),.int .u8 (.ofNat 0)] .more),
 (9882,.row 5 1 [.int .u8 (.ofNat 1),.int .u8 (.ofNat 112),.int .u8 (.ofNat 20),.int .u8 (.ofNat 20),.int .u8 (.ofNat 0),.int .u8 (.ofNat 0),.int .u8 (.ofNat 0),.int .u8 (.ofNat 0),.int .u8 (.ofNat 0)] .more),
 (9957,.row 90 6 [.int .i64 (.ofNat 10),.int .i64 (.ofNat 10),.slc 9882 0 9 1,.slc 9956 0 30 1,.snil,.int .u64 (.ofNat 10507990977707406397)] .full),
 (7507,.row 5 1 [.int .u8 (.ofNat 26),.int .u8 (.ofNat 4),.int .u8 (.ofNat 2),.int .u8 (.ofNat 0),.int .u8 (.ofNat 0),.int .u8 (.ofNat 6),.int .u8 (.ofNat 0),.int .u8 (.ofNat 0),.int .u8 (.ofNat 0),.int .u8 (.ofNat 0),.int .u8 (.ofNat 0),.int .u8 (.ofNat 0),.int .u8 (.ofNat 0),.int .u8 (.ofNat 0),.int .u8 (.ofNat 6),.int .u8 (.ofNat 0),.int .u8 (.ofNat 0),.int .u8 (.ofNat 0),.int .u8 (.ofNat 0),.int .u8 (.ofNat 0),.int .u8 (.ofNat 0),.int .u8 (.ofNat 2),.int .u8 (.ofNat 0),.int .u8 (.ofNat 0),.int .u8 (.ofNat 0),.int .u8 (.ofNat 0),.int .u8 (.ofNat 0),.int .u8 (.ofNat 200),.int .u8 (.ofNat 1),.int .u8 (.ofNat 0)] .more),
 (7433,.row 5 1 [.int .u8 (.ofNat 1),.int .u8 (.ofNat 112),.int .u8 (.ofNat 20),.int .u8 (.ofNat 20),.int .u8 (.ofNat 0),.int .u8 (.ofNat 0),.int .u8 (.ofNat 0),.int .u8 (.ofNat 0),.int .u8 (.ofNat 0)] .more),
 (7508,.row 90 6 [.int .i64 (.ofNat 5),.int .i64 (.ofNat 10),.slc 7433 0 9 1,.slc 7507 0 30 1,.snil,.int .u64 (.ofNat 11540582981098754036)] .full),
 (5058,.row 5 1 [.int .u8 (.ofNat 26),.int .u8 (.ofNat 4),.int .u8 (.ofNat 2),.int .u8 (.ofNat 0),.int .u8 (.ofNat 0),.int .u8 (.ofNat 6),.int .u8 (.ofNat 0),.int .u8 (.ofNat 0),.int .u8 (.ofNat 0),.int .u8 (.ofNat 0),.int .u8 (.ofNat 0),.int .u8 (.ofNat 0),.int .u8 (.ofNat 0),.int .u8 (.ofNat 0),.int .u8 (.ofNat 6),.int .u8 (.ofNat 0),.int .u8 (.ofNat 0),.int .u8 (.ofNat 0),.int .u8 (.ofNat 0),.int .u8 (.ofNat 0),.int .u8 (.ofNat 0),.int .u8 (.ofNat 2),.int .u8 (.ofNat 0),.int .u8 (.ofNat 0),.int .u8 (.ofNat 0),.int .u8 (.ofNat 0),.int .u8 (.ofNat 0),.int .u8 (.ofNat 200),.int .u8 (.ofNat 1),.int .u8 (.ofNat 0)] .more),
 (4984,.row 5 1 [.int .u8 (.ofNat 1),.int .u8 (.ofNat 112),.int .u8 (.ofNat 20),.int .u8 (.ofNat 20),.int .u8 (.ofNat 0),.int .u8 (.ofNat 0),.int .u8 (.ofNat 0),.int .u8 (.ofNat 0),.int .u8 (.ofNat 0)] .more),
 (5059,.row 90 6 [.int .i64 (.ofNat 20),.int .i64 (.ofNat 10),.slc 4984 0 9 1,.slc 5058 0 30 1,.snil,.int .u64 (.ofNat 16383928402118390971)] .full),
 (2609,.row 5 1 [.int .u8 (.ofNat 26),.int .u8 (.ofNat 4),.int .u8 (.ofNat 2),.int .u8 (.ofNat 0),.int .u8 (.ofNat 0),.int .u8 (.ofNat 6),.int .u8 (.ofNat 0),.int .u8 (.ofNat 0),.int .u8 (.ofNat 0),.int .u8 (.ofNat 0),.int .u8 (.ofNat 0),.int .u8 (.ofNat 0),.int .u8 (.ofNat 0),.int .u8 (.ofNat 0),.int .u8 (.ofNat 6),.int .u8 (.ofNat 0),.int .u8 (.ofNat 0),.int .u8 (.ofNat 0),.int .u8 (.ofNat 0),.int .u8 (.ofNat 0),.int .u8 (.ofNat 0),.int .u8 (.ofNat 2),.int .u8 (.ofNat 0),.int .u8 (.ofNat 0),.int .u8 (.ofNat 0),.int .u8 (.ofNat 0),.int .u8 (.ofNat 0),.int .u8 (.ofNat 200),.int .u8 (.ofNat 1),.int .u8 (.ofNat 0)] .more),
 (2535,.row 5 1 [.int .u8 (.ofNat 1),.int .u8 (.ofNat 112),.int .u8 (.ofNat 20),.int .u8 (.ofNat 20),.int .u8 (.ofNat 0),.int .u8 (.ofNat 0),.int .u8 (.ofNat 0),.int .u8 (.ofNat 0),.int .u8 (.ofNat 0)] .more),
 (2610,.row 90 6 [.int .i64 (.ofNat 0),.int .i64 (.ofNat 10),.slc 2535 0 9 1,.slc 2609 0 30 1,.snil,.int .u64 (.ofNat 12369243400559760062)] .full),
 (158,.row 3 1 [.int .i64 (.ofNat 0)] .more),
 (150,.row 75 12 [.int .i64 (.ofNat 1),.str [],.int .i64 (.ofNat 0),.int .i64 (.ofNat 3),.snil,.snil,.snil,.snil,.int .i64 (.ofNat 0),.int .i64 (.ofNat 0),.str [],.snil,.int .i64 (.ofNat 3),.str [],.int .i64 (.ofNat 0),.int .i64 (.ofNat 0),.snil,.snil,.snil,.slc 158 0 1 1,.int .i64 (.ofNat 0),.int .i64 (.ofNat 0),.str [],.snil] .full),
 (143,.row 84 8 [.str [99],.int .i64 (.ofNat 1),.str [],.int .i64 (.ofNat 1),.snil,.snil,.snil,.int .i64 (.ofNat 0)] .full),
 (138,.row 43 7 [.int .i64 (.ofNat 0),.str [],.int .i64 (.ofNat 0),.snil,.snil,.snil,.int .i64 (.ofNat 0),.int .i64 (.ofNat 0),.str [],.int .i64 (.ofNat 3),.snil,.snil,.snil,.int .i64 (.ofNat 0)] .full),
 (131,.row 82 11 [.str [120],.int .i64 (.ofNat 0),.str [],.snil,.int .i64 (.ofNat 1),.str [],.snil,.slc 138 0 2 7,.snil,.int .i64 (.ofNat 0),.bool false] .full),
 (116,.row 53 45 [.int .i64 (.ofNat 3),.str [112],.int .i64 (.ofNat 0),.snil,.snil,.int .i64 (.ofNat 0),.str [],.snil,.int .i64 (.ofNat 0),.str [],.int .i64 (.ofNat 0),.snil,.snil,.snil,.int .i64 (.ofNat 0),.int .i64 (.ofNat 0),.int .i64 (.ofNat 0),.str [],.snil,.snil,.snil,.int .i64 (.ofNat 0),.slc 131 0 1 11,.slc 143 0 1 8,.snil,.snil,.int .i64 (.ofNat 0),.str [],.snil,.int .i64 (.ofNat 0),.str [],.int .i64 (.ofNat 0),.snil,.snil,.snil,.int .i64 (.ofNat 0),.snil,.snil,.int .i64 (.ofNat 0),.str [],.int .i64 (.ofNat 0),.snil,.snil,.snil,.int .i64 (.ofNat 0)] .full),
 (161,.row 140 5 [.slc 116 0 1 45,.str [112],.slc 150 0 2 12,.int .i64 (.ofNat 100),.snil] .full),
 (3,.row 3 1 [.int .i64 (.ofNat 0)] .full),
 (4,.row 75 12 [.int .i64 (.ofNat 1),.str [],.int .i64 (.ofNat 0),.int .i64 (.ofNat 3),.snil,.snil,.snil,.snil,.int .i64 (.ofNat 0),.int .i64 (.ofNat 0),.str [],.snil,.int .i64 (.ofNat 3),.str [],.int .i64 (.ofNat 0),.int .i64 (.ofNat 0),.snil,.snil,.snil,.slc 3 0 1 1,.int .i64 (.ofNat 0),.int .i64 (.ofNat 0),.str [],.snil] .full),
 (7,.row 84 8 [.str [99],.int .i64 (.ofNat 1),.str [],.int .i64 (.ofNat 1),.snil,.snil,.snil,.int .i64 (.ofNat 0)] .full),
 (6,.row 82 11 [.str [120],.int .i64 (.ofNat 0),.str [],.snil,.int .i64 (.ofNat 1),.str [],.snil,.slc 1 0 2 7,.snil,.int .i64 (.ofNat 0),.bool false] .full),
 (8,.row 53 45 [.int .i64 (.ofNat 3),.str [112],.int .i64 (.ofNat 0),.snil,.snil,.int .i64 (.ofNat 0),.str [],.snil,.int .i64 (.ofNat 0),.str [],.int .i64 (.ofNat 0),.snil,.snil,.snil,.int .i64 (.ofNat 0),.int .i64 (.ofNat 0),.int .i64 (.ofNat 0),.str [],.snil,.snil,.snil,.int .i64 (.ofNat 0),.slc 6 0 1 11,.slc 7 0 1 8,.snil,.snil,.int .i64 (.ofNat 0),.str [],.snil,.int .i64 (.ofNat 0),.str [],.int .i64 (.ofNat 0),.snil,.snil,.snil,.int .i64 (.ofNat 0),.snil,.snil,.int .i64 (.ofNat 0),.str [],.int .i64 (.ofNat 0),.snil,.snil,.snil,.int .i64 (.ofNat 0)] .full),
 (5,.row 80 3 [.slc 8 0 1 45,.str [112],.slc 4 0 2 12] .full),
 (1,.row 43 7 [.int .i64 (.ofNat 0),.str [],.int .i64 (.ofNat 0),.snil,.snil,.snil,.int .i64 (.ofNat 0),.int .i64 (.ofNat 0),.str [],.int .i64 (.ofNat 3),.snil,.snil,.snil,.int .i64 (.ofNat 0)] .full),
 (2,.row 46 6 [.int .i64 (.ofNat 1),.str [],.snil,.slc 1 0 2 7,.snil,.int .i64 (.ofNat 0)] .full),
 (0,.row 43 7 [.int .i64 (.ofNat 1),.str [],.int .i64 (.ofNat 1),.snil,.snil,.snil,.int .i64 (.ofNat 0)] .full)]
def nx4:Nat:=9958
end
end Go.Proofs.YtmlpcmjmniobdaaGreat
