/-
 Contracts of package wire's Writer.
-/
import Derived.Test.YtggmccicdhnkgaaGreatVK1
import Derived.Test.YtggmccicdhnkgaaGreatRows
set_option linter.all false
namespace Go.Rf
variable{a e:Int}{c i n:Nat}
def yN(a m:Int):Int:=(if a<0 then -(a+1) else a)%m
theorem BI{m:Int}(h:0<m):0<=yN a m/\yN a m<m:=⟨Fq _ ab,EP _ h⟩
def uv(n:Nat):List Int:=if h:n<128 then[(n:Int)] else((n%128+128:Nat):Int)::uv (n/128)
 termination_by n
 decreasing_by omega
theorem P2(h:n<128):uv n=[(n:Int)]:=by rw[uv,dif_pos h]
theorem YR(h:128<=n):uv n=((n%128+128:Nat):Int)::uv (n/128):=by rw[uv,dif_neg ab]
theorem Nr:∀(k n:Nat),n<128^(k+1)->(uv n).length<=k+1
 |0,n,h=>by rw[P2 mE];simp
 |k+1,n,h=>by
  by_cases hn:n<128
  .rw [P2 hn];simp
  .rw [YR ab];have:=Nr k (n/128) (by rw[Nat.div_lt_iff_lt_mul ab];rw[Oa]at h;exact h);simp;omega
theorem Xw(n:Nat)(h:n<18446744073709551616):(uv n).length<=10:=
 Nr 9 n (SV h bU)
theorem Jnj(n:Nat):0<(uv n).length:=by
 by_cases h:n<128
 .rw [P2 h];simp
 .rw [YR ab];simp
def zz(n:Int):Nat:=if n<0 then(2*(-(n+1))+1).toNat else(2*n).toNat
theorem JeV{n:Int}(h1: -9223372036854775808<=n)(h2:n<=9223372036854775807):zz n<18446744073709551616:=by unfold zz;split<;>omega
def iv(n:Int):List Int:=uv (zz n)
theorem Jdp(n:Int):IntKind.u8.wrap n=n%256:=by rw[IntKind.wrap_u8]
theorem Jj7(m:Nat):IntKind.u8.wrap ((BitVec.ofInt IntKind.u8.bits ((m:Int)%256)|||BitVec.ofInt IntKind.u8.bits 128).toNat:Int)=((m%128+128:Nat):Int):=by
 have key:∀b:BitVec 8,(b|||128#8).toNat=b.toNat%128+128:=by decide
 have e1:BitVec.ofInt 8 128=128#8:=by decide
 have h:=key (BitVec.ofInt 8 ((m:Int)%256));show IntKind.u8.wrap ((BitVec.ofInt 8 ((m:Int)%256)|||BitVec.ofInt 8 128).toNat:Int)=_;rw[e1,h,Jdp];have e2:(BitVec.ofInt 8 ((m:Int)%256)).toNat=m%256:=by
  rw[I5];omega
 rw[e2];omega
theorem Jky(m:Nat):((m:Int)).fdiv (2^(min (7:Int).toNat IntKind.u64.bits))=((m/128:Nat):Int):=by
 have:(2^(min (7:Int).toNat IntKind.u64.bits):Int)=128:=by decide
 rw[this,Fa _ ab];omega
theorem X7(n:Int):IntKind.u64.wrap n=n%18446744073709551616:=by
 simp only[IntKind.wrap,IntKind.bits,IntKind.signed];simp
theorem Jmb(n:Int):IntKind.i64.wrap n=if n%18446744073709551616≥9223372036854775808 then n%18446744073709551616-18446744073709551616 else n%18446744073709551616:=by
 simp only[IntKind.wrap,IntKind.bits,IntKind.signed];simp
theorem ofInt64(a:Int)(h0:0<=a)(h1:a<18446744073709551616):(BitVec.ofInt 64 a).toNat=a.toNat:=by
 rw[I5];have:a%((2^64:Nat):Int)=a:=Int.emod_eq_of_lt h0 (by simpa using h1);rw[this]
theorem Jkv(a:Int)(h0:0<=a)(h1:a<18446744073709551616):IntKind.u64.wrap ((BitVec.ofInt IntKind.u64.bits a^^^BitVec.ofInt IntKind.u64.bits 0).toNat:Int)=a:=by
 show IntKind.u64.wrap ((BitVec.ofInt 64 a^^^BitVec.ofInt 64 0).toNat:Int)=_;have e:BitVec.ofInt 64 0=0#64:=by decide
 rw[e,BitVec.xor_zero,ofInt64 a h0 h1,X7];omega
theorem Jku(a:Int)(h0:0<=a)(h1:a<18446744073709551616):IntKind.u64.wrap ((BitVec.ofInt IntKind.u64.bits a^^^BitVec.ofInt IntKind.u64.bits 18446744073709551615).toNat:Int)=18446744073709551615-a:=by
 show IntKind.u64.wrap ((BitVec.ofInt 64 a^^^BitVec.ofInt 64 18446744073709551615).toNat:Int)=_;have e:BitVec.ofInt 64 18446744073709551615=BitVec.allOnes 64:=by decide
 rw[e,Oj,BitVec.toNat_not,ofInt64 a h0 h1,X7];exact Ymd
def sb(s:ByteArray):List Int:=s.data.toList.map fun c=>(c.toNat:Int)
theorem Xx(s:ByteArray):(sb s).length=s.size:=by simp[sb]
def raw(bs:List Int):List Int:=uv bs.length++bs
def ints(ns:List Int):List Int:=uv ns.length++ns.flatMap iv
theorem VA{n:Int}(h1: -9223372036854775808<=n)(h2:n<=9223372036854775807):(iv n).length<=10:=Xw _ (JeV h1 h2)
/-! ### ibT -/
theorem Jnu{b:Int}(h0:0<=b)(h1:b<256):IntKind.u8.wrap ((BitVec.ofInt IntKind.u8.bits b&&& BitVec.ofInt IntKind.u8.bits 127).toNat:Int)=b%128:=by
 have key:∀x:BitVec 8,(x&&& 127#8).toNat=x.toNat%128:=by decide
 have e1:BitVec.ofInt 8 127=127#8:=by decide
 show IntKind.u8.wrap ((BitVec.ofInt 8 b&&& BitVec.ofInt 8 127).toNat:Int)=_;rw[e1,key,Jdp];have e2:(BitVec.ofInt 8 b).toNat=b.toNat:=by rw[I5];omega
 rw[e2];omega
theorem Jmi(i:Nat):(2:Nat)^(7*i)=128^i:=by rw[Nat.pow_mul]
theorem JlZ(h:i<=9):128^i<=9223372036854775808:=by
 have:128^i<=128^9:=Og ab h;have e:(128:Nat)^9=9223372036854775808:=by decide
 omega
theorem Jmh(h:i<=8):128^i<=72057594037927936:=by
 have:128^i<=128^8:=Og ab h;have e:(128:Nat)^8=72057594037927936:=by decide
 omega
theorem JlV(hi:i<=9)(hc:c<128)(h9:i=9->c<=1):c*128^i<=9223372036854775808:=by
 by_cases h:i=9
 .subst h;have:=h9 rfl;have e:(128:Nat)^9=9223372036854775808:=by decide
  have:c*128^9<=1*128^9:=Em _ this;omega
 .have h1:=Jmh (i:=i) ab;have:c*128^i<=127*72057594037927936:=Nat.mul_le_mul ab h1;omega
theorem JnD(hi:i<=9)(hc:c<128)(h9:i=9->c<=1):IntKind.u64.wrap ((c:Int)*2^(min ((7:Int)*(i:Int)).toNat IntKind.u64.bits))=((c*128^i:Nat):Int):=by
 have hb:=JlV hi hc h9;have e1:min ((7:Int)*(i:Int)).toNat IntKind.u64.bits=7*i:=by
  have:IntKind.u64.bits=64:=rfl;rw[this];omega
 have e3:((c:Int)*2^(7*i))=((c*128^i:Nat):Int):=by rw[<-Jmi];simp
 rw[e1,e3,X7];omega
theorem Jno{acc:Nat}(hi:i<=9)(hc:c<128)(h9:i=9->c<=1)(ha:acc<128^i):
 IntKind.u64.wrap ((BitVec.ofInt IntKind.u64.bits (acc:Int)|||BitVec.ofInt IntKind.u64.bits ((c*128^i:Nat):Int)).toNat:Int)=((acc+c*128^i:Nat):Int):=by
 have hb:=JlV hi hc h9;have hp:=JlZ hi;show IntKind.u64.wrap ((BitVec.ofInt 64 (acc:Int)|||BitVec.ofInt 64 ((c*128^i:Nat):Int)).toNat:Int)=_;have e:acc|||c*128^i=acc+c*128^i:=by
  have:=Nat.shiftLeft_add_eq_or_of_lt (a:=c) (b:=acc) (i:=7*i) (by rw[Jmi];exact ha);rw[Nat.shiftLeft_eq,Jmi]at this;rw[Nat.or_comm,<-this];omega
 rw[BitVec.toNat_or,ofInt64 _ ab ab,ofInt64 _ ab ab,EG,EG,e,X7];omega
def nC:List Int->Nat->Nat->Except Int (Nat×List Int)
 |[],_,_=>.error 3
 |b::l,i,n=>if i=9/\1<b\/0<i/\b=0 then .error 2 else if b<128 then .ok (n+(b%128).toNat*128^i,l) else nC l (i+1) (n+(b%128).toNat*128^i)
def j2(bs:List Int)(e:Int):Nat×List Int×Int:=
 if e≠0 then(0,bs,e) else match nC bs 0 0 with
  |.error x=>(0,bs,x)
  |.ok (n,l)=>(n,l,0)
def fT(bs:List Int):Prop:=∀b∈bs,0<=b/\b<256
theorem JmG:∀(bs:List Int) (i n m:Nat) (l:List Int),nC bs i n=.ok (m,l)->i<=9->n<128^i->fT bs->m<18446744073709551616/\l.length<bs.length/\∃k,l=bs.drop k
 |[],i,n,m,l,h,_,_,_=>by simp[nC]at h
 |b::bs,i,n,m,l,h,hi,hn,hB=>by
  have hb:=hB b ap;unfold nC at h
  split at h
  .cases h
  .rename_i fQ;have hc:(b%128).toNat<128:=by omega
   have h9:i=9->(b%128).toNat<=1:=by omega
   have kN:=JlV hi hc h9;have hp:=JlZ hi
   split at h
   .simp only[HY,Sz]at h;obtain⟨rfl,rfl⟩:=h;exact⟨by omega,by simp,1,by simp⟩
   .have hi8:i<=8:=by omega
    have aC:n+(b%128).toNat*128^i<128^(i+1):=by
     have:(b%128).toNat*128^i<=127*128^i:=Em _ ab;rw[Oa];omega
    obtain⟨h1,h2,k,h3⟩:=JmG bs (i+1) _ m l h ab aC (fun x hx=>hB x lA);exact⟨h1,by simp;omega,k+1,by simpa using h3⟩
theorem Jl1:∀(bs:List Int) (i n:Nat) (x:Int),nC bs i n=.error x->x=2\/x=3
 |[],i,n,x,h=>by simp[nC]at h;exact .inr h.symm
 |b::bs,i,n,x,h=>by
  unfold nC at h
  split at h
  .simp at h;exact .inl h.symm
  .split at h
   .cases h
   .exact Jl1 bs _ _ x h
theorem JlN{bs:List Int}(hB:fT bs):(j2 bs e).1<18446744073709551616/\(j2 bs e).2.1.length<=bs.length/\(∃k,(j2 bs e).2.1=bs.drop k)/\((j2 bs e).2.2=0->(j2 bs e).2.1.length<bs.length):=by
 unfold j2
 split
 .rename_i h;exact⟨by omega,SX _,⟨0,by simp⟩,fun h'=>absurd h' h⟩
 .cases hr:nC bs 0 0 with
  |error x=>
   have:=Jl1 bs 0 0 x hr;exact⟨by simp,SX _,⟨0,by simp⟩,fun h'=>by simp only at h';omega⟩
  |ok r=>
   obtain⟨m,l⟩:=r;obtain⟨h1,h2,h3⟩:=JmG bs 0 0 m l hr ab ap hB;exact⟨h1,Iq h2,h3,fun _=>h2⟩
theorem fT.drop{bs:List Int}(h:fT bs)(k:Nat):fT (bs.drop k):=fun b hb=>h b (IG hb)
theorem fT.take{bs:List Int}(h:fT bs)(k:Nat):fT (bs.take k):=fun b hb=>h b (E5 hb)
theorem JmX{bs:List Int}(hB:fT bs):fT (j2 bs e).2.1:=by
 obtain⟨_,_,⟨k,h⟩,_⟩:=JlN (e:=e) hB;rw[h];exact hB.drop k
def back(u:Nat):Int:=if u%2=1 then -((u/2:Nat):Int)-1 else((u/2:Nat):Int)
def qC(bs:List Int)(e:Int):Int×List Int×Int:=(back (j2 bs e).1,(j2 bs e).2.1,(j2 bs e).2.2)
def lf(bs:List Int)(e:Int):Nat×List Int×Int:=
 if(j2 bs e).2.2≠0 then(0,(j2 bs e).2.1,(j2 bs e).2.2) else if(j2 bs e).2.1.length<(j2 bs e).1 then(0,(j2 bs e).2.1,3) else((j2 bs e).1,(j2 bs e).2.1,0)
theorem JmF{bs:List Int}(hB:fT bs):(lf bs e).1<=(lf bs e).2.1.length/\(lf bs e).2.1.length<=bs.length/\(∃k,(lf bs e).2.1=bs.drop k)/\((lf bs e).2.2≠0->(lf bs e).1=0):=by
 have h:=JlN (e:=e) hB;unfold lf
 split
 .exact ⟨by simp,h.2.1,h.2.2.1,fun _=>rfl⟩
 .split
  .exact ⟨by simp,h.2.1,h.2.2.1,fun _=>rfl⟩
  .exact ⟨by simp only;omega,h.2.1,h.2.2.1,fun h'=>absurd rfl h'⟩
def pu(bs:List Int)(e:Int):List Int×List Int×Int:=((lf bs e).2.1.take (lf bs e).1,(lf bs e).2.1.drop (lf bs e).1,(lf bs e).2.2)
def th(bs:List Int)(e:Int):Int:=if e≠0 then e else if 0<bs.length then 2 else 0
theorem ieb{u:Nat}(h:u<18446744073709551616):IntKind.u64.wrap ((BitVec.ofInt IntKind.u64.bits (u:Int)&&& BitVec.ofInt IntKind.u64.bits 1).toNat:Int)=((u%2:Nat):Int):=by
 show IntKind.u64.wrap ((BitVec.ofInt 64 (u:Int)&&& BitVec.ofInt 64 1).toNat:Int)=_;rw[BitVec.toNat_and,ofInt64 _ ab ab,ofInt64 _ ab ab,X7];have:(u:Int).toNat&&& (1:Int).toNat=u%2:=by rw[EG];exact Nat.and_one_is_mod u
 rw[this];omega
theorem JnC(u:Nat):((u:Int)).fdiv (2^(min (1:Int).toNat IntKind.u64.bits))=((u/2:Nat):Int):=by
 have:(2^(min (1:Int).toNat IntKind.u64.bits):Int)=2:=by decide
 rw[this,Fa _ ab];omega
theorem Jnw(h0:0<=a)(h1:a<=9223372036854775807):IntKind.i64.wrap ((BitVec.ofInt IntKind.i64.bits a^^^BitVec.ofInt IntKind.i64.bits 0).toNat:Int)=a:=by
 show IntKind.i64.wrap ((BitVec.ofInt 64 a^^^BitVec.ofInt 64 0).toNat:Int)=_;have e:BitVec.ofInt 64 0=0#64:=by decide
 rw[e,BitVec.xor_zero,ofInt64 a h0 ab,Jmb];omega
theorem Jnv(h0:0<=a)(h1:a<=9223372036854775807):IntKind.i64.wrap ((BitVec.ofInt IntKind.i64.bits a^^^BitVec.ofInt IntKind.i64.bits (-1)).toNat:Int)= -a-1:=by
 show IntKind.i64.wrap ((BitVec.ofInt 64 a^^^BitVec.ofInt 64 (-1)).toNat:Int)=_;have e:BitVec.ofInt 64 (-1)=BitVec.allOnes 64:=by decide
 rw[e,Oj,BitVec.toNat_not,ofInt64 a h0 ab,Jmb];exact Ymd
end Go.Rf
namespace Go.Proofs.YtggmccicdhnkgaaGreat
open Go.Proofs.Tryz
section
open Go.Rf
instance:IntT prog 3 .i64:=⟨underlying3⟩
instance:OneT prog 3:=⟨⟨_,underlying3,rfl⟩,Jo az⟩
instance:ZeroT prog 3 (zI):=⟨JO az⟩
instance:OneT prog 4:=⟨⟨_,underlying4,rfl⟩,Jo az⟩
instance:ZeroT prog 4 (.bool false):=⟨JO az⟩
instance:IntT prog 5 .u8:=⟨underlying5⟩
instance:OneT prog 5:=⟨⟨_,underlying5,rfl⟩,Jo az⟩
instance:StrT prog 9:=⟨underlying9⟩
instance:OneT prog 9:=⟨⟨_,underlying9,rfl⟩,Jo az⟩
instance:SliceT prog 22 3:=⟨underlying22⟩
instance:RowT prog 22 3 1 8:=⟨underlying22,JG (z:=zI) az az,by decide⟩
instance:OneT prog 22:=⟨⟨_,underlying22,rfl⟩,Jo az⟩
instance:RowZ prog 22 3 1 8 [zI]:=⟨inferInstance,KT (v:=zI) az rfl rfl⟩
instance:SliceT prog 23 105:=⟨underlying23⟩
instance:RowT prog 23 105 45 768:=⟨underlying23,JG (z:=.agg #[zI,.string .empty,zI,zS,zS,zI,.string .empty,zS,zI,.string .empty,zI,zS,zS,zS,zI,zI,zI,.string .empty,zS,zS,zS,zI,zS,zS,zS,zS,zI,.string .empty,zS,zI,.string .empty,zI,zS,zS,zS,zI,zS,zS,zI,.string .empty,zI,zS,zS,zS,zI]) az az,by decide⟩
instance:OneT prog 23:=⟨⟨_,underlying23,rfl⟩,Jo az⟩
instance:ZeroT prog 23 (zS):=⟨JO az⟩
instance:AggT prog 25 1:=⟨⟨_,underlying25,rfl⟩,Jo az⟩
instance:ZeroT prog 25 (.agg #[zS]):=⟨JO az⟩
instance:BuildT prog 25 [zS] [(0,1)]:=⟨J9 (v:=.agg #[zS]) az rfl,⟨_,underlying25,fun w=>by kernel_rfl⟩⟩
instance:FieldT prog 25 0 0:=cw 1 underlying25
instance:PtrT prog 27:=⟨⟨_,underlying27⟩⟩
instance:SliceT prog 31 50:=⟨underlying31⟩
instance:RowT prog 31 50 3 32:=⟨underlying31,JG (z:=.agg #[.string .empty,zI,zI]) az az,by decide⟩
instance:OneT prog 31:=⟨⟨_,underlying31,rfl⟩,Jo az⟩
instance:ZeroT prog 31 (zS):=⟨JO az⟩
instance:RowZ prog 31 50 3 32 [.string .empty,zI,zI]:=⟨inferInstance,KT (v:=.agg #[.string .empty,zI,zI]) az rfl rfl⟩
instance:OneT prog 34:=⟨⟨_,underlying34,rfl⟩,Jo az⟩
instance:AggT prog 36 3:=⟨⟨_,underlying36,rfl⟩,Jo az⟩
instance:ZeroT prog 36 (.agg #[zI,zI,zI]):=⟨JO az⟩
instance:BuildT prog 36 [zI,zI,zI] [(0,1),(1,1),(2,1)]:=⟨J9 (v:=.agg #[zI,zI,zI]) az rfl,⟨_,underlying36,fun w=>by kernel_rfl⟩⟩
instance:FieldT prog 36 0 0:=cw 1 underlying36
instance:FieldT prog 36 1 1:=cw 1 underlying36
instance:FieldT prog 36 2 2:=cw 1 underlying36
instance:AggT prog 38 6:=⟨⟨_,underlying38,rfl⟩,Jo az⟩
instance:ZeroT prog 38 (.agg #[zI,zI,zI,zS,zS,zI]):=⟨JO az⟩
instance:BuildT prog 38 [zI,zI,zI,zS,zS,zI] [(0,3),(3,1),(4,1),(5,1)]:=⟨J9 (v:=.agg #[zI,zI,zI,zS,zS,zI]) az rfl,⟨_,underlying38,fun w=>by kernel_rfl⟩⟩
instance:FieldT prog 38 0 0:=cw 3 underlying38
instance:FieldT prog 38 1 3:=cw 1 underlying38
instance:FieldT prog 38 2 4:=cw 1 underlying38
instance:AggT prog 41 5:=⟨⟨_,underlying41,rfl⟩,Jo az⟩
instance:ZeroT prog 41 (.agg #[zI,zI,zI,zS,zS]):=⟨JO az⟩
instance:BuildT prog 41 [zI,zI,zI,zS,zS] [(0,3),(3,1),(4,1)]:=⟨J9 (v:=.agg #[zI,zI,zI,zS,zS]) az rfl,⟨_,underlying41,fun w=>by kernel_rfl⟩⟩
instance:FieldT prog 41 0 0:=cw 3 underlying41
instance:FieldT prog 41 1 3:=cw 1 underlying41
instance:FieldT prog 41 2 4:=cw 1 underlying41
instance:SliceT prog 45 52:=⟨underlying45⟩
instance:RowT prog 45 52 4 40:=⟨underlying45,JG (z:=.agg #[.string .empty,zI,zI,zI]) az az,by decide⟩
instance:OneT prog 45:=⟨⟨_,underlying45,rfl⟩,Jo az⟩
instance:RowZ prog 45 52 4 40 [.string .empty,zI,zI,zI]:=⟨inferInstance,KT (v:=.agg #[.string .empty,zI,zI,zI]) az rfl rfl⟩
instance:AggT prog 47 5:=⟨⟨_,underlying47,rfl⟩,Jo az⟩
instance:ZeroT prog 47 (.agg #[zI,zS,zI,zS,zS]):=⟨JO az⟩
instance:BuildT prog 47 [zI,zS,zI,zS,zS] [(0,1),(1,1),(2,1),(3,1),(4,1)]:=⟨J9 (v:=.agg #[zI,zS,zI,zS,zS]) az rfl,⟨_,underlying47,fun w=>by kernel_rfl⟩⟩
instance:FieldT prog 47 0 0:=cw 1 underlying47
instance:FieldT prog 47 1 1:=cw 1 underlying47
instance:FieldT prog 47 2 2:=cw 1 underlying47
instance:FieldT prog 47 3 3:=cw 1 underlying47
instance:FieldT prog 47 4 4:=cw 1 underlying47
instance:AggT prog 50 3:=⟨⟨_,underlying50,rfl⟩,Jo az⟩
instance:ZeroT prog 50 (.agg #[.string .empty,zI,zI]):=⟨JO az⟩
instance:BuildT prog 50 [.string .empty,zI,zI] [(0,1),(1,1),(2,1)]:=⟨J9 (v:=.agg #[.string .empty,zI,zI]) az rfl,⟨_,underlying50,fun w=>by kernel_rfl⟩⟩
instance:FieldT prog 50 0 0:=cw 1 underlying50
instance:FieldT prog 50 1 1:=cw 1 underlying50
instance:FieldT prog 50 2 2:=cw 1 underlying50
instance:BuildT prog 52 [.string .empty,zI,zI,zI] [(0,3),(3,1)]:=⟨J9 (v:=.agg #[.string .empty,zI,zI,zI]) az rfl,⟨_,underlying52,fun w=>by kernel_rfl⟩⟩
instance:FieldT prog 52 0 0:=cw 3 underlying52
instance:FieldT prog 52 1 3:=cw 1 underlying52
instance:SliceT prog 64 5:=⟨underlying64⟩
instance:RowT prog 64 5 1 1:=⟨underlying64,JG (z:=.int .u8 0) az az,by decide⟩
instance:OneT prog 64:=⟨⟨_,underlying64,rfl⟩,Jo az⟩
instance:U8T prog 64:=⟨⟨5,underlying64,underlying5⟩⟩
instance:OneT prog 72:=⟨⟨_,underlying72,rfl⟩,Jo az⟩
instance:SliceT prog 86 219:=⟨underlying86⟩
instance:RowT prog 86 219 2 40:=⟨underlying86,JG (z:=.agg #[.string .empty,zS]) az az,by decide⟩
instance:OneT prog 86:=⟨⟨_,underlying86,rfl⟩,Jo az⟩
instance:RowZ prog 86 219 2 40 [.string .empty,zS]:=⟨inferInstance,KT (v:=.agg #[.string .empty,zS]) az rfl rfl⟩
instance:SliceT prog 87 223:=⟨underlying87⟩
instance:RowT prog 87 223 4 64:=⟨underlying87,JG (z:=.agg #[.string .empty,zI,.string .empty,zS]) az az,by decide⟩
instance:OneT prog 87:=⟨⟨_,underlying87,rfl⟩,Jo az⟩
instance:RowZ prog 87 223 4 64 [.string .empty,zI,.string .empty,zS]:=⟨inferInstance,KT (v:=.agg #[.string .empty,zI,.string .empty,zS]) az rfl rfl⟩
instance:SliceT prog 88 90:=⟨underlying88⟩
instance:RowT prog 88 90 3 48:=⟨underlying88,JG (z:=.agg #[zI,.string .empty,zS]) az az,by decide⟩
instance:OneT prog 88:=⟨⟨_,underlying88,rfl⟩,Jo az⟩
instance:RowZ prog 88 90 3 48 [zI,.string .empty,zS]:=⟨inferInstance,KT (v:=.agg #[zI,.string .empty,zS]) az rfl rfl⟩
instance:AggT prog 90 3:=⟨⟨_,underlying90,rfl⟩,Jo az⟩
instance:ZeroT prog 90 (.agg #[zI,.string .empty,zS]):=⟨JO az⟩
instance:BuildT prog 90 [zI,.string .empty,zS] [(0,1),(1,1),(2,1)]:=⟨J9 (v:=.agg #[zI,.string .empty,zS]) az rfl,⟨_,underlying90,fun w=>by kernel_rfl⟩⟩
instance:FieldT prog 90 0 0:=cw 1 underlying90
instance:FieldT prog 90 1 1:=cw 1 underlying90
instance:FieldT prog 90 2 2:=cw 1 underlying90
instance:SliceT prog 91 9:=⟨underlying91⟩
instance:RowT prog 91 9 1 16:=⟨underlying91,JG (z:=.string .empty) az az,by decide⟩
instance:OneT prog 91:=⟨⟨_,underlying91,rfl⟩,Jo az⟩
instance:RowZ prog 91 9 1 16 [.string .empty]:=⟨inferInstance,KT (v:=.string .empty) az rfl rfl⟩
instance:SliceT prog 92 91:=⟨underlying92⟩
instance:RowT prog 92 91 1 24:=⟨underlying92,JG (z:=zS) az az,by decide⟩
instance:OneT prog 92:=⟨⟨_,underlying92,rfl⟩,Jo az⟩
instance:RowZ prog 92 91 1 24 [zS]:=⟨inferInstance,KT (v:=zS) az rfl rfl⟩
instance:SliceT prog 93 95:=⟨underlying93⟩
instance:RowT prog 93 95 7 112:=⟨underlying93,JG (z:=.agg #[zI,.string .empty,zI,zS,zS,zS,zI]) az az,by decide⟩
instance:OneT prog 93:=⟨⟨_,underlying93,rfl⟩,Jo az⟩
instance:RowZ prog 93 95 7 112 [zI,.string .empty,zI,zS,zS,zS,zI]:=⟨inferInstance,KT (v:=.agg #[zI,.string .empty,zI,zS,zS,zS,zI]) az rfl rfl⟩
instance:AggT prog 95 7:=⟨⟨_,underlying95,rfl⟩,Jo az⟩
instance:ZeroT prog 95 (.agg #[zI,.string .empty,zI,zS,zS,zS,zI]):=⟨JO az⟩
instance:BuildT prog 95 [zI,.string .empty,zI,zS,zS,zS,zI] [(0,1),(1,1),(2,1),(3,1),(4,1),(5,1),(6,1)]:=⟨J9 (v:=.agg #[zI,.string .empty,zI,zS,zS,zS,zI]) az rfl,⟨_,underlying95,fun w=>by kernel_rfl⟩⟩
instance:FieldT prog 95 0 0:=cw 1 underlying95
instance:FieldT prog 95 1 1:=cw 1 underlying95
instance:FieldT prog 95 2 2:=cw 1 underlying95
instance:FieldT prog 95 3 3:=cw 1 underlying95
instance:FieldT prog 95 4 4:=cw 1 underlying95
instance:FieldT prog 95 5 5:=cw 1 underlying95
instance:FieldT prog 95 6 6:=cw 1 underlying95
instance:SliceT prog 96 98:=⟨underlying96⟩
instance:RowT prog 96 98 6 104:=⟨underlying96,JG (z:=.agg #[zI,.string .empty,zS,zS,zS,zI]) az az,by decide⟩
instance:OneT prog 96:=⟨⟨_,underlying96,rfl⟩,Jo az⟩
instance:RowZ prog 96 98 6 104 [zI,.string .empty,zS,zS,zS,zI]:=⟨inferInstance,KT (v:=.agg #[zI,.string .empty,zS,zS,zS,zI]) az rfl rfl⟩
instance:AggT prog 98 6:=⟨⟨_,underlying98,rfl⟩,Jo az⟩
instance:ZeroT prog 98 (.agg #[zI,.string .empty,zS,zS,zS,zI]):=⟨JO az⟩
instance:BuildT prog 98 [zI,.string .empty,zS,zS,zS,zI] [(0,1),(1,1),(2,1),(3,1),(4,1),(5,1)]:=⟨J9 (v:=.agg #[zI,.string .empty,zS,zS,zS,zI]) az rfl,⟨_,underlying98,fun w=>by kernel_rfl⟩⟩
instance:FieldT prog 98 0 0:=cw 1 underlying98
instance:FieldT prog 98 1 1:=cw 1 underlying98
instance:FieldT prog 98 2 2:=cw 1 underlying98
instance:FieldT prog 98 3 3:=cw 1 underlying98
instance:FieldT prog 98 4 4:=cw 1 underlying98
instance:SliceT prog 99 230:=⟨underlying99⟩
instance:RowT prog 99 230 11 176:=⟨underlying99,JG (z:=.agg #[.string .empty,zI,.string .empty,zS,zI,.string .empty,zS,zS,zS,zI,.bool false]) az az,by decide⟩
instance:OneT prog 99:=⟨⟨_,underlying99,rfl⟩,Jo az⟩
instance:RowZ prog 99 230 11 176 [.string .empty,zI,.string .empty,zS,zI,.string .empty,zS,zS,zS,zI,.bool false]:=⟨inferInstance,KT (v:=.agg #[.string .empty,zI,.string .empty,zS,zI,.string .empty,zS,zS,zS,zI,.bool false]) az rfl rfl⟩
instance:SliceT prog 100 132:=⟨underlying100⟩
instance:RowT prog 100 132 8 128:=⟨underlying100,JG (z:=.agg #[.string .empty,zI,.string .empty,zI,zS,zS,zS,zI]) az az,by decide⟩
instance:OneT prog 100:=⟨⟨_,underlying100,rfl⟩,Jo az⟩
instance:RowZ prog 100 132 8 128 [.string .empty,zI,.string .empty,zI,zS,zS,zS,zI]:=⟨inferInstance,KT (v:=.agg #[.string .empty,zI,.string .empty,zI,zS,zS,zS,zI]) az rfl rfl⟩
instance:SliceT prog 101 236:=⟨underlying101⟩
instance:RowT prog 101 236 3 32:=⟨underlying101,JG (z:=.agg #[.string .empty,zI,zI]) az az,by decide⟩
instance:OneT prog 101:=⟨⟨_,underlying101,rfl⟩,Jo az⟩
instance:RowZ prog 101 236 3 32 [.string .empty,zI,zI]:=⟨inferInstance,KT (v:=.agg #[.string .empty,zI,zI]) az rfl rfl⟩
instance:SliceT prog 102 176:=⟨underlying102⟩
instance:RowT prog 102 176 23 376:=⟨underlying102,JG (z:=.agg #[.string .empty,zS,zI,.string .empty,zI,zS,zS,zS,zI,zI,.string .empty,zI,zS,zS,zS,zI,zI,.string .empty,zI,zS,zS,zS,zI]) az az,by decide⟩
instance:OneT prog 102:=⟨⟨_,underlying102,rfl⟩,Jo az⟩
instance:RowZ prog 102 176 23 376 [.string .empty,zS,zI,.string .empty,zI,zS,zS,zS,zI,zI,.string .empty,zI,zS,zS,zS,zI,zI,.string .empty,zI,zS,zS,zS,zI]:=⟨inferInstance,KT (v:=.agg #[.string .empty,zS,zI,.string .empty,zI,zS,zS,zS,zI,zI,.string .empty,zI,zS,zS,zS,zI,zI,.string .empty,zI,zS,zS,zS,zI]) az rfl rfl⟩
instance:SliceT prog 103 179:=⟨underlying103⟩
instance:RowT prog 103 179 3 64:=⟨underlying103,JG (z:=.agg #[.string .empty,zS,zS]) az az,by decide⟩
instance:OneT prog 103:=⟨⟨_,underlying103,rfl⟩,Jo az⟩
instance:RowZ prog 103 179 3 64 [.string .empty,zS,zS]:=⟨inferInstance,KT (v:=.agg #[.string .empty,zS,zS]) az rfl rfl⟩
instance:AggT prog 105 45:=⟨⟨_,underlying105,rfl⟩,Jo az⟩
instance:FieldT prog 105 0 0:=cw 1 underlying105
instance:FieldT prog 105 1 1:=cw 1 underlying105
instance:FieldT prog 105 2 2:=cw 1 underlying105
instance:FieldT prog 105 3 3:=cw 1 underlying105
instance:FieldT prog 105 4 4:=cw 1 underlying105
instance:FieldT prog 105 5 5:=cw 3 underlying105
instance:FieldT prog 105 6 8:=cw 7 underlying105
instance:FieldT prog 105 7 15:=cw 1 underlying105
instance:FieldT prog 105 8 16:=cw 6 underlying105
instance:FieldT prog 105 9 22:=cw 1 underlying105
instance:FieldT prog 105 10 23:=cw 1 underlying105
instance:FieldT prog 105 11 24:=cw 1 underlying105
instance:FieldT prog 105 12 25:=cw 1 underlying105
instance:FieldT prog 105 13 26:=cw 3 underlying105
instance:FieldT prog 105 14 29:=cw 7 underlying105
instance:FieldT prog 105 15 36:=cw 1 underlying105
instance:FieldT prog 105 16 37:=cw 1 underlying105
instance:FieldT prog 105 17 38:=cw 7 underlying105
instance:OneT prog 107:=⟨⟨_,underlying107,rfl⟩,Jo az⟩
instance:ZeroT prog 107 (.map none):=⟨JO az⟩
instance:OneT prog 114:=⟨⟨_,underlying114,rfl⟩,Jo az⟩
instance:ZeroT prog 114 (.nilFunc):=⟨JO az⟩
instance:SliceT prog 118 41:=⟨underlying118⟩
instance:RowT prog 118 41 5 72:=⟨underlying118,JG (z:=.agg #[zI,zI,zI,zS,zS]) az az,by decide⟩
instance:OneT prog 118:=⟨⟨_,underlying118,rfl⟩,Jo az⟩
instance:RowZ prog 118 41 5 72 [zI,zI,zI,zS,zS]:=⟨inferInstance,KT (v:=.agg #[zI,zI,zI,zS,zS]) az rfl rfl⟩
instance:BuildT prog 120 [.string .empty,zI,zI,zS,zS] [(0,1),(1,1),(2,1),(3,1),(4,1)]:=⟨J9 (v:=.agg #[.string .empty,zI,zI,zS,zS]) az rfl,⟨_,underlying120,fun w=>by kernel_rfl⟩⟩
instance:FieldT prog 120 0 0:=cw 1 underlying120
instance:FieldT prog 120 1 1:=cw 1 underlying120
instance:FieldT prog 120 2 2:=cw 1 underlying120
instance:FieldT prog 120 3 3:=cw 1 underlying120
instance:FieldT prog 120 4 4:=cw 1 underlying120
instance:AggT prog 121 3:=⟨⟨_,underlying121,rfl⟩,Jo az⟩
instance:ArrT prog 121 3 3 1:=⟨underlying121,Jo az⟩
instance:OneT prog 122:=⟨⟨_,underlying122,rfl⟩,Jo az⟩
instance:OneT prog 123:=⟨⟨_,underlying123,rfl⟩,Jo az⟩
instance:AggT prog 125 10:=⟨⟨_,underlying125,rfl⟩,Jo az⟩
instance:ZeroT prog 125 (.agg #[.string .empty,zI,zS,zI,zI,zI,zI,zS,.map none,.map none]):=⟨JO az⟩
instance:BuildT prog 125 [.string .empty,zI,zS,zI,zI,zI,zI,zS,.map none,.map none] [(0,1),(1,1),(2,1),(3,1),(4,3),(7,1),(8,1),(9,1)]:=⟨J9 (v:=.agg #[.string .empty,zI,zS,zI,zI,zI,zI,zS,.map none,.map none]) az rfl,⟨_,underlying125,fun w=>by kernel_rfl⟩⟩
instance:FieldT prog 125 0 0:=cw 1 underlying125
instance:FieldT prog 125 1 1:=cw 1 underlying125
instance:FieldT prog 125 2 2:=cw 1 underlying125
instance:FieldT prog 125 3 3:=cw 1 underlying125
instance:FieldT prog 125 4 4:=cw 3 underlying125
instance:FieldT prog 125 5 7:=cw 1 underlying125
instance:FieldT prog 125 6 8:=cw 1 underlying125
instance:FieldT prog 125 7 9:=cw 1 underlying125
instance:SliceT prog 126 128:=⟨underlying126⟩
instance:RowT prog 126 128 6 64:=⟨underlying126,JG (z:=.agg #[.string .empty,zI,zI,.string .empty,zI,zI]) az az,by decide⟩
instance:RowZ prog 126 128 6 64 [.string .empty,zI,zI,.string .empty,zI,zI]:=⟨inferInstance,KT (v:=.agg #[.string .empty,zI,zI,.string .empty,zI,zI]) az rfl rfl⟩
instance:AggT prog 128 6:=⟨⟨_,underlying128,rfl⟩,Jo az⟩
instance:ArrT prog 128 2 50 3:=⟨underlying128,Jo az⟩
instance:ZeroT prog 128 (.agg #[.string .empty,zI,zI,.string .empty,zI,zI]):=⟨JO az⟩
instance:AggT prog 132 8:=⟨⟨_,underlying132,rfl⟩,Jo az⟩
instance:ZeroT prog 132 (.agg #[.string .empty,zI,.string .empty,zI,zS,zS,zS,zI]):=⟨JO az⟩
instance:BuildT prog 132 [.string .empty,zI,.string .empty,zI,zS,zS,zS,zI] [(0,1),(1,7)]:=⟨J9 (v:=.agg #[.string .empty,zI,.string .empty,zI,zS,zS,zS,zI]) az rfl,⟨_,underlying132,fun w=>by kernel_rfl⟩⟩
instance:FieldT prog 132 0 0:=cw 1 underlying132
instance:FieldT prog 132 1 1:=cw 7 underlying132
instance:ZeroT prog 139 (.agg #[zS]):=⟨JO az⟩
instance:FieldT prog 139 0 0:=cw 1 underlying139
instance:BuildT prog 147 [zS,zI] [(0,1),(1,1)]:=⟨J9 (v:=.agg #[zS,zI]) az rfl,⟨_,underlying147,fun w=>by kernel_rfl⟩⟩
instance:FieldT prog 147 0 0:=cw 1 underlying147
instance:FieldT prog 147 1 1:=cw 1 underlying147
instance:IntT prog 149 .u64:=⟨underlying149⟩
instance:BuildT prog 154 [.pointer none,zI,.bool false] [(0,1),(1,1),(2,1)]:=⟨J9 (v:=.agg #[.pointer none,zI,.bool false]) az rfl,⟨_,underlying154,fun w=>by kernel_rfl⟩⟩
instance:FieldT prog 154 0 0:=cw 1 underlying154
instance:FieldT prog 154 1 1:=cw 1 underlying154
instance:FieldT prog 154 2 2:=cw 1 underlying154
instance:SliceT prog 156 199:=⟨underlying156⟩
instance:RowT prog 156 199 4 40:=⟨underlying156,JG (z:=.agg #[zI,zI,zI,.string .empty]) az az,by decide⟩
instance:OneT prog 156:=⟨⟨_,underlying156,rfl⟩,Jo az⟩
instance:RowZ prog 156 199 4 40 [zI,zI,zI,.string .empty]:=⟨inferInstance,KT (v:=.agg #[zI,zI,zI,.string .empty]) az rfl rfl⟩
instance:BuildT prog 161 [.string .empty,zS,zI,.bool false] [(0,1),(1,1),(2,1),(3,1)]:=⟨J9 (v:=.agg #[.string .empty,zS,zI,.bool false]) az rfl,⟨_,underlying161,fun w=>by kernel_rfl⟩⟩
instance:FieldT prog 161 0 0:=cw 1 underlying161
instance:FieldT prog 161 1 1:=cw 1 underlying161
instance:FieldT prog 161 2 2:=cw 1 underlying161
instance:FieldT prog 161 3 3:=cw 1 underlying161
instance:AggT prog 164 4:=⟨⟨_,underlying164,rfl⟩,Jo az⟩
instance:ZeroT prog 164 (.agg #[.bool false,.bool false,.bool false,.bool false]):=⟨JO az⟩
instance:BuildT prog 164 [.bool false,.bool false,.bool false,.bool false] [(0,1),(1,1),(2,1),(3,1)]:=⟨J9 (v:=.agg #[.bool false,.bool false,.bool false,.bool false]) az rfl,⟨_,underlying164,fun w=>by kernel_rfl⟩⟩
instance:FieldT prog 164 0 0:=cw 1 underlying164
instance:FieldT prog 164 1 1:=cw 1 underlying164
instance:FieldT prog 164 2 2:=cw 1 underlying164
instance:FieldT prog 164 3 3:=cw 1 underlying164
instance:BuildT prog 171 [zS,zI] [(0,1),(1,1)]:=⟨J9 (v:=.agg #[zS,zI]) az rfl,⟨_,underlying171,fun w=>by kernel_rfl⟩⟩
instance:FieldT prog 171 0 0:=cw 1 underlying171
instance:FieldT prog 171 1 1:=cw 1 underlying171
instance:AggT prog 176 23:=⟨⟨_,underlying176,rfl⟩,Jo az⟩
instance:ZeroT prog 176 (.agg #[.string .empty,zS,zI,.string .empty,zI,zS,zS,zS,zI,zI,.string .empty,zI,zS,zS,zS,zI,zI,.string .empty,zI,zS,zS,zS,zI]):=⟨JO az⟩
instance:BuildT prog 176 [.string .empty,zS,zI,.string .empty,zI,zS,zS,zS,zI,zI,.string .empty,zI,zS,zS,zS,zI,zI,.string .empty,zI,zS,zS,zS,zI] [(0,1),(1,1),(2,7),(9,7),(16,7)]:=⟨J9 (v:=.agg #[.string .empty,zS,zI,.string .empty,zI,zS,zS,zS,zI,zI,.string .empty,zI,zS,zS,zS,zI,zI,.string .empty,zI,zS,zS,zS,zI]) az rfl,⟨_,underlying176,fun w=>by kernel_rfl⟩⟩
instance:FieldT prog 176 0 0:=cw 1 underlying176
instance:FieldT prog 176 1 1:=cw 1 underlying176
instance:FieldT prog 176 2 2:=cw 7 underlying176
instance:FieldT prog 176 3 9:=cw 7 underlying176
instance:FieldT prog 176 4 16:=cw 7 underlying176
instance:SliceT prog 177 181:=⟨underlying177⟩
instance:RowT prog 177 181 14 224:=⟨underlying177,JG (z:=.agg #[zI,.string .empty,zI,zS,zS,zS,zI,zI,.string .empty,zI,zS,zS,zS,zI]) az az,by decide⟩
instance:OneT prog 177:=⟨⟨_,underlying177,rfl⟩,Jo az⟩
instance:RowZ prog 177 181 14 224 [zI,.string .empty,zI,zS,zS,zS,zI,zI,.string .empty,zI,zS,zS,zS,zI]:=⟨inferInstance,KT (v:=.agg #[zI,.string .empty,zI,zS,zS,zS,zI,zI,.string .empty,zI,zS,zS,zS,zI]) az rfl rfl⟩
instance:AggT prog 179 3:=⟨⟨_,underlying179,rfl⟩,Jo az⟩
instance:ZeroT prog 179 (.agg #[.string .empty,zS,zS]):=⟨JO az⟩
instance:BuildT prog 179 [.string .empty,zS,zS] [(0,1),(1,1),(2,1)]:=⟨J9 (v:=.agg #[.string .empty,zS,zS]) az rfl,⟨_,underlying179,fun w=>by kernel_rfl⟩⟩
instance:FieldT prog 179 0 0:=cw 1 underlying179
instance:FieldT prog 179 1 1:=cw 1 underlying179
instance:FieldT prog 179 2 2:=cw 1 underlying179
instance:AggT prog 181 14:=⟨⟨_,underlying181,rfl⟩,Jo az⟩
instance:ZeroT prog 181 (.agg #[zI,.string .empty,zI,zS,zS,zS,zI,zI,.string .empty,zI,zS,zS,zS,zI]):=⟨JO az⟩
instance:BuildT prog 181 [zI,.string .empty,zI,zS,zS,zS,zI,zI,.string .empty,zI,zS,zS,zS,zI] [(0,7),(7,7)]:=⟨J9 (v:=.agg #[zI,.string .empty,zI,zS,zS,zS,zI,zI,.string .empty,zI,zS,zS,zS,zI]) az rfl,⟨_,underlying181,fun w=>by kernel_rfl⟩⟩
instance:FieldT prog 181 0 0:=cw 7 underlying181
instance:FieldT prog 181 1 7:=cw 7 underlying181
instance:AggT prog 199 4:=⟨⟨_,underlying199,rfl⟩,Jo az⟩
instance:ZeroT prog 199 (.agg #[zI,zI,zI,.string .empty]):=⟨JO az⟩
instance:BuildT prog 199 [zI,zI,zI,.string .empty] [(0,1),(1,1),(2,1),(3,1)]:=⟨J9 (v:=.agg #[zI,zI,zI,.string .empty]) az rfl,⟨_,underlying199,fun w=>by kernel_rfl⟩⟩
instance:FieldT prog 199 0 0:=cw 1 underlying199
instance:FieldT prog 199 1 1:=cw 1 underlying199
instance:FieldT prog 199 2 2:=cw 1 underlying199
instance:FieldT prog 199 3 3:=cw 1 underlying199
instance:AggT prog 219 2:=⟨⟨_,underlying219,rfl⟩,Jo az⟩
instance:ZeroT prog 219 (.agg #[.string .empty,zS]):=⟨JO az⟩
instance:BuildT prog 219 [.string .empty,zS] [(0,1),(1,1)]:=⟨J9 (v:=.agg #[.string .empty,zS]) az rfl,⟨_,underlying219,fun w=>by kernel_rfl⟩⟩
instance:FieldT prog 219 0 0:=cw 1 underlying219
instance:FieldT prog 219 1 1:=cw 1 underlying219
instance:AggT prog 223 4:=⟨⟨_,underlying223,rfl⟩,Jo az⟩
instance:ZeroT prog 223 (.agg #[.string .empty,zI,.string .empty,zS]):=⟨JO az⟩
instance:BuildT prog 223 [.string .empty,zI,.string .empty,zS] [(0,1),(1,3)]:=⟨J9 (v:=.agg #[.string .empty,zI,.string .empty,zS]) az rfl,⟨_,underlying223,fun w=>by kernel_rfl⟩⟩
instance:FieldT prog 223 0 0:=cw 1 underlying223
instance:FieldT prog 223 1 1:=cw 3 underlying223
instance:AggT prog 230 11:=⟨⟨_,underlying230,rfl⟩,Jo az⟩
instance:ZeroT prog 230 (.agg #[.string .empty,zI,.string .empty,zS,zI,.string .empty,zS,zS,zS,zI,.bool false]):=⟨JO az⟩
instance:BuildT prog 230 [.string .empty,zI,.string .empty,zS,zI,.string .empty,zS,zS,zS,zI,.bool false] [(0,1),(1,3),(4,6),(10,1)]:=⟨J9 (v:=.agg #[.string .empty,zI,.string .empty,zS,zI,.string .empty,zS,zS,zS,zI,.bool false]) az rfl,⟨_,underlying230,fun w=>by kernel_rfl⟩⟩
instance:FieldT prog 230 0 0:=cw 1 underlying230
instance:FieldT prog 230 1 1:=cw 3 underlying230
instance:FieldT prog 230 2 4:=cw 6 underlying230
instance:FieldT prog 230 3 10:=cw 1 underlying230
instance:AggT prog 236 3:=⟨⟨_,underlying236,rfl⟩,Jo az⟩
instance:ZeroT prog 236 (.agg #[.string .empty,zI,zI]):=⟨JO az⟩
instance:BuildT prog 236 [.string .empty,zI,zI] [(0,1),(1,1),(2,1)]:=⟨J9 (v:=.agg #[.string .empty,zI,zI]) az rfl,⟨_,underlying236,fun w=>by kernel_rfl⟩⟩
instance:FieldT prog 236 0 0:=cw 1 underlying236
instance:FieldT prog 236 1 1:=cw 1 underlying236
instance:FieldT prog 236 2 2:=cw 1 underlying236
instance:SliceT prog 241 31:=⟨underlying241⟩
instance:RowT prog 241 31 1 24:=⟨underlying241,JG (z:=zS) az az,by decide⟩
instance:FnT prog 9:=bc func9
instance:FnT prog 10:=bc func10
instance:FnT prog 11:=bc func11
instance:FnT prog 12:=bc func12
instance:FnT prog 13:=bc func13
instance:FnT prog 14:=bc func14
instance:FnT prog 15:=bc func15
instance:FnT prog 16:=bc func16
instance:FnT prog 17:=bc func17
instance:FnT prog 18:=bc func18
instance:FnT prog 19:=bc func19
instance:FnT prog 20:=bc func20
instance:FnT prog 22:=bc func22
instance:FnT prog 23:=bc func23
instance:FnT prog 24:=bc func24
instance:FnT prog 25:=bc func25
instance:FnT prog 26:=bc func26
instance:FnT prog 27:=bc func27
instance:FnT prog 30:=bc func30
instance:FnT prog 31:=bc func31
instance:FnT prog 32:=bc func32
instance:FnT prog 33:=bc func33
instance:FnT prog 34:=bc func34
instance:FnT prog 36:=bc func36
instance:FnT prog 37:=bc func37
instance:FnT prog 38:=bc func38
instance:FnT prog 39:=bc func39
instance:FnT prog 40:=bc func40
instance:FnT prog 41:=bc func41
instance:FnT prog 42:=bc func42
instance:FnT prog 43:=bc func43
instance:FnT prog 44:=bc func44
instance:FnT prog 45:=bc func45
instance:FnT prog 46:=bc func46
instance:FnT prog 47:=bc func47
instance:FnT prog 48:=bc func48
instance:FnT prog 49:=bc func49
instance:FnT prog 50:=bc func50
instance:FnT prog 51:=bc func51
instance:FnT prog 52:=bc func52
instance:FnT prog 53:=bc func53
instance:FnT prog 54:=bc func54
instance:FnT prog 55:=bc func55
instance:FnT prog 56:=bc func56
instance:FnT prog 57:=bc func57
instance:FnT prog 58:=bc func58
instance:FnT prog 59:=bc func59
instance:FnT prog 60:=bc func60
instance:FnT prog 61:=bc func61
instance:FnT prog 62:=bc func62
instance:FnT prog 63:=bc func63
instance:FnT prog 64:=bc func64
instance:FnT prog 65:=bc func65
instance:FnT prog 66:=bc func66
instance:FnT prog 67:=bc func67
instance:FnT prog 68:=bc func68
instance:FnT prog 69:=bc func69
instance:FnT prog 70:=bc func70
instance:FnT prog 72:=bc func72
instance:FnT prog 73:=bc func73
instance:FnT prog 74:=bc func74
instance:FnT prog 75:=bc func75
instance:FnT prog 76:=bc func76
instance:FnT prog 77:=bc func77
instance:FnT prog 78:=bc func78
instance:FnT prog 79:=bc func79
instance:FnT prog 80:=bc func80
instance:FnT prog 81:=bc func81
instance:FnT prog 82:=bc func82
instance:FnT prog 83:=bc func83
instance:FnT prog 84:=bc func84
instance:FnT prog 85:=bc func85
instance:FnT prog 86:=bc func86
instance:FnT prog 87:=bc func87
instance:FnT prog 88:=bc func88
instance:FnT prog 89:=bc func89
instance:FnT prog 90:=bc func90
instance:FnT prog 91:=bc func91
instance:FnT prog 92:=bc func92
instance:FnT prog 93:=bc func93
instance:FnT prog 94:=bc func94
instance:FnT prog 95:=bc func95
instance:FnT prog 97:=bc func97
instance:FnT prog 98:=bc func98
instance:FnT prog 99:=bc func99
instance:FnT prog 100:=bc func100
instance:FnT prog 101:=bc func101
instance:FnT prog 102:=bc func102
instance:FnT prog 103:=bc func103
instance:FnT prog 104:=bc func104
instance:FnT prog 105:=bc func105
instance:FnT prog 106:=bc func106
instance:FnT prog 107:=bc func107
instance:FnT prog 108:=bc func108
instance:FnT prog 109:=bc func109
instance:FnT prog 110:=bc func110
instance:FnT prog 111:=bc func111
instance:FnT prog 112:=bc func112
instance:FnT prog 113:=bc func113
instance:FnT prog 114:=bc func114
instance:FnT prog 115:=bc func115
instance:FnT prog 116:=bc func116
instance:FnT prog 117:=bc func117
instance:FnT prog 118:=bc func118
instance:FnT prog 119:=bc func119
instance:FnT prog 120:=bc func120
instance:FnT prog 121:=bc func121
instance:FnT prog 122:=bc func122
instance:FnT prog 123:=bc func123
instance:FnT prog 124:=bc func124
instance:FnT prog 125:=bc func125
instance:FnT prog 126:=bc func126
instance:FnT prog 127:=bc func127
instance:FnT prog 128:=bc func128
instance:FnT prog 129:=bc func129
instance:FnT prog 130:=bc func130
instance:FnT prog 131:=bc func131
instance:FnT prog 132:=bc func132
instance:FnT prog 133:=bc func133
instance:FnT prog 134:=bc func134
instance:FnT prog 135:=bc func135
instance:FnT prog 136:=bc func136
instance:FnT prog 137:=bc func137
instance:FnT prog 138:=bc func138
instance:FnT prog 139:=bc func139
instance:FnT prog 140:=bc func140
instance:FnT prog 141:=bc func141
instance:FnT prog 142:=bc func142
instance:FnT prog 143:=bc func143
instance:FnT prog 144:=bc func144
instance:FnT prog 145:=bc func145
instance:FnT prog 146:=bc func146
instance:FnT prog 147:=bc func147
instance:FnT prog 148:=bc func148
instance:FnT prog 149:=bc func149
instance:FnT prog 150:=bc func150
instance:FnT prog 151:=bc func151
instance:FnT prog 155:=bc func155
instance:FnT prog 156:=bc func156
instance:FnT prog 157:=bc func157
instance:FnT prog 158:=bc func158
instance:FnT prog 159:=bc func159
instance:FnT prog 160:=bc func160
instance:FnT prog 161:=bc func161
instance:FnT prog 162:=bc func162
instance:FnT prog 163:=bc func163
instance:FnT prog 164:=bc func164
instance:FnT prog 165:=bc func165
instance:FnT prog 166:=bc func166
instance:FnT prog 167:=bc func167
instance:FnT prog 168:=bc func168
instance:FnT prog 169:=bc func169
instance:FnT prog 170:=bc func170
instance:FnT prog 171:=bc func171
instance:FnT prog 172:=bc func172
instance:FnT prog 173:=bc func173
instance:FnT prog 174:=bc func174
instance:FnT prog 175:=bc func175
instance:FnT prog 176:=bc func176
instance:FnT prog 177:=bc func177
instance:FnT prog 178:=bc func178
instance:FnT prog 179:=bc func179
instance:FnT prog 180:=bc func180
instance:FnT prog 181:=bc func181
instance:FnT prog 182:=bc func182
instance:FnT prog 183:=bc func183
instance:FnT prog 184:=bc func184
instance:FnT prog 185:=bc func185
instance:FnT prog 186:=bc func186
instance:FnT prog 205:=bc func205
instance:FnT prog 206:=bc func206
instance:FnT prog 207:=bc func207
instance:FnT prog 208:=bc func208
instance:FnT prog 209:=bc func209
instance:FnT prog 210:=bc func210
instance:FnT prog 211:=bc func211
instance:FnT prog 212:=bc func212
instance:FnT prog 213:=bc func213
instance:FnT prog 214:=bc func214
instance:FnT prog 215:=bc func215
instance:FnT prog 216:=bc func216
instance:FnT prog 217:=bc func217
instance:FnT prog 218:=bc func218
instance:FnT prog 219:=bc func219
instance:FnT prog 220:=bc func220
instance:FnT prog 229:=bc func229
instance:FnT prog 230:=bc func230
instance:FnT prog 231:=bc func231
end
section
open Go.Rf Go.RowKit
variable{ys:List Value}{c j m p:Nat}{u:Value}{w w1 w2:World}
attribute [local irreducible] Code.wp wpList Exit.then Exit.inBlock bodyPost A Calls execOp Addr.add
theorem wk(a b:Int)(w:World)(ha: -9223372036854775808<=a)(nB:a<=9223372036854775807)(hb:0<b):
 Calls prog 25 #[iV a,iV b] w fun e w'=>e=.returned (iV (yN a b))/\w=w':=by
 refine enter func25 rfl ntmps25 rfl ?_;refine rn ?_;refine QZ rfl rfl (fun h=>?_) (fun h=>?_)
 .refine rn ?_;refine gZ ?_;exact⟨by rw[yN,Cb h,Int.zero_sub],rfl⟩
 .refine rn ?_;refine gZ ?_;exact⟨by rw[yN,SH h],rfl⟩
def wZ(w:World)(p:Nat)(v:Value)(bs:List Int):Prop:=aG w p [v] 139/\bx w 5 1 v bs.length (bs.map (.int .u8))
def KN(p:Nat)(w:World)(v:Value)(tz:List Int)(w':World):Prop:=
 ∃v',wZ w' p v' tz/\Fr (p::ag v) w w'/\∀k∈ag v',k∈ag v\/w.heap.size<=k
theorem KN.refl{v:Value}{bs:List Int}(h:wZ w p v bs):KN p w v bs w:=⟨v,h,Fr.refl _ _,fun _ hk=>.inl hk⟩
theorem KN.trans{v v1:Value}{yO:List Int}(hf:Fr (p::ag v) w w1)(hk:∀k∈ag v1,k∈ag v\/w.heap.size<=k)(h:KN p w1 v1 yO w2):KN p w v yO w2:=by
 obtain⟨v2,h1,h2,h3⟩:=h;refine⟨v2,h1,hf.trans h2 ?_,?_⟩
 .intro x hx;rcases SC.1 hx with rfl|hx
  .exact .inl ap
  .rcases hk x hx with h|h
   .exact .inl xn
   .exact .inr h
 .intro k cu;rcases h3 k cu with h|h
  .exact hk k h
  .exact .inr (CG hf.size h)
theorem wZ.one{v:Value}{bs:List Int}(h:wZ w p v bs):v.oneCell'=true:=h.2.one
theorem wZ.push{v v':Value}{bs cs:List Int}(h:wZ w p v bs)(aj:Fr [] w w1)(ho:bx w2 5 1 v' (bs.length+cs.length) (bs.map (.int .u8)++cs.map (.int .u8)))(aq:Fr (ag v) w1 w2)
 (hk:∀b∈ag v',b∈ag v\/w1.heap.size<=b) {w3:World} (hb:aG w3 p [v'] 139) (aF:Fr [p] w2 w3):KN p w v (bs++cs) w3:=by
 have iz:=bx.ne ho ((h.1.tr0 aj).tr aq (fun hp=>(h.2.ne h.1 bU) p hp rfl)) bU;refine⟨v',⟨hb,?_⟩,?_,?_⟩
 .have:=ho.tr aF (fun k hk=>by simp;exact iz k hk);simpa using this
 .refine (aj.mono (fun x hx=>by cases hx)).trans (aq.mono (T:=p::ag v) (fun x hx=>.inl lA)) (fun x hx=>.inl hx)|>.trans aF (fun x hx=>.inl Ymw)
 .intro k nA;rcases hk k nA with h|h
  .exact .inl h
  .exact .inr (CG aj.size h)
theorem Jh1(p:Nat)(v:Value)(bs:List Int)(n:Nat)(w:World)(hn:n<18446744073709551616)(hw:wZ w p v bs)(hl:bs.length<=1000000000000):
 Calls prog 108 #[.pointer (some ⟨p,0,none⟩),.int .u64 n] w fun e w'=>e=.returned (.tuple #[])/\KN p w v (bs++uv n) w':=by
 refine enter func108 rfl ntmps108 rfl ?_;refine rn ?_;have Aw:=Xw n hn;refine Jbg (σ:=Nat×Value×List Int) (fun s g u=>g 0=.pointer (some ⟨p,0,none⟩)/\g 1=.int .u64 s.1/\s.1<18446744073709551616/\bs++uv n=s.2.2++uv s.1/\wZ u p s.2.1 s.2.2/\Fr (p::ag v) w u/\∀k∈ag s.2.1,k∈ag v\/w.heap.size<=k)
  (fun s=>s.1) (n,v,bs) ⟨rfl,rfl,hn,rfl,hw,Fr.refl _ _,fun _ hk=>.inl hk⟩ ?_
 rintro⟨m,vr,br⟩ g u ⟨h0,h1,hm,sY,xa,fv,AB⟩;simp only at h0 h1 hm sY xa AB;rw[Ja h0,Ja h1];have hlen:br.length<=1000000000010:=by
  have:=CZ List.length sY;simp only[Sm]at this;omega
 refine rn ?_;have iz:=xa.2.ne xa.1 bU;refine Vf rfl rfl (fun h=>?_) (fun h=>?_)
 .refine rn ?_;refine VH rfl xa.1 rfl ?_;refine rn ?_;refine Q5 rfl (Jdp _) ?_;refine Jkz rfl rfl (Jj7 m) ?_
  ((with_reducible apply QO);(conv=>lhs;whnf);exact rfl)
  intro w1 ef aj bh;refine JC (xa.2.tr0 aj) rfl ef.src rfl rfl dQ dt ab (fun v2 w2 gu aq cu _=>?_);refine rn ?_;have dN:=(xa.1.tr0 aj).tr aq (fun hp=>iz p hp rfl)
  ((with_reducible apply Ji);exact rfl;(conv=>lhs;whnf);exact gu.one;exact dN;exact rfl)
  intro w3 iB aF dO;refine rn ?_;refine Jfk rfl rfl ab (Jky m) ?_;refine rn ?_;obtain⟨v3,xL,qW,lg⟩:=KN.trans fv AB (xa.push (cs:=[_]) aj gu aq cu iB aF);refine JaR (m/128,v3,br++[((m%128+128:Nat):Int)]) ⟨rfl,rfl,by simp only;omega,?_,xL,qW,lg⟩ eM;simp only;rw[sY,YR ab];simp
 .refine rn ?_;refine VH rfl xa.1 rfl ?_;refine rn ?_
  ((with_reducible apply QO);(conv=>lhs;whnf);exact rfl)
  intro w1 ef aj bh;refine JC (xa.2.tr0 aj) rfl ef.src rfl rfl dQ dt ab (fun v2 w2 gu aq cu _=>?_);refine rn ?_;have dN:=(xa.1.tr0 aj).tr aq (fun hp=>iz p hp rfl)
  ((with_reducible apply Ji);exact rfl;(conv=>lhs;whnf);exact gu.one;exact dN;exact rfl)
  intro w3 iB aF dO;refine rn ?_;refine WI rfl ⟨rfl,?_⟩;rw[sY,P2 ab];exact KN.trans fv AB (xa.push (cs:=[_]) aj gu aq cu iB aF)
theorem Zp(k:IntKind)(l:List Int):∀u∈l.map (Value.int k),u.oneCell'=true:=by
 intro u hu;obtain⟨c,_,rfl⟩:=Du.1 hu;rfl
theorem Jkw(p:Nat)(v:Value)(bs:List Int)(n:Int)(w:World)(h1: -9223372036854775808<=n)(h2:n<=9223372036854775807)(hw:wZ w p v bs)(hl:bs.length<=1000000000000):
 Calls prog 66 #[.pointer (some ⟨p,0,none⟩),iV n] w fun e w'=>e=.returned (.tuple #[])/\KN p w v (bs++iv n) w':=by
 refine enter func66 rfl ntmps66 rfl ?_;refine rnc ?_;by_cases hn:n<0
 .refine Q5 rfl (show _=n+18446744073709551616 by rw[X7];omega) ?_;refine Jh6 rfl rfl ab (show _=2*n+18446744073709551616 by rw[X7];show(n+18446744073709551616)*2%18446744073709551616=_;omega) ?_;refine rnc ?_;refine Jfk rfl rfl ab (show _= -1 by show n.fdiv 9223372036854775808= -1;rw[Fa _ ab];omega) ?_;refine Q5 rfl (show _=18446744073709551615 by decide) ?_;refine Jh5 rfl rfl (Jku _ ab ab) ?_;have e:(18446744073709551615-(2*n+18446744073709551616):Int)=((zz n:Nat):Int):=by unfold zz;rw[Cb hn];omega
  exact Ycz
 .refine Q5 rfl (IntWalk.u64_in _ ab) ?_;refine Jh6 rfl rfl ab (show _=2*n by rw[X7];show n*2%18446744073709551616=_;omega) ?_;refine rnc ?_;refine Jfk rfl rfl ab (show _=0 by show n.fdiv 9223372036854775808=0;rw[Fa _ ab];omega) ?_;refine Q5 rfl (show _=0 by decide) ?_;refine Jh5 rfl rfl (Jkv _ ab ab) ?_;have e:(2*n:Int)=((zz n:Nat):Int):=by unfold zz;rw[SH hn];omega
  exact Ycz
theorem iaV(p:Nat)(v:Value)(bs:List Int)(s:ByteArray)(w:World)(hw:wZ w p v bs)(hl:bs.length<=100000000000)(hc:s.size<=100000000000):
 Calls prog 65 #[.pointer (some ⟨p,0,none⟩),.string s] w fun e w'=>e=.returned (.tuple #[])/\KN p w v (bs++raw (sb s)) w':=by
 refine enter func65 rfl ntmps65 rfl ?_;refine rn ?_;refine Jg (Jh1 p v bs s.size w ab hw ab) ?_;rintro w1 ⟨v1,A1,aj,ee⟩;have Aw:=Xw s.size ab;have iz:=A1.2.ne A1.1 bU;refine rn ?_;refine VH rfl A1.1 rfl ?_;refine rn ?_;refine Jer A1.2 rfl rfl xo aZ (fun v2 w2 gu aq cu _=>?_);refine rn ?_;have dN:=A1.1.tr aq (fun hp=>iz p hp rfl)
 ((with_reducible apply Ji);exact rfl;(conv=>lhs;whnf);exact gu.one;exact dN;exact rfl)
 intro w3 iB aF dO;refine rn ?_;refine WI rfl ⟨rfl,?_⟩;have fG:s.data.toList.map (fun c=>Value.int .u8 (c.toNat:Int))=(sb s).map (.int .u8):=by simp[sb]
 have pw:bx w2 5 1 v2 ((bs++uv s.size).length+(sb s).length) ((bs++uv s.size).map (.int .u8)++(sb s).map (.int .u8)):=by rw[Xx,<-fG];exact gu
 have:=KN.trans aj ee (A1.push (Fr.refl _ _) pw aq cu iB aF);simpa[raw,Xx]using this
theorem KO{ao:Option Addr}(h:Src w (.slice ao m c) m ys)(hj:ys[j]?=some u):∃ad,ao=some ad/\w.cell? (ad.add j)=some u:=by
 obtain⟨pS,c',e,_,hn,hc⟩:=h;simp only[Value.slice.injEq]at e;obtain⟨rfl,_,rfl⟩:=e;cases ao with
 |none=>obtain⟨_,_,rfl⟩:=hn rfl;simp at hj
 |some ad=>exact⟨ad,rfl,hc ad rfl j u hj⟩
theorem Vs{ad:Addr}(h:Src w (.slice (some ad) m c) m ys)(hj:ys[j]?=some u):w.cell? (ad.add j)=some u:=by
 obtain⟨lC,e,h⟩:=KO h hj;simp only[Sj]at e;subst e;exact h
def VE(n:Int):Prop:= -9223372036854775808<=n/\n<=9223372036854775807
theorem JjE(p:Nat)(v:Value)(bs:List Int)(w:World)(hw:wZ w p v bs)(hl:bs.length<=1000000000000):
 Calls prog 70 #[.pointer (some ⟨p,0,none⟩)] w fun e w'=>∃v',e=.returned v'/\bx w' 5 1 v' bs.length (bs.map (.int .u8))/\Fr [] w w'/\(∀k∈ag v',w.heap.size<=k)/\v'≠zS:=by
 refine enter func70 rfl ntmps70 rfl ?_;refine rn ?_;refine Qr (fun w1 ef aj bh=>?_);refine rn ?_;refine VH rfl (hw.1.tr0 aj) rfl ?_;refine JC ef rfl (hw.2.src.tr0 aj) rfl ap (Zp _ _) dt ab (fun v2 w2 gu aq cu xw=>?_);refine px ?_;refine⟨v2,rfl,by simpa using gu,?_,?_,?_⟩
 .exact aj.trans aq (fun x hx=>by simp[ag,Value.ownBlock]at hx;exact .inr ab)
 .intro k hk;rcases cu k hk with h|h
  .simp [ag,Value.ownBlock]at h;omega
  .omega
 .intro e;simpa using xw.1 e
end
end Go.Proofs.YtggmccicdhnkgaaGreat
