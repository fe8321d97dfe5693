/-
 Contracts of the reference's small functions (refuterref01).
-/
import Derived.Test.YtggmccicdhnkgaaGreatWK1
import Derived.Test.YtggmccicdhnkgaaGreatRows
set_option linter.all false
namespace Go.Rf
variable{a e:Int}{c i n:Nat}
def Jbq(a m:Int):Int:=(if a<0 then -(a+1) else a)%m
theorem BI{m:Int}(h:0<m):0<=Jbq a m/\Jbq a m<m:=⟨Fq _ Yhn,EP _ h⟩
def uv(n:Nat):List Int:=if h:n<128 then[(n:Int)] else((n%128+128:Nat):Int)::uv (n/128)
 termination_by n
 decreasing_by omega
theorem Jdo(h:n<128):uv n=[(n:Int)]:=by rw[uv,dif_pos h]
theorem Je1(h:128<=n):uv n=((n%128+128:Nat):Int)::uv (n/128):=by rw[uv,dif_neg Yhn]
theorem Nr:∀(k n:Nat),n<128^(k+1)->(uv n).length<=k+1
 |0,n,h=>by rw[Jdo Yil];simp
 |k+1,n,h=>by
  by_cases hn:n<128
  .rw [Jdo hn];simp
  .rw [Je1 Yhn];have:=Nr k (n/128) (by rw[Nat.div_lt_iff_lt_mul Yhn];rw[Oa]at h;exact h);simp;omega
theorem Xw(n:Nat)(h:n<18446744073709551616):(uv n).length<=10:=
 Nr 9 n (SV h Yhy)
theorem Jnj(n:Nat):0<(uv n).length:=by
 by_cases h:n<128
 .rw [Jdo h];simp
 .rw [Je1 Yhn];simp
def zz(n:Int):Nat:=if n<0 then(2*(-(n+1))+1).toNat else(2*n).toNat
theorem JeV{n:Int}(h1: -9223372036854775808<=n)(h2:n<=9223372036854775807):zz n<18446744073709551616:=by unfold zz;split<;>omega
def iv(n:Int):List Int:=uv (zz n)
theorem Jdp(n:Int):IntKind.u8.wrap n=n%256:=by rw[IntKind.wrap_u8]
theorem Jj7(m:Nat):IntKind.u8.wrap ((BitVec.ofInt IntKind.u8.bits ((m:Int)%256)|||BitVec.ofInt IntKind.u8.bits 128).toNat:Int)=((m%128+128:Nat):Int):=by
 have key:∀b:BitVec 8,(b|||128#8).toNat=b.toNat%128+128:=by decide
 have e1:BitVec.ofInt 8 128=128#8:=by decide
 have h:=key (BitVec.ofInt 8 ((m:Int)%256));show IntKind.u8.wrap ((BitVec.ofInt 8 ((m:Int)%256)|||BitVec.ofInt 8 128).toNat:Int)=_;rw[e1,h,Jdp];have e2:(BitVec.ofInt 8 ((m:Int)%256)).toNat=m%256:=by
  rw[I5];omega
 rw[e2];omega
theorem Jky(m:Nat):((m:Int)).fdiv (2^(min (7:Int).toNat IntKind.u64.bits))=((m/128:Nat):Int):=by
 have:(2^(min (7:Int).toNat IntKind.u64.bits):Int)=128:=by decide
 rw[this,Fa _ Yhn];omega
theorem X7(n:Int):IntKind.u64.wrap n=n%18446744073709551616:=by
 simp only[IntKind.wrap,IntKind.bits,IntKind.signed];simp
theorem Jmb(n:Int):IntKind.i64.wrap n=if n%18446744073709551616≥9223372036854775808 then n%18446744073709551616-18446744073709551616 else n%18446744073709551616:=by
 simp only[IntKind.wrap,IntKind.bits,IntKind.signed];simp
theorem ofInt64(a:Int)(h0:0<=a)(h1:a<18446744073709551616):(BitVec.ofInt 64 a).toNat=a.toNat:=by
 rw[I5];have:a%((2^64:Nat):Int)=a:=Int.emod_eq_of_lt h0 (by simpa using h1);rw[this]
theorem Jkv(a:Int)(h0:0<=a)(h1:a<18446744073709551616):IntKind.u64.wrap ((BitVec.ofInt IntKind.u64.bits a^^^BitVec.ofInt IntKind.u64.bits 0).toNat:Int)=a:=by
 show IntKind.u64.wrap ((BitVec.ofInt 64 a^^^BitVec.ofInt 64 0).toNat:Int)=_;have e:BitVec.ofInt 64 0=0#64:=by decide
 rw[e,BitVec.xor_zero,ofInt64 a h0 h1,X7];omega
theorem Jku(a:Int)(h0:0<=a)(h1:a<18446744073709551616):IntKind.u64.wrap ((BitVec.ofInt IntKind.u64.bits a^^^BitVec.ofInt IntKind.u64.bits 18446744073709551615).toNat:Int)=18446744073709551615-a:=by
 show IntKind.u64.wrap ((BitVec.ofInt 64 a^^^BitVec.ofInt 64 18446744073709551615).toNat:Int)=_;have e:BitVec.ofInt 64 18446744073709551615=BitVec.allOnes 64:=by decide
 rw[e,Oj,BitVec.toNat_not,ofInt64 a h0 h1,X7];exact Ymi
def sb(s:ByteArray):List Int:=s.data.toList.map fun c=>(c.toNat:Int)
theorem Xx(s:ByteArray):(sb s).length=s.size:=by simp[sb]
def raw(bs:List Int):List Int:=uv bs.length++bs
def ints(ns:List Int):List Int:=uv ns.length++ns.flatMap iv
theorem VA{n:Int}(h1: -9223372036854775808<=n)(h2:n<=9223372036854775807):(iv n).length<=10:=Xw _ (JeV h1 h2)
/-! ### reading -/
theorem Jnu{b:Int}(h0:0<=b)(h1:b<256):IntKind.u8.wrap ((BitVec.ofInt IntKind.u8.bits b&&& BitVec.ofInt IntKind.u8.bits 127).toNat:Int)=b%128:=by
 have key:∀x:BitVec 8,(x&&& 127#8).toNat=x.toNat%128:=by decide
 have e1:BitVec.ofInt 8 127=127#8:=by decide
 show IntKind.u8.wrap ((BitVec.ofInt 8 b&&& BitVec.ofInt 8 127).toNat:Int)=_;rw[e1,key,Jdp];have e2:(BitVec.ofInt 8 b).toNat=b.toNat:=by rw[I5];omega
 rw[e2];omega
theorem Jmi(i:Nat):(2:Nat)^(7*i)=128^i:=by rw[Nat.pow_mul]
theorem JlZ(h:i<=9):128^i<=9223372036854775808:=by
 have:128^i<=128^9:=Og Yhn h;have e:(128:Nat)^9=9223372036854775808:=by decide
 omega
theorem Jmh(h:i<=8):128^i<=72057594037927936:=by
 have:128^i<=128^8:=Og Yhn h;have e:(128:Nat)^8=72057594037927936:=by decide
 omega
theorem JlV(hi:i<=9)(hc:c<128)(h9:i=9->c<=1):c*128^i<=9223372036854775808:=by
 by_cases h:i=9
 .subst h;have:=h9 rfl;have e:(128:Nat)^9=9223372036854775808:=by decide
  have:c*128^9<=1*128^9:=Em _ this;omega
 .have h1:=Jmh (i:=i) Yhn;have:c*128^i<=127*72057594037927936:=Nat.mul_le_mul Yhn h1;omega
theorem JnD(hi:i<=9)(hc:c<128)(h9:i=9->c<=1):IntKind.u64.wrap ((c:Int)*2^(min ((7:Int)*(i:Int)).toNat IntKind.u64.bits))=((c*128^i:Nat):Int):=by
 have hb:=JlV hi hc h9;have e1:min ((7:Int)*(i:Int)).toNat IntKind.u64.bits=7*i:=by
  have:IntKind.u64.bits=64:=rfl;rw[this];omega
 have e3:((c:Int)*2^(7*i))=((c*128^i:Nat):Int):=by rw[<-Jmi];simp
 rw[e1,e3,X7];omega
theorem Jno{acc:Nat}(hi:i<=9)(hc:c<128)(h9:i=9->c<=1)(ha:acc<128^i):
 IntKind.u64.wrap ((BitVec.ofInt IntKind.u64.bits (acc:Int)|||BitVec.ofInt IntKind.u64.bits ((c*128^i:Nat):Int)).toNat:Int)=((acc+c*128^i:Nat):Int):=by
 have hb:=JlV hi hc h9;have hp:=JlZ hi;show IntKind.u64.wrap ((BitVec.ofInt 64 (acc:Int)|||BitVec.ofInt 64 ((c*128^i:Nat):Int)).toNat:Int)=_;have e:acc|||c*128^i=acc+c*128^i:=by
  have:=Nat.shiftLeft_add_eq_or_of_lt (a:=c) (b:=acc) (i:=7*i) (by rw[Jmi];exact ha);rw[Nat.shiftLeft_eq,Jmi]at this;rw[Nat.or_comm,<-this];omega
 rw[BitVec.toNat_or,ofInt64 _ Yhn Yhn,ofInt64 _ Yhn Yhn,EG,EG,e,X7];omega
def rdL:List Int->Nat->Nat->Except Int (Nat×List Int)
 |[],_,_=>.error 3
 |b::l,i,n=>if i=9/\1<b\/0<i/\b=0 then .error 2 else if b<128 then .ok (n+(b%128).toNat*128^i,l) else rdL l (i+1) (n+(b%128).toNat*128^i)
def rdU(bs:List Int)(e:Int):Nat×List Int×Int:=
 if e≠0 then(0,bs,e) else match rdL bs 0 0 with
  |.error x=>(0,bs,x)
  |.ok (n,l)=>(n,l,0)
def Bys(bs:List Int):Prop:=∀b∈bs,0<=b/\b<256
theorem JmG:∀(bs:List Int) (i n m:Nat) (l:List Int),rdL bs i n=.ok (m,l)->i<=9->n<128^i->Bys bs->m<18446744073709551616/\l.length<bs.length/\∃k,l=bs.drop k
 |[],i,n,m,l,h,_,_,_=>by simp[rdL]at h
 |b::bs,i,n,m,l,h,hi,hn,hB=>by
  have hb:=hB b Yhs;unfold rdL at h
  split at h
  .cases h
  .rename_i hbad;have hc:(b%128).toNat<128:=by omega
   have h9:i=9->(b%128).toNat<=1:=by omega
   have hfit:=JlV hi hc h9;have hp:=JlZ hi
   split at h
   .simp only[HY,Sz]at h;obtain⟨rfl,rfl⟩:=h;exact⟨by omega,by simp,1,by simp⟩
   .have hi8:i<=8:=by omega
    have hlt:n+(b%128).toNat*128^i<128^(i+1):=by
     have:(b%128).toNat*128^i<=127*128^i:=Em _ Yhn;rw[Oa];omega
    obtain⟨h1,h2,k,h3⟩:=JmG bs (i+1) _ m l h Yhn hlt (fun x hx=>hB x Yix);exact⟨h1,by simp;omega,k+1,by simpa using h3⟩
theorem Jl1:∀(bs:List Int) (i n:Nat) (x:Int),rdL bs i n=.error x->x=2\/x=3
 |[],i,n,x,h=>by simp[rdL]at h;exact .inr h.symm
 |b::bs,i,n,x,h=>by
  unfold rdL at h
  split at h
  .simp at h;exact .inl h.symm
  .split at h
   .cases h
   .exact Jl1 bs _ _ x h
theorem JlN{bs:List Int}(hB:Bys bs):(rdU bs e).1<18446744073709551616/\(rdU bs e).2.1.length<=bs.length/\(∃k,(rdU bs e).2.1=bs.drop k)/\((rdU bs e).2.2=0->(rdU bs e).2.1.length<bs.length):=by
 unfold rdU
 split
 .rename_i h;exact⟨by omega,SX _,⟨0,by simp⟩,fun h'=>absurd h' h⟩
 .cases hr:rdL bs 0 0 with
  |error x=>
   have:=Jl1 bs 0 0 x hr;exact⟨by simp,SX _,⟨0,by simp⟩,fun h'=>by simp only at h';omega⟩
  |ok r=>
   obtain⟨m,l⟩:=r;obtain⟨h1,h2,h3⟩:=JmG bs 0 0 m l hr Yhn Yhs hB;exact⟨h1,Iq h2,h3,fun _=>h2⟩
theorem Bys.drop{bs:List Int}(h:Bys bs)(k:Nat):Bys (bs.drop k):=fun b hb=>h b (IG hb)
theorem Bys.take{bs:List Int}(h:Bys bs)(k:Nat):Bys (bs.take k):=fun b hb=>h b (E5 hb)
theorem JmX{bs:List Int}(hB:Bys bs):Bys (rdU bs e).2.1:=by
 obtain⟨_,_,⟨k,h⟩,_⟩:=JlN (e:=e) hB;rw[h];exact hB.drop k
def back(u:Nat):Int:=if u%2=1 then -((u/2:Nat):Int)-1 else((u/2:Nat):Int)
def rdI(bs:List Int)(e:Int):Int×List Int×Int:=(back (rdU bs e).1,(rdU bs e).2.1,(rdU bs e).2.2)
def rdN(bs:List Int)(e:Int):Nat×List Int×Int:=
 if(rdU bs e).2.2≠0 then(0,(rdU bs e).2.1,(rdU bs e).2.2) else if(rdU bs e).2.1.length<(rdU bs e).1 then(0,(rdU bs e).2.1,3) else((rdU bs e).1,(rdU bs e).2.1,0)
theorem JmF{bs:List Int}(hB:Bys bs):(rdN bs e).1<=(rdN bs e).2.1.length/\(rdN bs e).2.1.length<=bs.length/\(∃k,(rdN bs e).2.1=bs.drop k)/\((rdN bs e).2.2≠0->(rdN bs e).1=0):=by
 have h:=JlN (e:=e) hB;unfold rdN
 split
 .exact ⟨by simp,h.2.1,h.2.2.1,fun _=>rfl⟩
 .split
  .exact ⟨by simp,h.2.1,h.2.2.1,fun _=>rfl⟩
  .exact ⟨by simp only;omega,h.2.1,h.2.2.1,fun h'=>absurd rfl h'⟩
def rdR(bs:List Int)(e:Int):List Int×List Int×Int:=((rdN bs e).2.1.take (rdN bs e).1,(rdN bs e).2.1.drop (rdN bs e).1,(rdN bs e).2.2)
def JlJ(bs:List Int)(e:Int):Int:=if e≠0 then e else if 0<bs.length then 2 else 0
theorem and1{u:Nat}(h:u<18446744073709551616):IntKind.u64.wrap ((BitVec.ofInt IntKind.u64.bits (u:Int)&&& BitVec.ofInt IntKind.u64.bits 1).toNat:Int)=((u%2:Nat):Int):=by
 show IntKind.u64.wrap ((BitVec.ofInt 64 (u:Int)&&& BitVec.ofInt 64 1).toNat:Int)=_;rw[BitVec.toNat_and,ofInt64 _ Yhn Yhn,ofInt64 _ Yhn Yhn,X7];have:(u:Int).toNat&&& (1:Int).toNat=u%2:=by rw[EG];exact Nat.and_one_is_mod u
 rw[this];omega
theorem JnC(u:Nat):((u:Int)).fdiv (2^(min (1:Int).toNat IntKind.u64.bits))=((u/2:Nat):Int):=by
 have:(2^(min (1:Int).toNat IntKind.u64.bits):Int)=2:=by decide
 rw[this,Fa _ Yhn];omega
theorem Jnw(h0:0<=a)(h1:a<=9223372036854775807):IntKind.i64.wrap ((BitVec.ofInt IntKind.i64.bits a^^^BitVec.ofInt IntKind.i64.bits 0).toNat:Int)=a:=by
 show IntKind.i64.wrap ((BitVec.ofInt 64 a^^^BitVec.ofInt 64 0).toNat:Int)=_;have e:BitVec.ofInt 64 0=0#64:=by decide
 rw[e,BitVec.xor_zero,ofInt64 a h0 Yhn,Jmb];omega
theorem Jnv(h0:0<=a)(h1:a<=9223372036854775807):IntKind.i64.wrap ((BitVec.ofInt IntKind.i64.bits a^^^BitVec.ofInt IntKind.i64.bits (-1)).toNat:Int)= -a-1:=by
 show IntKind.i64.wrap ((BitVec.ofInt 64 a^^^BitVec.ofInt 64 (-1)).toNat:Int)=_;have e:BitVec.ofInt 64 (-1)=BitVec.allOnes 64:=by decide
 rw[e,Oj,BitVec.toNat_not,ofInt64 a h0 Yhn,Jmb];exact Ymi
end Go.Rf
namespace Go.Proofs.YtggmccicdhnkgaaGreat
open Go.Proofs.Tryz
section
open Go.Rf
instance:IntT prog 3 .i64:=⟨underlying3⟩
instance:OneT prog 3:=⟨⟨_,underlying3,rfl⟩,Jo Yhp⟩
instance:ZeroT prog 3 (zI):=⟨JO Yhp⟩
instance:OneT prog 4:=⟨⟨_,underlying4,rfl⟩,Jo Yhp⟩
instance:ZeroT prog 4 (.bool false):=⟨JO Yhp⟩
instance:IntT prog 5 .u8:=⟨underlying5⟩
instance:OneT prog 5:=⟨⟨_,underlying5,rfl⟩,Jo Yhp⟩
instance:StrT prog 9:=⟨underlying9⟩
instance:OneT prog 9:=⟨⟨_,underlying9,rfl⟩,Jo Yhp⟩
instance:SliceT prog 22 3:=⟨underlying22⟩
instance:RowT prog 22 3 1 8:=⟨underlying22,JG (z:=zI) Yhp Yhp,by decide⟩
instance:OneT prog 22:=⟨⟨_,underlying22,rfl⟩,Jo Yhp⟩
instance:RowZ prog 22 3 1 8 [zI]:=⟨inferInstance,KT (v:=zI) Yhp rfl rfl⟩
instance:SliceT prog 23 105:=⟨underlying23⟩
instance:RowT prog 23 105 45 768:=⟨underlying23,JG (z:=.agg #[zI,.string .empty,zI,zS,zS,zI,.string .empty,zS,zI,.string .empty,zI,zS,zS,zS,zI,zI,zI,.string .empty,zS,zS,zS,zI,zS,zS,zS,zS,zI,.string .empty,zS,zI,.string .empty,zI,zS,zS,zS,zI,zS,zS,zI,.string .empty,zI,zS,zS,zS,zI]) Yhp Yhp,by decide⟩
instance:OneT prog 23:=⟨⟨_,underlying23,rfl⟩,Jo Yhp⟩
instance:ZeroT prog 23 (zS):=⟨JO Yhp⟩
instance:AggT prog 25 1:=⟨⟨_,underlying25,rfl⟩,Jo Yhp⟩
instance:ZeroT prog 25 (.agg #[zS]):=⟨JO Yhp⟩
instance:BuildT prog 25 [zS] [(0,1)]:=⟨J9 (v:=.agg #[zS]) Yhp rfl,⟨_,underlying25,fun w=>by kernel_rfl⟩⟩
instance:FieldT prog 25 0 0:=fld 1 underlying25
instance:PtrT prog 27:=⟨⟨_,underlying27⟩⟩
instance:SliceT prog 31 50:=⟨underlying31⟩
instance:RowT prog 31 50 3 32:=⟨underlying31,JG (z:=.agg #[.string .empty,zI,zI]) Yhp Yhp,by decide⟩
instance:OneT prog 31:=⟨⟨_,underlying31,rfl⟩,Jo Yhp⟩
instance:ZeroT prog 31 (zS):=⟨JO Yhp⟩
instance:RowZ prog 31 50 3 32 [.string .empty,zI,zI]:=⟨inferInstance,KT (v:=.agg #[.string .empty,zI,zI]) Yhp rfl rfl⟩
instance:OneT prog 34:=⟨⟨_,underlying34,rfl⟩,Jo Yhp⟩
instance:AggT prog 36 3:=⟨⟨_,underlying36,rfl⟩,Jo Yhp⟩
instance:ZeroT prog 36 (.agg #[zI,zI,zI]):=⟨JO Yhp⟩
instance:BuildT prog 36 [zI,zI,zI] [(0,1),(1,1),(2,1)]:=⟨J9 (v:=.agg #[zI,zI,zI]) Yhp rfl,⟨_,underlying36,fun w=>by kernel_rfl⟩⟩
instance:FieldT prog 36 0 0:=fld 1 underlying36
instance:FieldT prog 36 1 1:=fld 1 underlying36
instance:FieldT prog 36 2 2:=fld 1 underlying36
instance:AggT prog 38 6:=⟨⟨_,underlying38,rfl⟩,Jo Yhp⟩
instance:ZeroT prog 38 (.agg #[zI,zI,zI,zS,zS,zI]):=⟨JO Yhp⟩
instance:BuildT prog 38 [zI,zI,zI,zS,zS,zI] [(0,3),(3,1),(4,1),(5,1)]:=⟨J9 (v:=.agg #[zI,zI,zI,zS,zS,zI]) Yhp rfl,⟨_,underlying38,fun w=>by kernel_rfl⟩⟩
instance:FieldT prog 38 0 0:=fld 3 underlying38
instance:FieldT prog 38 1 3:=fld 1 underlying38
instance:FieldT prog 38 2 4:=fld 1 underlying38
instance:AggT prog 41 5:=⟨⟨_,underlying41,rfl⟩,Jo Yhp⟩
instance:ZeroT prog 41 (.agg #[zI,zI,zI,zS,zS]):=⟨JO Yhp⟩
instance:BuildT prog 41 [zI,zI,zI,zS,zS] [(0,3),(3,1),(4,1)]:=⟨J9 (v:=.agg #[zI,zI,zI,zS,zS]) Yhp rfl,⟨_,underlying41,fun w=>by kernel_rfl⟩⟩
instance:FieldT prog 41 0 0:=fld 3 underlying41
instance:FieldT prog 41 1 3:=fld 1 underlying41
instance:FieldT prog 41 2 4:=fld 1 underlying41
instance:AggT prog 50 3:=⟨⟨_,underlying50,rfl⟩,Jo Yhp⟩
instance:ZeroT prog 50 (.agg #[.string .empty,zI,zI]):=⟨JO Yhp⟩
instance:BuildT prog 50 [.string .empty,zI,zI] [(0,1),(1,1),(2,1)]:=⟨J9 (v:=.agg #[.string .empty,zI,zI]) Yhp rfl,⟨_,underlying50,fun w=>by kernel_rfl⟩⟩
instance:FieldT prog 50 0 0:=fld 1 underlying50
instance:FieldT prog 50 1 1:=fld 1 underlying50
instance:FieldT prog 50 2 2:=fld 1 underlying50
instance:SliceT prog 64 5:=⟨underlying64⟩
instance:RowT prog 64 5 1 1:=⟨underlying64,JG (z:=.int .u8 0) Yhp Yhp,by decide⟩
instance:OneT prog 64:=⟨⟨_,underlying64,rfl⟩,Jo Yhp⟩
instance:U8T prog 64:=⟨⟨5,underlying64,underlying5⟩⟩
instance:RowZ prog 64 5 1 1 [.int .u8 0]:=⟨inferInstance,KT (v:=.int .u8 0) Yhp rfl rfl⟩
instance:PtrT prog 72:=⟨⟨_,underlying72⟩⟩
instance:OneT prog 72:=⟨⟨_,underlying72,rfl⟩,Jo Yhp⟩
instance:SliceT prog 77 64:=⟨underlying77⟩
instance:RowT prog 77 64 1 24:=⟨underlying77,JG (z:=zS) Yhp Yhp,by decide⟩
instance:RowZ prog 77 64 1 24 [zS]:=⟨inferInstance,KT (v:=zS) Yhp rfl rfl⟩
instance:SliceT prog 86 219:=⟨underlying86⟩
instance:RowT prog 86 219 2 40:=⟨underlying86,JG (z:=.agg #[.string .empty,zS]) Yhp Yhp,by decide⟩
instance:OneT prog 86:=⟨⟨_,underlying86,rfl⟩,Jo Yhp⟩
instance:RowZ prog 86 219 2 40 [.string .empty,zS]:=⟨inferInstance,KT (v:=.agg #[.string .empty,zS]) Yhp rfl rfl⟩
instance:SliceT prog 87 223:=⟨underlying87⟩
instance:RowT prog 87 223 4 64:=⟨underlying87,JG (z:=.agg #[.string .empty,zI,.string .empty,zS]) Yhp Yhp,by decide⟩
instance:OneT prog 87:=⟨⟨_,underlying87,rfl⟩,Jo Yhp⟩
instance:RowZ prog 87 223 4 64 [.string .empty,zI,.string .empty,zS]:=⟨inferInstance,KT (v:=.agg #[.string .empty,zI,.string .empty,zS]) Yhp rfl rfl⟩
instance:SliceT prog 88 90:=⟨underlying88⟩
instance:RowT prog 88 90 3 48:=⟨underlying88,JG (z:=.agg #[zI,.string .empty,zS]) Yhp Yhp,by decide⟩
instance:OneT prog 88:=⟨⟨_,underlying88,rfl⟩,Jo Yhp⟩
instance:RowZ prog 88 90 3 48 [zI,.string .empty,zS]:=⟨inferInstance,KT (v:=.agg #[zI,.string .empty,zS]) Yhp rfl rfl⟩
instance:AggT prog 90 3:=⟨⟨_,underlying90,rfl⟩,Jo Yhp⟩
instance:ZeroT prog 90 (.agg #[zI,.string .empty,zS]):=⟨JO Yhp⟩
instance:BuildT prog 90 [zI,.string .empty,zS] [(0,1),(1,1),(2,1)]:=⟨J9 (v:=.agg #[zI,.string .empty,zS]) Yhp rfl,⟨_,underlying90,fun w=>by kernel_rfl⟩⟩
instance:FieldT prog 90 0 0:=fld 1 underlying90
instance:FieldT prog 90 1 1:=fld 1 underlying90
instance:FieldT prog 90 2 2:=fld 1 underlying90
instance:SliceT prog 91 9:=⟨underlying91⟩
instance:RowT prog 91 9 1 16:=⟨underlying91,JG (z:=.string .empty) Yhp Yhp,by decide⟩
instance:OneT prog 91:=⟨⟨_,underlying91,rfl⟩,Jo Yhp⟩
instance:RowZ prog 91 9 1 16 [.string .empty]:=⟨inferInstance,KT (v:=.string .empty) Yhp rfl rfl⟩
instance:SliceT prog 92 91:=⟨underlying92⟩
instance:RowT prog 92 91 1 24:=⟨underlying92,JG (z:=zS) Yhp Yhp,by decide⟩
instance:OneT prog 92:=⟨⟨_,underlying92,rfl⟩,Jo Yhp⟩
instance:RowZ prog 92 91 1 24 [zS]:=⟨inferInstance,KT (v:=zS) Yhp rfl rfl⟩
instance:SliceT prog 93 95:=⟨underlying93⟩
instance:RowT prog 93 95 7 112:=⟨underlying93,JG (z:=.agg #[zI,.string .empty,zI,zS,zS,zS,zI]) Yhp Yhp,by decide⟩
instance:OneT prog 93:=⟨⟨_,underlying93,rfl⟩,Jo Yhp⟩
instance:RowZ prog 93 95 7 112 [zI,.string .empty,zI,zS,zS,zS,zI]:=⟨inferInstance,KT (v:=.agg #[zI,.string .empty,zI,zS,zS,zS,zI]) Yhp rfl rfl⟩
instance:AggT prog 95 7:=⟨⟨_,underlying95,rfl⟩,Jo Yhp⟩
instance:ZeroT prog 95 (.agg #[zI,.string .empty,zI,zS,zS,zS,zI]):=⟨JO Yhp⟩
instance:BuildT prog 95 [zI,.string .empty,zI,zS,zS,zS,zI] [(0,1),(1,1),(2,1),(3,1),(4,1),(5,1),(6,1)]:=⟨J9 (v:=.agg #[zI,.string .empty,zI,zS,zS,zS,zI]) Yhp rfl,⟨_,underlying95,fun w=>by kernel_rfl⟩⟩
instance:FieldT prog 95 0 0:=fld 1 underlying95
instance:FieldT prog 95 1 1:=fld 1 underlying95
instance:FieldT prog 95 2 2:=fld 1 underlying95
instance:FieldT prog 95 3 3:=fld 1 underlying95
instance:FieldT prog 95 4 4:=fld 1 underlying95
instance:FieldT prog 95 5 5:=fld 1 underlying95
instance:FieldT prog 95 6 6:=fld 1 underlying95
instance:SliceT prog 96 98:=⟨underlying96⟩
instance:RowT prog 96 98 6 104:=⟨underlying96,JG (z:=.agg #[zI,.string .empty,zS,zS,zS,zI]) Yhp Yhp,by decide⟩
instance:OneT prog 96:=⟨⟨_,underlying96,rfl⟩,Jo Yhp⟩
instance:RowZ prog 96 98 6 104 [zI,.string .empty,zS,zS,zS,zI]:=⟨inferInstance,KT (v:=.agg #[zI,.string .empty,zS,zS,zS,zI]) Yhp rfl rfl⟩
instance:AggT prog 98 6:=⟨⟨_,underlying98,rfl⟩,Jo Yhp⟩
instance:ZeroT prog 98 (.agg #[zI,.string .empty,zS,zS,zS,zI]):=⟨JO Yhp⟩
instance:BuildT prog 98 [zI,.string .empty,zS,zS,zS,zI] [(0,1),(1,1),(2,1),(3,1),(4,1),(5,1)]:=⟨J9 (v:=.agg #[zI,.string .empty,zS,zS,zS,zI]) Yhp rfl,⟨_,underlying98,fun w=>by kernel_rfl⟩⟩
instance:FieldT prog 98 0 0:=fld 1 underlying98
instance:FieldT prog 98 1 1:=fld 1 underlying98
instance:FieldT prog 98 2 2:=fld 1 underlying98
instance:FieldT prog 98 3 3:=fld 1 underlying98
instance:FieldT prog 98 4 4:=fld 1 underlying98
instance:SliceT prog 99 230:=⟨underlying99⟩
instance:RowT prog 99 230 11 176:=⟨underlying99,JG (z:=.agg #[.string .empty,zI,.string .empty,zS,zI,.string .empty,zS,zS,zS,zI,.bool false]) Yhp Yhp,by decide⟩
instance:OneT prog 99:=⟨⟨_,underlying99,rfl⟩,Jo Yhp⟩
instance:RowZ prog 99 230 11 176 [.string .empty,zI,.string .empty,zS,zI,.string .empty,zS,zS,zS,zI,.bool false]:=⟨inferInstance,KT (v:=.agg #[.string .empty,zI,.string .empty,zS,zI,.string .empty,zS,zS,zS,zI,.bool false]) Yhp rfl rfl⟩
instance:SliceT prog 100 132:=⟨underlying100⟩
instance:RowT prog 100 132 8 128:=⟨underlying100,JG (z:=.agg #[.string .empty,zI,.string .empty,zI,zS,zS,zS,zI]) Yhp Yhp,by decide⟩
instance:OneT prog 100:=⟨⟨_,underlying100,rfl⟩,Jo Yhp⟩
instance:RowZ prog 100 132 8 128 [.string .empty,zI,.string .empty,zI,zS,zS,zS,zI]:=⟨inferInstance,KT (v:=.agg #[.string .empty,zI,.string .empty,zI,zS,zS,zS,zI]) Yhp rfl rfl⟩
instance:SliceT prog 101 236:=⟨underlying101⟩
instance:RowT prog 101 236 3 32:=⟨underlying101,JG (z:=.agg #[.string .empty,zI,zI]) Yhp Yhp,by decide⟩
instance:OneT prog 101:=⟨⟨_,underlying101,rfl⟩,Jo Yhp⟩
instance:RowZ prog 101 236 3 32 [.string .empty,zI,zI]:=⟨inferInstance,KT (v:=.agg #[.string .empty,zI,zI]) Yhp rfl rfl⟩
instance:SliceT prog 102 176:=⟨underlying102⟩
instance:RowT prog 102 176 23 376:=⟨underlying102,JG (z:=.agg #[.string .empty,zS,zI,.string .empty,zI,zS,zS,zS,zI,zI,.string .empty,zI,zS,zS,zS,zI,zI,.string .empty,zI,zS,zS,zS,zI]) Yhp Yhp,by decide⟩
instance:OneT prog 102:=⟨⟨_,underlying102,rfl⟩,Jo Yhp⟩
instance:RowZ prog 102 176 23 376 [.string .empty,zS,zI,.string .empty,zI,zS,zS,zS,zI,zI,.string .empty,zI,zS,zS,zS,zI,zI,.string .empty,zI,zS,zS,zS,zI]:=⟨inferInstance,KT (v:=.agg #[.string .empty,zS,zI,.string .empty,zI,zS,zS,zS,zI,zI,.string .empty,zI,zS,zS,zS,zI,zI,.string .empty,zI,zS,zS,zS,zI]) Yhp rfl rfl⟩
instance:SliceT prog 103 179:=⟨underlying103⟩
instance:RowT prog 103 179 3 64:=⟨underlying103,JG (z:=.agg #[.string .empty,zS,zS]) Yhp Yhp,by decide⟩
instance:OneT prog 103:=⟨⟨_,underlying103,rfl⟩,Jo Yhp⟩
instance:RowZ prog 103 179 3 64 [.string .empty,zS,zS]:=⟨inferInstance,KT (v:=.agg #[.string .empty,zS,zS]) Yhp rfl rfl⟩
instance:AggT prog 105 45:=⟨⟨_,underlying105,rfl⟩,Jo Yhp⟩
instance:FieldT prog 105 0 0:=fld 1 underlying105
instance:FieldT prog 105 1 1:=fld 1 underlying105
instance:FieldT prog 105 2 2:=fld 1 underlying105
instance:FieldT prog 105 3 3:=fld 1 underlying105
instance:FieldT prog 105 4 4:=fld 1 underlying105
instance:FieldT prog 105 5 5:=fld 3 underlying105
instance:FieldT prog 105 6 8:=fld 7 underlying105
instance:FieldT prog 105 7 15:=fld 1 underlying105
instance:FieldT prog 105 8 16:=fld 6 underlying105
instance:FieldT prog 105 9 22:=fld 1 underlying105
instance:FieldT prog 105 10 23:=fld 1 underlying105
instance:FieldT prog 105 11 24:=fld 1 underlying105
instance:FieldT prog 105 12 25:=fld 1 underlying105
instance:FieldT prog 105 13 26:=fld 3 underlying105
instance:FieldT prog 105 14 29:=fld 7 underlying105
instance:FieldT prog 105 15 36:=fld 1 underlying105
instance:FieldT prog 105 16 37:=fld 1 underlying105
instance:FieldT prog 105 17 38:=fld 7 underlying105
instance:OneT prog 107:=⟨⟨_,underlying107,rfl⟩,Jo Yhp⟩
instance:ZeroT prog 107 (.map none):=⟨JO Yhp⟩
instance:OneT prog 114:=⟨⟨_,underlying114,rfl⟩,Jo Yhp⟩
instance:ZeroT prog 114 (.nilFunc):=⟨JO Yhp⟩
instance:RowT prog 118 41 5 72:=⟨underlying118,JG (z:=.agg #[zI,zI,zI,zS,zS]) Yhp Yhp,by decide⟩
instance:OneT prog 118:=⟨⟨_,underlying118,rfl⟩,Jo Yhp⟩
instance:RowZ prog 118 41 5 72 [zI,zI,zI,zS,zS]:=⟨inferInstance,KT (v:=.agg #[zI,zI,zI,zS,zS]) Yhp rfl rfl⟩
instance:BuildT prog 120 [.string .empty,zI,zI,zS,zS] [(0,1),(1,1),(2,1),(3,1),(4,1)]:=⟨J9 (v:=.agg #[.string .empty,zI,zI,zS,zS]) Yhp rfl,⟨_,underlying120,fun w=>by kernel_rfl⟩⟩
instance:FieldT prog 120 1 1:=fld 1 underlying120
instance:FieldT prog 120 2 2:=fld 1 underlying120
instance:FieldT prog 120 3 3:=fld 1 underlying120
instance:FieldT prog 120 4 4:=fld 1 underlying120
instance:AggT prog 121 3:=⟨⟨_,underlying121,rfl⟩,Jo Yhp⟩
instance:ArrT prog 121 3 3 1:=⟨underlying121,Jo Yhp⟩
instance:OneT prog 122:=⟨⟨_,underlying122,rfl⟩,Jo Yhp⟩
instance:OneT prog 123:=⟨⟨_,underlying123,rfl⟩,Jo Yhp⟩
instance:BuildT prog 125 [.string .empty,zI,zS,zI,zI,zI,zI,zS,.map none,.map none] [(0,1),(1,1),(2,1),(3,1),(4,3),(7,1),(8,1),(9,1)]:=⟨J9 (v:=.agg #[.string .empty,zI,zS,zI,zI,zI,zI,zS,.map none,.map none]) Yhp rfl,⟨_,underlying125,fun w=>by kernel_rfl⟩⟩
instance:FieldT prog 125 0 0:=fld 1 underlying125
instance:FieldT prog 125 1 1:=fld 1 underlying125
instance:FieldT prog 125 2 2:=fld 1 underlying125
instance:FieldT prog 125 3 3:=fld 1 underlying125
instance:FieldT prog 125 4 4:=fld 3 underlying125
instance:FieldT prog 125 5 7:=fld 1 underlying125
instance:FieldT prog 125 6 8:=fld 1 underlying125
instance:FieldT prog 125 7 9:=fld 1 underlying125
instance:SliceT prog 126 128:=⟨underlying126⟩
instance:RowT prog 126 128 6 64:=⟨underlying126,JG (z:=.agg #[.string .empty,zI,zI,.string .empty,zI,zI]) Yhp Yhp,by decide⟩
instance:RowZ prog 126 128 6 64 [.string .empty,zI,zI,.string .empty,zI,zI]:=⟨inferInstance,KT (v:=.agg #[.string .empty,zI,zI,.string .empty,zI,zI]) Yhp rfl rfl⟩
instance:AggT prog 128 6:=⟨⟨_,underlying128,rfl⟩,Jo Yhp⟩
instance:ArrT prog 128 2 50 3:=⟨underlying128,Jo Yhp⟩
instance:ZeroT prog 128 (.agg #[.string .empty,zI,zI,.string .empty,zI,zI]):=⟨JO Yhp⟩
instance:AggT prog 132 8:=⟨⟨_,underlying132,rfl⟩,Jo Yhp⟩
instance:ZeroT prog 132 (.agg #[.string .empty,zI,.string .empty,zI,zS,zS,zS,zI]):=⟨JO Yhp⟩
instance:BuildT prog 132 [.string .empty,zI,.string .empty,zI,zS,zS,zS,zI] [(0,1),(1,7)]:=⟨J9 (v:=.agg #[.string .empty,zI,.string .empty,zI,zS,zS,zS,zI]) Yhp rfl,⟨_,underlying132,fun w=>by kernel_rfl⟩⟩
instance:FieldT prog 132 0 0:=fld 1 underlying132
instance:FieldT prog 132 1 1:=fld 7 underlying132
instance:ZeroT prog 139 (.agg #[zS]):=⟨JO Yhp⟩
instance:FieldT prog 139 0 0:=fld 1 underlying139
instance:BuildT prog 147 [zS,zI] [(0,1),(1,1)]:=⟨J9 (v:=.agg #[zS,zI]) Yhp rfl,⟨_,underlying147,fun w=>by kernel_rfl⟩⟩
instance:FieldT prog 147 0 0:=fld 1 underlying147
instance:FieldT prog 147 1 1:=fld 1 underlying147
instance:IntT prog 149 .u64:=⟨underlying149⟩
instance:BuildT prog 154 [.pointer none,zI,.bool false] [(0,1),(1,1),(2,1)]:=⟨J9 (v:=.agg #[.pointer none,zI,.bool false]) Yhp rfl,⟨_,underlying154,fun w=>by kernel_rfl⟩⟩
instance:FieldT prog 154 0 0:=fld 1 underlying154
instance:FieldT prog 154 1 1:=fld 1 underlying154
instance:FieldT prog 154 2 2:=fld 1 underlying154
instance:SliceT prog 156 199:=⟨underlying156⟩
instance:RowT prog 156 199 4 40:=⟨underlying156,JG (z:=.agg #[zI,zI,zI,.string .empty]) Yhp Yhp,by decide⟩
instance:OneT prog 156:=⟨⟨_,underlying156,rfl⟩,Jo Yhp⟩
instance:RowZ prog 156 199 4 40 [zI,zI,zI,.string .empty]:=⟨inferInstance,KT (v:=.agg #[zI,zI,zI,.string .empty]) Yhp rfl rfl⟩
instance:BuildT prog 161 [.string .empty,zS,zI,.bool false] [(0,1),(1,1),(2,1),(3,1)]:=⟨J9 (v:=.agg #[.string .empty,zS,zI,.bool false]) Yhp rfl,⟨_,underlying161,fun w=>by kernel_rfl⟩⟩
instance:FieldT prog 161 0 0:=fld 1 underlying161
instance:FieldT prog 161 1 1:=fld 1 underlying161
instance:FieldT prog 161 2 2:=fld 1 underlying161
instance:FieldT prog 161 3 3:=fld 1 underlying161
instance:AggT prog 164 4:=⟨⟨_,underlying164,rfl⟩,Jo Yhp⟩
instance:ZeroT prog 164 (.agg #[.bool false,.bool false,.bool false,.bool false]):=⟨JO Yhp⟩
instance:BuildT prog 164 [.bool false,.bool false,.bool false,.bool false] [(0,1),(1,1),(2,1),(3,1)]:=⟨J9 (v:=.agg #[.bool false,.bool false,.bool false,.bool false]) Yhp rfl,⟨_,underlying164,fun w=>by kernel_rfl⟩⟩
instance:FieldT prog 164 0 0:=fld 1 underlying164
instance:FieldT prog 164 1 1:=fld 1 underlying164
instance:FieldT prog 164 2 2:=fld 1 underlying164
instance:FieldT prog 164 3 3:=fld 1 underlying164
instance:BuildT prog 171 [zS,zI] [(0,1),(1,1)]:=⟨J9 (v:=.agg #[zS,zI]) Yhp rfl,⟨_,underlying171,fun w=>by kernel_rfl⟩⟩
instance:FieldT prog 171 0 0:=fld 1 underlying171
instance:FieldT prog 171 1 1:=fld 1 underlying171
instance:AggT prog 176 23:=⟨⟨_,underlying176,rfl⟩,Jo Yhp⟩
instance:ZeroT prog 176 (.agg #[.string .empty,zS,zI,.string .empty,zI,zS,zS,zS,zI,zI,.string .empty,zI,zS,zS,zS,zI,zI,.string .empty,zI,zS,zS,zS,zI]):=⟨JO Yhp⟩
instance:BuildT prog 176 [.string .empty,zS,zI,.string .empty,zI,zS,zS,zS,zI,zI,.string .empty,zI,zS,zS,zS,zI,zI,.string .empty,zI,zS,zS,zS,zI] [(0,1),(1,1),(2,7),(9,7),(16,7)]:=⟨J9 (v:=.agg #[.string .empty,zS,zI,.string .empty,zI,zS,zS,zS,zI,zI,.string .empty,zI,zS,zS,zS,zI,zI,.string .empty,zI,zS,zS,zS,zI]) Yhp rfl,⟨_,underlying176,fun w=>by kernel_rfl⟩⟩
instance:FieldT prog 176 0 0:=fld 1 underlying176
instance:FieldT prog 176 1 1:=fld 1 underlying176
instance:FieldT prog 176 2 2:=fld 7 underlying176
instance:FieldT prog 176 3 9:=fld 7 underlying176
instance:FieldT prog 176 4 16:=fld 7 underlying176
instance:SliceT prog 177 181:=⟨underlying177⟩
instance:RowT prog 177 181 14 224:=⟨underlying177,JG (z:=.agg #[zI,.string .empty,zI,zS,zS,zS,zI,zI,.string .empty,zI,zS,zS,zS,zI]) Yhp Yhp,by decide⟩
instance:OneT prog 177:=⟨⟨_,underlying177,rfl⟩,Jo Yhp⟩
instance:RowZ prog 177 181 14 224 [zI,.string .empty,zI,zS,zS,zS,zI,zI,.string .empty,zI,zS,zS,zS,zI]:=⟨inferInstance,KT (v:=.agg #[zI,.string .empty,zI,zS,zS,zS,zI,zI,.string .empty,zI,zS,zS,zS,zI]) Yhp rfl rfl⟩
instance:AggT prog 179 3:=⟨⟨_,underlying179,rfl⟩,Jo Yhp⟩
instance:ZeroT prog 179 (.agg #[.string .empty,zS,zS]):=⟨JO Yhp⟩
instance:BuildT prog 179 [.string .empty,zS,zS] [(0,1),(1,1),(2,1)]:=⟨J9 (v:=.agg #[.string .empty,zS,zS]) Yhp rfl,⟨_,underlying179,fun w=>by kernel_rfl⟩⟩
instance:FieldT prog 179 0 0:=fld 1 underlying179
instance:FieldT prog 179 1 1:=fld 1 underlying179
instance:FieldT prog 179 2 2:=fld 1 underlying179
instance:AggT prog 181 14:=⟨⟨_,underlying181,rfl⟩,Jo Yhp⟩
instance:ZeroT prog 181 (.agg #[zI,.string .empty,zI,zS,zS,zS,zI,zI,.string .empty,zI,zS,zS,zS,zI]):=⟨JO Yhp⟩
instance:BuildT prog 181 [zI,.string .empty,zI,zS,zS,zS,zI,zI,.string .empty,zI,zS,zS,zS,zI] [(0,7),(7,7)]:=⟨J9 (v:=.agg #[zI,.string .empty,zI,zS,zS,zS,zI,zI,.string .empty,zI,zS,zS,zS,zI]) Yhp rfl,⟨_,underlying181,fun w=>by kernel_rfl⟩⟩
instance:FieldT prog 181 0 0:=fld 7 underlying181
instance:FieldT prog 181 1 7:=fld 7 underlying181
instance:AggT prog 199 4:=⟨⟨_,underlying199,rfl⟩,Jo Yhp⟩
instance:ZeroT prog 199 (.agg #[zI,zI,zI,.string .empty]):=⟨JO Yhp⟩
instance:BuildT prog 199 [zI,zI,zI,.string .empty] [(0,1),(1,1),(2,1),(3,1)]:=⟨J9 (v:=.agg #[zI,zI,zI,.string .empty]) Yhp rfl,⟨_,underlying199,fun w=>by kernel_rfl⟩⟩
instance:FieldT prog 199 0 0:=fld 1 underlying199
instance:FieldT prog 199 1 1:=fld 1 underlying199
instance:FieldT prog 199 2 2:=fld 1 underlying199
instance:FieldT prog 199 3 3:=fld 1 underlying199
instance:AggT prog 219 2:=⟨⟨_,underlying219,rfl⟩,Jo Yhp⟩
instance:ZeroT prog 219 (.agg #[.string .empty,zS]):=⟨JO Yhp⟩
instance:BuildT prog 219 [.string .empty,zS] [(0,1),(1,1)]:=⟨J9 (v:=.agg #[.string .empty,zS]) Yhp rfl,⟨_,underlying219,fun w=>by kernel_rfl⟩⟩
instance:FieldT prog 219 0 0:=fld 1 underlying219
instance:FieldT prog 219 1 1:=fld 1 underlying219
instance:AggT prog 223 4:=⟨⟨_,underlying223,rfl⟩,Jo Yhp⟩
instance:ZeroT prog 223 (.agg #[.string .empty,zI,.string .empty,zS]):=⟨JO Yhp⟩
instance:BuildT prog 223 [.string .empty,zI,.string .empty,zS] [(0,1),(1,3)]:=⟨J9 (v:=.agg #[.string .empty,zI,.string .empty,zS]) Yhp rfl,⟨_,underlying223,fun w=>by kernel_rfl⟩⟩
instance:FieldT prog 223 0 0:=fld 1 underlying223
instance:FieldT prog 223 1 1:=fld 3 underlying223
instance:AggT prog 230 11:=⟨⟨_,underlying230,rfl⟩,Jo Yhp⟩
instance:ZeroT prog 230 (.agg #[.string .empty,zI,.string .empty,zS,zI,.string .empty,zS,zS,zS,zI,.bool false]):=⟨JO Yhp⟩
instance:BuildT prog 230 [.string .empty,zI,.string .empty,zS,zI,.string .empty,zS,zS,zS,zI,.bool false] [(0,1),(1,3),(4,6),(10,1)]:=⟨J9 (v:=.agg #[.string .empty,zI,.string .empty,zS,zI,.string .empty,zS,zS,zS,zI,.bool false]) Yhp rfl,⟨_,underlying230,fun w=>by kernel_rfl⟩⟩
instance:FieldT prog 230 0 0:=fld 1 underlying230
instance:FieldT prog 230 1 1:=fld 3 underlying230
instance:FieldT prog 230 2 4:=fld 6 underlying230
instance:FieldT prog 230 3 10:=fld 1 underlying230
instance:AggT prog 236 3:=⟨⟨_,underlying236,rfl⟩,Jo Yhp⟩
instance:ZeroT prog 236 (.agg #[.string .empty,zI,zI]):=⟨JO Yhp⟩
instance:BuildT prog 236 [.string .empty,zI,zI] [(0,1),(1,1),(2,1)]:=⟨J9 (v:=.agg #[.string .empty,zI,zI]) Yhp rfl,⟨_,underlying236,fun w=>by kernel_rfl⟩⟩
instance:FieldT prog 236 0 0:=fld 1 underlying236
instance:FieldT prog 236 1 1:=fld 1 underlying236
instance:FieldT prog 236 2 2:=fld 1 underlying236
instance:SliceT prog 241 31:=⟨underlying241⟩
instance:RowT prog 241 31 1 24:=⟨underlying241,JG (z:=zS) Yhp Yhp,by decide⟩
instance:FnT prog 9:=fnt func9
instance:FnT prog 10:=fnt func10
instance:FnT prog 11:=fnt func11
instance:FnT prog 12:=fnt func12
instance:FnT prog 13:=fnt func13
instance:FnT prog 14:=fnt func14
instance:FnT prog 15:=fnt func15
instance:FnT prog 16:=fnt func16
instance:FnT prog 18:=fnt func18
instance:FnT prog 20:=fnt func20
instance:FnT prog 22:=fnt func22
instance:FnT prog 24:=fnt func24
instance:FnT prog 25:=fnt func25
instance:FnT prog 26:=fnt func26
instance:FnT prog 27:=fnt func27
instance:FnT prog 30:=fnt func30
instance:FnT prog 32:=fnt func32
instance:FnT prog 33:=fnt func33
instance:FnT prog 34:=fnt func34
instance:FnT prog 35:=fnt func35
instance:FnT prog 36:=fnt func36
instance:FnT prog 37:=fnt func37
instance:FnT prog 38:=fnt func38
instance:FnT prog 39:=fnt func39
instance:FnT prog 40:=fnt func40
instance:FnT prog 41:=fnt func41
instance:FnT prog 42:=fnt func42
instance:FnT prog 43:=fnt func43
instance:FnT prog 44:=fnt func44
instance:FnT prog 45:=fnt func45
instance:FnT prog 46:=fnt func46
instance:FnT prog 47:=fnt func47
instance:FnT prog 48:=fnt func48
instance:FnT prog 49:=fnt func49
instance:FnT prog 50:=fnt func50
instance:FnT prog 51:=fnt func51
instance:FnT prog 52:=fnt func52
instance:FnT prog 53:=fnt func53
instance:FnT prog 54:=fnt func54
instance:FnT prog 65:=fnt func65
instance:FnT prog 66:=fnt func66
instance:FnT prog 67:=fnt func67
instance:FnT prog 68:=fnt func68
instance:FnT prog 69:=fnt func69
instance:FnT prog 70:=fnt func70
instance:FnT prog 72:=fnt func72
instance:FnT prog 73:=fnt func73
instance:FnT prog 74:=fnt func74
instance:FnT prog 75:=fnt func75
instance:FnT prog 76:=fnt func76
instance:FnT prog 77:=fnt func77
instance:FnT prog 78:=fnt func78
instance:FnT prog 79:=fnt func79
instance:FnT prog 80:=fnt func80
instance:FnT prog 81:=fnt func81
instance:FnT prog 82:=fnt func82
instance:FnT prog 83:=fnt func83
instance:FnT prog 84:=fnt func84
instance:FnT prog 85:=fnt func85
instance:FnT prog 86:=fnt func86
instance:FnT prog 87:=fnt func87
instance:FnT prog 88:=fnt func88
instance:FnT prog 89:=fnt func89
instance:FnT prog 90:=fnt func90
instance:FnT prog 91:=fnt func91
instance:FnT prog 92:=fnt func92
instance:FnT prog 93:=fnt func93
instance:FnT prog 94:=fnt func94
instance:FnT prog 95:=fnt func95
instance:FnT prog 97:=fnt func97
instance:FnT prog 98:=fnt func98
instance:FnT prog 99:=fnt func99
instance:FnT prog 100:=fnt func100
instance:FnT prog 101:=fnt func101
instance:FnT prog 103:=fnt func103
instance:FnT prog 108:=fnt func108
instance:FnT prog 109:=fnt func109
instance:FnT prog 110:=fnt func110
instance:FnT prog 111:=fnt func111
instance:FnT prog 112:=fnt func112
instance:FnT prog 113:=fnt func113
instance:FnT prog 114:=fnt func114
instance:FnT prog 115:=fnt func115
instance:FnT prog 116:=fnt func116
instance:FnT prog 117:=fnt func117
instance:FnT prog 118:=fnt func118
instance:FnT prog 119:=fnt func119
instance:FnT prog 120:=fnt func120
instance:FnT prog 121:=fnt func121
instance:FnT prog 122:=fnt func122
instance:FnT prog 123:=fnt func123
instance:FnT prog 124:=fnt func124
instance:FnT prog 125:=fnt func125
instance:FnT prog 126:=fnt func126
instance:FnT prog 127:=fnt func127
instance:FnT prog 128:=fnt func128
instance:FnT prog 129:=fnt func129
instance:FnT prog 130:=fnt func130
instance:FnT prog 131:=fnt func131
instance:FnT prog 132:=fnt func132
instance:FnT prog 133:=fnt func133
instance:FnT prog 134:=fnt func134
instance:FnT prog 135:=fnt func135
instance:FnT prog 136:=fnt func136
instance:FnT prog 137:=fnt func137
instance:FnT prog 138:=fnt func138
instance:FnT prog 139:=fnt func139
instance:FnT prog 140:=fnt func140
instance:FnT prog 141:=fnt func141
instance:FnT prog 142:=fnt func142
instance:FnT prog 143:=fnt func143
instance:FnT prog 144:=fnt func144
instance:FnT prog 145:=fnt func145
instance:FnT prog 146:=fnt func146
instance:FnT prog 147:=fnt func147
instance:FnT prog 148:=fnt func148
instance:FnT prog 149:=fnt func149
instance:FnT prog 150:=fnt func150
instance:FnT prog 151:=fnt func151
instance:FnT prog 155:=fnt func155
instance:FnT prog 156:=fnt func156
instance:FnT prog 157:=fnt func157
instance:FnT prog 158:=fnt func158
instance:FnT prog 161:=fnt func161
instance:FnT prog 162:=fnt func162
instance:FnT prog 163:=fnt func163
instance:FnT prog 164:=fnt func164
instance:FnT prog 165:=fnt func165
instance:FnT prog 166:=fnt func166
instance:FnT prog 167:=fnt func167
instance:FnT prog 168:=fnt func168
instance:FnT prog 169:=fnt func169
instance:FnT prog 170:=fnt func170
instance:FnT prog 171:=fnt func171
instance:FnT prog 172:=fnt func172
instance:FnT prog 173:=fnt func173
instance:FnT prog 174:=fnt func174
instance:FnT prog 175:=fnt func175
instance:FnT prog 176:=fnt func176
instance:FnT prog 177:=fnt func177
instance:FnT prog 178:=fnt func178
instance:FnT prog 179:=fnt func179
instance:FnT prog 180:=fnt func180
instance:FnT prog 181:=fnt func181
instance:FnT prog 182:=fnt func182
instance:FnT prog 183:=fnt func183
instance:FnT prog 184:=fnt func184
instance:FnT prog 185:=fnt func185
instance:FnT prog 186:=fnt func186
instance:FnT prog 205:=fnt func205
instance:FnT prog 206:=fnt func206
instance:FnT prog 207:=fnt func207
instance:FnT prog 208:=fnt func208
instance:FnT prog 209:=fnt func209
instance:FnT prog 210:=fnt func210
instance:FnT prog 211:=fnt func211
instance:FnT prog 212:=fnt func212
instance:FnT prog 213:=fnt func213
instance:FnT prog 214:=fnt func214
instance:FnT prog 215:=fnt func215
instance:FnT prog 216:=fnt func216
instance:FnT prog 217:=fnt func217
instance:FnT prog 218:=fnt func218
instance:FnT prog 219:=fnt func219
instance:FnT prog 220:=fnt func220
instance:FnT prog 229:=fnt func229
instance:FnT prog 230:=fnt func230
instance:FnT prog 231:=fnt func231
end
section
open Go.Rf Go.RowKit
variable{ys:List Value}{c j m p:Nat}{u:Value}{w w1 w2:World}
attribute [local irreducible] Code.wp wpList Exit.then Exit.inBlock bodyPost A Calls execOp Addr.add
theorem around(a b:Int)(w:World)(ha: -9223372036854775808<=a)(ha2:a<=9223372036854775807)(hb:0<b):
 Calls prog 25 #[iV a,iV b] w fun e w'=>e=.returned (iV (Jbq a b))/\w=w':=by
 refine enter func25 rfl ntmps25 rfl ?_;refine rn ?_;refine QZ rfl rfl (fun h=>?_) (fun h=>?_)
 .refine rn ?_;refine Yfw ?_;exact⟨by rw[Jbq,Cb h,Int.zero_sub],rfl⟩
 .refine rn ?_;refine Yfw ?_;exact⟨by rw[Jbq,SH h],rfl⟩
def IsW(w:World)(p:Nat)(v:Value)(bs:List Int):Prop:=Blk w p [v] 139/\Own w 5 1 v bs.length (bs.map (.int .u8))
def KN(p:Nat)(w:World)(v:Value)(bs':List Int)(w':World):Prop:=
 ∃v',IsW w' p v' bs'/\Fr (p::blks v) w w'/\∀k∈blks v',k∈blks v\/w.heap.size<=k
theorem KN.refl{v:Value}{bs:List Int}(h:IsW w p v bs):KN p w v bs w:=⟨v,h,Fr.refl _ _,fun _ hk=>.inl hk⟩
theorem KN.trans{v v1:Value}{bs2:List Int}(hf:Fr (p::blks v) w w1)(hk:∀k∈blks v1,k∈blks v\/w.heap.size<=k)(h:KN p w1 v1 bs2 w2):KN p w v bs2 w2:=by
 obtain⟨v2,h1,h2,h3⟩:=h;refine⟨v2,h1,hf.trans h2 ?_,?_⟩
 .intro x hx;rcases SC.1 hx with rfl|hx
  .exact .inl Yhs
  .rcases hk x hx with h|h
   .exact .inl Ynn
   .exact .inr h
 .intro k hk2;rcases h3 k hk2 with h|h
  .exact hk k h
  .exact .inr (CG hf.size h)
theorem IsW.one{v:Value}{bs:List Int}(h:IsW w p v bs):v.oneCell'=true:=h.2.one
theorem IsW.push{v v':Value}{bs cs:List Int}(h:IsW w p v bs)(hf1:Fr [] w w1)(ho:Own w2 5 1 v' (bs.length+cs.length) (bs.map (.int .u8)++cs.map (.int .u8)))(hf2:Fr (blks v) w1 w2)
 (hk:∀b∈blks v',b∈blks v\/w1.heap.size<=b) {w3:World} (hb:Blk w3 p [v'] 139) (hf3:Fr [p] w2 w3):KN p w v (bs++cs) w3:=by
 have hne:=Own.ne ho ((h.1.tr0 hf1).tr hf2 (fun hp=>(h.2.ne h.1 Yhy) p hp rfl)) Yhy;refine⟨v',⟨hb,?_⟩,?_,?_⟩
 .have:=ho.tr hf3 (fun k hk=>by simp;exact hne k hk);simpa using this
 .refine (hf1.mono (fun x hx=>by cases hx)).trans (hf2.mono (T:=p::blks v) (fun x hx=>.inl Yix)) (fun x hx=>.inl hx)|>.trans hf3 (fun x hx=>.inl Yno)
 .intro k hk';rcases hk k hk' with h|h
  .exact .inl h
  .exact .inr (CG hf1.size h)
theorem Jh1(p:Nat)(v:Value)(bs:List Int)(n:Nat)(w:World)(hn:n<18446744073709551616)(hw:IsW w p v bs)(hl:bs.length<=1000000000000):
 Calls prog 108 #[.pointer (some ⟨p,0,none⟩),.int .u64 n] w fun e w'=>e=.returned (.tuple #[])/\KN p w v (bs++uv n) w':=by
 refine enter func108 rfl ntmps108 rfl ?_;refine rn ?_;have hul:=Xw n hn;refine Jbg (σ:=Nat×Value×List Int) (fun s g u=>g 0=.pointer (some ⟨p,0,none⟩)/\g 1=.int .u64 s.1/\s.1<18446744073709551616/\bs++uv n=s.2.2++uv s.1/\IsW u p s.2.1 s.2.2/\Fr (p::blks v) w u/\∀k∈blks s.2.1,k∈blks v\/w.heap.size<=k)
  (fun s=>s.1) (n,v,bs) ⟨rfl,rfl,hn,rfl,hw,Fr.refl _ _,fun _ hk=>.inl hk⟩ ?_
 rintro⟨m,vr,br⟩ g u ⟨h0,h1,hm,hbs,hwr,hfr,hkr⟩;simp only at h0 h1 hm hbs hwr hkr;rw[Ja h0,Ja h1];have hlen:br.length<=1000000000010:=by
  have:=CZ List.length hbs;simp only[Sm]at this;omega
 refine rn ?_;have hne:=hwr.2.ne hwr.1 Yhy;refine Vf rfl rfl (fun h=>?_) (fun h=>?_)
 .refine rn ?_;refine VH rfl hwr.1 rfl ?_;refine rn ?_;refine Q5 rfl (Jdp _) ?_;refine Jkz rfl rfl (Jj7 m) ?_
  ((with_reducible apply QO);(conv=>lhs;whnf);exact rfl)
  intro w1 ho1 hf1 hs1;refine JC (hwr.2.tr0 hf1) rfl ho1.src rfl rfl Yhu Yhv Yhn (fun v2 w2 ho2 hf2 hk2 _=>?_);refine rn ?_;have hb2:=(hwr.1.tr0 hf1).tr hf2 (fun hp=>hne p hp rfl)
  ((with_reducible apply Ji);exact rfl;(conv=>lhs;whnf);exact ho2.one;exact hb2;exact rfl)
  intro w3 hb3 hf3 hs3;refine rn ?_;refine Jfk rfl rfl Yhn (Jky m) ?_;refine rn ?_;obtain⟨v3,hw3,hfr3,hk3⟩:=KN.trans hfr hkr (hwr.push (cs:=[_]) hf1 ho2 hf2 hk2 hb3 hf3);refine JaR (m/128,v3,br++[((m%128+128:Nat):Int)]) ⟨rfl,rfl,by simp only;omega,?_,hw3,hfr3,hk3⟩ Yhw;simp only;rw[hbs,Je1 Yhn];simp
 .refine rn ?_;refine VH rfl hwr.1 rfl ?_;refine rn ?_
  ((with_reducible apply QO);(conv=>lhs;whnf);exact rfl)
  intro w1 ho1 hf1 hs1;refine JC (hwr.2.tr0 hf1) rfl ho1.src rfl rfl Yhu Yhv Yhn (fun v2 w2 ho2 hf2 hk2 _=>?_);refine rn ?_;have hb2:=(hwr.1.tr0 hf1).tr hf2 (fun hp=>hne p hp rfl)
  ((with_reducible apply Ji);exact rfl;(conv=>lhs;whnf);exact ho2.one;exact hb2;exact rfl)
  intro w3 hb3 hf3 hs3;refine rn ?_;refine WI rfl ⟨rfl,?_⟩;rw[hbs,Jdo Yhn];exact KN.trans hfr hkr (hwr.push (cs:=[_]) hf1 ho2 hf2 hk2 hb3 hf3)
theorem Zp(k:IntKind)(l:List Int):∀u∈l.map (Value.int k),u.oneCell'=true:=by
 intro u hu;obtain⟨c,_,rfl⟩:=Du.1 hu;rfl
theorem Jkw(p:Nat)(v:Value)(bs:List Int)(n:Int)(w:World)(h1: -9223372036854775808<=n)(h2:n<=9223372036854775807)(hw:IsW w p v bs)(hl:bs.length<=1000000000000):
 Calls prog 66 #[.pointer (some ⟨p,0,none⟩),iV n] w fun e w'=>e=.returned (.tuple #[])/\KN p w v (bs++iv n) w':=by
 refine enter func66 rfl ntmps66 rfl ?_;refine rnc ?_;by_cases hn:n<0
 .refine Q5 rfl (show _=n+18446744073709551616 by rw[X7];omega) ?_;refine Jh6 rfl rfl Yhn (show _=2*n+18446744073709551616 by rw[X7];show(n+18446744073709551616)*2%18446744073709551616=_;omega) ?_;refine rnc ?_;refine Jfk rfl rfl Yhn (show _= -1 by show n.fdiv 9223372036854775808= -1;rw[Fa _ Yhn];omega) ?_;refine Q5 rfl (show _=18446744073709551615 by decide) ?_;refine Jh5 rfl rfl (Jku _ Yhn Yhn) ?_;have e:(18446744073709551615-(2*n+18446744073709551616):Int)=((zz n:Nat):Int):=by unfold zz;rw[Cb hn];omega
  exact Ycz
 .refine Q5 rfl (IntWalk.u64_in _ Yhn) ?_;refine Jh6 rfl rfl Yhn (show _=2*n by rw[X7];show n*2%18446744073709551616=_;omega) ?_;refine rnc ?_;refine Jfk rfl rfl Yhn (show _=0 by show n.fdiv 9223372036854775808=0;rw[Fa _ Yhn];omega) ?_;refine Q5 rfl (show _=0 by decide) ?_;refine Jh5 rfl rfl (Jkv _ Yhn Yhn) ?_;have e:(2*n:Int)=((zz n:Nat):Int):=by unfold zz;rw[SH hn];omega
  exact Ycz
theorem wText(p:Nat)(v:Value)(bs:List Int)(s:ByteArray)(w:World)(hw:IsW w p v bs)(hl:bs.length<=100000000000)(hc:s.size<=100000000000):
 Calls prog 65 #[.pointer (some ⟨p,0,none⟩),.string s] w fun e w'=>e=.returned (.tuple #[])/\KN p w v (bs++raw (sb s)) w':=by
 refine enter func65 rfl ntmps65 rfl ?_;refine rn ?_;refine Jg (Jh1 p v bs s.size w Yhn hw Yhn) ?_;rintro w1 ⟨v1,hw1,hf1,hk1⟩;have hul:=Xw s.size Yhn;have hne:=hw1.2.ne hw1.1 Yhy;refine rn ?_;refine VH rfl hw1.1 rfl ?_;refine rn ?_;refine Jer hw1.2 rfl rfl Ykq Yht (fun v2 w2 ho2 hf2 hk2 _=>?_);refine rn ?_;have hb2:=hw1.1.tr hf2 (fun hp=>hne p hp rfl)
 ((with_reducible apply Ji);exact rfl;(conv=>lhs;whnf);exact ho2.one;exact hb2;exact rfl)
 intro w3 hb3 hf3 hs3;refine rn ?_;refine WI rfl ⟨rfl,?_⟩;have hcs:s.data.toList.map (fun c=>Value.int .u8 (c.toNat:Int))=(sb s).map (.int .u8):=by simp[sb]
 have ho3:Own w2 5 1 v2 ((bs++uv s.size).length+(sb s).length) ((bs++uv s.size).map (.int .u8)++(sb s).map (.int .u8)):=by rw[Xx,<-hcs];exact ho2
 have:=KN.trans hf1 hk1 (hw1.push (Fr.refl _ _) ho3 hf2 hk2 hb3 hf3);simpa[raw,Xx]using this
theorem KO{ao:Option Addr}(h:Src w (.slice ao m c) m ys)(hj:ys[j]?=some u):∃ad,ao=some ad/\w.cell? (ad.add j)=some u:=by
 obtain⟨ao',c',e,_,hn,hc⟩:=h;simp only[Value.slice.injEq]at e;obtain⟨rfl,_,rfl⟩:=e;cases ao with
 |none=>obtain⟨_,_,rfl⟩:=hn rfl;simp at hj
 |some ad=>exact⟨ad,rfl,hc ad rfl j u hj⟩
theorem Vs{ad:Addr}(h:Src w (.slice (some ad) m c) m ys)(hj:ys[j]?=some u):w.cell? (ad.add j)=some u:=by
 obtain⟨ad',e,h⟩:=KO h hj;simp only[Sj]at e;subst e;exact h
def VE(n:Int):Prop:= -9223372036854775808<=n/\n<=9223372036854775807
theorem JjE(p:Nat)(v:Value)(bs:List Int)(w:World)(hw:IsW w p v bs)(hl:bs.length<=1000000000000):
 Calls prog 70 #[.pointer (some ⟨p,0,none⟩)] w fun e w'=>∃v',e=.returned v'/\Own w' 5 1 v' bs.length (bs.map (.int .u8))/\Fr [] w w'/\(∀k∈blks v',w.heap.size<=k)/\v'≠zS:=by
 refine enter func70 rfl ntmps70 rfl ?_;refine rn ?_;refine Qr (fun w1 ho1 hf1 hs1=>?_);refine rn ?_;refine VH rfl (hw.1.tr0 hf1) rfl ?_;refine JC ho1 rfl (hw.2.src.tr0 hf1) rfl Yhs (Zp _ _) Yhv Yhn (fun v2 w2 ho2 hf2 hk2 hn2=>?_);refine Yll ?_;refine⟨v2,rfl,by simpa using ho2,?_,?_,?_⟩
 .exact hf1.trans hf2 (fun x hx=>by simp[blks,Value.ownBlock]at hx;exact .inr Yhn)
 .intro k hk;rcases hk2 k hk with h|h
  .simp [blks,Value.ownBlock]at h;omega
  .omega
 .intro e;simpa using hn2.1 e
end
section
open Go.Rf Go.RowKit
attribute [local irreducible] Code.wp wpList Exit.then Exit.inBlock bodyPost A Calls execOp Addr.add
theorem few(x:Value)(bs:List Int)(m:Nat)(w:World)(hx:Src w x bs.length (bs.map (.int .u8)))(hm:m<=1000000):
 Calls prog 35 #[x,iV m] w fun e w'=>∃v',e=.returned v'/\Own w' 5 1 v' (bs.take m).length ((bs.take m).map (.int .u8))/\Fr [] w w'/\(∀k∈blks v',w.heap.size<=k):=by
 obtain⟨ao,c,hxe,hlc,hnil,hcells⟩:=id hx;subst hxe;refine enter func35 rfl ntmps35 rfl ?_;exact Ymf
theorem Jge(x:Value)(bs:List Int)(m:Nat)(w:World)(hx:Src w x bs.length (bs.map (.int .i64)))(hm:m<=1000000):
 Calls prog 81 #[x,iV m] w fun e w'=>∃v',e=.returned v'/\Own w' 3 1 v' (bs.take m).length ((bs.take m).map (.int .i64))/\Fr [] w w'/\(∀k∈blks v',w.heap.size<=k):=by
 obtain⟨ao,c,hxe,hlc,hnil,hcells⟩:=id hx;subst hxe;refine enter func81 rfl ntmps81 rfl ?_;exact Ymf
theorem JaH{xs ys:List Int}{i:Nat}(h:xs.take i=ys.take i)(hi:i<xs.length)(hj:i<ys.length)(e:xs[i]=ys[i]):xs.take (i+1)=ys.take (i+1):=by
 rw[SK hi,SK hj,h,e]
theorem Jeo(x y:Value)(xs ys:List Int)(w:World)(hx:Src w x xs.length (xs.map (.int .u8)))(hy:Src w y ys.length (ys.map (.int .u8)))(hl:xs.length<=1000000000000):
 Calls prog 30 #[x,y] w fun e w'=>e=.returned (.bool (decide (xs=ys)))/\Fr [] w w':=by
 obtain⟨ao,c,hxe,_⟩:=id hx;obtain⟨bo,c2,hye,_⟩:=id hy;subst hxe hye;refine enter func30 rfl ntmps30 rfl ?_;refine rn ?_;refine Vd rfl rfl (fun h=>?_) (fun h=>?_)
 .refine rn ?_;refine Yfw ?_;refine⟨?_,Fr.refl _ _⟩;rw[SG];intro e;subst e;exact h rfl
 .refine rn ?_;have hlen:xs.length=ys.length:=by omega
  refine Jbg (σ:=Nat) (fun i g u=>g 0=.slice ao xs.length c/\g 1=.slice bo ys.length c2/\g 5=iV i/\i<=xs.length/\xs.take i=ys.take i/\Fr [] w u)
   (fun i=>xs.length-i) 0 ⟨rfl,rfl,rfl,SL _,rfl,Fr.refl _ _⟩ ?_
  rintro i g u ⟨h0,h1,h5,hi,htk,hfr⟩;rw[Ja h0,Ja h1,Ja h5];refine rn ?_;refine QZ rfl rfl (fun hlt=>?_) (fun hge=>?_)
  .have hi1:i<xs.length:=by omega
   have hi2:i<ys.length:=by omega
   obtain⟨ad,rfl,hca⟩:=KO (j:=i) (u:=.int .u8 xs[i]) hx (by simp[hi1]);obtain⟨bd,rfl,hcb⟩:=KO (j:=i) (u:=.int .u8 ys[i]) hy (by simp[hi2]);have ha:=fun(z:World) (hz:Fr [] u z)=>Vs (hx.tr0 (hfr.Jb hz)) (j:=i) (u:=.int .u8 xs[i]) (by simp[hi1])
   have hb:=fun(z:World) (hz:Fr [] u z)=>Vs (hy.tr0 (hfr.Jb hz)) (j:=i) (u:=.int .u8 ys[i]) (by simp[hi2])
   refine rn ?_;refine JE (fun z=>Fr [] u z) Yhp rfl ?_;have hS:Fr [] u u.drew:=Fr.drew _ _;refine JhI 0 hS ?_;refine JhI 1 hS ?_;refine Kw 2 hS ?_ (hrun:=by(intro u hu;exact Gl rfl rfl rfl hi1 rfl));refine Kw 3 hS ?_ (hrun:=by(intro u hu;exact J7 rfl (ha _ hu)));refine JhI 4 hS ?_;refine JhI 5 hS ?_;refine Kw 6 hS ?_ (hrun:=by(intro u hu;exact Gl rfl rfl rfl hi2 rfl));refine Kw 7 hS ?_ (hrun:=by(intro u hu;exact J7 rfl (hb _ hu)));by_cases he:xs[i]=ys[i]
   . (apply XU (i:=8);exact rfl;kernel_rfl;kernel_rfl;kernel_rfl;(intro u hu;exact WZ rfl rfl (SG (by simpa using he)));exact hS)
     refine Yfx ?_;refine rn ?_;exact JaR (i+1) ⟨rfl,rfl,rfl,by omega,JaH htk hi1 hi2 he,hfr.Jb hS⟩ Yhn
   . (apply XU (i:=8);exact rfl;kernel_rfl;kernel_rfl;kernel_rfl;(intro u hu;exact WZ rfl rfl (SN he));exact hS)
     refine Yfx ?_;refine Yll ?_;refine⟨?_,hfr.Jb hS⟩;rw[SG];intro e;subst e;exact he rfl
  .refine rn ?_;refine Yfw ?_;refine⟨?_,hfr⟩;rw[SN];have h1:xs.take i=xs:=SQ Yhn;have h2:ys.take i=ys:=SQ Yhn;rw[<-h1,<-h2,htk]
end
end Go.Proofs.YtggmccicdhnkgaaGreat
