/-
 The law package's function lives (refuterlaw02):the examples of the section hold.
-/
import Derived.Test.YtmlpcmjmniobdaaGreatZK1
import Derived.Test.YtmlpcmjmniobdaaGreatRows
set_option linter.all false
namespace Go.Rf
variable{bs:List Int}{n:Nat}
def arnd(a m:Int):Int:=(if a<0 then -(a+1) else a)%m
theorem arnd_range{a m:Int}(h:0<m):0<=arnd a m/\arnd a m<m:=⟨Int.emod_nonneg _ Yhn,Int.emod_lt_of_pos _ h⟩
def uv(n:Nat):List Int:=if h:n<128 then[(n:Int)] else((n%128+128:Nat):Int)::uv (n/128)
 termination_by n
 decreasing_by omega
theorem uv_lt(h:n<128):uv n=[(n:Int)]:=by rw[uv,dif_pos h]
theorem uv_ge(h:128<=n):uv n=((n%128+128:Nat):Int)::uv (n/128):=by rw[uv,dif_neg Yhn]
theorem uv_len_pow:∀(k n:Nat),n<128^(k+1)->(uv n).length<=k+1
 |0,n,h=>by rw[uv_lt Yil];simp
 |k+1,n,h=>by
  by_cases hn:n<128
  .rw [uv_lt hn];simp
  .rw [uv_ge Yhn];have:=uv_len_pow k (n/128) (by rw[Nat.div_lt_iff_lt_mul Yhn];rw[Nat.pow_succ]at h;exact h);simp;omega
theorem uv_len(n:Nat)(h:n<18446744073709551616):(uv n).length<=10:=
 uv_len_pow 9 n (Nat.lt_of_lt_of_le h Yhy)
def zz(n:Int):Nat:=if n<0 then(2*(-(n+1))+1).toNat else(2*n).toNat
theorem zz_lt{n:Int}(h1: -9223372036854775808<=n)(h2:n<=9223372036854775807):zz n<18446744073709551616:=by unfold zz;split<;>omega
def iv(n:Int):List Int:=uv (zz n)
theorem u8_wrap(n:Int):IntKind.u8.wrap n=n%256:=by rw[IntKind.wrap_u8]
theorem or128(m:Nat):IntKind.u8.wrap ((BitVec.ofInt IntKind.u8.bits ((m:Int)%256)|||BitVec.ofInt IntKind.u8.bits 128).toNat:Int)=((m%128+128:Nat):Int):=by
 have key:∀b:BitVec 8,(b|||128#8).toNat=b.toNat%128+128:=by decide
 have e1:BitVec.ofInt 8 128=128#8:=by decide
 have h:=key (BitVec.ofInt 8 ((m:Int)%256));show IntKind.u8.wrap ((BitVec.ofInt 8 ((m:Int)%256)|||BitVec.ofInt 8 128).toNat:Int)=_;rw[e1,h,u8_wrap];have e2:(BitVec.ofInt 8 ((m:Int)%256)).toNat=m%256:=by
  rw[BitVec.toNat_ofInt];omega
 rw[e2];omega
theorem shr7(m:Nat):((m:Int)).fdiv (2^(min (7:Int).toNat IntKind.u64.bits))=((m/128:Nat):Int):=by
 have:(2^(min (7:Int).toNat IntKind.u64.bits):Int)=128:=by decide
 rw[this,Int.fdiv_eq_ediv_of_nonneg _ Yhn];omega
theorem u64_wrap(n:Int):IntKind.u64.wrap n=n%18446744073709551616:=by
 simp only[IntKind.wrap,IntKind.bits,IntKind.signed];simp
theorem i64_wrap(n:Int):IntKind.i64.wrap n=if n%18446744073709551616≥9223372036854775808 then n%18446744073709551616-18446744073709551616 else n%18446744073709551616:=by
 simp only[IntKind.wrap,IntKind.bits,IntKind.signed];simp
theorem ofInt64(a:Int)(h0:0<=a)(h1:a<18446744073709551616):(BitVec.ofInt 64 a).toNat=a.toNat:=by
 rw[BitVec.toNat_ofInt];have:a%((2^64:Nat):Int)=a:=Int.emod_eq_of_lt h0 (by simpa using h1);rw[this]
theorem xor0(a:Int)(h0:0<=a)(h1:a<18446744073709551616):IntKind.u64.wrap ((BitVec.ofInt IntKind.u64.bits a^^^BitVec.ofInt IntKind.u64.bits 0).toNat:Int)=a:=by
 show IntKind.u64.wrap ((BitVec.ofInt 64 a^^^BitVec.ofInt 64 0).toNat:Int)=_;have e:BitVec.ofInt 64 0=0#64:=by decide
 rw[e,BitVec.xor_zero,ofInt64 a h0 h1,u64_wrap];omega
theorem xor1(a:Int)(h0:0<=a)(h1:a<18446744073709551616):IntKind.u64.wrap ((BitVec.ofInt IntKind.u64.bits a^^^BitVec.ofInt IntKind.u64.bits 18446744073709551615).toNat:Int)=18446744073709551615-a:=by
 show IntKind.u64.wrap ((BitVec.ofInt 64 a^^^BitVec.ofInt 64 18446744073709551615).toNat:Int)=_;have e:BitVec.ofInt 64 18446744073709551615=BitVec.allOnes 64:=by decide
 rw[e,BitVec.xor_allOnes,BitVec.toNat_not,ofInt64 a h0 h1,u64_wrap];have:((2^64-1-a.toNat:Nat):Int)=18446744073709551615-a:=by
  have:(2^64:Nat)=18446744073709551616:=by decide
  omega
 rw[this];omega
def sb(s:ByteArray):List Int:=s.data.toList.map fun c=>(c.toNat:Int)
theorem sb_len(s:ByteArray):(sb s).length=s.size:=by simp[sb]
def raw(bs:List Int):List Int:=uv bs.length++bs
theorem iv_len{n:Int}(h1: -9223372036854775808<=n)(h2:n<=9223372036854775807):(iv n).length<=10:=uv_len _ (zz_lt h1 h2)
/-! ### reading -/
def Bys(bs:List Int):Prop:=∀b∈bs,0<=b/\b<256
theorem Bys.drop(h:Bys bs)(k:Nat):Bys (bs.drop k):=fun b hb=>h b (List.mem_of_mem_drop hb)
theorem Bys.take(h:Bys bs)(k:Nat):Bys (bs.take k):=fun b hb=>h b (List.mem_of_mem_take hb)
def back(u:Nat):Int:=if u%2=1 then -((u/2:Nat):Int)-1 else((u/2:Nat):Int)
theorem shrN(m s:Nat)(hs:s<=64):((m:Int)).fdiv (2^(min ((s:Nat):Int).toNat IntKind.u64.bits))=((m/2^s:Nat):Int):=by
 have e:min ((s:Nat):Int).toNat IntKind.u64.bits=s:=by
  have:IntKind.u64.bits=64:=rfl;rw[this];omega
 rw[e,Int.fdiv_eq_ediv_of_nonneg _ (Int.le_of_lt (Int.pow_pos Yhn))];simp
end Go.Rf
namespace Go.Proofs.YtmlpcmjmniobdaaGreat
section
open Go.Proofs.Tryz
open Go.Rf
instance:IntT prog 3 .i64:=⟨underlying3⟩
instance:OneT prog 3:=⟨⟨_,underlying3,rfl⟩,info_size Yhp⟩
instance:OneT prog 4:=⟨⟨_,underlying4,rfl⟩,info_size Yhp⟩
instance:IntT prog 5 .u8:=⟨underlying5⟩
instance:OneT prog 5:=⟨⟨_,underlying5,rfl⟩,info_size Yhp⟩
instance:StrT prog 9:=⟨underlying9⟩
instance:OneT prog 9:=⟨⟨_,underlying9,rfl⟩,info_size Yhp⟩
instance:SliceT prog 22 3:=⟨underlying22⟩
instance:RowT prog 22 3 1 8:=⟨underlying22,info_parts_z (z:=zI) Yhp Yhp,by decide⟩
instance:OneT prog 22:=⟨⟨_,underlying22,rfl⟩,info_size Yhp⟩
instance:ZeroT prog 22 (zS):=⟨info_zero Yhp⟩
instance:RowZ prog 22 3 1 8 [zI]:=⟨inferInstance,rowz_of (v:=zI) Yhp rfl rfl⟩
instance:SliceT prog 23 53:=⟨underlying23⟩
instance:RowT prog 23 53 45 768:=⟨underlying23,info_parts_z (z:=.agg #[zI,.string .empty,zI,zS,zS,zI,.string .empty,zS,zI,.string .empty,zI,zS,zS,zS,zI,zI,zI,.string .empty,zS,zS,zS,zI,zS,zS,zS,zS,zI,.string .empty,zS,zI,.string .empty,zI,zS,zS,zS,zI,zS,zS,zI,.string .empty,zI,zS,zS,zS,zI]) Yhp Yhp,by decide⟩
instance:OneT prog 23:=⟨⟨_,underlying23,rfl⟩,info_size Yhp⟩
instance:AggT prog 25 1:=⟨⟨_,underlying25,rfl⟩,info_size Yhp⟩
instance:ZeroT prog 25 (.agg #[zS]):=⟨info_zero Yhp⟩
instance:FieldT prog 25 0 0:=fld 1 underlying25
instance:OneT prog 28:=⟨⟨_,underlying28,rfl⟩,info_size Yhp⟩
instance:AggT prog 30 3:=⟨⟨_,underlying30,rfl⟩,info_size Yhp⟩
instance:BuildT prog 30 [zI,zI,zI] [(0,1),(1,1),(2,1)]:=⟨build_of (v:=.agg #[zI,zI,zI]) Yhp rfl,⟨_,underlying30,fun w=>by kernel_rfl⟩⟩
instance:FieldT prog 30 0 0:=fld 1 underlying30
instance:FieldT prog 30 1 1:=fld 1 underlying30
instance:FieldT prog 30 2 2:=fld 1 underlying30
instance:SliceT prog 31 56:=⟨underlying31⟩
instance:RowT prog 31 56 3 32:=⟨underlying31,info_parts_z (z:=.agg #[.string .empty,zI,zI]) Yhp Yhp,by decide⟩
instance:OneT prog 31:=⟨⟨_,underlying31,rfl⟩,info_size Yhp⟩
instance:RowZ prog 31 56 3 32 [.string .empty,zI,zI]:=⟨inferInstance,rowz_of (v:=.agg #[.string .empty,zI,zI]) Yhp rfl rfl⟩
instance:AggT prog 33 6:=⟨⟨_,underlying33,rfl⟩,info_size Yhp⟩
instance:ZeroT prog 33 (.agg #[zI,zI,zI,zS,zS,zI]):=⟨info_zero Yhp⟩
instance:BuildT prog 33 [zI,zI,zI,zS,zS,zI] [(0,3),(3,1),(4,1),(5,1)]:=⟨build_of (v:=.agg #[zI,zI,zI,zS,zS,zI]) Yhp rfl,⟨_,underlying33,fun w=>by kernel_rfl⟩⟩
instance:FieldT prog 33 0 0:=fld 3 underlying33
instance:FieldT prog 33 1 3:=fld 1 underlying33
instance:FieldT prog 33 2 4:=fld 1 underlying33
instance:FieldT prog 33 3 5:=fld 1 underlying33
instance:SliceT prog 34 232:=⟨underlying34⟩
instance:RowT prog 34 232 2 40:=⟨underlying34,info_parts_z (z:=.agg #[.string .empty,zS]) Yhp Yhp,by decide⟩
instance:OneT prog 34:=⟨⟨_,underlying34,rfl⟩,info_size Yhp⟩
instance:RowZ prog 34 232 2 40 [.string .empty,zS]:=⟨inferInstance,rowz_of (v:=.agg #[.string .empty,zS]) Yhp rfl rfl⟩
instance:SliceT prog 35 234:=⟨underlying35⟩
instance:RowT prog 35 234 4 64:=⟨underlying35,info_parts_z (z:=.agg #[.string .empty,zI,.string .empty,zS]) Yhp Yhp,by decide⟩
instance:OneT prog 35:=⟨⟨_,underlying35,rfl⟩,info_size Yhp⟩
instance:RowZ prog 35 234 4 64 [.string .empty,zI,.string .empty,zS]:=⟨inferInstance,rowz_of (v:=.agg #[.string .empty,zI,.string .empty,zS]) Yhp rfl rfl⟩
instance:SliceT prog 36 38:=⟨underlying36⟩
instance:RowT prog 36 38 3 48:=⟨underlying36,info_parts_z (z:=.agg #[zI,.string .empty,zS]) Yhp Yhp,by decide⟩
instance:OneT prog 36:=⟨⟨_,underlying36,rfl⟩,info_size Yhp⟩
instance:RowZ prog 36 38 3 48 [zI,.string .empty,zS]:=⟨inferInstance,rowz_of (v:=.agg #[zI,.string .empty,zS]) Yhp rfl rfl⟩
instance:AggT prog 38 3:=⟨⟨_,underlying38,rfl⟩,info_size Yhp⟩
instance:ZeroT prog 38 (.agg #[zI,.string .empty,zS]):=⟨info_zero Yhp⟩
instance:BuildT prog 38 [zI,.string .empty,zS] [(0,1),(1,1),(2,1)]:=⟨build_of (v:=.agg #[zI,.string .empty,zS]) Yhp rfl,⟨_,underlying38,fun w=>by kernel_rfl⟩⟩
instance:FieldT prog 38 0 0:=fld 1 underlying38
instance:FieldT prog 38 1 1:=fld 1 underlying38
instance:FieldT prog 38 2 2:=fld 1 underlying38
instance:SliceT prog 39 9:=⟨underlying39⟩
instance:RowT prog 39 9 1 16:=⟨underlying39,info_parts_z (z:=.string .empty) Yhp Yhp,by decide⟩
instance:OneT prog 39:=⟨⟨_,underlying39,rfl⟩,info_size Yhp⟩
instance:RowZ prog 39 9 1 16 [.string .empty]:=⟨inferInstance,rowz_of (v:=.string .empty) Yhp rfl rfl⟩
instance:SliceT prog 40 39:=⟨underlying40⟩
instance:RowT prog 40 39 1 24:=⟨underlying40,info_parts_z (z:=zS) Yhp Yhp,by decide⟩
instance:OneT prog 40:=⟨⟨_,underlying40,rfl⟩,info_size Yhp⟩
instance:SliceT prog 41 43:=⟨underlying41⟩
instance:RowT prog 41 43 7 112:=⟨underlying41,info_parts_z (z:=.agg #[zI,.string .empty,zI,zS,zS,zS,zI]) Yhp Yhp,by decide⟩
instance:OneT prog 41:=⟨⟨_,underlying41,rfl⟩,info_size Yhp⟩
instance:RowZ prog 41 43 7 112 [zI,.string .empty,zI,zS,zS,zS,zI]:=⟨inferInstance,rowz_of (v:=.agg #[zI,.string .empty,zI,zS,zS,zS,zI]) Yhp rfl rfl⟩
instance:AggT prog 43 7:=⟨⟨_,underlying43,rfl⟩,info_size Yhp⟩
instance:ZeroT prog 43 (.agg #[zI,.string .empty,zI,zS,zS,zS,zI]):=⟨info_zero Yhp⟩
instance:BuildT prog 43 [zI,.string .empty,zI,zS,zS,zS,zI] [(0,1),(1,1),(2,1),(3,1),(4,1),(5,1),(6,1)]:=⟨build_of (v:=.agg #[zI,.string .empty,zI,zS,zS,zS,zI]) Yhp rfl,⟨_,underlying43,fun w=>by kernel_rfl⟩⟩
instance:FieldT prog 43 0 0:=fld 1 underlying43
instance:FieldT prog 43 1 1:=fld 1 underlying43
instance:FieldT prog 43 2 2:=fld 1 underlying43
instance:FieldT prog 43 3 3:=fld 1 underlying43
instance:FieldT prog 43 4 4:=fld 1 underlying43
instance:FieldT prog 43 5 5:=fld 1 underlying43
instance:SliceT prog 44 46:=⟨underlying44⟩
instance:RowT prog 44 46 6 104:=⟨underlying44,info_parts_z (z:=.agg #[zI,.string .empty,zS,zS,zS,zI]) Yhp Yhp,by decide⟩
instance:OneT prog 44:=⟨⟨_,underlying44,rfl⟩,info_size Yhp⟩
instance:RowZ prog 44 46 6 104 [zI,.string .empty,zS,zS,zS,zI]:=⟨inferInstance,rowz_of (v:=.agg #[zI,.string .empty,zS,zS,zS,zI]) Yhp rfl rfl⟩
instance:AggT prog 46 6:=⟨⟨_,underlying46,rfl⟩,info_size Yhp⟩
instance:ZeroT prog 46 (.agg #[zI,.string .empty,zS,zS,zS,zI]):=⟨info_zero Yhp⟩
instance:BuildT prog 46 [zI,.string .empty,zS,zS,zS,zI] [(0,1),(1,1),(2,1),(3,1),(4,1),(5,1)]:=⟨build_of (v:=.agg #[zI,.string .empty,zS,zS,zS,zI]) Yhp rfl,⟨_,underlying46,fun w=>by kernel_rfl⟩⟩
instance:FieldT prog 46 0 0:=fld 1 underlying46
instance:FieldT prog 46 1 1:=fld 1 underlying46
instance:FieldT prog 46 2 2:=fld 1 underlying46
instance:FieldT prog 46 3 3:=fld 1 underlying46
instance:FieldT prog 46 4 4:=fld 1 underlying46
instance:SliceT prog 47 82:=⟨underlying47⟩
instance:RowT prog 47 82 11 176:=⟨underlying47,info_parts_z (z:=.agg #[.string .empty,zI,.string .empty,zS,zI,.string .empty,zS,zS,zS,zI,.bool false]) Yhp Yhp,by decide⟩
instance:OneT prog 47:=⟨⟨_,underlying47,rfl⟩,info_size Yhp⟩
instance:RowZ prog 47 82 11 176 [.string .empty,zI,.string .empty,zS,zI,.string .empty,zS,zS,zS,zI,.bool false]:=⟨inferInstance,rowz_of (v:=.agg #[.string .empty,zI,.string .empty,zS,zI,.string .empty,zS,zS,zS,zI,.bool false]) Yhp rfl rfl⟩
instance:SliceT prog 48 84:=⟨underlying48⟩
instance:RowT prog 48 84 8 128:=⟨underlying48,info_parts_z (z:=.agg #[.string .empty,zI,.string .empty,zI,zS,zS,zS,zI]) Yhp Yhp,by decide⟩
instance:OneT prog 48:=⟨⟨_,underlying48,rfl⟩,info_size Yhp⟩
instance:RowZ prog 48 84 8 128 [.string .empty,zI,.string .empty,zI,zS,zS,zS,zI]:=⟨inferInstance,rowz_of (v:=.agg #[.string .empty,zI,.string .empty,zI,zS,zS,zS,zI]) Yhp rfl rfl⟩
instance:SliceT prog 49 237:=⟨underlying49⟩
instance:RowT prog 49 237 3 32:=⟨underlying49,info_parts_z (z:=.agg #[.string .empty,zI,zI]) Yhp Yhp,by decide⟩
instance:OneT prog 49:=⟨⟨_,underlying49,rfl⟩,info_size Yhp⟩
instance:RowZ prog 49 237 3 32 [.string .empty,zI,zI]:=⟨inferInstance,rowz_of (v:=.agg #[.string .empty,zI,zI]) Yhp rfl rfl⟩
instance:SliceT prog 50 239:=⟨underlying50⟩
instance:RowT prog 50 239 23 376:=⟨underlying50,info_parts_z (z:=.agg #[.string .empty,zS,zI,.string .empty,zI,zS,zS,zS,zI,zI,.string .empty,zI,zS,zS,zS,zI,zI,.string .empty,zI,zS,zS,zS,zI]) Yhp Yhp,by decide⟩
instance:OneT prog 50:=⟨⟨_,underlying50,rfl⟩,info_size Yhp⟩
instance:RowZ prog 50 239 23 376 [.string .empty,zS,zI,.string .empty,zI,zS,zS,zS,zI,zI,.string .empty,zI,zS,zS,zS,zI,zI,.string .empty,zI,zS,zS,zS,zI]:=⟨inferInstance,rowz_of (v:=.agg #[.string .empty,zS,zI,.string .empty,zI,zS,zS,zS,zI,zI,.string .empty,zI,zS,zS,zS,zI,zI,.string .empty,zI,zS,zS,zS,zI]) Yhp rfl rfl⟩
instance:SliceT prog 51 242:=⟨underlying51⟩
instance:RowT prog 51 242 3 64:=⟨underlying51,info_parts_z (z:=.agg #[.string .empty,zS,zS]) Yhp Yhp,by decide⟩
instance:OneT prog 51:=⟨⟨_,underlying51,rfl⟩,info_size Yhp⟩
instance:RowZ prog 51 242 3 64 [.string .empty,zS,zS]:=⟨inferInstance,rowz_of (v:=.agg #[.string .empty,zS,zS]) Yhp rfl rfl⟩
instance:AggT prog 53 45:=⟨⟨_,underlying53,rfl⟩,info_size Yhp⟩
instance:FieldT prog 53 0 0:=fld 1 underlying53
instance:FieldT prog 53 1 1:=fld 1 underlying53
instance:FieldT prog 53 2 2:=fld 1 underlying53
instance:FieldT prog 53 3 3:=fld 1 underlying53
instance:FieldT prog 53 4 4:=fld 1 underlying53
instance:FieldT prog 53 5 5:=fld 3 underlying53
instance:FieldT prog 53 6 8:=fld 7 underlying53
instance:FieldT prog 53 7 15:=fld 1 underlying53
instance:FieldT prog 53 8 16:=fld 6 underlying53
instance:FieldT prog 53 9 22:=fld 1 underlying53
instance:FieldT prog 53 10 23:=fld 1 underlying53
instance:FieldT prog 53 11 24:=fld 1 underlying53
instance:FieldT prog 53 12 25:=fld 1 underlying53
instance:FieldT prog 53 13 26:=fld 3 underlying53
instance:FieldT prog 53 14 29:=fld 7 underlying53
instance:FieldT prog 53 15 36:=fld 1 underlying53
instance:FieldT prog 53 16 37:=fld 1 underlying53
instance:FieldT prog 53 17 38:=fld 7 underlying53
instance:AggT prog 56 3:=⟨⟨_,underlying56,rfl⟩,info_size Yhp⟩
instance:ZeroT prog 56 (.agg #[.string .empty,zI,zI]):=⟨info_zero Yhp⟩
instance:BuildT prog 56 [.string .empty,zI,zI] [(0,1),(1,1),(2,1)]:=⟨build_of (v:=.agg #[.string .empty,zI,zI]) Yhp rfl,⟨_,underlying56,fun w=>by kernel_rfl⟩⟩
instance:FieldT prog 56 0 0:=fld 1 underlying56
instance:FieldT prog 56 1 1:=fld 1 underlying56
instance:FieldT prog 56 2 2:=fld 1 underlying56
instance:IntT prog 58 .u64:=⟨underlying58⟩
instance:OneT prog 58:=⟨⟨_,underlying58,rfl⟩,info_size Yhp⟩
instance:ZeroT prog 58 (.int .u64 0):=⟨info_zero Yhp⟩
instance:SliceT prog 67 5:=⟨underlying67⟩
instance:RowT prog 67 5 1 1:=⟨underlying67,info_parts_z (z:=.int .u8 0) Yhp Yhp,by decide⟩
instance:OneT prog 67:=⟨⟨_,underlying67,rfl⟩,info_size Yhp⟩
instance:U8T prog 67:=⟨⟨5,underlying67,underlying5⟩⟩
instance:AggT prog 82 11:=⟨⟨_,underlying82,rfl⟩,info_size Yhp⟩
instance:ZeroT prog 82 (.agg #[.string .empty,zI,.string .empty,zS,zI,.string .empty,zS,zS,zS,zI,.bool false]):=⟨info_zero Yhp⟩
instance:BuildT prog 82 [.string .empty,zI,.string .empty,zS,zI,.string .empty,zS,zS,zS,zI,.bool false] [(0,1),(1,3),(4,6),(10,1)]:=⟨build_of (v:=.agg #[.string .empty,zI,.string .empty,zS,zI,.string .empty,zS,zS,zS,zI,.bool false]) Yhp rfl,⟨_,underlying82,fun w=>by kernel_rfl⟩⟩
instance:FieldT prog 82 0 0:=fld 1 underlying82
instance:FieldT prog 82 1 1:=fld 3 underlying82
instance:FieldT prog 82 2 4:=fld 6 underlying82
instance:FieldT prog 82 3 10:=fld 1 underlying82
instance:AggT prog 84 8:=⟨⟨_,underlying84,rfl⟩,info_size Yhp⟩
instance:ZeroT prog 84 (.agg #[.string .empty,zI,.string .empty,zI,zS,zS,zS,zI]):=⟨info_zero Yhp⟩
instance:BuildT prog 84 [.string .empty,zI,.string .empty,zI,zS,zS,zS,zI] [(0,1),(1,7)]:=⟨build_of (v:=.agg #[.string .empty,zI,.string .empty,zI,zS,zS,zS,zI]) Yhp rfl,⟨_,underlying84,fun w=>by kernel_rfl⟩⟩
instance:FieldT prog 84 0 0:=fld 1 underlying84
instance:FieldT prog 84 1 1:=fld 7 underlying84
instance:SliceT prog 98 155:=⟨underlying98⟩
instance:RowT prog 98 155 4 40:=⟨underlying98,info_parts_z (z:=.agg #[zI,zI,zI,.string .empty]) Yhp Yhp,by decide⟩
instance:OneT prog 98:=⟨⟨_,underlying98,rfl⟩,info_size Yhp⟩
instance:RowZ prog 98 155 4 40 [zI,zI,zI,.string .empty]:=⟨inferInstance,rowz_of (v:=.agg #[zI,zI,zI,.string .empty]) Yhp rfl rfl⟩
instance:BuildT prog 103 [.string .empty,zS,zI,.bool false] [(0,1),(1,1),(2,1),(3,1)]:=⟨build_of (v:=.agg #[.string .empty,zS,zI,.bool false]) Yhp rfl,⟨_,underlying103,fun w=>by kernel_rfl⟩⟩
instance:FieldT prog 103 0 0:=fld 1 underlying103
instance:FieldT prog 103 1 1:=fld 1 underlying103
instance:FieldT prog 103 2 2:=fld 1 underlying103
instance:FieldT prog 103 3 3:=fld 1 underlying103
instance:AggT prog 106 4:=⟨⟨_,underlying106,rfl⟩,info_size Yhp⟩
instance:ZeroT prog 106 (.agg #[.bool false,.bool false,.bool false,.bool false]):=⟨info_zero Yhp⟩
instance:BuildT prog 106 [.bool false,.bool false,.bool false,.bool false] [(0,1),(1,1),(2,1),(3,1)]:=⟨build_of (v:=.agg #[.bool false,.bool false,.bool false,.bool false]) Yhp rfl,⟨_,underlying106,fun w=>by kernel_rfl⟩⟩
instance:FieldT prog 106 0 0:=fld 1 underlying106
instance:FieldT prog 106 1 1:=fld 1 underlying106
instance:FieldT prog 106 2 2:=fld 1 underlying106
instance:FieldT prog 106 3 3:=fld 1 underlying106
instance:BuildT prog 112 [zS,zI] [(0,1),(1,1)]:=⟨build_of (v:=.agg #[zS,zI]) Yhp rfl,⟨_,underlying112,fun w=>by kernel_rfl⟩⟩
instance:FieldT prog 112 0 0:=fld 1 underlying112
instance:FieldT prog 112 1 1:=fld 1 underlying112
instance:ZeroT prog 121 (.agg #[zS]):=⟨info_zero Yhp⟩
instance:FieldT prog 121 0 0:=fld 1 underlying121
instance:SliceT prog 126 58:=⟨underlying126⟩
instance:RowT prog 126 58 1 8:=⟨underlying126,info_parts_z (z:=.int .u64 0) Yhp Yhp,by decide⟩
instance:SliceT prog 138 90:=⟨underlying138⟩
instance:RowT prog 138 90 6 96:=⟨underlying138,info_parts_z (z:=.agg #[zI,zI,zS,zS,zS,.int .u64 0]) Yhp Yhp,by decide⟩
instance:AggT prog 155 4:=⟨⟨_,underlying155,rfl⟩,info_size Yhp⟩
instance:ZeroT prog 155 (.agg #[zI,zI,zI,.string .empty]):=⟨info_zero Yhp⟩
instance:BuildT prog 155 [zI,zI,zI,.string .empty] [(0,1),(1,1),(2,1),(3,1)]:=⟨build_of (v:=.agg #[zI,zI,zI,.string .empty]) Yhp rfl,⟨_,underlying155,fun w=>by kernel_rfl⟩⟩
instance:FieldT prog 155 0 0:=fld 1 underlying155
instance:FieldT prog 155 1 1:=fld 1 underlying155
instance:FieldT prog 155 2 2:=fld 1 underlying155
instance:FieldT prog 155 3 3:=fld 1 underlying155
instance:AggT prog 232 2:=⟨⟨_,underlying232,rfl⟩,info_size Yhp⟩
instance:ZeroT prog 232 (.agg #[.string .empty,zS]):=⟨info_zero Yhp⟩
instance:BuildT prog 232 [.string .empty,zS] [(0,1),(1,1)]:=⟨build_of (v:=.agg #[.string .empty,zS]) Yhp rfl,⟨_,underlying232,fun w=>by kernel_rfl⟩⟩
instance:FieldT prog 232 0 0:=fld 1 underlying232
instance:FieldT prog 232 1 1:=fld 1 underlying232
instance:BuildT prog 234 [.string .empty,zI,.string .empty,zS] [(0,1),(1,3)]:=⟨build_of (v:=.agg #[.string .empty,zI,.string .empty,zS]) Yhp rfl,⟨_,underlying234,fun w=>by kernel_rfl⟩⟩
instance:FieldT prog 234 0 0:=fld 1 underlying234
instance:FieldT prog 234 1 1:=fld 3 underlying234
instance:AggT prog 237 3:=⟨⟨_,underlying237,rfl⟩,info_size Yhp⟩
instance:ZeroT prog 237 (.agg #[.string .empty,zI,zI]):=⟨info_zero Yhp⟩
instance:BuildT prog 237 [.string .empty,zI,zI] [(0,1),(1,1),(2,1)]:=⟨build_of (v:=.agg #[.string .empty,zI,zI]) Yhp rfl,⟨_,underlying237,fun w=>by kernel_rfl⟩⟩
instance:FieldT prog 237 0 0:=fld 1 underlying237
instance:FieldT prog 237 1 1:=fld 1 underlying237
instance:FieldT prog 237 2 2:=fld 1 underlying237
instance:AggT prog 239 23:=⟨⟨_,underlying239,rfl⟩,info_size Yhp⟩
instance:ZeroT prog 239 (.agg #[.string .empty,zS,zI,.string .empty,zI,zS,zS,zS,zI,zI,.string .empty,zI,zS,zS,zS,zI,zI,.string .empty,zI,zS,zS,zS,zI]):=⟨info_zero Yhp⟩
instance:BuildT prog 239 [.string .empty,zS,zI,.string .empty,zI,zS,zS,zS,zI,zI,.string .empty,zI,zS,zS,zS,zI,zI,.string .empty,zI,zS,zS,zS,zI] [(0,1),(1,1),(2,7),(9,7),(16,7)]:=⟨build_of (v:=.agg #[.string .empty,zS,zI,.string .empty,zI,zS,zS,zS,zI,zI,.string .empty,zI,zS,zS,zS,zI,zI,.string .empty,zI,zS,zS,zS,zI]) Yhp rfl,⟨_,underlying239,fun w=>by kernel_rfl⟩⟩
instance:FieldT prog 239 0 0:=fld 1 underlying239
instance:FieldT prog 239 1 1:=fld 1 underlying239
instance:FieldT prog 239 2 2:=fld 7 underlying239
instance:FieldT prog 239 3 9:=fld 7 underlying239
instance:FieldT prog 239 4 16:=fld 7 underlying239
instance:SliceT prog 240 244:=⟨underlying240⟩
instance:RowT prog 240 244 14 224:=⟨underlying240,info_parts_z (z:=.agg #[zI,.string .empty,zI,zS,zS,zS,zI,zI,.string .empty,zI,zS,zS,zS,zI]) Yhp Yhp,by decide⟩
instance:OneT prog 240:=⟨⟨_,underlying240,rfl⟩,info_size Yhp⟩
instance:RowZ prog 240 244 14 224 [zI,.string .empty,zI,zS,zS,zS,zI,zI,.string .empty,zI,zS,zS,zS,zI]:=⟨inferInstance,rowz_of (v:=.agg #[zI,.string .empty,zI,zS,zS,zS,zI,zI,.string .empty,zI,zS,zS,zS,zI]) Yhp rfl rfl⟩
instance:AggT prog 242 3:=⟨⟨_,underlying242,rfl⟩,info_size Yhp⟩
instance:ZeroT prog 242 (.agg #[.string .empty,zS,zS]):=⟨info_zero Yhp⟩
instance:BuildT prog 242 [.string .empty,zS,zS] [(0,1),(1,1),(2,1)]:=⟨build_of (v:=.agg #[.string .empty,zS,zS]) Yhp rfl,⟨_,underlying242,fun w=>by kernel_rfl⟩⟩
instance:FieldT prog 242 0 0:=fld 1 underlying242
instance:FieldT prog 242 1 1:=fld 1 underlying242
instance:FieldT prog 242 2 2:=fld 1 underlying242
instance:AggT prog 244 14:=⟨⟨_,underlying244,rfl⟩,info_size Yhp⟩
instance:ZeroT prog 244 (.agg #[zI,.string .empty,zI,zS,zS,zS,zI,zI,.string .empty,zI,zS,zS,zS,zI]):=⟨info_zero Yhp⟩
instance:BuildT prog 244 [zI,.string .empty,zI,zS,zS,zS,zI,zI,.string .empty,zI,zS,zS,zS,zI] [(0,7),(7,7)]:=⟨build_of (v:=.agg #[zI,.string .empty,zI,zS,zS,zS,zI,zI,.string .empty,zI,zS,zS,zS,zI]) Yhp rfl,⟨_,underlying244,fun w=>by kernel_rfl⟩⟩
instance:FieldT prog 244 0 0:=fld 7 underlying244
instance:FieldT prog 244 1 7:=fld 7 underlying244
instance:FnT prog 4:=fnt func4
instance:FnT prog 5:=fnt func5
instance:FnT prog 6:=fnt func6
instance:FnT prog 7:=fnt func7
instance:FnT prog 8:=fnt func8
instance:FnT prog 9:=fnt func9
instance:FnT prog 10:=fnt func10
instance:FnT prog 11:=fnt func11
instance:FnT prog 12:=fnt func12
instance:FnT prog 13:=fnt func13
instance:FnT prog 14:=fnt func14
instance:FnT prog 15:=fnt func15
instance:FnT prog 16:=fnt func16
instance:FnT prog 17:=fnt func17
instance:FnT prog 18:=fnt func18
instance:FnT prog 23:=fnt func23
instance:FnT prog 24:=fnt func24
instance:FnT prog 25:=fnt func25
instance:FnT prog 26:=fnt func26
instance:FnT prog 27:=fnt func27
instance:FnT prog 28:=fnt func28
instance:FnT prog 29:=fnt func29
instance:FnT prog 30:=fnt func30
instance:FnT prog 31:=fnt func31
instance:FnT prog 32:=fnt func32
instance:FnT prog 33:=fnt func33
instance:FnT prog 34:=fnt func34
instance:FnT prog 35:=fnt func35
instance:FnT prog 36:=fnt func36
instance:FnT prog 37:=fnt func37
instance:FnT prog 38:=fnt func38
instance:FnT prog 39:=fnt func39
instance:FnT prog 40:=fnt func40
instance:FnT prog 41:=fnt func41
instance:FnT prog 42:=fnt func42
instance:FnT prog 55:=fnt func55
instance:FnT prog 56:=fnt func56
instance:FnT prog 57:=fnt func57
instance:FnT prog 58:=fnt func58
instance:FnT prog 59:=fnt func59
instance:FnT prog 60:=fnt func60
instance:FnT prog 61:=fnt func61
instance:FnT prog 62:=fnt func62
instance:FnT prog 63:=fnt func63
instance:FnT prog 64:=fnt func64
instance:FnT prog 65:=fnt func65
instance:FnT prog 66:=fnt func66
instance:FnT prog 67:=fnt func67
instance:FnT prog 68:=fnt func68
instance:FnT prog 69:=fnt func69
instance:FnT prog 70:=fnt func70
instance:FnT prog 71:=fnt func71
instance:FnT prog 72:=fnt func72
instance:FnT prog 73:=fnt func73
instance:FnT prog 74:=fnt func74
instance:FnT prog 75:=fnt func75
instance:FnT prog 76:=fnt func76
instance:FnT prog 77:=fnt func77
instance:FnT prog 78:=fnt func78
instance:FnT prog 107:=fnt func107
instance:FnT prog 112:=fnt func112
instance:FnT prog 113:=fnt func113
instance:FnT prog 114:=fnt func114
instance:FnT prog 115:=fnt func115
instance:FnT prog 116:=fnt func116
instance:FnT prog 117:=fnt func117
instance:FnT prog 118:=fnt func118
instance:FnT prog 119:=fnt func119
instance:FnT prog 120:=fnt func120
instance:FnT prog 121:=fnt func121
instance:FnT prog 122:=fnt func122
instance:FnT prog 123:=fnt func123
instance:FnT prog 124:=fnt func124
instance:FnT prog 125:=fnt func125
instance:FnT prog 126:=fnt func126
instance:FnT prog 127:=fnt func127
instance:FnT prog 128:=fnt func128
instance:FnT prog 203:=fnt func203
instance:FnT prog 204:=fnt func204
instance:FnT prog 205:=fnt func205
instance:FnT prog 206:=fnt func206
instance:FnT prog 207:=fnt func207
instance:FnT prog 208:=fnt func208
instance:FnT prog 209:=fnt func209
instance:FnT prog 210:=fnt func210
instance:FnT prog 211:=fnt func211
instance:FnT prog 212:=fnt func212
instance:FnT prog 213:=fnt func213
instance:FnT prog 214:=fnt func214
instance:FnT prog 215:=fnt func215
instance:FnT prog 216:=fnt func216
instance:FnT prog 217:=fnt func217
instance:FnT prog 218:=fnt func218
instance:FnT prog 277:=fnt func277
instance:FnT prog 278:=fnt func278
instance:FnT prog 279:=fnt func279
end
section
open Go.Proofs.Tryz
open Go.Rf Go.RowKit
variable{bs:List Int}{ys:List Value}{j m p:Nat}{u:Value}{w w1 w2:World}
attribute [local irreducible] Code.wp wpList Exit.then Exit.inBlock bodyPost A Calls execOp Addr.add
theorem around(a b:Int)(w:World)(ha: -9223372036854775808<=a)(ha2:a<=9223372036854775807)(hb:0<b):
 Calls prog 5 #[iV a,iV b] w fun e w'=>e=.returned (iV (arnd a b))/\w=w':=by
 refine enter func5 rfl ntmps5 rfl ?_;refine rn ?_;refine s_lss rfl rfl (fun h=>?_) (fun h=>?_)
 .refine rn ?_;refine Yfw ?_;exact⟨by rw[arnd,if_pos h,Int.zero_sub],rfl⟩
 .refine rn ?_;refine Yfw ?_;exact⟨by rw[arnd,if_neg h],rfl⟩
def IsW(w:World)(p:Nat)(v:Value)(bs:List Int):Prop:=Blk w p [v] 121/\Own w 5 1 v bs.length (bs.map (.int .u8))
def WStep(p:Nat)(w:World)(v:Value)(bs':List Int)(w':World):Prop:=
 ∃v',IsW w' p v' bs'/\Fr (p::blks v) w w'/\∀k∈blks v',k∈blks v\/w.heap.size<=k
theorem WStep.refl{v:Value}(h:IsW w p v bs):WStep p w v bs w:=⟨v,h,Fr.refl _ _,fun _ hk=>.inl hk⟩
theorem WStep.trans{v v1:Value}{bs2:List Int}(hf:Fr (p::blks v) w w1)(hk:∀k∈blks v1,k∈blks v\/w.heap.size<=k)(h:WStep p w1 v1 bs2 w2):WStep p w v bs2 w2:=by
 obtain⟨v2,h1,h2,h3⟩:=h;refine⟨v2,h1,hf.trans h2 ?_,?_⟩
 .intro x hx;rcases List.mem_cons.1 hx with rfl|hx
  .exact .inl Yhs
  .rcases hk x hx with h|h
   .exact .inl (by simp[h])
   .exact .inr h
 .intro k hk2;rcases h3 k hk2 with h|h
  .exact hk k h
  .exact .inr (Nat.le_trans hf.size h)
theorem IsW.one{v:Value}(h:IsW w p v bs):v.oneCell'=true:=h.2.one
theorem IsW.push{v v':Value}{cs:List Int}(h:IsW w p v bs)(hf1:Fr [] w w1)(ho:Own w2 5 1 v' (bs.length+cs.length) (bs.map (.int .u8)++cs.map (.int .u8)))(hf2:Fr (blks v) w1 w2)
 (hk:∀b∈blks v',b∈blks v\/w1.heap.size<=b) {w3:World} (hb:Blk w3 p [v'] 121) (hf3:Fr [p] w2 w3):WStep p w v (bs++cs) w3:=by
 have hne:=Own.ne ho ((h.1.tr0 hf1).tr hf2 (fun hp=>(h.2.ne h.1 Yhy) p hp rfl)) Yhy;refine⟨v',⟨hb,?_⟩,?_,?_⟩
 .have:=ho.tr hf3 (fun k hk=>by simp;exact hne k hk);simpa using this
 .refine (hf1.mono (fun x hx=>by cases hx)).trans (hf2.mono (T:=p::blks v) (fun x hx=>.inl (by simp[hx]))) (fun x hx=>.inl hx)|>.trans hf3 (fun x hx=>.inl (by simp at hx;simp[hx]))
 .intro k hk';rcases hk k hk' with h|h
  .exact .inl h
  .exact .inr (Nat.le_trans hf1.size h)
theorem wUint(p:Nat)(v:Value)(bs:List Int)(n:Nat)(w:World)(hn:n<18446744073709551616)(hw:IsW w p v bs)(hl:bs.length<=1000000000000):
 Calls prog 76 #[.pointer (some ⟨p,0,none⟩),.int .u64 n] w fun e w'=>e=.returned (.tuple #[])/\WStep p w v (bs++uv n) w':=by
 refine enter func76 rfl ntmps76 rfl ?_;refine rn ?_;have hul:=uv_len n hn;refine c_loop (σ:=Nat×Value×List Int) (fun s g u=>g 0=.pointer (some ⟨p,0,none⟩)/\g 1=.int .u64 s.1/\s.1<18446744073709551616/\bs++uv n=s.2.2++uv s.1/\IsW u p s.2.1 s.2.2/\Fr (p::blks v) w u/\∀k∈blks s.2.1,k∈blks v\/w.heap.size<=k)
  (fun s=>s.1) (n,v,bs) ⟨rfl,rfl,hn,rfl,hw,Fr.refl _ _,fun _ hk=>.inl hk⟩ ?_
 rintro⟨m,vr,br⟩ g u ⟨h0,h1,hm,hbs,hwr,hfr,hkr⟩;simp only at h0 h1 hm hbs hwr hkr;rw[eq_upd h0,eq_upd h1];have hlen:br.length<=1000000000010:=by
  have:=congrArg List.length hbs;simp only[List.length_append]at this;omega
 refine rn ?_;have hne:=hwr.2.ne hwr.1 Yhy;refine s_geq rfl rfl (fun h=>?_) (fun h=>?_)
 .refine rn ?_;refine s_loadB rfl hwr.1 rfl ?_;refine rn ?_;refine s_conv rfl (u8_wrap _) ?_;refine s_or rfl rfl (or128 m) ?_
  ((with_reducible apply s_build1);(conv=>lhs;whnf);exact rfl)
  intro w1 ho1 hf1 hs1;refine s_append (hwr.2.tr0 hf1) rfl ho1.src rfl rfl Yhu Yhv Yhn (fun v2 w2 ho2 hf2 hk2 _=>?_);refine rn ?_;have hb2:=(hwr.1.tr0 hf1).tr hf2 (fun hp=>hne p hp rfl)
  ((with_reducible apply s_storeB);exact rfl;(conv=>lhs;whnf);exact ho2.one;exact hb2;exact rfl)
  intro w3 hb3 hf3 hs3;refine rn ?_;refine s_shr rfl rfl Yhn (shr7 m) ?_;refine rn ?_;obtain⟨v3,hw3,hfr3,hk3⟩:=WStep.trans hfr hkr (hwr.push (cs:=[_]) hf1 ho2 hf2 hk2 hb3 hf3);refine q_round (m/128,v3,br++[((m%128+128:Nat):Int)]) ⟨rfl,rfl,by simp only;omega,?_,hw3,hfr3,hk3⟩ Yhw;simp only;rw[hbs,uv_ge Yhn];simp
 .refine rn ?_;refine s_loadB rfl hwr.1 rfl ?_;refine rn ?_
  ((with_reducible apply s_build1);(conv=>lhs;whnf);exact rfl)
  intro w1 ho1 hf1 hs1;refine s_append (hwr.2.tr0 hf1) rfl ho1.src rfl rfl Yhu Yhv Yhn (fun v2 w2 ho2 hf2 hk2 _=>?_);refine rn ?_;have hb2:=(hwr.1.tr0 hf1).tr hf2 (fun hp=>hne p hp rfl)
  ((with_reducible apply s_storeB);exact rfl;(conv=>lhs;whnf);exact ho2.one;exact hb2;exact rfl)
  intro w3 hb3 hf3 hs3;refine rn ?_;refine end0 rfl ⟨rfl,?_⟩;rw[hbs,uv_lt Yhn];exact WStep.trans hfr hkr (hwr.push (cs:=[_]) hf1 ho2 hf2 hk2 hb3 hf3)
theorem ints_one(k:IntKind)(l:List Int):∀u∈l.map (Value.int k),u.oneCell'=true:=by
 intro u hu;obtain⟨c,_,rfl⟩:=List.mem_map.1 hu;rfl
theorem wInt(p:Nat)(v:Value)(bs:List Int)(n:Int)(w:World)(h1: -9223372036854775808<=n)(h2:n<=9223372036854775807)(hw:IsW w p v bs)(hl:bs.length<=1000000000000):
 Calls prog 35 #[.pointer (some ⟨p,0,none⟩),iV n] w fun e w'=>e=.returned (.tuple #[])/\WStep p w v (bs++iv n) w':=by
 refine enter func35 rfl ntmps35 rfl ?_;refine rnc ?_;by_cases hn:n<0
 .refine s_conv rfl (show _=n+18446744073709551616 by rw[u64_wrap];omega) ?_;refine s_shl rfl rfl Yhn (show _=2*n+18446744073709551616 by rw[u64_wrap];show(n+18446744073709551616)*2%18446744073709551616=_;omega) ?_;refine rnc ?_;refine s_shr rfl rfl Yhn (show _= -1 by show n.fdiv 9223372036854775808= -1;rw[Int.fdiv_eq_ediv_of_nonneg _ Yhn];omega) ?_;refine s_conv rfl (show _=18446744073709551615 by decide) ?_;refine s_xor rfl rfl (xor1 _ Yhn Yhn) ?_;have e:(18446744073709551615-(2*n+18446744073709551616):Int)=((zz n:Nat):Int):=by unfold zz;rw[if_pos hn];omega
  exact Ycz
 .refine s_conv rfl (IntWalk.u64_in _ Yhn) ?_;refine s_shl rfl rfl Yhn (show _=2*n by rw[u64_wrap];show n*2%18446744073709551616=_;omega) ?_;refine rnc ?_;refine s_shr rfl rfl Yhn (show _=0 by show n.fdiv 9223372036854775808=0;rw[Int.fdiv_eq_ediv_of_nonneg _ Yhn];omega) ?_;refine s_conv rfl (show _=0 by decide) ?_;refine s_xor rfl rfl (xor0 _ Yhn Yhn) ?_;have e:(2*n:Int)=((zz n:Nat):Int):=by unfold zz;rw[if_neg hn];omega
  exact Ycz
theorem wText(p:Nat)(v:Value)(bs:List Int)(s:ByteArray)(w:World)(hw:IsW w p v bs)(hl:bs.length<=100000000000)(hc:s.size<=100000000000):
 Calls prog 36 #[.pointer (some ⟨p,0,none⟩),.string s] w fun e w'=>e=.returned (.tuple #[])/\WStep p w v (bs++raw (sb s)) w':=by
 refine enter func36 rfl ntmps36 rfl ?_;refine rn ?_;refine s_cE (wUint p v bs s.size w Yhn hw Yhn) ?_;rintro w1 ⟨v1,hw1,hf1,hk1⟩;have hul:=uv_len s.size Yhn;have hne:=hw1.2.ne hw1.1 Yhy;refine rn ?_;refine s_loadB rfl hw1.1 rfl ?_;refine rn ?_;refine s_appendS hw1.2 rfl rfl (by unfold maxLen;simp;omega) Yht (fun v2 w2 ho2 hf2 hk2 _=>?_);refine rn ?_;have hb2:=hw1.1.tr hf2 (fun hp=>hne p hp rfl)
 ((with_reducible apply s_storeB);exact rfl;(conv=>lhs;whnf);exact ho2.one;exact hb2;exact rfl)
 intro w3 hb3 hf3 hs3;refine rn ?_;refine end0 rfl ⟨rfl,?_⟩;have hcs:s.data.toList.map (fun c=>Value.int .u8 (c.toNat:Int))=(sb s).map (.int .u8):=by simp[sb]
 have ho3:Own w2 5 1 v2 ((bs++uv s.size).length+(sb s).length) ((bs++uv s.size).map (.int .u8)++(sb s).map (.int .u8)):=by rw[sb_len,<-hcs];exact ho2
 have:=WStep.trans hf1 hk1 (hw1.push (Fr.refl _ _) ho3 hf2 hk2 hb3 hf3);simpa[raw,sb_len]using this
theorem src_at{ao:Option Addr}{c:Nat}(h:Src w (.slice ao m c) m ys)(hj:ys[j]?=some u):∃ad,ao=some ad/\w.cell? (ad.add j)=some u:=by
 obtain⟨ao',c',e,_,hn,hc⟩:=h;simp only[Value.slice.injEq]at e;obtain⟨rfl,_,rfl⟩:=e;cases ao with
 |none=>obtain⟨_,_,rfl⟩:=hn rfl;simp at hj
 |some ad=>exact⟨ad,rfl,hc ad rfl j u hj⟩
theorem src_cell{ad:Addr}{c:Nat}(h:Src w (.slice (some ad) m c) m ys)(hj:ys[j]?=some u):w.cell? (ad.add j)=some u:=by
 obtain⟨ad',e,h⟩:=src_at h hj;simp only[Option.some.injEq]at e;subst e;exact h
def InI64(n:Int):Prop:= -9223372036854775808<=n/\n<=9223372036854775807
theorem wDone(p:Nat)(v:Value)(bs:List Int)(w:World)(hw:IsW w p v bs)(hl:bs.length<=1000000000000):
 Calls prog 37 #[.pointer (some ⟨p,0,none⟩)] w fun e w'=>∃v',e=.returned v'/\Own w' 5 1 v' bs.length (bs.map (.int .u8))/\Fr [] w w'/\(∀k∈blks v',w.heap.size<=k)/\v'≠zS:=by
 refine enter func37 rfl ntmps37 rfl ?_;refine rn ?_;refine s_build0 (fun w1 ho1 hf1 hs1=>?_);refine rn ?_;refine s_loadB rfl (hw.1.tr0 hf1) rfl ?_;refine s_append ho1 rfl (hw.2.src.tr0 hf1) rfl Yhs (ints_one _ _) Yhv Yhn (fun v2 w2 ho2 hf2 hk2 hn2=>?_);refine Yll ?_;refine⟨v2,rfl,by simpa using ho2,?_,?_,?_⟩
 .exact hf1.trans hf2 (fun x hx=>by simp[blks,Value.ownBlock]at hx;exact .inr Yhn)
 .intro k hk;rcases hk2 k hk with h|h
  .simp [blks,Value.ownBlock]at h;omega
  .omega
 .intro e;simpa using hn2.1 e
end
section
open Go.Proofs.Tryz
open Go.Rf Go.RowKit
attribute [local irreducible] Code.wp wpList Exit.then Exit.inBlock bodyPost A Calls execOp Addr.add
theorem intsCopy(x:Value)(bs:List Int)(m:Nat)(w:World)(hx:Src w x bs.length (bs.map (.int .i64)))(hm:m<=1000000):
 Calls prog 27 #[x,iV m] w fun e w'=>∃v',e=.returned v'/\Own w' 3 1 v' (bs.take m).length ((bs.take m).map (.int .i64))/\Fr [] w w'/\(∀k∈blks v',w.heap.size<=k):=by
 obtain⟨ao,c,hxe,hlc,hnil,hcells⟩:=id hx;subst hxe;refine enter func27 rfl ntmps27 rfl ?_;refine rn ?_;refine s_min rfl rfl (show _=((min m bs.length:Nat):Int) by split<;>omega) ?_;refine s_cut 0 (min m bs.length) hx rfl Yhs rfl ⟨_,rfl⟩ (Nat.zero_le _) Yhn (fun ao' c' hcut _ _=>?_);simp only[Nat.mul_one,Nat.sub_zero,List.drop_zero,<-List.map_take]at hcut ⊢;refine s_append (Own.nil _ _ _) rfl hcut rfl Yhs (ints_one _ _) Yhv Yhn (fun v2 w2 ho2 hf2 hk2 hn2=>?_);refine Yll ?_;have e:bs.take (min m bs.length)=bs.take m:=by
  rcases Nat.le_total m bs.length with h|h
  .rw [Nat.min_eq_left h]
  .rw [Nat.min_eq_right h,List.take_length,List.take_of_length_le h]
 refine⟨v2,rfl,?_,?_,?_⟩
 .have e2:(bs.take m).length=0+min m bs.length:=by simp
  rw[e2,<-e];simpa using ho2
 .exact hf2.mono (fun x hx=>by simp[blks,Value.ownBlock]at hx)
 .intro k hk;rcases hk2 k hk with h|h
  .simp [blks,Value.ownBlock]at h
  .exact h
end
section
open Go.Rf Go.RowKit
variable{p:Nat}{w:World}
attribute [local irreducible] Code.wp wpList Exit.then Exit.inBlock bodyPost A Calls execOp Addr.add
def Sub(v v':Value):Prop:=∀ad' n' c',v'=.slice (some ad') n' c'->∃ad n c,v=.slice (some ad) n c/\ad'.block=ad.block
theorem Sub.refl(v:Value):Sub v v:=fun ad n c h=>⟨ad,n,c,h,rfl⟩
theorem Sub.trans{a b c:Value}(h:Sub a b)(k:Sub b c):Sub a c:=fun ad n cc e=>by
 obtain⟨ad1,n1,c1,e1,h1⟩:=k ad n cc e;obtain⟨ad2,n2,c2,e2,h2⟩:=h ad1 n1 c1 e1;exact⟨ad2,n2,c2,e2,h1.trans h2⟩
theorem Sub.off{v v':Value}{ys ys':List Value}{S:List Nat}(h:Sub v v')(hl:0<ys'.length->0<ys.length)(ho:Off v ys S):Off v' ys' S:=fun ad n c e hp=>by
 obtain⟨ad1,n1,c1,e1,h1⟩:=h ad n c e;rw[h1];exact ho ad1 n1 c1 e1 (hl hp)
def IsR(w:World)(p:Nat)(v:Value)(bs:List Int)(e:Int):Prop:=
 Blk w p [v,iV e] 414/\Src w v bs.length (bs.map (.int .u8))/\Off v (bs.map (.int .u8)) [p]/\Bys bs
def RStep(p:Nat)(w:World)(v:Value)(bs':List Int)(e':Int)(w':World):Prop:=∃v',IsR w' p v' bs' e'/\Fr [p] w w'/\Sub v v'
theorem RStep.trans{w1 w2:World}{v v1:Value}{bs2:List Int}{e2:Int}(hf:Fr [p] w w1)(hs:Sub v v1)(h:RStep p w1 v1 bs2 e2 w2):RStep p w v bs2 e2 w2:=by
 obtain⟨v2,a,b,c⟩:=h;exact⟨v2,a,hf.trans b (fun x hx=>.inl hx),hs.trans c⟩
theorem IsR.src{v:Value}{bs:List Int}{e:Int}(h:IsR w p v bs e):Src w v bs.length (bs.map (.int .u8)):=h.2.1
end
section
open Go.Rf Go.RowKit
variable{bs:List Int}{S:List Nat}{p:Nat}{w w':World}
attribute [local irreducible] Code.wp wpList Exit.then Exit.inBlock bodyPost A Calls execOp Addr.add
theorem IsW.old{v:Value}(h:IsW w p v bs)(hf:Fr S w w')(hS:∀k∈S,w.heap.size<=k):IsW w' p v bs:=⟨h.1.old hf hS,h.2.old hf hS⟩
theorem IsW.new(h:Blk w p [zS] 121):IsW w p (zS) []:=⟨h,Own.nil _ _ _⟩
theorem IsR.tr{v:Value}{e:Int}(h:IsR w p v bs e)(hf:Fr S w w')(hp:p∉S)(ho:Off v (bs.map (.int .u8)) S):IsR w' p v bs e:=⟨h.1.tr hf hp,h.2.1.tr hf ho,h.2.2⟩
theorem IsR.tr0{v:Value}{e:Int}(h:IsR w p v bs e)(hf:Fr [] w w'):IsR w' p v bs e:=⟨h.1.tr0 hf,h.2.1.tr0 hf,h.2.2⟩
theorem IsR.old{v:Value}{e:Int}(h:IsR w p v bs e)(hf:Fr S w w')(hS:∀k∈S,w.heap.size<=k):IsR w' p v bs e:=⟨h.1.old hf hS,h.2.1.old hf hS,h.2.2⟩
end
end Go.Proofs.YtmlpcmjmniobdaaGreat
