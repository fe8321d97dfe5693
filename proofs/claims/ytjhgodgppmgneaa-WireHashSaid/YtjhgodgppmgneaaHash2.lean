/-
  Package hash: Sum and Bytes.
-/
import Derived.Test.YtjhgodgppmgneaaHash
namespace Go.Rf
open Go.RowKit
set_option linter.unusedVariables false
/-- 'make([]T, 0, c)' -/
theorem s_make0 {D : Dfs} {P : Program} {ops : Array Oper} {Q : Exit → Act → World → Prop} {rest : List Oper} {n : Nat} {f : Env} {w : World} {d : Nat} {ty : TypeId} {ps : String} {af : Array Edge} {x y : Operand} {t : Nat}
    {e size by_ k : Nat} {z : List Value} {kl kc : IntKind} [R : RowZ P t e size by_ z] (hx : ev n f x = .int kl 0) (hy : ev n f y = .int kc (k : Int)) (hb : by_ * k ≤ 281474976710656) (h63 : k ≤ maxLen)
    (h : ∀ w', Own w' e size (.slice (some ⟨w.heap.size, 0, none⟩) 0 k) 0 [] → Fr [] w w' → w'.heap.size = w.heap.size + 1 → wpList P ops Q rest (A n (upd f d (.slice (some ⟨w.heap.size, 0, none⟩) 0 k))) w') :
    wpList P ops Q (⟨some d, .makeSlice t x y, ty, ps, af, none⟩ :: rest) (A n f) w := by
  have Rr := R.row
  obtain ⟨i0, z0, hi0, hz0, hs, hbb, hzs⟩ := Rr.inf
  obtain ⟨i, v, hi, hz, hc, hzl⟩ := R.z
  rw [hi0] at hi
  simp only [Option.some.injEq] at hi
  subst hi
  have h63' : (k : Int) ≤ 9223372036854775807 := by
    have h := h63
    simp [maxLen] at h
    omega
  have hb' : (i0.bytes : Int) * (k : Int) ≤ 281474976710656 := by
    have h : ((i0.bytes * k : Nat) : Int) ≤ 281474976710656 := by rw [hbb]; omega
    rwa [Int.natCast_mul] at h
  have hr := run_make (P := P) w t e i0 v Rr.und hi0 hz kl kc 0 k (by omega) (by omega) hb' h63'
  simp only [Int.toNat_natCast] at hr
  rw [hc, hs] at hr
  refine s_run (by simp only [execOp, hx, hy]; rw [Sem.run_bind, hr]; rfl) (h _ ⟨by simp, .inr ⟨w.heap.size, k, _, rfl, Nat.zero_le _, heap_alloc_new w _, Nat.zero_le _, h63, by simp [madeCells], by simp⟩⟩ (Fr.alloc _ _ _) (by simp))
end Go.Rf
namespace Go.Proofs.Ytjhgodgppmgneaa
open Go.Rf Go.RowKit
set_option linter.unusedVariables false
attribute [local irreducible] Code.wp wpList Exit.then Exit.inBlock bodyPost A Calls execOp Addr.add

def foldM (s : BitVec 64) (l : List (BitVec 64)) : BitVec 64 := l.foldl mixB s
def gB (bs : List Int) : List (BitVec 64) := (gnat bs).map (BitVec.ofNat 64)
def sumH (bs : List Int) (ns : List Int) : BitVec 64 :=
  mixB (foldM (mixB (mixB (foldM 0 (gB bs)) (BitVec.ofNat 64 bs.length)) (BitVec.ofNat 64 ns.length)) (ns.map (BitVec.ofInt 64))) 0
theorem foldM_snoc {l : List (BitVec 64)} {s : BitVec 64} {k : Nat} {x : BitVec 64} (h : l[k]? = some x) : foldM s (l.take (k + 1)) = mixB (foldM s (l.take k)) x := by
  obtain ⟨hk, rfl⟩ := List.getElem?_eq_some_iff.1 h
  unfold foldM
  rw [List.take_succ_eq_append_getElem hk, List.foldl_append]
  rfl
theorem ofNat_toNat {x : Nat} (h : x < 18446744073709551616) : (BitVec.ofNat 64 x).toNat = x := by rw [BitVec.toNat_ofNat]; omega
theorem u64_ofI (n : Int) : IntKind.u64.wrap n = ((BitVec.ofInt 64 n).toNat : Int) := by
  rw [u64_wrap, BitVec.toNat_ofInt]
  have : (0 : Int) ≤ n % 18446744073709551616 := by omega
  show n % 18446744073709551616 = (((n % ((2 : Int) ^ 64)).toNat : Nat) : Int)
  have e : (2 : Int) ^ 64 = 18446744073709551616 := by decide
  rw [e]
  omega
theorem sb_bys (s : ByteArray) : Bys (sb s) := by
  intro b hb
  simp only [sb, List.mem_map] at hb
  obtain ⟨c, _, rfl⟩ := hb
  have := c.toNat_lt
  omega

theorem sumC (s : ByteArray) (ns : List Int) (ao : Option Addr) (c : Nat) (w : World) (hs : s.size ≤ 1000000000) (hn : ∀ n ∈ ns, InI64 n) (hc : ns.length ≤ 1000000000) (hsl : Src w (.slice ao ns.length c) ns.length (ns.map (.int .i64))) :
    Calls Try.prog 19 #[.string s, .slice ao ns.length c] w fun e w' => e = .returned (.int .u64 (sumH (sb s) ns).toNat) ∧ Fr [] w w' := by
  refine enterM Try.func19 rfl Try.ntmps19 rfl ?_
  refine rn ?_
  refine s_alloc (l := [.int .u64 0]) rfl (fun w1 hb1 hf1 hs1 => ?_)
  obtain ⟨p, hp⟩ : ∃ p, w.heap.size = p := ⟨_, rfl⟩
  rw [hp] at hb1 ⊢
  refine rn ?_
  refine s_fromStr rfl (fun cb w2 hcb hsrc2 hf2 => ?_)
  have hsb : (s.data.toList.map fun b => Value.int .u8 b.toNat) = (sb s).map (.int .u8) := by simp [sb]
  rw [hsb] at hsrc2
  have hb2 := hb1.tr0 hf2
  have hpw1 := hb1.lt
  have hpw2 := hb2.lt
  refine rn ?_
  refine s_call (groupsC _ w2 rfl) rfl ?_
  rintro _ w3 ⟨bx, rfl, hbx, hf3, hbx0, hs3⟩
  refine ⟨_, rfl, ?_⟩
  have hsrc3 := hsrc2.tr0 hf3
  have hb3 := hb2.tr0 hf3
  have hpw3 := hb3.lt
  have hF3 : Fr [] w w3 := (hf1.trans0 hf2).trans0 hf3
  have hpx : bx ≠ p := by omega
  repeat (first | with_reducible refine wp_seq ?_ | with_reducible refine wp_block ?_ | with_reducible refine wpList_nil ?_ | with_reducible refine wp_skip ?_ | with_reducible refine wp_exit ?_ | with_reducible refine wp_ret ?_ | with_reducible refine q_then ?_ | with_reducible refine q_then_exit ?_ | with_reducible refine q_then_ret ?_ | with_reducible refine q_blk ?_ | with_reducible refine q_blk_ret ?_ | with_reducible refine q_blk_eq ?_ | refine q_blk_ne rfl ?_ | refine c_true rfl ?_ | refine c_false rfl ?_)
  refine c_rangeD rfl ((gnat (sb s)).map fun x => Value.int .u64 (x : Nat)) (fun k W => Blk W p [.int .u64 (foldM 0 ((gB (sb s)).take k)).toNat] 22 ∧ Fr [p] w3 W) ?_ ?_ ?_ ?_ ?_
  · rintro k W W' ⟨h1, h2⟩ hf
    refine ⟨h1.tr hf (by simp; omega), h2.trans hf (fun x hx => .inr ?_)⟩
    simp only [List.mem_singleton] at hx
    omega
  · intro W hf
    exact ⟨hb3.tr0 hf, hf.mono (by simp)⟩
  · intro l J W h1 h2 h3
    have := groups1 l bx (some ⟨w1.heap.size, 0, none⟩) s.size cb (sb s) (sb_bys s) (sb_len s) (by omega) J W h1 (fun k W1 hJ => ?_) h3
    · rw [List.length_map]; exact this
    · obtain ⟨h4, h5⟩ := h2 k W1 hJ
      refine ⟨hbx.tr h5 (by simpa using hpx), hsrc3.tr h5 ?_⟩
      rintro ad _ _ e _
      simp only [Value.slice.injEq, Option.some.injEq] at e
      obtain ⟨rfl, _⟩ := e
      simp only [List.mem_singleton]
      omega
  · rintro l k v W hx ⟨hbW, hfW⟩ hlt
    rw [List.getElem?_map] at hx
    obtain ⟨x, hx2, rfl⟩ := Option.map_eq_some_iff.1 hx
    have hxl := gnat_lt (sb_bys s) x (List.mem_of_getElem? hx2)
    have hgx : (gB (sb s))[k]? = some (BitVec.ofNat 64 x) := by simp only [gB, List.getElem?_map, hx2]; rfl
    refine wpIn_block ?_
    refine in_region rfl ?_
    refine rn ?_
    have hm := mixC (foldM 0 ((gB (sb s)).take k)) (BitVec.ofNat 64 x) W
    rw [ofNat_toNat hxl, ← foldM_snoc hgx] at hm
    refine s_call hm rfl ?_
    rintro _ _ ⟨rfl, rfl⟩
    refine ⟨_, rfl, ?_⟩
    ((with_reducible apply s_storeB); exact rfl; (conv => lhs; whnf); exact rfl; exact hbW; exact rfl)
    intro W' hbW' hf' hs'
    refine wpList_nil ?_
    refine q_then_k ?_
    refine q_blk ?_
    refine ⟨rfl, ⟨hbW', hfW.trans hf' (by simp)⟩, hf'.block _ (by omega) (by simp; omega), hf'.block _ (by omega) (by simp; omega)⟩
  rintro W ⟨hbW, hfW⟩ hD
  have hlg : (gnat (sb s)).length = (gB (sb s)).length := by simp [gB]
  rw [List.length_map, hlg, List.take_length] at hbW
  have hdk : w3.heap.size < W.heap.size := (Array.getElem?_eq_some_iff.1 hD).1
  have hFW : Fr [p] w W := (hF3.mono (by simp)).trans hfW (by simp)
  obtain ⟨dk, hdk0⟩ : ∃ dk, w3.heap.size = dk := ⟨_, rfl⟩
  rw [hdk0] at hD hdk ⊢
  have hpd : dk ≠ p := by omega
  unfold sumH
  generalize foldM 0 (gB (sb s)) = st at hbW ⊢
  refine rn ?_
  have hm := mixC st (BitVec.ofNat 64 s.size) W
  rw [ofNat_toNat (by omega)] at hm
  refine s_call hm rfl ?_
  rintro _ _ ⟨rfl, rfl⟩
  refine ⟨_, rfl, ?_⟩
  ((with_reducible apply s_storeB); exact rfl; (conv => lhs; whnf); exact rfl; exact hbW; exact rfl)
  intro u1 hbu1 hfu1 hsu1
  have hD1 : u1.heap[dk]? = some (.deferred (some [])) := (hfu1.block _ (by omega) (by simpa using hpd)).trans hD
  have hF1 : Fr [p] w u1 := hFW.trans hfu1 (by simp)
  rw [sb_len]
  generalize mixB st (BitVec.ofNat 64 s.size) = st1 at hbu1 ⊢
  refine rn ?_
  have hm := mixC st1 (BitVec.ofNat 64 ns.length) u1
  rw [ofNat_toNat (by omega)] at hm
  refine s_call hm rfl ?_
  rintro _ _ ⟨rfl, rfl⟩
  refine ⟨_, rfl, ?_⟩
  ((with_reducible apply s_storeB); exact rfl; (conv => lhs; whnf); exact rfl; exact hbu1; exact rfl)
  intro u2 hbu2 hfu2 hsu2
  have hD2 : u2.heap[dk]? = some (.deferred (some [])) := (hfu2.block _ (by omega) (by simpa using hpd)).trans hD1
  have hF2 : Fr [p] w u2 := hF1.trans hfu2 (by simp)
  generalize mixB st1 (BitVec.ofNat 64 ns.length) = st2 at hbu2 ⊢
  refine rn ?_
  refine c_loop (σ := Nat) (fun k g z => g 5 = .pointer (some ⟨p, 0, none⟩) ∧ g 26 = .slice ao ns.length c ∧ g 27 = .int .i64 ns.length ∧ g 28 = .int .i64 k ∧ k ≤ ns.length ∧ Blk z p [.int .u64 (foldM st2 ((ns.map (BitVec.ofInt 64)).take k)).toNat] 22 ∧ z.heap[dk]? = some (.deferred (some [])) ∧ Fr [p] w z) (fun k => ns.length - k) 0 ⟨rfl, rfl, rfl, rfl, Nat.zero_le _, hbu2, hD2, hF2⟩ ?_
  rintro k g z ⟨g5, g26, g27, g28, hk, hbz, hDz, hFz⟩
  rw [eq_upd g5, eq_upd g26, eq_upd g27, eq_upd g28]
  have hdz : dk < z.heap.size := (Array.getElem?_eq_some_iff.1 hDz).1
  refine rn ?_
  refine s_lss rfl rfl (fun hlt => ?_) (fun hge => ?_)
  case refine_2 =>
    have hke : k = (ns.map (BitVec.ofInt 64)).length := by simp; omega
    rw [hke, List.take_length] at hbz
    generalize foldM st2 (ns.map (BitVec.ofInt 64)) = st3 at hbz ⊢
    refine rn ?_
    have hm := mixC st3 0 z
    refine s_call hm rfl ?_
    rintro _ _ ⟨rfl, rfl⟩
    refine ⟨_, rfl, ?_⟩
    refine rn ?_
    refine retM1 (b := dk) rfl hDz rfl ?_
    intro w' hf'
    refine ⟨rfl, ?_⟩
    refine (hFz.mono (T := []) (fun x hx => .inr ?_)).trans hf' (fun x hx => .inr ?_)
    · simp only [List.mem_singleton] at hx; omega
    · simp only [List.mem_singleton] at hx; have := hF3.size; omega
  have hkl : k < ns.length := by omega
  have hcell := src_at (j := k) (u := .int .i64 ns[k]) (hsl.old hFz (by simp; omega)) (by simp [hkl])
  obtain ⟨ad, rfl, hcell⟩ := hcell
  have hin := hn _ (List.getElem_mem hkl)
  refine rn ?_
  refine s_indexAddr (j := k) rfl rfl rfl (by omega) rfl ?_
  rw [Nat.mul_one]
  refine s_load rfl hcell ?_
  refine rn ?_
  refine s_conv rfl (u64_ofI _) ?_
  have hgk : (ns.map (BitVec.ofInt 64))[k]? = some (BitVec.ofInt 64 ns[k]) := by simp [hkl]
  have hm := mixC (foldM st2 ((ns.map (BitVec.ofInt 64)).take k)) (BitVec.ofInt 64 ns[k]) z
  rw [← foldM_snoc hgk] at hm
  refine s_call hm rfl ?_
  rintro _ _ ⟨rfl, rfl⟩
  refine ⟨_, rfl, ?_⟩
  ((with_reducible apply s_storeB); exact rfl; (conv => lhs; whnf); exact rfl; exact hbz; exact rfl)
  intro u3 hbu3 hfu3 hsu3
  refine rn ?_
  refine q_round (k + 1) ⟨rfl, rfl, rfl, rfl, hkl, hbu3, (hfu3.block _ (by omega) (by simpa using hpd)).trans hDz, hFz.trans hfu3 (by simp)⟩ (by omega)
def toI (x : Nat) : Int := IntKind.i64.wrap (x : Int)
theorem toI_in (x : Nat) : InI64 (toI x) := by unfold toI InI64; rw [i64_wrap]; split <;> omega
theorem toI_of {x : Nat} (h : x < 18446744073709551616) : BitVec.ofInt 64 (toI x) = BitVec.ofNat 64 x := by
  apply BitVec.eq_of_toNat_eq
  rw [BitVec.toNat_ofInt, ofNat_toNat h]
  show (toI x % 18446744073709551616).toNat = x
  unfold toI
  rw [i64_wrap]
  split <;> omega
def wds (bs : List Int) : List Int := (gnat bs).map toI ++ [(bs.length : Int)]
theorem wds_in {bs : List Int} (h : bs.length ≤ 1000000000) : ∀ n ∈ wds bs, InI64 n := by
  intro n hn
  simp only [wds, List.mem_append, List.mem_map, List.mem_singleton] at hn
  rcases hn with ⟨x, _, rfl⟩ | rfl
  · exact toI_in x
  · unfold InI64; omega
theorem wds_len (bs : List Int) : (wds bs).length = (bs.length + 7) / 8 + 1 := by simp [wds, gnat_len]

theorem bytesC (s : ByteArray) (bs : List Int) (ao : Option Addr) (c : Nat) (w : World) (hs : s.size ≤ 1000000000) (hB : Bys bs) (hl : bs.length ≤ 1000000000) (hsl : Src w (.slice ao bs.length c) bs.length (bs.map (.int .u8))) :
    Calls Try.prog 9 #[.string s, .slice ao bs.length c] w fun e w' => e = .returned (.int .u64 (sumH (sb s) (wds bs)).toNat) ∧ Fr [] w w' := by
  refine enterM Try.func9 rfl Try.ntmps9 rfl ?_
  refine rn ?_
  refine s_make0 (k := bs.length / 8 + 2) rfl rfl (by omega) (by unfold maxLen; omega) (fun w0 ho0 hf0 hs0 => ?_)
  refine s_alloc (l := [.slice none 0 0]) rfl (fun w1 hb1 hf1 hs1 => ?_)
  obtain ⟨p, hp⟩ : ∃ p, w0.heap.size = p := ⟨_, rfl⟩
  rw [hp] at hb1 ⊢
  have hpw1 := hb1.lt
  ((with_reducible apply s_storeB); exact rfl; (conv => lhs; whnf); exact rfl; exact hb1; exact rfl)
  intro w2 hb2 hf2 hs2
  have ho2 : Own w2 3 1 (.slice (some ⟨w.heap.size, 0, none⟩) 0 (bs.length / 8 + 2)) 0 [] := (ho0.tr0 hf1).tr hf2 (by simp [blks, Value.ownBlock]; omega)
  have hF2 : Fr [] w w2 := ((hf0.trans0 hf1).trans hf2 (by simp; omega))
  refine rn ?_
  refine s_call (groupsC _ w2 rfl) rfl ?_
  rintro _ w3 ⟨bx, rfl, hbx, hf3, hbx0, hs3⟩
  refine ⟨_, rfl, ?_⟩
  have hb3 := hb2.tr0 hf3
  have ho3 := ho2.tr0 hf3
  have hF3 : Fr [] w w3 := hF2.trans0 hf3
  repeat (first | with_reducible refine wp_seq ?_ | with_reducible refine wp_block ?_ | with_reducible refine wpList_nil ?_ | with_reducible refine wp_skip ?_ | with_reducible refine wp_exit ?_ | with_reducible refine wp_ret ?_ | with_reducible refine q_then ?_ | with_reducible refine q_then_exit ?_ | with_reducible refine q_then_ret ?_ | with_reducible refine q_blk ?_ | with_reducible refine q_blk_ret ?_ | with_reducible refine q_blk_eq ?_ | refine q_blk_ne rfl ?_ | refine c_true rfl ?_ | refine c_false rfl ?_)
  refine c_rangeD rfl ((gnat bs).map fun x => Value.int .u64 (x : Nat)) (fun k W => ∃ v, Blk W p [v] 45 ∧ Own W 3 1 v k (((gnat bs).take k).map fun x => .int .i64 (toI x)) ∧ (∀ q ∈ blks v, w.heap.size ≤ q ∧ q ≠ p ∧ q ≠ bx ∧ q ≠ w3.heap.size ∧ q ≠ w3.heap.size + 1) ∧ Blk W bx [.slice ao bs.length c] 24 ∧ Fr [] w W) ?_ ?_ ?_ ?_ ?_
  · rintro k W W' ⟨v, h1, h2, h3, h4, h5⟩ hf
    refine ⟨v, h1.tr hf (by simp; omega), h2.tr hf (fun q hq => by have := h3 q hq; simp; omega), h3, h4.tr hf (by simp; omega), h5.trans hf (by simp; omega)⟩
  · intro W hf
    refine ⟨_, hb3.tr0 hf, ho3.tr0 hf, ?_, hbx.tr0 hf, hF3.trans0 hf⟩
    intro q hq
    simp [blks, Value.ownBlock] at hq
    omega
  · intro l J W h1 h2 h3
    have := groups1 l bx ao bs.length c bs hB rfl (by omega) J W h1 (fun k W1 hJ => ?_) h3
    · rw [List.length_map]; exact this
    · obtain ⟨v, h4, h5, h6, h7, h8⟩ := h2 k W1 hJ
      exact ⟨h7, hsl.tr0 h8⟩
  · rintro l k v W hx ⟨sl, hbW, hoW, hkW, hxW, hfW⟩ hlt
    rw [List.getElem?_map] at hx
    obtain ⟨x, hx2, rfl⟩ := Option.map_eq_some_iff.1 hx
    have hxl := gnat_lt hB x (List.mem_of_getElem? hx2)
    have hkl := (List.getElem?_eq_some_iff.1 hx2).1
    have hkl2 : k < (bs.length + 7) / 8 := by rw [← gnat_len]; exact hkl
    refine wpIn_block ?_
    refine in_region rfl ?_
    obtain ⟨ao5, c5, hsl5⟩ := hoW.slice
    refine rn ?_
    refine s_conv (r := toI x) rfl rfl ?_
    refine s_buildS [.int .i64 (toI x)] rfl rfl rfl rfl (fun u1 hou1 hfu1 hsu1 => ?_)
    refine s_append (hoW.tr0 hfu1) rfl hou1.src rfl rfl (by simp [Value.oneCell']) (by unfold maxLen; omega) (by omega) (fun v2 u2 ho2 hf2 hk2 _ => ?_)
    have hbu : Blk u2 p [sl] 45 := (hbW.tr0 hfu1).tr hf2 (fun hq => absurd rfl (hkW p hq).2.1)
    have hone := ho2.one
    ((with_reducible apply s_storeB); exact rfl; (conv => lhs; whnf); exact hone; exact hbu; exact rfl)
    intro u3 hbu3 hfu3 hsu3
    refine wpList_nil ?_
    refine q_then_k ?_
    refine q_blk ?_
    have hsz := hfu1.size
    have hsz2 := hf2.size
    have hWp := hbW.lt
    have hWx := hxW.lt
    have hk3 : ∀ q ∈ blks v2, w.heap.size ≤ q ∧ q ≠ p ∧ q ≠ bx ∧ q ≠ w3.heap.size ∧ q ≠ w3.heap.size + 1 := by
      intro q hq
      rcases hk2 q hq with h | h
      · exact hkW q h
      · have := hfW.size; omega
    refine ⟨rfl, ⟨v2, hbu3, ?_, hk3, ?_, ?_⟩, ?_, ?_⟩
    · have e : ((gnat bs).take (k + 1)).map (fun x => Value.int .i64 (toI x)) = ((gnat bs).take k).map (fun x => Value.int .i64 (toI x)) ++ [.int .i64 (toI x)] := by
        rw [List.take_succ_eq_append_getElem hkl, List.map_append]
        have : (gnat bs)[k] = x := by have := List.getElem?_eq_some_iff.1 hx2; exact this.2
        rw [this]; rfl
      rw [e]
      exact ho2.tr hfu3 (fun q hq => by have := hk3 q hq; simp; omega)
    · exact ((hxW.tr0 hfu1).tr hf2 (fun hq => absurd rfl (hkW bx hq).2.2.1)).tr hfu3 (by simp; omega)
    · refine (((hfW.trans0 hfu1).trans hf2 (fun q hq => .inr ?_)).trans hfu3 (fun q hq => .inr ?_))
      · exact (hkW q hq).1
      · simp only [List.mem_singleton] at hq; have := hf0.size; omega
    · rw [hfu3.block _ (by omega) (by simp; omega), hf2.block _ (by omega) (fun hq => absurd rfl (hkW _ hq).2.2.2.1), hfu1.block _ (by omega) (by simp)]
    · rw [hfu3.block _ (by omega) (by simp; omega), hf2.block _ (by omega) (fun hq => absurd rfl (hkW _ hq).2.2.2.2), hfu1.block _ (by omega) (by simp)]
  rintro W ⟨sl, hbW, hoW, hkW, hxW, hfW⟩ hD
  have hlg : ((gnat bs).map fun x => Value.int .u64 (x : Nat)).length = (gnat bs).length := by simp
  rw [hlg, List.take_length] at hoW
  have hgl := gnat_len bs
  have hdk : w3.heap.size < W.heap.size := (Array.getElem?_eq_some_iff.1 hD).1
  refine rn ?_
  refine s_buildS [.int .i64 bs.length] rfl rfl rfl rfl (fun u1 hou1 hfu1 hsu1 => ?_)
  refine s_append (hoW.tr0 hfu1) rfl hou1.src rfl rfl (by simp [Value.oneCell']) (by unfold maxLen; omega) (by omega) (fun v2 u2 ho2 hf2 hk2 _ => ?_)
  have hbu : Blk u2 p [sl] 45 := (hbW.tr0 hfu1).tr hf2 (fun hq => absurd rfl (hkW p hq).2.1)
  have hone := ho2.one
  ((with_reducible apply s_storeB); exact rfl; (conv => lhs; whnf); exact hone; exact hbu; exact rfl)
  intro u3 hbu3 hfu3 hsu3
  have hsz := hfu1.size
  have hsz2 := hf2.size
  have hWp := hbW.lt
  have hk3 : ∀ q ∈ blks v2, q ≠ p := by
    intro q hq
    rcases hk2 q hq with h | h
    · exact (hkW q h).2.1
    · omega
  have ho3 := ho2.tr hfu3 (fun q hq => by have := hk3 q hq; simp; omega)
  have hF3u : Fr [] w u3 := (((hfW.trans0 hfu1).trans hf2 (fun q hq => .inr (hkW q hq).1)).trans hfu3 (fun q hq => .inr (by simp only [List.mem_singleton] at hq; have := hf0.size; omega)))
  have hD3 : u3.heap[w3.heap.size]? = some (.deferred (some [])) := by
    rw [hfu3.block _ (by omega) (by simp; omega), hf2.block _ (by omega) (fun hq => absurd rfl (hkW _ hq).2.2.2.1), hfu1.block _ (by omega) (by simp)]
    exact hD
  have hwe : ((gnat bs).map (fun x => Value.int .i64 (toI x)) ++ [.int .i64 (bs.length : Int)]) = (wds bs).map (.int .i64) := by simp [wds]
  rw [hwe] at ho3
  have hwl : (gnat bs).length + 1 = (wds bs).length := by simp [wds]
  rw [hwl] at ho3
  obtain ⟨ao2, c2, hv2⟩ := ho3.slice
  subst hv2
  refine rn ?_
  refine s_call (sumC s (wds bs) ao2 c2 u3 hs (wds_in hl) (by rw [wds_len]; omega) ho3.src) rfl ?_
  rintro _ u4 ⟨rfl, hf4⟩
  refine ⟨_, rfl, ?_⟩
  refine rn ?_
  refine retM1 (b := w3.heap.size) rfl ((hf4.block _ (by have := (Array.getElem?_eq_some_iff.1 hD3).1; exact this) (by simp)).trans hD3) rfl ?_
  intro w' hf'
  refine ⟨rfl, (hF3u.trans0 hf4).trans hf' (fun q hq => .inr ?_)⟩
  simp only [List.mem_singleton] at hq
  have := hF3.size
  omega
end Go.Proofs.Ytjhgodgppmgneaa
