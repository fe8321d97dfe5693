/-
  Package hash: mix, groups, Sum and Bytes (a range over a function).
-/
import Derived.Test.YtjhgodgppmgneaaLv
import Derived.Test.YtjhgodgppmgneaaRg
import Derived.Test.YtjhgodgppmgneaaHa
namespace Go.Proofs.Ytjhgodgppmgneaa
open Go.Rf Go.RowKit
set_option linter.unusedVariables false
attribute [local irreducible] Code.wp wpList Exit.then Exit.inBlock bodyPost A Calls execOp Addr.add

theorem mixC (s x : BitVec 64) (w : World) : Calls Try.prog 24 #[.int .u64 s.toNat, .int .u64 x.toNat] w fun e w' => e = .returned (.int .u64 (mixB s x).toNat) ∧ w = w' := by
  refine enter Try.func24 rfl Try.ntmps24 rfl ?_
  refine rn ?_
  refine s_xor rfl rfl (xorB s x) ?_
  refine s_mul rfl rfl (mulB _) ?_
  refine rn ?_
  refine s_shr rfl rfl (by omega) (shrB _) ?_
  refine s_xor rfl rfl (xorB _ _) ?_
  refine rn ?_
  (apply ret1; exact rfl; (conv => lhs; whnf))
  exact ⟨rfl, rfl⟩

theorem groupsC (v : Value) (w : World) (hv : v.oneCell' = true) : Calls Try.prog 18 #[v] w fun e w' => ∃ b, e = .returned (.func (.func 23) #[] #[.pointer (some ⟨b, 0, none⟩)]) ∧ Blk w' b [v] 24 ∧ Fr [] w w' ∧ b = w.heap.size ∧ w'.heap.size = w.heap.size + 1 := by
  refine enter Try.func18 rfl Try.ntmps18 rfl ?_
  refine rn ?_
  have hc : v.cells = [v].toArray := by cases v <;> simp_all [Value.cells, Value.oneCell']
  refine s_box (v := v) (l := [v]) rfl hc (fun w1 hb1 hf1 hs1 => ?_)
  refine rn ?_
  refine s_makeFunc (a := []) (b := [.pointer (some ⟨w.heap.size, 0, none⟩)]) rfl rfl ?_
  refine rn ?_
  (apply ret1; exact rfl; (conv => lhs; whnf))
  exact ⟨_, rfl, hb1, hf1, rfl, hs1⟩

def gnat (bs : List Int) : List Nat := (List.range ((bs.length + 7) / 8)).map fun k => wN ((bs.drop (8 * k)).take 8)
theorem gnat_len (bs : List Int) : (gnat bs).length = (bs.length + 7) / 8 := by simp [gnat]
theorem gnat_get {bs : List Int} {k : Nat} (h : 8 * k < bs.length) : (gnat bs)[k]? = some (wN ((bs.drop (8 * k)).take 8)) := by
  simp only [gnat, List.getElem?_map]
  rw [List.getElem?_range (by omega)]
  rfl
theorem wN_step {bs : List Int} {q m : Nat} (hq : q < bs.length) : wN ((bs.drop q).take (m + 1)) = (bs[q]).toNat + 256 * wN ((bs.drop (q + 1)).take m) := by
  rw [List.drop_eq_getElem_cons hq, List.take_succ_cons]
  rfl
theorem gnat_lt {bs : List Int} (hB : Bys bs) : ∀ x ∈ gnat bs, x < 18446744073709551616 := by
  intro x hx
  simp only [gnat, List.mem_map] at hx
  obtain ⟨k, _, rfl⟩ := hx
  have h := wN_lt _ ((hB.drop (8 * k)).take 8)
  have h2 : ((bs.drop (8 * k)).take 8).length ≤ 8 := by simp; omega
  have h3 : 256 ^ ((bs.drop (8 * k)).take 8).length ≤ 256 ^ 8 := Nat.pow_le_pow_right (by omega) h2
  have : (256 : Nat) ^ 8 = 18446744073709551616 := by decide
  omega

theorem groups1 (l b : Nat) (ao : Option Addr) (m c : Nat) (bs : List Int) (hB : Bys bs) (hm : bs.length = m) (hlen : m ≤ 1000000000000) (J : Nat → World → Prop) (W : World) (h0 : J 0 W)
    (hr : ∀ k W1, J k W1 → Blk W1 b [.slice ao m c] 24 ∧ Src W1 (.slice ao m c) m (bs.map (.int .u8)))
    (hy : ∀ k v W1, ((gnat bs).map fun x => Value.int .u64 (x : Nat))[k]? = some v → J k W1 → YieldAt Fence.wide 0 Try.prog l #[v] W1 fun e W' => e = .returned (.bool true) ∧ J (k + 1) W') :
    Calls Try.prog 23 #[.func (.yield l) #[] #[], .pointer (some ⟨b, 0, none⟩)] W fun e W' => (∃ v, e = .returned v) ∧ J (gnat bs).length W' := by
  refine enter Try.func23 rfl Try.ntmps23 rfl ?_
  refine rn ?_
  refine c_loop (σ := Nat) (fun k g z => g 0 = .func (.yield l) #[] #[] ∧ g 1 = .pointer (some ⟨b, 0, none⟩) ∧ g 3 = .int .i64 ((8 * k : Nat) : Int) ∧ J k z ∧ k ≤ (m + 7) / 8) (fun k => (m + 8) / 8 + 8 - k) 0 ⟨rfl, rfl, rfl, h0, Nat.zero_le _⟩ ?_
  rintro k g z ⟨g0, g1, g3, hJ, hk⟩
  rw [eq_upd g0, eq_upd g1, eq_upd g3]
  obtain ⟨hb, hs⟩ := hr k z hJ
  refine rn ?_
  refine s_lss rfl rfl (fun hlt => ?_) (fun hge => ?_)
  case refine_2 =>
    refine rn ?_
    refine end0 rfl ⟨⟨_, rfl⟩, ?_⟩
    rw [gnat_len, hm]
    have : k = (m + 7) / 8 := by omega
    rw [← this]
    exact hJ
  have hlt' : 8 * k < bs.length := by omega
  obtain ⟨ad, had, _⟩ := src_at (j := 8 * k) (u := .int .u8 bs[8 * k]) hs (by simp [hlt'])
  subst had
  refine rn ?_
  obtain ⟨e, he⟩ : ∃ e : Nat, e = min (8 * k + 8) m := ⟨_, rfl⟩
  refine s_min (r := (e : Int)) rfl rfl (by split <;> omega) ?_
  have he1 : 8 * k + 1 ≤ e := by omega
  have he2 : e ≤ 8 * k + 8 := by omega
  have he3 : e ≤ bs.length := by omega
  (refine rr ?_; refine wpList_nil ?_; refine q_then ?_; refine c_cut (fun g u => g 0 = .func (.yield l) #[] #[] ∧ g 1 = .pointer (some ⟨b, 0, none⟩) ∧ g 3 = .int .i64 ((8 * k : Nat) : Int) ∧ g 4 = .int .u64 (wN ((bs.drop (8 * k)).take (e - 8 * k)) : Nat) ∧ u = z) ?_ ?_)
  · refine rn ?_
    refine c_loop (σ := Nat) (fun q g u => g 0 = .func (.yield l) #[] #[] ∧ g 1 = .pointer (some ⟨b, 0, none⟩) ∧ g 3 = .int .i64 ((8 * k : Nat) : Int) ∧ g 4 = .int .u64 (wN ((bs.drop q).take (e - q)) : Nat) ∧ g 5 = .int .i64 ((q : Int) - 1) ∧ 8 * k ≤ q ∧ q ≤ e ∧ u = z) (fun q => q) e ⟨rfl, rfl, rfl, by rw [Nat.sub_self, List.take_zero]; rfl, rfl, by omega, Nat.le_refl _, rfl⟩ ?_
    rintro q g u ⟨g0, g1, g3, g4, g5, hq1, hq2, rfl⟩
    rw [eq_upd g0, eq_upd g1, eq_upd g3, eq_upd g4, eq_upd g5]
    refine rn ?_
    refine s_geq rfl rfl (fun hc => ?_) (fun hc => ?_)
    case refine_2 =>
      refine rn ?_
      have : q = 8 * k := by omega
      subst this
      exact q_cut ⟨rfl, rfl, rfl, rfl, rfl⟩
    obtain ⟨q, rfl⟩ : ∃ p, q = p + 1 := ⟨q - 1, by omega⟩
    have hqb : q < bs.length := by omega
    have hw7 : wN ((bs.drop (q + 1)).take (e - (q + 1))) < 72057594037927936 := by
      have h := wN_lt _ ((hB.drop (q + 1)).take (e - (q + 1)))
      have h2 : ((bs.drop (q + 1)).take (e - (q + 1))).length ≤ 7 := by simp; omega
      have h3 : 256 ^ ((bs.drop (q + 1)).take (e - (q + 1))).length ≤ 256 ^ 7 := Nat.pow_le_pow_right (by omega) h2
      have : (256 : Nat) ^ 7 = 72057594037927936 := by decide
      omega
    obtain ⟨y, hyv⟩ : ∃ y : Nat, bs[q] = (y : Int) := ⟨bs[q].toNat, by have := (hB _ (List.getElem_mem hqb)).1; omega⟩
    have hy256 : y < 256 := by have := (hB _ (List.getElem_mem hqb)).2; omega
    have hcell := src_cell (j := q) (u := .int .u8 (y : Int)) hs (by simp [hqb, hyv])
    refine rn ?_
    refine s_shl rfl rfl (by omega) (shl8 hw7) ?_
    refine rn ?_
    refine s_indexAddr (j := q) rfl rfl (by omega) (by omega) rfl ?_
    rw [Nat.mul_one]
    refine s_load rfl hcell ?_
    refine rn ?_
    refine s_or rfl rfl (or8 hw7 hy256) ?_
    refine rn ?_
    refine q_round q ⟨rfl, rfl, rfl, ?_, by simp only [upd_same]; congr 1; omega, by omega, by omega, rfl⟩ (by omega)
    have hst := wN_step (bs := bs) (q := q) (m := e - (q + 1)) hqb
    rw [show e - (q + 1) + 1 = e - q by omega] at hst
    rw [hst, hyv, Int.toNat_natCast, show y + 256 * wN ((bs.drop (q + 1)).take (e - (q + 1))) = wN ((bs.drop (q + 1)).take (e - (q + 1))) * 256 + y by omega]
    rfl
  · rintro g u ⟨g0, g1, g3, g4, rfl⟩
    rw [eq_upd g0, eq_upd g1, eq_upd g3, eq_upd g4]
    have hwe : wN ((bs.drop (8 * k)).take (e - 8 * k)) = wN ((bs.drop (8 * k)).take 8) := by
      by_cases h8 : e = 8 * k + 8
      · rw [h8]; congr 2; omega
      · have hl : (bs.drop (8 * k)).length = e - 8 * k := by simp; omega
        rw [List.take_of_length_le (by omega), List.take_of_length_le (by omega)]
    rw [hwe]
    have hget : ((gnat bs).map fun x => Value.int .u64 (x : Nat))[k]? = some (.int .u64 (wN ((bs.drop (8 * k)).take 8) : Nat)) := by
      rw [List.getElem?_map, gnat_get hlt']; rfl
    repeat (first | with_reducible refine wp_seq ?_ | with_reducible refine wp_block ?_ | with_reducible refine wpList_nil ?_ | with_reducible refine wp_skip ?_ | with_reducible refine wp_exit ?_ | with_reducible refine wp_ret ?_ | with_reducible refine q_then ?_ | with_reducible refine q_then_exit ?_ | with_reducible refine q_then_ret ?_ | with_reducible refine q_blk ?_ | with_reducible refine q_blk_ret ?_ | with_reducible refine q_blk_eq ?_ | refine q_blk_ne rfl ?_ | refine c_true rfl ?_ | refine c_false rfl ?_)
    refine c_regionIn ?_
    refine in_step rfl ?_
    refine rn ?_
    refine q_then_k ?_
    refine in_step rfl ?_
    refine rn ?_
    refine q_then_k ?_
    refine in_yield rfl rfl (hy k _ _ hget hJ) ?_
    rintro _ w' ⟨rfl, hJ'⟩
    refine ⟨_, rfl, ?_⟩
    refine in_step rfl ?_
    refine rn ?_
    refine q_then_k ?_
    refine wpListIn_nil ?_
    refine rn ?_
    refine q_round (k + 1) ⟨rfl, rfl, by simp only [upd_same]; congr 1 <;> omega, hJ', by omega⟩ (by omega)
end Go.Proofs.Ytjhgodgppmgneaa
