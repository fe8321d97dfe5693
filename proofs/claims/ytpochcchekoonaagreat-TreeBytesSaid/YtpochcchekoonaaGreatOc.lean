/-
  The generator of trees: bind.
-/
import Derived.Test.YtpochcchekoonaaGreatOa
import Derived.Test.YtpochcchekoonaaGreatOb
import Derived.Test.YtpochcchekoonaaGreatK2
namespace Go.Proofs.YtpochcchekoonaaGreat
open Go.Rf Go.RowKit
set_option linter.unusedVariables false
set_option linter.unusedSimpArgs false
/-- a node of a generated tree; m: how often it was changed -/
structure NdG (m : Nat) (y : Nd) : Prop where
  ok : NdOk y
  few : y.vals = [] → y.kids.length ≤ 4 + m
  lw : y.ws.length ≤ 10 + m
  ll : y.labs.length ≤ 10 + m
  lv : y.vals.length ≤ 10 + m
  lk : y.kids.length ≤ 10 + m
  e : NdE y
def bdN (l : List V) (ks : List Int) : Nd := ⟨4, ⟨#[]⟩, 0, 0, [], [], l, ks, numV 0⟩
def lfN (v : V) : Nd := ⟨0, ⟨#[]⟩, 0, 0, [], [], [], [], v⟩
theorem bdN_g {i : Nat} {l : List V} {ks : List Int} (hi : i ≤ 100) (hl : l.length ≤ 6) (hv : ∀ v ∈ l, VNm v ∧ EV v ∧ vsz v ≤ 2000) (hk : ks.length = l.length + 1) (hks : ∀ q ∈ ks, 0 ≤ q ∧ q < i) : NdG 0 (bdN l ks) := by
  refine ⟨?_, fun h => ?_, by simp [bdN], by simp [bdN], by simp only [bdN]; omega, by simp only [bdN]; omega, ⟨Nat.zero_le _, by simp [bdN], fun v h => (hv v h).2, ⟨numV_ev (by simp [InI64]), by simp [bdN, numV, vsz, vszs]⟩⟩⟩
  · constructor <;> first | exact numV_ok _ | exact Nat.zero_le _ | exact (fun v h => ⟨(hv v h).1, by have := (hv v h).2.2; omega⟩) | (simp only [bdN]; omega) | (intro n hn; have := hks n hn; unfold InI64; omega) | simp [bdN, InI64]
  · simp only [bdN] at h ⊢
    subst h
    simp at hk; omega
theorem lfN_g {v : V} (hv : VNm v ∧ EV v ∧ vsz v ≤ 2000) : NdG 0 (lfN v) := by
  refine ⟨?_, fun h => by simp [lfN], by simp [lfN], by simp [lfN], by simp [lfN], by simp [lfN], ⟨Nat.zero_le _, by simp [lfN], by simp [lfN], hv.2⟩⟩
  constructor <;> first | exact ⟨hv.1, Nat.le_trans hv.2.2 (by decide)⟩ | exact Nat.zero_le _ | simp [lfN, InI64]
attribute [local irreducible] Code.wp wpList Exit.then Exit.inBlock bodyPost A Calls execOp Addr.add
set_option maxHeartbeats 8000000 in
theorem bindP (t : List Nd) (hz : validT t = 0) (hok : ∀ x ∈ t, NdOk x) (hoe : ∀ x ∈ t, NdE x) (i : Nat) (hti : t.length = i) (hi : 2 ≤ i ∧ i ≤ 14) (k : Int) (hk : 0 ≤ k ∧ k ≤ 1000000) (l : List Int) (hl : ∀ n ∈ l, InI64 n) (S : List Nat) (sn x : Value) (u : World) (hn : NS u S t sn) (hx : Src u x l.length (l.map (.int .i64))) (hSb : ∀ b ∈ S, b < u.heap.size) :
    Calls Tryz.prog 30 #[.agg #[sn], x, .int .i64 i, .int .i64 k] u fun e u' => ∃ y cs, e = .returned (.agg cs.toArray) ∧ NdR u' S y cs ∧ NdG 0 y ∧ Fr [] u u' := by
  obtain ⟨an, cn, rfl, _⟩ := hn.slice
  obtain ⟨ax, cx, rfl, _⟩ := id hx
  have hvt := VT.of hz
  refine enter Tryz.func30 rfl Tryz.ntmps30 rfl ?_
  refine rx ?_
  refine s_box (l := [.slice an t.length cn]) rfl rfl (fun u1 hb1 hf1 hs1 => ?_)
  refine s_alloc rfl (fun u2 hb2 hf2 hs2 => ?_)
  obtain ⟨rb, hrb⟩ : ∃ y, y = u1.heap.size := ⟨_, rfl⟩
  rw [← hrb] at hb2 ⊢
  have hF2 := hf1.trans0 hf2
  have hx2 := hx.tr0 hF2
  have hb12 := hb1.tr0 hf2
  refine rx ?_
  refine s_call (kidP _ l i 0 u2 hx2 hl (by omega) (by omega)) rfl ?_
  rintro _ _ ⟨r, rfl, hr, rfl⟩
  refine ⟨_, rfl, ?_⟩
  obtain ⟨q, rfl⟩ : ∃ q : Nat, r = (q : Int) := ⟨r.toNat, by omega⟩
  have hq : q < t.length := by omega
  refine rx ?_
  refine s_call (valuesS t q _ u2 (rb :: S) (fun b hb => ?o1) ((hn.mono (fun b hb => ?o2)).tr0 hF2) hok hq (by omega) (fun j hj _ => hvt.chk.chk.wf j hj hj)) rfl ?_
  case o1 =>
    rcases List.mem_cons.1 hb with rfl | h
    · omega
    · have := hSb b h; omega
  case o2 =>
    rcases List.mem_cons.1 hb with rfl | h
    · right; omega
    · exact .inl h
  rintro _ u3 ⟨sv, rfl, hvs, hf3⟩
  refine ⟨_, rfl, ?_⟩
  have hF3 := hF2.trans0 hf3
  have hb3 := hb2.tr0 hf3
  have hx3 := hx2.tr0 hf3
  have hso := setOk hvt hok q hq
  have hse := setEV hvt hoe q hq
  rw [sT_eq hq] at hso hse
  have hz1 := hvt.z1 hq
  generalize hO : setN (setsT (t.take q)) t[q] = o at hvs hso hse
  obtain ⟨av, cv, rfl, hcv⟩ := hvs.slice
  by_cases hc : o = none ∨ 6 < (o.getD []).length
  · rcases hc with rfl | h6
    case' inl => refine rx ?_
    case' inr =>
      obtain ⟨ol, rfl⟩ : ∃ ol, o = some ol := by
        cases o
        · simp at h6
        · exact ⟨_, rfl⟩
      simp only [Option.getD_some] at h6 hvs ⊢
      refine rx ?_
    all_goals
      refine s_call (leafP k u3 hk) rfl ?_
      rintro _ u4 ⟨v, sx, rfl, hvok, hvx, hf4⟩
      refine ⟨_, rfl, ?_⟩
      have hx4 := hvx (rb :: S) (fun b hb => by
        rcases List.mem_cons.1 hb with rfl | h
        · have := hb3.lt; omega
        · have := hSb b h; have := hF3.size; omega)
      obtain ⟨a4, c4, rfl, _⟩ := hx4.slice
      refine s_build (nc (lfN v) (.slice none 0 0) (.slice none 0 0) (.slice none 0 0) (.slice none 0 0) (.slice a4 v.kids.length c4)) rfl ?_
      refine s_storeAggB (cs := nc (lfN v) (.slice none 0 0) (.slice none 0 0) (.slice none 0 0) (.slice none 0 0) (.slice a4 v.kids.length c4)) rfl rfl (hb3.tr0 hf4) (by simp [nc, Value.oneCell']) rfl rfl (fun u5 hb5 hf5 hs5 => ?_)
      refine rx ?_
      refine retc rfl rfl (AggT.load _ (nc (lfN v) (.slice none 0 0) (.slice none 0 0) (.slice none 0 0) (.slice none 0 0) (.slice a4 v.kids.length c4)) rfl (fun j x hx => by rw [add_lit]; exact hb5.cell (by simpa using hx))) ⟨lfN v, _, rfl, ⟨_, _, _, _, _, rfl, Ls.nil, Ls.nil, VS.nil _ _, Ls.nil, ?_⟩, lfN_g hvok, (hF3.trans0 hf4).trans hf5 (by simp; omega)⟩
      exact hx4.turn (hf5.mono (by simp)) (fun b hb => .inl (by simp [hb]))
  · obtain ⟨ol, rfl⟩ : ∃ ol, o = some ol := by
      cases o
      · simp at hc
      · exact ⟨_, rfl⟩
    simp only [Option.getD_some, not_or] at hc hvs ⊢
    have h6 : ol.length ≤ 6 := by omega
    refine rx ?_
    ((with_reducible apply s_build1); (conv => lhs; whnf); exact rfl)
    intro u4 ho4 hf4 hs4
    refine s_build (nc (bdN ol []) (.slice none 0 0) (.slice none 0 0) (.slice av ol.length cv) (.slice (some ⟨u3.heap.size, 0, none⟩) 1 1) (.slice none 0 0)) rfl ?_
    refine s_alloc rfl (fun u5 hb5 hf5 hs5 => ?_)
    refine s_storeAggB (cs := nc (bdN ol []) (.slice none 0 0) (.slice none 0 0) (.slice av ol.length cv) (.slice (some ⟨u3.heap.size, 0, none⟩) 1 1) (.slice none 0 0)) rfl rfl hb5 (by simp [nc, Value.oneCell']) rfl rfl (fun u6 hb6 hf6 hs6 => ?_)
    obtain ⟨xb, hxb⟩ : ∃ y, y = u4.heap.size := ⟨_, rfl⟩
    rw [← hxb] at hb6 hf6 ⊢
    have hF36 : Fr [] u3 u6 := (hf4.trans0 hf5).trans hf6 (by simp; omega)
    have ho6 := (ho4.tr0 hf5).tr hf6 (by simp [blks, Value.ownBlock]; omega)
    have hx6 := hx3.tr0 hF36
    have hv6 := hvs.tr0 hF36
    have hb36 := hb3.tr0 hF36
    have hlt3 := hb3.lt
    refine rx ?_
    refine c_loopK 14 [13] (σ := Nat × List Int × Value) (fun s g z => g 13 = .int .i64 (s.1 : Nat) ∧ s.1 ≤ ol.length ∧ s.2.1.length = s.1 + 1 ∧ (∀ q ∈ s.2.1, 0 ≤ q ∧ q < i) ∧ Blk z xb (nc (bdN ol []) (.slice none 0 0) (.slice none 0 0) (.slice av ol.length cv) s.2.2 (.slice none 0 0)) 36 ∧ Own z 3 1 s.2.2 (s.1 + 1) (s.2.1.map (.int .i64)) ∧ (∀ b ∈ blks s.2.2, u3.heap.size ≤ b ∧ b ≠ xb) ∧ Fr [] u3 z) (fun s => ol.length - s.1) (0, [(q : Int)], .slice (some ⟨u3.heap.size, 0, none⟩) 1 1) ⟨rfl, Nat.zero_le _, rfl, by simp; omega, hb6, ho6, by simp [blks, Value.ownBlock]; omega, hF36⟩ ?_
    rintro ⟨j, ks, sk⟩ g z ⟨h13, hj, hkl, hks, hbz, hO2, hfr, hfz⟩
    simp only at h13 hj hkl hks hbz hO2 hfr
    rw [eq_upd h13]
    obtain ⟨ak, ck, rfl⟩ := hO2.slice
    by_cases hjl : j < ol.length
    case neg =>
      have hje : j = ol.length := by omega
      subst hje
      refine rx ?_
      refine s_storeAggB (cs := nc (bdN ol []) (.slice none 0 0) (.slice none 0 0) (.slice av ol.length cv) (.slice ak (ol.length + 1) ck) (.slice none 0 0)) rfl rfl (hb3.tr0 hfz) (by simp [nc, Value.oneCell']) rfl rfl (fun z1 hbz1 hfz1 hsz1 => ?_)
      refine rx ?_
      have hbz1' : Blk z1 rb (nc (bdN ol ks) (.slice none 0 0) (.slice none 0 0) (.slice av ol.length cv) (.slice ak (ol.length + 1) ck) (.slice none 0 0)) 36 := hbz1
      refine retc rfl rfl (AggT.load _ (nc (bdN ol ks) (.slice none 0 0) (.slice none 0 0) (.slice av ol.length cv) (.slice ak (ol.length + 1) ck) (.slice none 0 0)) rfl (fun j x hx => by rw [add_lit]; exact hbz1'.cell (by simpa using hx))) ⟨bdN ol ks, _, rfl, ⟨_, _, _, _, _, rfl, Ls.nil, Ls.nil, ?_, ?_, VS.nil _ _⟩, bdN_g (by omega) h6 (fun v hv => ?_) hkl hks, (hF3.trans0 hfz).trans hfz1 (by simp; omega)⟩
      · exact (hvs.tr0 hfz).turn (hfz1.mono (by simp)) (fun b hb => .inl (by simp [hb]))
      · refine isOff (hO2.tr hfz1 (fun b hb hm => ?_)) hkl.symm rfl (fun b hb hm => ?_)
        · simp at hm; subst hm; have := (hfr _ hb).1; omega
        · have := (hfr _ hb).1; have := hSb b hm; have := hF3.size; omega
      · have := hso ol rfl v hv
        exact ⟨this.1, hse ol rfl v hv, by have := this.2; omega⟩
    refine rx ?_
    (refine u_begin 10 (fun y => True ∧ Blk y xb (nc (bdN ol []) (.slice none 0 0) (.slice none 0 0) (.slice av ol.length cv) (.slice ak (j + 1) ck) (.slice none 0 0)) 36) (by kernel_rfl) rfl ?_)
    have hG0 : Fr [] z z.drew := Fr.drew _ _
    have hS0 : True ∧ Blk z.drew xb (nc (bdN ol []) (.slice none 0 0) (.slice none 0 0) (.slice av ol.length cv) (.slice ak (j + 1) ck) (.slice none 0 0)) 36 := ⟨trivial, hbz.tr0 hG0⟩
    ((refine u_tx 0 hS0 ?_); (refine u_tx 1 hS0 ?_); (refine u_tx 2 hS0 ?_); (refine u_tx 3 hS0 ?_); (refine u_tx 4 hS0 ?_); (refine u_tx 5 hS0 ?_))
    (refine u_one (i := 6) rfl (by kernel_rfl) ?_)
    refine s_call (kidP _ l i _ z.drew ((hx3.tr0 hfz).tr0 hG0) hl (by omega) (by omega)) rfl ?_
    rintro _ _ ⟨r, rfl, hr2, rfl⟩
    refine ⟨_, rfl, ?_⟩
    refine wpList_nil (q_uh hS0 ?_)
    (refine u_one (i := 7) rfl (by kernel_rfl) ?_)
    ((with_reducible apply s_build1); (conv => lhs; whnf); exact rfl)
    intro z1 hs1 hf1' hz1'
    have hG1 := hG0.trans0 hf1'
    refine wpList_nil (q_uh ⟨trivial, hbz.tr0 hG1⟩ ?_)
    (refine u_one (i := 8) rfl (by kernel_rfl) ?_)
    refine s_append (hO2.tr0 hG1) rfl hs1.src rfl rfl (by simp [Value.oneCell']) (by unfold maxLen; omega) (by omega) (fun v' z2 hO3 hf2' hk2 hn2 => ?_)
    have hbz2 := (hbz.tr0 hG1).tr hf2' (fun h => (hfr _ h).2 rfl)
    have ho3' := hO3.one
    refine wpList_nil (q_uh ⟨trivial, hbz2⟩ ?_)
    ((refine u_tx 9 (⟨trivial, hbz2⟩) ?_))
    (refine u_one (i := 10) rfl (by kernel_rfl) ?_)
    ((with_reducible apply s_storeB); exact rfl; (conv => lhs; whnf); exact ho3'; exact hbz2; exact rfl)
    intro z3 hb3z hf3z hs3z
    have hbz3 : Blk z3 xb (nc (bdN ol []) (.slice none 0 0) (.slice none 0 0) (.slice av ol.length cv) v' (.slice none 0 0)) 36 := hb3z
    have hfr' : ∀ b ∈ blks v', u3.heap.size ≤ b ∧ b ≠ xb := fun b hb => by
      rcases hk2 b hb with h | h
      · exact hfr b h
      · have := hfz.size; have := hbz.lt; have := hG1.size; omega
    have hO4 := hO3.tr hf3z (fun b hb => by simp; exact (hfr' b hb).2)
    refine wpList_nil (q_ue ?_)
    (refine u_done (by kernel_rfl) ?_)
    refine rx ?_
    refine q_roundK (j + 1, ks ++ [r], v') (by (repeat (first | exact Keep.mrg _ _ _ _ | (refine Keep.hi rfl ?_) | (refine Keep.one rfl ?_) | exact Keep.all rfl | (refine Keep.inn rfl ?_) | (refine Keep.set rfl ?_)))) ⟨rfl, by simp only; omega, by simp [hkl], fun q hq => ?_, hbz3, by simpa using hO4, hfr', ((hfz.trans0 hG1).trans hf2' (fun b hb => .inr (hfr b hb).1)).trans hf3z (by simp; omega)⟩ (by simp only; omega)
    rcases List.mem_append.1 hq with h | h
    · exact hks q h
    · simp at h; subst h; exact hr2
end Go.Proofs.YtpochcchekoonaaGreat
