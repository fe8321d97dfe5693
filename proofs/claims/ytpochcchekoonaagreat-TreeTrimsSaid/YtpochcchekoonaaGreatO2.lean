/-
  The generator of trees: bind. The generator of trees: Tree.
-/
import Derived.Test.YtpochcchekoonaaGreatO1
import Derived.Test.YtpochcchekoonaaGreatK2
namespace Go.Proofs.YtpochcchekoonaaGreat
open Go.Rf Go.RowKit
set_option linter.unusedVariables false
set_option linter.unusedSimpArgs false
/-- a node of a generated tree; m: how often it was changed -/
structure NdG (m : Nat) (y : Nd) : Prop where
  ok : NdOk y
  few : y.vals = [] → y.kids.length ≤ 4 + m
  lw : y.ws.length ≤ 10 + m
  ll : y.labs.length ≤ 10 + m
  lv : y.vals.length ≤ 10 + m
  lk : y.kids.length ≤ 10 + m
  e : NdE y
def bdN (l : List V) (ks : List Int) : Nd := ⟨4, ⟨#[]⟩, 0, 0, [], [], l, ks, numV 0⟩
def lfN (v : V) : Nd := ⟨0, ⟨#[]⟩, 0, 0, [], [], [], [], v⟩
theorem bdN_g {i : Nat} {l : List V} {ks : List Int} (hi : i ≤ 100) (hl : l.length ≤ 6) (hv : ∀ v ∈ l, VNm v ∧ EV v ∧ vsz v ≤ 2000) (hk : ks.length = l.length + 1) (hks : ∀ q ∈ ks, 0 ≤ q ∧ q < i) : NdG 0 (bdN l ks) := by
  refine ⟨?_, fun h => ?_, by simp [bdN], by simp [bdN], by simp only [bdN]; omega, by simp only [bdN]; omega, ⟨Nat.zero_le _, by simp [bdN], fun v h => (hv v h).2, ⟨numV_ev (by simp [InI64]), by simp [bdN, numV, vsz, vszs]⟩⟩⟩
  · constructor <;> first | exact numV_ok _ | exact Nat.zero_le _ | exact (fun v h => ⟨(hv v h).1, by have := (hv v h).2.2; omega⟩) | (simp only [bdN]; omega) | (intro n hn; have := hks n hn; unfold InI64; omega) | simp [bdN, InI64]
  · simp only [bdN] at h ⊢
    subst h
    simp at hk; omega
theorem lfN_g {v : V} (hv : VNm v ∧ EV v ∧ vsz v ≤ 2000) : NdG 0 (lfN v) := by
  refine ⟨?_, fun h => by simp [lfN], by simp [lfN], by simp [lfN], by simp [lfN], by simp [lfN], ⟨Nat.zero_le _, by simp [lfN], by simp [lfN], hv.2⟩⟩
  constructor <;> first | exact ⟨hv.1, Nat.le_trans hv.2.2 (by decide)⟩ | exact Nat.zero_le _ | simp [lfN, InI64]
attribute [local irreducible] Code.wp wpList Exit.then Exit.inBlock bodyPost A Calls execOp Addr.add
set_option maxHeartbeats 8000000 in
theorem bindP (t : List Nd) (hz : validT t = 0) (hok : ∀ x ∈ t, NdOk x) (hoe : ∀ x ∈ t, NdE x) (i : Nat) (hti : t.length = i) (hi : 2 ≤ i ∧ i ≤ 14) (k : Int) (hk : 0 ≤ k ∧ k ≤ 1000000) (l : List Int) (hl : ∀ n ∈ l, InI64 n) (S : List Nat) (sn x : Value) (u : World) (hn : NS u S t sn) (hx : Src u x l.length (l.map (.int .i64))) (hSb : ∀ b ∈ S, b < u.heap.size) :
    Calls Tryz.prog 30 #[.agg #[sn], x, .int .i64 i, .int .i64 k] u fun e u' => ∃ y cs, e = .returned (.agg cs.toArray) ∧ NdR u' S y cs ∧ NdG 0 y ∧ Fr [] u u' := by
  obtain ⟨an, cn, rfl, _⟩ := hn.slice
  obtain ⟨ax, cx, rfl, _⟩ := id hx
  have hvt := VT.of hz
  refine enter Tryz.func30 rfl Tryz.ntmps30 rfl ?_
  refine rx ?_
  refine s_box (l := [.slice an t.length cn]) rfl rfl (fun u1 hb1 hf1 hs1 => ?_)
  refine s_alloc rfl (fun u2 hb2 hf2 hs2 => ?_)
  obtain ⟨rb, hrb⟩ : ∃ y, y = u1.heap.size := ⟨_, rfl⟩
  rw [← hrb] at hb2 ⊢
  have hF2 := hf1.trans0 hf2
  have hx2 := hx.tr0 hF2
  have hb12 := hb1.tr0 hf2
  refine rx ?_
  refine s_call (kidP _ l i 0 u2 hx2 hl (by omega) (by omega)) rfl ?_
  rintro _ _ ⟨r, rfl, hr, rfl⟩
  refine ⟨_, rfl, ?_⟩
  obtain ⟨q, rfl⟩ : ∃ q : Nat, r = (q : Int) := ⟨r.toNat, by omega⟩
  have hq : q < t.length := by omega
  refine rx ?_
  refine s_call (valuesS t q _ u2 (rb :: S) (fun b hb => ?o1) ((hn.mono (fun b hb => ?o2)).tr0 hF2) hok hq (by omega) (fun j hj _ => hvt.chk.chk.wf j hj hj)) rfl ?_
  case o1 =>
    rcases List.mem_cons.1 hb with rfl | h
    · omega
    · have := hSb b h; omega
  case o2 =>
    rcases List.mem_cons.1 hb with rfl | h
    · right; omega
    · exact .inl h
  rintro _ u3 ⟨sv, rfl, hvs, hf3⟩
  refine ⟨_, rfl, ?_⟩
  have hF3 := hF2.trans0 hf3
  have hb3 := hb2.tr0 hf3
  have hx3 := hx2.tr0 hf3
  have hso := setOk hvt hok q hq
  have hse := setEV hvt hoe q hq
  rw [sT_eq hq] at hso hse
  have hz1 := hvt.z1 hq
  generalize hO : setN (setsT (t.take q)) t[q] = o at hvs hso hse
  obtain ⟨av, cv, rfl, hcv⟩ := hvs.slice
  by_cases hc : o = none ∨ 6 < (o.getD []).length
  · rcases hc with rfl | h6
    case' inl => refine rx ?_
    case' inr =>
      obtain ⟨ol, rfl⟩ : ∃ ol, o = some ol := by
        cases o
        · simp at h6
        · exact ⟨_, rfl⟩
      simp only [Option.getD_some] at h6 hvs ⊢
      refine rx ?_
    all_goals
      refine s_call (leafP k u3 hk) rfl ?_
      rintro _ u4 ⟨v, sx, rfl, hvok, hvx, hf4⟩
      refine ⟨_, rfl, ?_⟩
      have hx4 := hvx (rb :: S) (fun b hb => by
        rcases List.mem_cons.1 hb with rfl | h
        · have := hb3.lt; omega
        · have := hSb b h; have := hF3.size; omega)
      obtain ⟨a4, c4, rfl, _⟩ := hx4.slice
      refine s_build (nc (lfN v) (.slice none 0 0) (.slice none 0 0) (.slice none 0 0) (.slice none 0 0) (.slice a4 v.kids.length c4)) rfl ?_
      refine s_storeAggB (cs := nc (lfN v) (.slice none 0 0) (.slice none 0 0) (.slice none 0 0) (.slice none 0 0) (.slice a4 v.kids.length c4)) rfl rfl (hb3.tr0 hf4) (by simp [nc, Value.oneCell']) rfl rfl (fun u5 hb5 hf5 hs5 => ?_)
      refine rx ?_
      refine retc rfl rfl (AggT.load _ (nc (lfN v) (.slice none 0 0) (.slice none 0 0) (.slice none 0 0) (.slice none 0 0) (.slice a4 v.kids.length c4)) rfl (fun j x hx => by rw [add_lit]; exact hb5.cell (by simpa using hx))) ⟨lfN v, _, rfl, ⟨_, _, _, _, _, rfl, Ls.nil, Ls.nil, VS.nil _ _, Ls.nil, ?_⟩, lfN_g hvok, (hF3.trans0 hf4).trans hf5 (by simp; omega)⟩
      exact hx4.turn (hf5.mono (by simp)) (fun b hb => .inl (by simp [hb]))
  · obtain ⟨ol, rfl⟩ : ∃ ol, o = some ol := by
      cases o
      · simp at hc
      · exact ⟨_, rfl⟩
    simp only [Option.getD_some, not_or] at hc hvs ⊢
    have h6 : ol.length ≤ 6 := by omega
    refine rx ?_
    ((with_reducible apply s_build1); (conv => lhs; whnf); exact rfl)
    intro u4 ho4 hf4 hs4
    refine s_build (nc (bdN ol []) (.slice none 0 0) (.slice none 0 0) (.slice av ol.length cv) (.slice (some ⟨u3.heap.size, 0, none⟩) 1 1) (.slice none 0 0)) rfl ?_
    refine s_alloc rfl (fun u5 hb5 hf5 hs5 => ?_)
    refine s_storeAggB (cs := nc (bdN ol []) (.slice none 0 0) (.slice none 0 0) (.slice av ol.length cv) (.slice (some ⟨u3.heap.size, 0, none⟩) 1 1) (.slice none 0 0)) rfl rfl hb5 (by simp [nc, Value.oneCell']) rfl rfl (fun u6 hb6 hf6 hs6 => ?_)
    obtain ⟨xb, hxb⟩ : ∃ y, y = u4.heap.size := ⟨_, rfl⟩
    rw [← hxb] at hb6 hf6 ⊢
    have hF36 : Fr [] u3 u6 := (hf4.trans0 hf5).trans hf6 (by simp; omega)
    have ho6 := (ho4.tr0 hf5).tr hf6 (by simp [blks, Value.ownBlock]; omega)
    have hx6 := hx3.tr0 hF36
    have hv6 := hvs.tr0 hF36
    have hb36 := hb3.tr0 hF36
    have hlt3 := hb3.lt
    refine rx ?_
    refine c_loopK 14 [13] (σ := Nat × List Int × Value) (fun s g z => g 13 = .int .i64 (s.1 : Nat) ∧ s.1 ≤ ol.length ∧ s.2.1.length = s.1 + 1 ∧ (∀ q ∈ s.2.1, 0 ≤ q ∧ q < i) ∧ Blk z xb (nc (bdN ol []) (.slice none 0 0) (.slice none 0 0) (.slice av ol.length cv) s.2.2 (.slice none 0 0)) 36 ∧ Own z 3 1 s.2.2 (s.1 + 1) (s.2.1.map (.int .i64)) ∧ (∀ b ∈ blks s.2.2, u3.heap.size ≤ b ∧ b ≠ xb) ∧ Fr [] u3 z) (fun s => ol.length - s.1) (0, [(q : Int)], .slice (some ⟨u3.heap.size, 0, none⟩) 1 1) ⟨rfl, Nat.zero_le _, rfl, by simp; omega, hb6, ho6, by simp [blks, Value.ownBlock]; omega, hF36⟩ ?_
    rintro ⟨j, ks, sk⟩ g z ⟨h13, hj, hkl, hks, hbz, hO2, hfr, hfz⟩
    simp only at h13 hj hkl hks hbz hO2 hfr
    rw [eq_upd h13]
    obtain ⟨ak, ck, rfl⟩ := hO2.slice
    by_cases hjl : j < ol.length
    case neg =>
      have hje : j = ol.length := by omega
      subst hje
      refine rx ?_
      refine s_storeAggB (cs := nc (bdN ol []) (.slice none 0 0) (.slice none 0 0) (.slice av ol.length cv) (.slice ak (ol.length + 1) ck) (.slice none 0 0)) rfl rfl (hb3.tr0 hfz) (by simp [nc, Value.oneCell']) rfl rfl (fun z1 hbz1 hfz1 hsz1 => ?_)
      refine rx ?_
      have hbz1' : Blk z1 rb (nc (bdN ol ks) (.slice none 0 0) (.slice none 0 0) (.slice av ol.length cv) (.slice ak (ol.length + 1) ck) (.slice none 0 0)) 36 := hbz1
      refine retc rfl rfl (AggT.load _ (nc (bdN ol ks) (.slice none 0 0) (.slice none 0 0) (.slice av ol.length cv) (.slice ak (ol.length + 1) ck) (.slice none 0 0)) rfl (fun j x hx => by rw [add_lit]; exact hbz1'.cell (by simpa using hx))) ⟨bdN ol ks, _, rfl, ⟨_, _, _, _, _, rfl, Ls.nil, Ls.nil, ?_, ?_, VS.nil _ _⟩, bdN_g (by omega) h6 (fun v hv => ?_) hkl hks, (hF3.trans0 hfz).trans hfz1 (by simp; omega)⟩
      · exact (hvs.tr0 hfz).turn (hfz1.mono (by simp)) (fun b hb => .inl (by simp [hb]))
      · refine isOff (hO2.tr hfz1 (fun b hb hm => ?_)) hkl.symm rfl (fun b hb hm => ?_)
        · simp at hm; subst hm; have := (hfr _ hb).1; omega
        · have := (hfr _ hb).1; have := hSb b hm; have := hF3.size; omega
      · have := hso ol rfl v hv
        exact ⟨this.1, hse ol rfl v hv, by have := this.2; omega⟩
    refine rx ?_
    (refine u_begin 10 (fun y => True ∧ Blk y xb (nc (bdN ol []) (.slice none 0 0) (.slice none 0 0) (.slice av ol.length cv) (.slice ak (j + 1) ck) (.slice none 0 0)) 36) (by kernel_rfl) rfl ?_)
    have hG0 : Fr [] z z.drew := Fr.drew _ _
    have hS0 : True ∧ Blk z.drew xb (nc (bdN ol []) (.slice none 0 0) (.slice none 0 0) (.slice av ol.length cv) (.slice ak (j + 1) ck) (.slice none 0 0)) 36 := ⟨trivial, hbz.tr0 hG0⟩
    ((refine u_tx 0 hS0 ?_); (refine u_tx 1 hS0 ?_); (refine u_tx 2 hS0 ?_); (refine u_tx 3 hS0 ?_); (refine u_tx 4 hS0 ?_); (refine u_tx 5 hS0 ?_))
    (refine u_one (i := 6) rfl (by kernel_rfl) ?_)
    refine s_call (kidP _ l i _ z.drew ((hx3.tr0 hfz).tr0 hG0) hl (by omega) (by omega)) rfl ?_
    rintro _ _ ⟨r, rfl, hr2, rfl⟩
    refine ⟨_, rfl, ?_⟩
    refine wpList_nil (q_uh hS0 ?_)
    (refine u_one (i := 7) rfl (by kernel_rfl) ?_)
    ((with_reducible apply s_build1); (conv => lhs; whnf); exact rfl)
    intro z1 hs1 hf1' hz1'
    have hG1 := hG0.trans0 hf1'
    refine wpList_nil (q_uh ⟨trivial, hbz.tr0 hG1⟩ ?_)
    (refine u_one (i := 8) rfl (by kernel_rfl) ?_)
    refine s_append (hO2.tr0 hG1) rfl hs1.src rfl rfl (by simp [Value.oneCell']) (by unfold maxLen; omega) (by omega) (fun v' z2 hO3 hf2' hk2 hn2 => ?_)
    have hbz2 := (hbz.tr0 hG1).tr hf2' (fun h => (hfr _ h).2 rfl)
    have ho3' := hO3.one
    refine wpList_nil (q_uh ⟨trivial, hbz2⟩ ?_)
    ((refine u_tx 9 (⟨trivial, hbz2⟩) ?_))
    (refine u_one (i := 10) rfl (by kernel_rfl) ?_)
    ((with_reducible apply s_storeB); exact rfl; (conv => lhs; whnf); exact ho3'; exact hbz2; exact rfl)
    intro z3 hb3z hf3z hs3z
    have hbz3 : Blk z3 xb (nc (bdN ol []) (.slice none 0 0) (.slice none 0 0) (.slice av ol.length cv) v' (.slice none 0 0)) 36 := hb3z
    have hfr' : ∀ b ∈ blks v', u3.heap.size ≤ b ∧ b ≠ xb := fun b hb => by
      rcases hk2 b hb with h | h
      · exact hfr b h
      · have := hfz.size; have := hbz.lt; have := hG1.size; omega
    have hO4 := hO3.tr hf3z (fun b hb => by simp; exact (hfr' b hb).2)
    refine wpList_nil (q_ue ?_)
    (refine u_done (by kernel_rfl) ?_)
    refine rx ?_
    refine q_roundK (j + 1, ks ++ [r], v') (by (repeat (first | exact Keep.mrg _ _ _ _ | (refine Keep.hi rfl ?_) | (refine Keep.one rfl ?_) | exact Keep.all rfl | (refine Keep.inn rfl ?_) | (refine Keep.set rfl ?_)))) ⟨rfl, by simp only; omega, by simp [hkl], fun q hq => ?_, hbz3, by simpa using hO4, hfr', ((hfz.trans0 hG1).trans hf2' (fun b hb => .inr (hfr b hb).1)).trans hf3z (by simp; omega)⟩ (by simp only; omega)
    rcases List.mem_append.1 hq with h | h
    · exact hks q h
    · simp at h; subst h; exact hr2
end Go.Proofs.YtpochcchekoonaaGreat
namespace Go.Proofs.YtpochcchekoonaaGreat
open Go.Rf Go.RowKit
set_option linter.unusedVariables false
set_option linter.unusedSimpArgs false
theorem all_snoc {α : Type} {p : α → Prop} {l : List α} {a : α} (h : ∀ x ∈ l, p x) (ha : p a) : ∀ x ∈ l ++ [a], p x := fun x hx => by
  rcases List.mem_append.1 hx with h' | h'
  · exact h x h'
  · simp at h'; subst h'; exact ha
def kN (kk : Int) : Nd := ⟨kk, ⟨#[]⟩, 0, 0, [], [], [], [], numV 0⟩
/-- the slots of the generator's round -/
def TrG (x : Value) (rb tb xb : Nat) (n i k : Int) (g : Env) : Prop :=
  g 0 = x ∧ g 2 = .pointer (some ⟨rb, 0, none⟩) ∧ g 3 = .pointer (some ⟨tb, 0, none⟩) ∧ g 4 = .int .i64 n ∧ g 5 = .int .i64 i ∧ g 6 = .int .i64 k ∧ g 7 = .pointer (some ⟨xb, 0, none⟩)
theorem TrG.env {x : Value} {rb tb xb : Nat} {n i k : Int} {g : Env} (h : TrG x rb tb xb n i k g) : g = upd (upd (upd (upd (upd (upd (upd g 0 x) 2 (.pointer (some ⟨rb, 0, none⟩))) 3 (.pointer (some ⟨tb, 0, none⟩))) 4 (.int .i64 n)) 5 (.int .i64 i)) 6 (.int .i64 k)) 7 (.pointer (some ⟨xb, 0, none⟩)) := by
  obtain ⟨h0, h2, h3, h4, h5, h6, h7⟩ := h
  rw [← eq_upd h0, ← eq_upd h2, ← eq_upd h3, ← eq_upd h4, ← eq_upd h5, ← eq_upd h6, ← eq_upd h7]
theorem kN_g {kk lo hi : Int} {nm : ByteArray} {ws : List Int} {labs : List ByteArray} {ks : List Int} (hk : 0 ≤ kk ∧ kk ≤ 4) (hlo : InI64 lo) (hhi : InI64 hi) (hnm : nm.size ≤ 100) (hw : ∀ q ∈ ws, 0 ≤ q ∧ q < 100) (hwl : ws.length ≤ 4) (hll : labs.length ≤ 4) (hks : ∀ q ∈ ks, 0 ≤ q ∧ q < 100) (hkl : ks.length ≤ 4) (hls : ∀ s ∈ labs, s.size ≤ 1000) : NdG 0 ⟨kk, nm, lo, hi, ws, labs, [], ks, numV 0⟩ := by
  refine ⟨?_, fun h => hkl, by simp only; omega, by simp only; omega, by simp, by simp only; omega, ⟨by simp only; omega, hls, by simp, ⟨numV_ev (by simp [InI64]), by simp [numV, vsz, vszs]⟩⟩⟩
  constructor <;> first | exact numV_ok _ | exact hlo | exact hhi | (simp only; omega) | (intro n hn; have := hks n hn; unfold InI64; omega) | (intro n hn; have := hw n hn; unfold InI64; omega) | (simp [InI64]; omega) | simp [InI64]
theorem lsOff {α : Type} {c : α → Value} {w : World} {e n : Nat} {v : Value} {l : List α} {cs : List Value} {S : List Nat} (h : Own w e 1 v n cs) (hn : n = l.length) (hc : cs = l.map c) (hS : ∀ b ∈ blks v, b ∉ S) : Ls c w S l v := by
  subst hn hc
  refine ⟨h.src, fun ad n c e hp hm => ?_⟩
  refine hS ad.block ?_ hm
  rcases h.2 with ⟨hv, h0⟩ | ⟨g, cap, cur, hv, _⟩
  · rw [hv] at e; cases e
  · subst hv
    simp only [Value.slice.injEq, Option.some.injEq] at e
    rw [← e.1]; simp [blks, Value.ownBlock]
/-- a node under construction: it owns its weights, labels, kids -/
structure CN (N : Nat) (z : World) (xb : Nat) (y : Nd) (ws : List Int) (labs : List ByteArray) (ks : List Int) (sw sl sk : Value) : Prop where
  blk : Blk z xb (nc y sw sl (.slice none 0 0) sk (.slice none 0 0)) 36
  ow : Own z 3 1 sw ws.length (ws.map (.int .i64))
  ol : Own z 9 1 sl labs.length (labs.map .string)
  ok : Own z 3 1 sk ks.length (ks.map (.int .i64))
  wl : ∀ b ∈ blks sw, b ∉ blks sl
  wk : ∀ b ∈ blks sw, b ∉ blks sk
  lk : ∀ b ∈ blks sl, b ∉ blks sk
  nw : ∀ b ∈ blks sw, N ≤ b
  nl : ∀ b ∈ blks sl, N ≤ b
  nk : ∀ b ∈ blks sk, N ≤ b
section
variable {N xb : Nat} {z z1 z2 z3 : World} {y : Nd} {ws : List Int} {labs : List ByteArray} {ks : List Int} {sw sl sk v' : Value}
theorem CN.setW {a : Int} (h : CN N z xb y ws labs ks sw sl sk) (hN : xb < N) (hNz : N ≤ z.heap.size) (hG : Fr [] z z1) (hO : Own z2 3 1 v' (ws.length + 1) (ws.map (.int .i64) ++ [.int .i64 a])) (hf2 : Fr (blks sw) z1 z2) (hk2 : ∀ b ∈ blks v', b ∈ blks sw ∨ z1.heap.size ≤ b) (hb3 : Blk z3 xb (nc y v' sl (.slice none 0 0) sk (.slice none 0 0)) 36) (hf3 : Fr [xb] z2 z3) : CN N z3 xb y (ws ++ [a]) labs ks v' sl sk := by
  have hz1 := hG.size
  have hll := h.ol.lt
  have hlk := h.ok.lt
  have hn : ∀ b ∈ blks v', N ≤ b := fun b hb => by
    rcases hk2 b hb with h' | h'
    · exact h.nw b h'
    · omega
  refine ⟨hb3, ?_, ?_, ?_, fun b hb hm => ?_, fun b hb hm => ?_, h.lk, hn, h.nl, h.nk⟩
  · have := hO.tr hf3 (fun b hb hm => by simp at hm; subst hm; have := hn _ hb; omega)
    simpa using this
  · exact ((h.ol.tr0 hG).tr hf2 (fun b hb hm => h.wl b hm hb)).tr hf3 (fun b hb hm => by simp at hm; subst hm; have := h.nl _ hb; omega)
  · exact ((h.ok.tr0 hG).tr hf2 (fun b hb hm => h.wk b hm hb)).tr hf3 (fun b hb hm => by simp at hm; subst hm; have := h.nk _ hb; omega)
  · rcases hk2 b hb with h' | h'
    · exact h.wl b h' hm
    · have := hll b hm; omega
  · rcases hk2 b hb with h' | h'
    · exact h.wk b h' hm
    · have := hlk b hm; omega
theorem CN.setL {a : ByteArray} (h : CN N z xb y ws labs ks sw sl sk) (hN : xb < N) (hNz : N ≤ z.heap.size) (hG : Fr [] z z1) (hO : Own z2 9 1 v' (labs.length + 1) (labs.map .string ++ [.string a])) (hf2 : Fr (blks sl) z1 z2) (hk2 : ∀ b ∈ blks v', b ∈ blks sl ∨ z1.heap.size ≤ b) (hb3 : Blk z3 xb (nc y sw v' (.slice none 0 0) sk (.slice none 0 0)) 36) (hf3 : Fr [xb] z2 z3) : CN N z3 xb y ws (labs ++ [a]) ks sw v' sk := by
  have hz1 := hG.size
  have hlw := h.ow.lt
  have hlk := h.ok.lt
  have hn : ∀ b ∈ blks v', N ≤ b := fun b hb => by
    rcases hk2 b hb with h' | h'
    · exact h.nl b h'
    · omega
  refine ⟨hb3, ?_, ?_, ?_, fun b hb hm => ?_, h.wk, fun b hb hm => ?_, h.nw, hn, h.nk⟩
  · exact ((h.ow.tr0 hG).tr hf2 (fun b hb hm => h.wl b hb hm)).tr hf3 (fun b hb hm => by simp at hm; subst hm; have := h.nw _ hb; omega)
  · have := hO.tr hf3 (fun b hb hm => by simp at hm; subst hm; have := hn _ hb; omega)
    simpa using this
  · exact ((h.ok.tr0 hG).tr hf2 (fun b hb hm => h.lk b hm hb)).tr hf3 (fun b hb hm => by simp at hm; subst hm; have := h.nk _ hb; omega)
  · rcases hk2 b hm with h' | h'
    · exact h.wl b hb h'
    · have := hlw b hb; omega
  · rcases hk2 b hb with h' | h'
    · exact h.lk b h' hm
    · have := hlk b hm; omega
theorem CN.setK {a : Int} (h : CN N z xb y ws labs ks sw sl sk) (hN : xb < N) (hNz : N ≤ z.heap.size) (hG : Fr [] z z1) (hO : Own z2 3 1 v' (ks.length + 1) (ks.map (.int .i64) ++ [.int .i64 a])) (hf2 : Fr (blks sk) z1 z2) (hk2 : ∀ b ∈ blks v', b ∈ blks sk ∨ z1.heap.size ≤ b) (hb3 : Blk z3 xb (nc y sw sl (.slice none 0 0) v' (.slice none 0 0)) 36) (hf3 : Fr [xb] z2 z3) : CN N z3 xb y ws labs (ks ++ [a]) sw sl v' := by
  have hz1 := hG.size
  have hlw := h.ow.lt
  have hll := h.ol.lt
  have hn : ∀ b ∈ blks v', N ≤ b := fun b hb => by
    rcases hk2 b hb with h' | h'
    · exact h.nk b h'
    · omega
  refine ⟨hb3, ?_, ?_, ?_, h.wl, fun b hb hm => ?_, fun b hb hm => ?_, h.nw, h.nl, hn⟩
  · exact ((h.ow.tr0 hG).tr hf2 (fun b hb hm => h.wk b hb hm)).tr hf3 (fun b hb hm => by simp at hm; subst hm; have := h.nw _ hb; omega)
  · exact ((h.ol.tr0 hG).tr hf2 (fun b hb hm => h.lk b hb hm)).tr hf3 (fun b hb hm => by simp at hm; subst hm; have := h.nl _ hb; omega)
  · have := hO.tr hf3 (fun b hb hm => by simp at hm; subst hm; have := hn _ hb; omega)
    simpa using this
  · rcases hk2 b hm with h' | h'
    · exact h.wk b hb h'
    · have := hlw b hb; omega
  · rcases hk2 b hm with h' | h'
    · exact h.lk b hb h'
    · have := hll b hb; omega
theorem CN.row {S : List Nat} {kk lo hi : Int} {nm : ByteArray} {ws0 : List Int} {labs0 : List ByteArray} {ks0 : List Int} (h : CN N z xb ⟨kk, nm, lo, hi, ws0, labs0, [], ks0, numV 0⟩ ws labs ks sw sl sk) (hS : ∀ b ∈ S, b < N) : NdR z S ⟨kk, nm, lo, hi, ws, labs, [], ks, numV 0⟩ (nc ⟨kk, nm, lo, hi, ws0, labs0, [], ks0, numV 0⟩ sw sl (.slice none 0 0) sk (.slice none 0 0)) :=
  ⟨_, _, _, _, _, rfl, lsOff h.ow rfl rfl (fun b hb hm => by have := h.nw b hb; have := hS b hm; omega), lsOff h.ol rfl rfl (fun b hb hm => by have := h.nl b hb; have := hS b hm; omega), VS.nil _ _, lsOff h.ok rfl rfl (fun b hb hm => by have := h.nk b hb; have := hS b hm; omega), VS.nil _ _⟩
end
theorem valGo_app : ∀ (q p r : List Nd), valGo p q = 0 → valGo p (q ++ r) = valGo (p ++ q) r
  | [], p, r, _ => by simp
  | x :: q, p, r, h => by
    rw [valGo] at h
    rw [List.cons_append, valGo]
    split at h
    · exact absurd h (by assumption)
    · rename_i h1
      rw [if_neg h1, valGo_app q _ r h]; simp
theorem step_n (p : List Nd) (n : Int) : stepE p (lfN (numV n)) = 0 := by
  have h1 : nodeE p.length (lfN (numV n)) = 0 := by
    have : formN (p.length : Int) (lfN (numV n)) = true := by unfold formN; rfl
    unfold nodeE
    rw [this]
    rfl
  unfold stepE
  rw [h1]
  have h2 : lenN (lensT p) (lfN (numV n)) = 0 := rfl
  have h3 : sizN (sizsT p) (lfN (numV n)) = 1 := rfl
  rw [h2, h3]
  rfl
theorem valid_n {t : List Nd} (h : validT t = 0) (hl : t.length < 4096) (n : Int) : validT (t ++ [lfN (numV n)]) = 0 := by
  unfold validT at h ⊢
  rw [if_neg (by omega)] at h
  rw [if_neg (by simp; omega), valGo_app _ _ _ h, valGo, step_n, if_neg (by simp), valGo]
attribute [local irreducible] Code.wp wpList Exit.then Exit.inBlock bodyPost A Calls execOp Addr.add
set_option maxHeartbeats 32000000 in
theorem treeP (l : List Int) (hl : ∀ n ∈ l, InI64 n) (x : Value) (u : World) (hx : Src u x l.length (l.map (.int .i64))) :
    Calls Tryz.prog 5 #[x] u fun e u' => ∃ t sn, e = .returned (.agg #[sn]) ∧ NS u' [] t sn ∧ validT t = 0 ∧ (∀ y ∈ t, NdG 0 y) ∧ t.length ≤ 14 ∧ Fr [] u u' := by
  obtain ⟨ax, cx, rfl, _⟩ := id hx
  refine enter Tryz.func5 rfl Tryz.ntmps5 rfl ?_
  refine rx ?_
  refine s_alloc rfl (fun u1 hb1 hf1 hs1 => ?_)
  refine rx ?_
  refine s_build [.slice none 0 0] rfl ?_
  refine s_alloc rfl (fun u2 hb2 hf2 hs2 => ?_)
  refine s_storeAggB (cs := [.slice none 0 0]) rfl rfl hb2 (by simp [Value.oneCell']) rfl rfl (fun u3 hb3 hf3 hs3 => ?_)
  obtain ⟨rb, hrb⟩ : ∃ y, y = u.heap.size := ⟨_, rfl⟩
  rw [← hrb] at hb1 ⊢
  obtain ⟨tb, htb⟩ : ∃ y, y = u1.heap.size := ⟨_, rfl⟩
  rw [← htb] at hb3 hf3 ⊢
  have hF3 : Fr [] u u3 := (hf1.trans0 hf2).trans hf3 (by simp; omega)
  have hr3 : Blk u3 rb [.slice none 0 0] 25 := (hb1.tr0 hf2).tr hf3 (by simp; omega)
  refine rx ?_
  refine s_call (pick _ l 0 15 u3 (hx.tr0 hF3) hl (by omega)) rfl ?_
  rintro _ _ ⟨rfl, rfl⟩
  refine ⟨_, rfl, ?_⟩
  have hpr := pk_range (l := l) (i := 0) (m := 15) (by omega)
  generalize pk l 0 15 = n at hpr
  refine rx ?_
  have stN : Stab (plusR NdR [tb, rb]) 12 := plusStab ndStab
  refine c_loop (σ := Nat × List Nd × Value) (fun s g z => g 0 = .slice ax l.length cx ∧ g 2 = .pointer (some ⟨rb, 0, none⟩) ∧ g 3 = .pointer (some ⟨tb, 0, none⟩) ∧ g 4 = .int .i64 n ∧ g 5 = .int .i64 (s.1 : Nat) ∧ (s.1 : Int) ≤ n ∧ s.2.1.length = s.1 ∧ validT s.2.1 = 0 ∧ (∀ y ∈ s.2.1, NdG 0 y) ∧ Blk z tb [s.2.2] 25 ∧ Blk z rb [.slice none 0 0] 25 ∧ OwnR z 36 12 (plusR NdR [tb, rb]) s.2.1 s.2.2 ∧ (∀ b ∈ blks s.2.2, u.heap.size ≤ b ∧ b ≠ tb ∧ b ≠ rb) ∧ Fr [] u z) (fun s => (n - s.1).toNat) (0, [], .slice none 0 0) ⟨rfl, rfl, rfl, rfl, rfl, hpr.1, rfl, rfl, by simp, hb3, hr3, OwnR.nil _ _ _ _, by simp [blks, Value.ownBlock], hF3⟩ ?_
  rintro ⟨i, t, sn⟩ g z0 ⟨h0, h2, h3, h4, h5, hin, hti, hval, hgs, hbt, hbr, hO, hfr, hfz⟩
  simp only at h5 hin hti hval hgs hbt hO hfr
  rw [eq_upd h0, eq_upd h2, eq_upd h3, eq_upd h4, eq_upd h5]
  obtain ⟨an, cn, rfl⟩ : ∃ a c, sn = .slice a i c := by obtain ⟨a, c, h⟩ := hO.slice; rw [hti] at h; exact ⟨a, c, h⟩
  have hbtl := hbt.lt
  have hbrl := hbr.lt
  by_cases hlt : (i : Int) < n
  case neg =>
    refine rx ?_
    refine s_storeAggB (cs := [.slice an i cn]) rfl rfl hbr (by simp [Value.oneCell']) rfl rfl (fun z1 hb1' hf1' hs1' => ?_)
    refine rx ?_
    refine retc rfl rfl (AggT.load _ [.slice an i cn] rfl (fun j x hx => by rw [add_lit]; exact hb1'.cell (by simpa using hx))) ⟨t, _, rfl, ?_, hval, hgs, by omega, hfz.trans hf1' (by simp; omega)⟩
    exact ownNS (ownTurnR (S3 := [tb, rb]) ndStab hO hf1' (by simp) (fun b hb hm => by simp at hm; exact (hfr b hb).2.2 hm) (fun b hb => .inl hb))
  refine rx ?_
  refine s_call (pick _ l _ 1000000 z0 (hx.tr0 hfz) hl (by omega)) rfl ?_
  rintro _ _ ⟨rfl, rfl⟩
  refine ⟨_, rfl, ?_⟩
  have hkr := pk_range (l := l) (i := 1 + (i : Int)) (m := 1000000) (by omega)
  generalize pk l (1 + (i : Int)) 1000000 = k at hkr
  refine rx ?_
  refine s_build (nc (kN (k % 8)) (.slice none 0 0) (.slice none 0 0) (.slice none 0 0) (.slice none 0 0) (.slice none 0 0)) rfl ?_
  refine s_alloc rfl (fun z1 hbx1 hfx1 hsx1 => ?_)
  refine s_storeAggB (cs := nc (kN (k % 8)) (.slice none 0 0) (.slice none 0 0) (.slice none 0 0) (.slice none 0 0) (.slice none 0 0)) rfl rfl hbx1 (by simp [nc, Value.oneCell']) rfl rfl (fun z2 hbx2 hfx2 hsx2 => ?_)
  obtain ⟨xb, hxb⟩ : ∃ y, y = z0.heap.size := ⟨_, rfl⟩
  rw [← hxb] at hbx2 hfx2 ⊢
  have hG2 : Fr [] z0 z2 := hfx1.trans hfx2 (by simp; omega)
  refine wpList_nil ?_
  refine q_then ?_
  (refine wp_seq ?_; refine c_cut (fun g y => ∃ k1, TrG (.slice ax l.length cx) rb tb xb n i k g ∧ (0 ≤ k1 ∧ k1 < 8 ∧ k1 ≠ 5 ∧ ((i : Int) < 2 → k1 < 2)) ∧ Blk y xb (nc (kN k1) (.slice none 0 0) (.slice none 0 0) (.slice none 0 0) (.slice none 0 0) (.slice none 0 0)) 36 ∧ Fr [] z0 y) ?_ ?_)
  · by_cases h1 : (i : Int) < 2
    case' pos => refine rx ?_
    case' neg =>
      by_cases h2 : k % 8 = 5
      case' neg =>
        have hk8 : (kN (k % 8)).kind = k % 8 := rfl
        rw [show nc (kN (k % 8)) (.slice none 0 0) (.slice none 0 0) (.slice none 0 0) (.slice none 0 0) (.slice none 0 0) = nc (kN (k % 8)) (.slice none 0 0) (.slice none 0 0) (.slice none 0 0) (.slice none 0 0) (.slice none 0 0) from rfl] at hbx2
        simp only [nc, kN] at hbx2
        refine rx ?_
        exact q_cut ⟨k % 8, ⟨rfl, rfl, rfl, rfl, rfl, rfl, rfl⟩, by omega, hbx2, hG2⟩
      case' pos =>
        simp only [nc, kN] at hbx2
        refine rx ?_
    all_goals
      ((with_reducible apply s_storeB); exact rfl; (conv => lhs; whnf); exact rfl; exact hbx2; exact rfl)
      intro z3 hb3' hf3' hs3'
      refine rx ?_
      exact q_cut ⟨k / 8 % 2, ⟨rfl, rfl, rfl, rfl, rfl, rfl, rfl⟩, by omega, hb3', hG2.trans hf3' (by simp; omega)⟩
  clear hbx2 hG2
  rintro g1 y1 ⟨k1, hG1, hk1, hby1, hfy1⟩
  rw [hG1.env]
  simp only [nc, kN] at hby1
  (refine wp_seq ?_; refine c_cut (fun g y => ∃ kk, TrG (.slice ax l.length cx) rb tb xb n i k g ∧ (0 ≤ kk ∧ kk ≤ 4 ∧ ((i : Int) < 2 → kk < 2)) ∧ Blk y xb (nc (kN kk) (.slice none 0 0) (.slice none 0 0) (.slice none 0 0) (.slice none 0 0) (.slice none 0 0)) 36 ∧ Fr [] z0 y) ?_ ?_)
  · by_cases h1 : 5 < k1
    · refine rx ?_
      ((with_reducible apply s_storeB); exact rfl; (conv => lhs; whnf); exact rfl; exact hby1; exact rfl)
      intro z3 hb3' hf3' hs3'
      refine rx ?_
      exact q_cut ⟨k1 - 4, ⟨rfl, rfl, rfl, rfl, rfl, rfl, rfl⟩, by omega, hb3', hfy1.trans hf3' (by simp; omega)⟩
    · refine rx ?_
      exact q_cut ⟨k1, ⟨rfl, rfl, rfl, rfl, rfl, rfl, rfl⟩, by omega, hby1, hfy1⟩
  clear hG1 hby1 hfy1 hk1
  rintro g2 y2 ⟨kk, hG2, hkk, hby2, hfy2⟩
  rw [hG2.env]
  clear hG2
  (refine wp_seq ?_; refine c_cut (fun g y => ∃ yn cs, TrG (.slice ax l.length cx) rb tb xb n i k g ∧ Blk y xb cs 36 ∧ NdR y [xb, tb, rb] yn cs ∧ NdG 0 yn ∧ Fr [] z0 y) ?_ ?_)
  rotate_left
  · rintro g3 y3 ⟨yn, cs, hG3, hby3, hnr, hng, hfy3⟩
    rw [hG3.env]
    obtain ⟨sw, sl, sv, sk, sx, rfl, p1, p2, p3, p4, p5⟩ := id hnr
    have hO3 := hO.tr0 stN hfy3
    have hz3 := hfy3.size
    have hbx3l := hby3.lt
    refine rx ?_
    refine s_build [.slice none 0 0] rfl ?_
    refine s_alloc rfl (fun y4 hb4 hf4 hs4 => ?_)
    refine s_storeAggB (cs := [.slice none 0 0]) rfl rfl hb4 (by simp [Value.oneCell']) rfl rfl (fun y5 hb5 hf5 hs5 => ?_)
    obtain ⟨nb, hnb⟩ : ∃ y, y = y3.heap.size := ⟨_, rfl⟩
    rw [← hnb] at hb5 hf5 ⊢
    have hF35 : Fr [] y3 y5 := hf4.trans hf5 (by simp; omega)
    have stM : Stab (plusR NdR [nb, tb, rb]) 12 := plusStab ndStab
    have hO5 := ownTurnR (S3 := [nb, tb, rb]) ndStab hO3 hF35 (by simp) (by simp) (fun b hb => by
      rcases List.mem_cons.1 hb with rfl | h
      · right; omega
      · exact .inl h)
    have hbt5 := (hbt.tr0 hfy3).tr0 hF35
    have hbx5 := hby3.tr0 hF35
    obtain ⟨ys, how, hrw⟩ := id hO5
    refine rx ?_
    refine s_appR (R := plusR NdR [nb, tb, rb]) (l := []) (al := t) (OwnR.nil _ _ _ _) stM rfl rfl how.src (hrw.imp fun y cs _ h => ndStab.mono h (fun b hb => .inl (by simp [blks, Value.ownBlock] at hb; simp [hb]))) rfl (by unfold maxLen; simp; omega) (by simp; omega) (fun v1 y6 ho6 hf6 hk6 _ => ?_)
    rw [List.nil_append] at ho6
    have hf6' := Fr.ofNil hf6
    have hb6 := hb5.tr0 hf6'
    have ho6' := ho6.one
    refine rx ?_
    ((with_reducible apply s_storeB); exact rfl; (conv => lhs; whnf); exact ho6'; exact hb6; exact rfl)
    intro y7 hb7 hf7 hs7
    have hb7' : Blk y7 nb [v1] 25 := hb7
    clear hb7
    have hn5 := hb5.lt
    have hz56 := hf6'.size
    have hk6' : ∀ b ∈ blks v1, y5.heap.size ≤ b := fun b hb => by
      rcases hk6 b hb with h | h
      · exact fresh0 h
      · exact h
    have hO7 := ownTurnR (S3 := [nb, tb, rb]) ndStab ho6 hf7 (by simp) (fun b hb hm => by simp at hm; subst hm; have := hk6' _ hb; omega) (fun b hb => .inl hb)
    have hF37 : Fr [] y3 y7 := (hF35.trans0 hf6').trans hf7 (by simp; omega)
    have hbx7 := hby3.tr0 hF37
    have hbt7 := (hbt.tr0 hfy3).tr0 hF37
    have hrow : plusR NdR [nb, tb, rb] y7 (blks v1) yn (nc yn sw sl sv sk sx) := ndStab.turn hnr (hF37.mono (by simp)) (fun b hb => by
      rcases List.mem_append.1 hb with h | h
      · right; have := hk6' b h; have := hF35.size; omega
      · rcases List.mem_cons.1 h with rfl | h
        · right; omega
        · left; simp at h ⊢; omega)
    have hlv1 := hO7.lt
    refine rx ?_
    refine s_pushA (R := plusR NdR [nb, tb, rb]) (a := yn) (cs := nc yn sw sl sv sk sx) hO7 stM rfl rfl rfl hrow rfl rfl rfl (by unfold maxLen; omega) (by omega) (fun v2 y8 hO8 hf8 hk8 => ?_)
    have hb8 := hb7'.tr hf8 (fun h => by have := hk6' _ h; omega)
    have ho8' := hO8.one
    refine rx ?_
    ((with_reducible apply s_storeB); exact rfl; (conv => lhs; whnf); exact ho8'; exact hb8; exact rfl)
    intro y9 hb9 hf9 hs9
    have hb9' : Blk y9 nb [v2] 25 := hb9
    clear hb9
    have hz37 := hF37.size
    have hz35 := hF35.size
    have hk8' : ∀ b ∈ blks v2, y5.heap.size ≤ b := fun b hb => by
      rcases hk8 b hb with h | h
      · exact hk6' b h
      · have := hf7.size; omega
    have hO9 := ownTurnR (S3 := [nb, tb, rb]) ndStab hO8 hf9 (by simp) (fun b hb hm => by simp at hm; subst hm; have := hk8' _ hb; omega) (fun b hb => .inl hb)
    have hF39 : Fr [] y3 y9 := (hF37.trans hf8 (fun b hb => .inr (by have := hk6' b hb; omega))).trans hf9 (by simp; omega)
    have hok9 : ∀ x ∈ t ++ [yn], NdG 0 x := fun x hx => by
      rcases List.mem_append.1 hx with h | h
      · exact hgs x h
      · simp at h; subst h; exact hng
    refine rx ?_
    refine s_call (validRT (t ++ [yn]) _ y9 (ownNS hO9) (fun x hx => (hok9 x hx).ok) (by simp; omega)) rfl ?_
    rintro _ y10 ⟨rfl, hf10⟩
    refine ⟨_, rfl, ?_⟩
    have hF310 := hF39.trans0 hf10
    have hbt10 := (hbt.tr0 hfy3).tr0 hF310
    have hbr10 := (hbr.tr0 hfy3).tr0 hF310
    have hb10 := hb9'.tr0 hf10
    have hO10 := hO9.tr0 stM hf10
    have hFu10 : Fr [] u y10 := (hfz.trans0 hfy3).trans0 hF310
    by_cases hv0 : validT (t ++ [yn]) = 0
    · rw [hv0]
      refine rx ?_
      refine s_storeAggB (cs := [v2]) rfl rfl hbt10 (by simp; exact hO10.one) rfl rfl (fun y11 hb11 hf11 hs11 => ?_)
      have hk8n : ∀ b ∈ blks v2, u.heap.size ≤ b ∧ b ≠ tb ∧ b ≠ rb := fun b hb => by
        have := hk8' b hb; have := (hfz.trans0 hfy3).size; omega
      have hO11 := ownTurnR (S3 := [tb, rb]) ndStab hO10 hf11 (by simp) (fun b hb hm => by simp at hm; exact (hk8n b hb).2.1 hm) (fun b hb => .inl (by simp at hb ⊢; omega))
      refine rx ?_
      exact q_round (i + 1, t ++ [yn], v2) ⟨rfl, rfl, rfl, rfl, rfl, by simp only; omega, by simp [hti], hv0, hok9, hb11, hbr10.tr hf11 (by simp; omega), hO11, hk8n, hFu10.trans hf11 (by simp; omega)⟩ (by simp only; omega)
    · have hOt := hO3.tr0 stN hF310
      refine rx ?_
      refine s_build (vc (numV (k % 5)) (.slice none 0 0)) rfl ?_
      refine s_build (nc (lfN (numV (k % 5))) (.slice none 0 0) (.slice none 0 0) (.slice none 0 0) (.slice none 0 0) (.slice none 0 0)) rfl ?_
      refine s_pushA (R := plusR NdR [tb, rb]) (a := lfN (numV (k % 5))) (cs := nc (lfN (numV (k % 5))) (.slice none 0 0) (.slice none 0 0) (.slice none 0 0) (.slice none 0 0) (.slice none 0 0)) hOt stN rfl rfl rfl (simR rfl rfl rfl rfl rfl) rfl rfl rfl (by unfold maxLen; omega) (by omega) (fun v3 y11 hO11 hf11 hk11 => ?_)
      have hb11 := hbt10.tr hf11 (fun h => (hfr _ h).2.1 rfl)
      have ho11' := hO11.one
      refine rx ?_
      ((with_reducible apply s_storeB); exact rfl; (conv => lhs; whnf); exact ho11'; exact hb11; exact rfl)
      intro y12 hb12 hf12 hs12
      have hb12' : Blk y12 tb [v3] 25 := hb12
      clear hb12
      have hk11' : ∀ b ∈ blks v3, u.heap.size ≤ b ∧ b ≠ tb ∧ b ≠ rb := fun b hb => by
        rcases hk11 b hb with h | h
        · exact hfr b h
        · have := hFu10.size; have := hbt10.lt; have := hbr10.lt; omega
      have hO12 := ownTurnR (S3 := [tb, rb]) ndStab hO11 hf12 (by simp) (fun b hb hm => by simp at hm; exact (hk11' b hb).2.1 hm) (fun b hb => .inl hb)
      refine rx ?_
      refine q_round (i + 1, t ++ [lfN (numV (k % 5))], v3) ⟨rfl, rfl, rfl, rfl, rfl, by simp only; omega, by simp [hti], valid_n hval (by omega) _, fun x hx => ?_, hb12', (hbr10.tr hf11 (fun h => (hfr _ h).2.2 rfl)).tr hf12 (by simp; omega), hO12, hk11', (hFu10.trans hf11 (fun b hb => .inr (hfr b hb).1)).trans hf12 (by simp; omega)⟩ (by simp only; omega)
      rcases List.mem_append.1 hx with h | h
      · exact hgs x h
      · simp at h; subst h; exact lfN_g ⟨(numV_ok _).1, numV_ev (by unfold InI64; omega), by simp [numV, vsz, vszs]⟩
  simp only [nc, kN] at hby2
  have hz2 := hfy2.size
  have hbxl := hby2.lt
  by_cases c0 : kk = 0
  · subst c0
    refine rx ?_
    refine s_call (leafP (k / 8) y2 (by omega)) rfl ?_
    rintro _ y3 ⟨v, sx, rfl, hvok, hvx, hf3'⟩
    refine ⟨_, rfl, ?_⟩
    have hx3 := hvx [xb, tb, rb] (by simp; omega)
    obtain ⟨a4, c4, rfl, _⟩ := hx3.slice
    refine rx ?_
    refine s_storeSubB (cs := vc v (.slice a4 v.kids.length c4)) rfl rfl (hby2.tr0 hf3') (by simp [vc, Value.oneCell']) (by simp [vc]) rfl (fun y4 hb4 hf4 hs4 => ?_)
    have hb4' : Blk y4 xb (nc (lfN v) (.slice none 0 0) (.slice none 0 0) (.slice none 0 0) (.slice none 0 0) (.slice a4 v.kids.length c4)) 36 := hb4
    refine rx ?_
    refine q_cut ⟨lfN v, _, ⟨rfl, rfl, rfl, rfl, rfl, rfl, rfl⟩, hb4', ⟨_, _, _, _, _, rfl, Ls.nil, Ls.nil, VS.nil _ _, Ls.nil, ?_⟩, lfN_g hvok, (hfy2.trans0 hf3').trans hf4 (by simp; omega)⟩
    exact hx3.tr (hf4.mono (by simp))
  by_cases c1 : kk = 1
  · subst c1
    refine rx ?_
    ((with_reducible apply s_storeB); exact rfl; (conv => lhs; whnf); exact rfl; exact hby2; exact rfl)
    intro y3 hb3' hf3' hs3'
    have hb3' : Blk y3 xb (nc ⟨1, ⟨#[]⟩, k / 8 % 7 - 3, 0, [], [], [], [], numV 0⟩ (.slice none 0 0) (.slice none 0 0) (.slice none 0 0) (.slice none 0 0) (.slice none 0 0)) 36 := hb3'
    simp only [nc] at hb3'
    refine rx ?_
    ((with_reducible apply s_storeB); exact rfl; (conv => lhs; whnf); exact rfl; exact hb3'; exact rfl)
    intro y4 hb4 hf4 hs4
    have hb4 : Blk y4 xb (nc ⟨1, ⟨#[]⟩, k / 8 % 7 - 3, k / 8 % 7 - 3 + k / 56 % 5, [], [], [], [], numV 0⟩ (.slice none 0 0) (.slice none 0 0) (.slice none 0 0) (.slice none 0 0) (.slice none 0 0)) 36 := hb4
    have hF4 : Fr [] z0 y4 := (hfy2.trans hf3' (by simp; omega)).trans hf4 (by simp; omega)
    by_cases c19 : k / 280 % 19 = 0
    · simp only [nc] at hb4
      refine rx ?_
      ((with_reducible apply s_storeB); exact rfl; (conv => lhs; whnf); exact rfl; exact hb4; exact rfl)
      intro y5 hb5 hf5 hs5
      have hb5 : Blk y5 xb (nc ⟨1, ⟨#[]⟩, k / 8 % 7 - 3, k / 8 % 7 - 3 + 1000000 * (k % 90 + 1), [], [], [], [], numV 0⟩ (.slice none 0 0) (.slice none 0 0) (.slice none 0 0) (.slice none 0 0) (.slice none 0 0)) 36 := hb5
      refine rx ?_
      exact q_cut ⟨_, _, ⟨rfl, rfl, rfl, rfl, rfl, rfl, rfl⟩, hb5, simR rfl rfl rfl rfl rfl, kN_g (by omega) (by unfold InI64; omega) (by unfold InI64; omega) (by decide) (by simp) (by simp) (by simp) (by simp) (by simp) (by simp), hF4.trans hf5 (by simp; omega)⟩
    · refine rx ?_
      exact q_cut ⟨_, _, ⟨rfl, rfl, rfl, rfl, rfl, rfl, rfl⟩, hb4, simR rfl rfl rfl rfl rfl, kN_g (by omega) (by unfold InI64; omega) (by unfold InI64; omega) (by decide) (by simp) (by simp) (by simp) (by simp) (by simp) (by simp), hF4⟩
  by_cases c2 : kk = 2
  · subst c2
    have hm : 0 ≤ k / 8 % 4 ∧ k / 8 % 4 < 4 := by omega
    have hC0 : CN y2.heap.size y2 xb (kN 2) [] [] [] (.slice none 0 0) (.slice none 0 0) (.slice none 0 0) := ⟨hby2, Own.nil _ _ _, Own.nil _ _ _, Own.nil _ _ _, by simp [blks, Value.ownBlock], by simp [blks, Value.ownBlock], by simp [blks, Value.ownBlock], by simp [blks, Value.ownBlock], by simp [blks, Value.ownBlock], by simp [blks, Value.ownBlock]⟩
    refine rx ?_
    refine c_loopK 11 [8] (σ := Nat × (List Int × List ByteArray × List Int) × (Value × Value × Value)) (fun s g z => g 8 = .int .i64 (s.1 : Nat) ∧ (s.1 : Int) ≤ k / 8 % 4 + 1 ∧ s.2.1.1.length = s.1 ∧ (s.2.1.2.1.length ≤ s.1 ∧ ∀ b ∈ s.2.1.2.1, b.size ≤ 1000) ∧ s.2.1.2.2.length = s.1 ∧ (∀ q ∈ s.2.1.1, 0 ≤ q ∧ q < 100) ∧ (∀ q ∈ s.2.1.2.2, 0 ≤ q ∧ q < 100) ∧ CN y2.heap.size z xb (kN 2) s.2.1.1 s.2.1.2.1 s.2.1.2.2 s.2.2.1 s.2.2.2.1 s.2.2.2.2 ∧ y2.heap.size ≤ z.heap.size ∧ Fr [] z0 z) (fun s => (4 - s.1)) (0, ([], [], []), (.slice none 0 0, .slice none 0 0, .slice none 0 0)) ⟨rfl, by simp only; omega, rfl, ⟨Nat.le_refl _, by simp⟩, rfl, by simp, by simp, hC0, Nat.le_refl _, hfy2⟩ ?_
    rintro ⟨j, ⟨ws, labs, ks⟩, ⟨sw, sl, sk⟩⟩ g z ⟨h8, hj, hjw, hjl, hjk, hws, hks, hC, hzz, hfz2⟩
    simp only at h8 hj hjw hjl hjk hws hks hC
    have hjl1 := hjl.1
    rw [eq_upd h8]
    obtain ⟨aw, cw, rfl⟩ := hC.ow.slice
    obtain ⟨al, cl, rfl⟩ := hC.ol.slice
    obtain ⟨ak, ck, rfl⟩ := hC.ok.slice
    by_cases hjm : (j : Int) ≤ k / 8 % 4
    case neg =>
      refine rx ?_
      exact q_cut ⟨⟨2, ⟨#[]⟩, 0, 0, ws, labs, [], ks, numV 0⟩, _, ⟨rfl, rfl, rfl, rfl, rfl, rfl, rfl⟩, hC.blk, hC.row (by simp; omega), kN_g (by omega) (by simp [InI64]) (by simp [InI64]) (by decide) hws (by omega) (by omega) hks (by omega) hjl.2, hfz2⟩
    have hbz := hC.blk
    refine rx ?_
    (refine u_begin 11 (fun y => True ∧ Blk y xb (nc (kN 2) (.slice aw ws.length cw) (.slice al labs.length cl) (.slice none 0 0) (.slice ak ks.length ck) (.slice none 0 0)) 36) (by kernel_rfl) rfl ?_)
    have hE0 : Fr [] z z.drew := Fr.drew _ _
    have hS0 : True ∧ Blk z.drew xb (nc (kN 2) (.slice aw ws.length cw) (.slice al labs.length cl) (.slice none 0 0) (.slice ak ks.length ck) (.slice none 0 0)) 36 := ⟨trivial, hbz.tr0 hE0⟩
    ((refine u_tx 0 hS0 ?_); (refine u_tx 1 hS0 ?_); (refine u_tx 2 hS0 ?_); (refine u_tx 3 hS0 ?_); (refine u_tx 4 hS0 ?_); (refine u_tx 5 hS0 ?_))
    (refine u_one (i := 6) rfl (by kernel_rfl) ?_)
    refine s_call (pick _ l _ 5 z.drew ((hx.tr0 (hfz.trans0 hfz2)).tr0 hE0) hl (by omega)) rfl ?_
    rintro _ _ ⟨rfl, rfl⟩
    refine ⟨_, rfl, ?_⟩
    have hpk := pk_range (l := l) (i := (i : Int) + (j : Int)) (m := 5) (by omega)
    generalize pk l ((i : Int) + (j : Int)) 5 = pv at hpk
    refine wpList_nil (q_uh hS0 ?_)
    ((refine u_tx 7 hS0 ?_))
    (refine u_one (i := 8) rfl (by kernel_rfl) ?_)
    ((with_reducible apply s_build1); (conv => lhs; whnf); exact rfl)
    intro z3 hs3 hf3 hz3
    have hE1 := hE0.trans0 hf3
    refine wpList_nil (q_uh ⟨trivial, hbz.tr0 hE1⟩ ?_)
    (refine u_one (i := 9) rfl (by kernel_rfl) ?_)
    refine s_append (hC.ow.tr0 hE1) rfl hs3.src rfl rfl (by simp [Value.oneCell']) (by unfold maxLen; omega) (by omega) (fun v' z4 hO4 hf4 hk4 hn4 => ?_)
    have hbz4 := (hbz.tr0 hE1).tr hf4 (fun h => by have := hC.nw _ h; omega)
    have ho4' := hO4.one
    refine wpList_nil (q_uh ⟨trivial, hbz4⟩ ?_)
    ((refine u_tx 10 (⟨trivial, hbz4⟩) ?_))
    (refine u_one (i := 11) rfl (by kernel_rfl) ?_)
    ((with_reducible apply s_storeB); exact rfl; (conv => lhs; whnf); exact ho4'; exact hbz4; exact rfl)
    intro z5 hb5 hf5 hs5
    have hC5 := hC.setW hbxl hzz hE1 hO4 hf4 hk4 hb5 hf5
    have hfz5 : Fr [] z0 z5 := ((hfz2.trans0 hE1).trans hf4 (fun b hb => .inr (by have := hC.nw b hb; omega))).trans hf5 (by simp; omega)
    have hzz5 : y2.heap.size ≤ z5.heap.size := by have := hE1.size; have := hf4.size; omega
    refine wpList_nil (q_ue ?_)
    (refine u_done (by kernel_rfl) ?_)
    clear hb5 hf5 hs5 ho4' hbz4 hO4 hf4 hk4 hn4 hbz hS0 hE1 hE0 hs3 hf3 hz3 hC hzz hfz2
    obtain ⟨aw, cw, rfl⟩ : ∃ a c, v' = .slice a (ws.length + 1) c := by obtain ⟨a, c, h⟩ := hC5.ow.slice; simp at h; exact ⟨a, c, h⟩
    have hbz := hC5.blk
    refine rx ?_
    (refine u_begin 9 (fun y => True ∧ Blk y xb (nc (kN 2) (.slice aw (ws.length + 1) cw) (.slice al labs.length cl) (.slice none 0 0) (.slice ak ks.length ck) (.slice none 0 0)) 36) (by kernel_rfl) rfl ?_)
    have hE0 : Fr [] z5 z5.drew := Fr.drew _ _
    have hS0 : True ∧ Blk z5.drew xb (nc (kN 2) (.slice aw (ws.length + 1) cw) (.slice al labs.length cl) (.slice none 0 0) (.slice ak ks.length ck) (.slice none 0 0)) 36 := ⟨trivial, hbz.tr0 hE0⟩
    ((refine u_tx 0 hS0 ?_); (refine u_tx 1 hS0 ?_); (refine u_tx 2 hS0 ?_); (refine u_tx 3 hS0 ?_); (refine u_tx 4 hS0 ?_))
    (refine u_one (i := 5) rfl (by kernel_rfl) ?_)
    refine s_call (kidP _ l i j z5.drew ((hx.tr0 (hfz.trans0 hfz5)).tr0 hE0) hl (by omega) (by omega)) rfl ?_
    rintro _ _ ⟨r, rfl, hr2, rfl⟩
    refine ⟨_, rfl, ?_⟩
    refine wpList_nil (q_uh hS0 ?_)
    (refine u_one (i := 6) rfl (by kernel_rfl) ?_)
    ((with_reducible apply s_build1); (conv => lhs; whnf); exact rfl)
    intro z6 hs6 hf6 hz6
    have hE1 := hE0.trans0 hf6
    refine wpList_nil (q_uh ⟨trivial, hbz.tr0 hE1⟩ ?_)
    (refine u_one (i := 7) rfl (by kernel_rfl) ?_)
    refine s_append (hC5.ok.tr0 hE1) rfl hs6.src rfl rfl (by simp [Value.oneCell']) (by unfold maxLen; omega) (by omega) (fun v' z7 hO7 hf7 hk7 hn7 => ?_)
    have hbz7 := (hbz.tr0 hE1).tr hf7 (fun h => by have := hC5.nk _ h; omega)
    have ho7' := hO7.one
    refine wpList_nil (q_uh ⟨trivial, hbz7⟩ ?_)
    ((refine u_tx 8 (⟨trivial, hbz7⟩) ?_))
    (refine u_one (i := 9) rfl (by kernel_rfl) ?_)
    ((with_reducible apply s_storeB); exact rfl; (conv => lhs; whnf); exact ho7'; exact hbz7; exact rfl)
    intro z8 hb8 hf8 hs8
    have hC8 := hC5.setK hbxl hzz5 hE1 hO7 hf7 hk7 hb8 hf8
    have hfz8 : Fr [] z0 z8 := ((hfz5.trans0 hE1).trans hf7 (fun b hb => .inr (by have := hC5.nk b hb; omega))).trans hf8 (by simp; omega)
    have hzz8 : y2.heap.size ≤ z8.heap.size := by have := hE1.size; have := hf7.size; omega
    refine wpList_nil (q_ue ?_)
    (refine u_done (by kernel_rfl) ?_)
    clear hb8 hf8 hs8 ho7' hbz7 hO7 hf7 hk7 hn7 hbz hS0 hE1 hE0 hs6 hf6 hz6 hC5 hzz5 hfz5
    obtain ⟨ak, ck, rfl⟩ : ∃ a c, v' = .slice a (ks.length + 1) c := by obtain ⟨a, c, h⟩ := hC8.ok.slice; simp at h; exact ⟨a, c, h⟩
    have hws' : ∀ q ∈ ws ++ [1 + pv], 0 ≤ q ∧ q < 100 := fun q hq => by
      rcases List.mem_append.1 hq with h | h
      · exact hws q h
      · simp at h; subst h; omega
    have hks' : ∀ q ∈ ks ++ [r], 0 ≤ q ∧ q < 100 := fun q hq => by
      rcases List.mem_append.1 hq with h | h
      · exact hks q h
      · simp at h; subst h; omega
    have hbz := hC8.blk
    by_cases h32 : 0 < k / 32 % 3
    case neg =>
      refine rx ?_
      exact q_roundK (j + 1, (ws ++ [1 + pv], labs, ks ++ [r]), (.slice aw (ws.length + 1) cw, .slice al labs.length cl, .slice ak (ks.length + 1) ck)) (by (repeat (first | exact Keep.mrg _ _ _ _ | (refine Keep.hi rfl ?_) | (refine Keep.one rfl ?_) | exact Keep.all rfl | (refine Keep.inn rfl ?_) | (refine Keep.set rfl ?_)))) ⟨rfl, by simp only; omega, by simp [hjw], ⟨by simp only; omega, hjl.2⟩, by simp [hjk], hws', hks', hC8, hzz8, hfz8⟩ (by simp only; omega)
    refine rx ?_
    (refine u_begin 13 (fun y => True ∧ Blk y xb (nc (kN 2) (.slice aw (ws.length + 1) cw) (.slice al labs.length cl) (.slice none 0 0) (.slice ak (ks.length + 1) ck) (.slice none 0 0)) 36) (by kernel_rfl) rfl ?_)
    have hE0 : Fr [] z8 z8.drew := Fr.drew _ _
    have hS0 : True ∧ Blk z8.drew xb (nc (kN 2) (.slice aw (ws.length + 1) cw) (.slice al labs.length cl) (.slice none 0 0) (.slice ak (ks.length + 1) ck) (.slice none 0 0)) 36 := ⟨trivial, hbz.tr0 hE0⟩
    ((refine u_tx 0 hS0 ?_); (refine u_tx 1 hS0 ?_))
    ((refine u_tx 3 hS0 ?_); (refine u_tx 4 hS0 ?_))
    (refine u_tx 5 hS0 ?_ (hrun := (by intro u hu; exact (r_quo rfl rfl (by omega) (IntWalk.i64_quo _ _ (by omega))))))
    ((refine u_tx 6 hS0 ?_))
    (refine u_tx 7 hS0 ?_ (hrun := (by intro u hu; exact (r_rem rfl rfl (by omega) (Int.tmod_eq_emod_of_nonneg (by omega))))))
    obtain ⟨jn, hjn, hj4⟩ : ∃ jn : Nat, ((j : Int) + k / 96) % 4 = (jn : Int) ∧ jn < 4 := ⟨(((j : Int) + k / 96) % 4).toNat, by omega, by omega⟩
    obtain ⟨nm, hnm, hnm1⟩ : ∃ nm : ByteArray, [Value.string ⟨#[97]⟩, .string ⟨#[98]⟩, .string ⟨#[99]⟩, .string ⟨#[100]⟩][jn]? = some (.string nm) ∧ nm.size ≤ 1000 := by
      match jn, hj4 with
      | 0, _ => exact ⟨_, rfl, by decide⟩
      | 1, _ => exact ⟨_, rfl, by decide⟩
      | 2, _ => exact ⟨_, rfl, by decide⟩
      | 3, _ => exact ⟨_, rfl, by decide⟩
    (refine u_one (i := 2) rfl (by kernel_rfl) ?_)
    refine s_buildS [.string ⟨#[97]⟩, .string ⟨#[98]⟩, .string ⟨#[99]⟩, .string ⟨#[100]⟩] rfl rfl rfl rfl (fun z9 ho9 hf9 hs9 => ?_)
    have hE9 := hE0.trans0 hf9
    have hc9 := srcCells ho9.src
    refine wpList_nil (q_uh ⟨trivial, hbz.tr0 hE9⟩ ?_)
    (refine u_tx 8 (⟨trivial, hbz.tr0 hE9⟩) ?_ (hrun := (by intro u hu; exact (r_indexAddr (j := jn) rfl rfl hjn hj4 rfl))))
    (refine u_one (i := 9) rfl (by kernel_rfl) ?_)
    rw [Nat.mul_one]
    refine s_loadC rfl hc9 hnm ?_
    refine wpList_nil (q_uh ⟨trivial, hbz.tr0 hE9⟩ ?_)
    (refine u_one (i := 10) rfl (by kernel_rfl) ?_)
    ((with_reducible apply s_build1); (conv => lhs; whnf); exact rfl)
    intro z10 hs10 hf10 hz10
    have hE10 := hE9.trans0 hf10
    refine wpList_nil (q_uh ⟨trivial, hbz.tr0 hE10⟩ ?_)
    (refine u_one (i := 11) rfl (by kernel_rfl) ?_)
    refine s_append (hC8.ol.tr0 hE10) rfl hs10.src rfl rfl (by simp [Value.oneCell']) (by unfold maxLen; omega) (by omega) (fun v' z11 hO11 hf11 hk11 hn11 => ?_)
    have hbz11 := (hbz.tr0 hE10).tr hf11 (fun h => by have := hC8.nl _ h; omega)
    have ho11' := hO11.one
    refine wpList_nil (q_uh ⟨trivial, hbz11⟩ ?_)
    ((refine u_tx 12 (⟨trivial, hbz11⟩) ?_))
    (refine u_one (i := 13) rfl (by kernel_rfl) ?_)
    ((with_reducible apply s_storeB); exact rfl; (conv => lhs; whnf); exact ho11'; exact hbz11; exact rfl)
    intro z12 hb12 hf12 hs12
    have hC12 := hC8.setL hbxl hzz8 hE10 hO11 hf11 hk11 hb12 hf12
    have hfz12 : Fr [] z0 z12 := ((hfz8.trans0 hE10).trans hf11 (fun b hb => .inr (by have := hC8.nl b hb; omega))).trans hf12 (by simp; omega)
    have hzz12 : y2.heap.size ≤ z12.heap.size := by have := hE10.size; have := hf11.size; omega
    refine wpList_nil (q_ue ?_)
    (refine u_done (by kernel_rfl) ?_)
    refine rx ?_
    exact q_roundK (j + 1, (ws ++ [1 + pv], labs ++ [nm], ks ++ [r]), (.slice aw (ws.length + 1) cw, v', .slice ak (ks.length + 1) ck)) (by (repeat (first | exact Keep.mrg _ _ _ _ | (refine Keep.hi rfl ?_) | (refine Keep.one rfl ?_) | exact Keep.all rfl | (refine Keep.inn rfl ?_) | (refine Keep.set rfl ?_)))) ⟨rfl, by simp only; omega, by simp [hjw], ⟨by simp; omega, all_snoc hjl.2 hnm1⟩, by simp [hjk], hws', hks', hC12, hzz12, hfz12⟩ (by simp only; omega)
  by_cases c3 : kk = 3
  · subst c3
    have hm : 0 ≤ k / 24 % 4 ∧ k / 24 % 4 < 4 := by omega
    obtain ⟨jn, hjn, hj4⟩ : ∃ jn : Nat, k / 8 % 3 = (jn : Int) ∧ jn < 3 := ⟨(k / 8 % 3).toNat, by omega, by omega⟩
    obtain ⟨nm, hnm, hnm100⟩ : ∃ nm : ByteArray, [Value.string ⟨#[]⟩, .string ⟨#[80, 97, 105, 114]⟩, .string ⟨#[]⟩][jn]? = some (.string nm) ∧ nm.size ≤ 100 := by
      match jn, hj4 with
      | 0, _ => exact ⟨_, rfl, by decide⟩
      | 1, _ => exact ⟨_, rfl, by decide⟩
      | 2, _ => exact ⟨_, rfl, by decide⟩
    refine rx ?_
    refine s_buildS [.string ⟨#[]⟩, .string ⟨#[80, 97, 105, 114]⟩, .string ⟨#[]⟩] rfl rfl rfl rfl (fun y3 ho3 hf3' hs3' => ?_)
    have hc3 := srcCells ho3.src
    refine rx ?_
    refine s_indexAddr (j := jn) rfl rfl hjn hj4 rfl ?_
    rw [Nat.mul_one]
    refine s_loadC rfl hc3 hnm ?_
    have hby3 := hby2.tr0 hf3'
    refine rx ?_
    ((with_reducible apply s_storeB); exact rfl; (conv => lhs; whnf); exact rfl; exact hby3; exact rfl)
    intro y4 hb4 hf4 hs4
    have hF4 : Fr [] z0 y4 := (hfy2.trans0 hf3').trans hf4 (by simp; omega)
    have hC0 : CN y4.heap.size y4 xb ⟨3, nm, 0, 0, [], [], [], [], numV 0⟩ [] [] [] (.slice none 0 0) (.slice none 0 0) (.slice none 0 0) := ⟨hb4, Own.nil _ _ _, Own.nil _ _ _, Own.nil _ _ _, by simp [blks, Value.ownBlock], by simp [blks, Value.ownBlock], by simp [blks, Value.ownBlock], by simp [blks, Value.ownBlock], by simp [blks, Value.ownBlock], by simp [blks, Value.ownBlock]⟩
    have hbxl4 := hb4.lt
    have hz4 := hF4.size
    refine rx ?_
    refine c_loopK 11 [9] (σ := Nat × List Int × Value) (fun s g z => g 9 = .int .i64 (s.1 : Nat) ∧ (s.1 : Int) ≤ k / 24 % 4 ∧ s.2.1.length = s.1 ∧ (∀ q ∈ s.2.1, 0 ≤ q ∧ q < 100) ∧ CN y4.heap.size z xb ⟨3, nm, 0, 0, [], [], [], [], numV 0⟩ [] [] s.2.1 (.slice none 0 0) (.slice none 0 0) s.2.2 ∧ y4.heap.size ≤ z.heap.size ∧ Fr [] z0 z) (fun s => (4 - s.1)) (0, [], .slice none 0 0) ⟨rfl, by simp only; omega, rfl, by simp, hC0, Nat.le_refl _, hF4⟩ ?_
    rintro ⟨j, ks, sk⟩ g z ⟨h9, hj, hjk, hks, hC, hzz, hfz2⟩
    simp only at h9 hj hjk hks hC
    rw [eq_upd h9]
    obtain ⟨ak, ck, rfl⟩ := hC.ok.slice
    by_cases hjm : (j : Int) < k / 24 % 4
    case neg =>
      refine rx ?_
      exact q_cut ⟨⟨3, nm, 0, 0, [], [], [], ks, numV 0⟩, _, ⟨rfl, rfl, rfl, rfl, rfl, rfl, rfl⟩, hC.blk, hC.row (by simp; omega), kN_g (by omega) (by simp [InI64]) (by simp [InI64]) hnm100 (by simp) (by simp) (by simp) hks (by omega) (by simp), hfz2⟩
    have hbz := hC.blk
    refine rx ?_
    (refine u_begin 9 (fun y => True ∧ Blk y xb (nc ⟨3, nm, 0, 0, [], [], [], [], numV 0⟩ (.slice none 0 0) (.slice none 0 0) (.slice none 0 0) (.slice ak ks.length ck) (.slice none 0 0)) 36) (by kernel_rfl) rfl ?_)
    have hE0 : Fr [] z z.drew := Fr.drew _ _
    have hS0 : True ∧ Blk z.drew xb (nc ⟨3, nm, 0, 0, [], [], [], [], numV 0⟩ (.slice none 0 0) (.slice none 0 0) (.slice none 0 0) (.slice ak ks.length ck) (.slice none 0 0)) 36 := ⟨trivial, hbz.tr0 hE0⟩
    ((refine u_tx 0 hS0 ?_); (refine u_tx 1 hS0 ?_); (refine u_tx 2 hS0 ?_); (refine u_tx 3 hS0 ?_); (refine u_tx 4 hS0 ?_))
    (refine u_one (i := 5) rfl (by kernel_rfl) ?_)
    refine s_call (kidP _ l i j z.drew ((hx.tr0 (hfz.trans0 hfz2)).tr0 hE0) hl (by omega) (by omega)) rfl ?_
    rintro _ _ ⟨r, rfl, hr2, rfl⟩
    refine ⟨_, rfl, ?_⟩
    refine wpList_nil (q_uh hS0 ?_)
    (refine u_one (i := 6) rfl (by kernel_rfl) ?_)
    ((with_reducible apply s_build1); (conv => lhs; whnf); exact rfl)
    intro z6 hs6 hf6 hz6
    have hE1 := hE0.trans0 hf6
    refine wpList_nil (q_uh ⟨trivial, hbz.tr0 hE1⟩ ?_)
    (refine u_one (i := 7) rfl (by kernel_rfl) ?_)
    refine s_append (hC.ok.tr0 hE1) rfl hs6.src rfl rfl (by simp [Value.oneCell']) (by unfold maxLen; omega) (by omega) (fun v' z7 hO7 hf7 hk7 hn7 => ?_)
    have hbz7 := (hbz.tr0 hE1).tr hf7 (fun h => by have := hC.nk _ h; omega)
    have ho7' := hO7.one
    refine wpList_nil (q_uh ⟨trivial, hbz7⟩ ?_)
    ((refine u_tx 8 (⟨trivial, hbz7⟩) ?_))
    (refine u_one (i := 9) rfl (by kernel_rfl) ?_)
    ((with_reducible apply s_storeB); exact rfl; (conv => lhs; whnf); exact ho7'; exact hbz7; exact rfl)
    intro z8 hb8 hf8 hs8
    have hC8 := hC.setK hbxl4 hzz hE1 hO7 hf7 hk7 hb8 hf8
    have hfz8 : Fr [] z0 z8 := ((hfz2.trans0 hE1).trans hf7 (fun b hb => .inr (by have := hC.nk b hb; omega))).trans hf8 (by simp; omega)
    have hzz8 : y4.heap.size ≤ z8.heap.size := by have := hE1.size; have := hf7.size; omega
    refine wpList_nil (q_ue ?_)
    (refine u_done (by kernel_rfl) ?_)
    refine rx ?_
    refine q_roundK (j + 1, ks ++ [r], v') (by (repeat (first | exact Keep.mrg _ _ _ _ | (refine Keep.hi rfl ?_) | (refine Keep.one rfl ?_) | exact Keep.all rfl | (refine Keep.inn rfl ?_) | (refine Keep.set rfl ?_)))) ⟨rfl, by simp only; omega, by simp [hjk], fun q hq => ?_, hC8, hzz8, hfz8⟩ (by simp only; omega)
    rcases List.mem_append.1 hq with h | h
    · exact hks q h
    · simp at h; subst h; omega
  have c4 : kk = 4 := by omega
  subst c4
  have hbt2 := hbt.tr0 hfy2
  have hO2' := ownTurnR (S3 := [xb, tb, rb]) ndStab hO hfy2 (by simp) (by simp) (fun b hb => by
    rcases List.mem_cons.1 hb with rfl | h
    · right; omega
    · exact .inl h)
  have hns2 : NS y2 [xb, tb, rb] t (.slice an i cn) := by
    obtain ⟨ys, how, hrw⟩ := hO2'
    refine ⟨ys, how.src, fun ad m c e hp hm => ?_, hrw.imp fun y cs _ h => ndStab.mono h (fun b hb => .inl (by simp at hb ⊢; simp [hb]))⟩
    injection e with e1 _ _
    subst e1
    have h1 := hfr ad.block (by simp [blks, Value.ownBlock])
    have h2 := hO.lt ad.block (by simp [blks, Value.ownBlock])
    simp at hm
    omega
  refine rx ?_
  refine s_call (bindP t hval (fun y hy => (hgs y hy).ok) (fun y hy => (hgs y hy).e) i hti (by omega) k (by omega) l hl [xb, tb, rb] _ _ y2 hns2 ((hx.tr0 hfz).tr0 hfy2) (by simp; omega)) rfl ?_
  rintro _ y3 ⟨yn, cs, rfl, hnr, hng, hf3'⟩
  refine ⟨_, rfl, ?_⟩
  refine s_storeAggB (cs := cs) rfl rfl (hby2.tr0 hf3') (fun c hc => ndStab.one hnr c hc) rfl (ndStab.len hnr) (fun y4 hb4 hf4 hs4 => ?_)
  refine rx ?_
  exact q_cut ⟨yn, cs, ⟨rfl, rfl, rfl, rfl, rfl, rfl, rfl⟩, hb4, ndStab.tr hnr (hf4.mono (by simp)), hng, (hfy2.trans0 hf3').trans hf4 (by simp; omega)⟩
end Go.Proofs.YtpochcchekoonaaGreat
