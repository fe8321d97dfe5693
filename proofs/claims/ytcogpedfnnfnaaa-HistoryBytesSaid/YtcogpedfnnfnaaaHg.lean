/-
  The generator of histories (refuterref28.History).
-/
import Derived.Test.YtcogpedfnnfnaaaHm
namespace Go.Proofs.Ytcogpedfnnfnaaa
open Go.Rf Go.RowKit
set_option linter.unusedVariables false
set_option maxHeartbeats 4000000
attribute [local irreducible] Code.wp wpList Exit.then Exit.inBlock bodyPost A Calls execOp Addr.add

def V0 : V := ⟨0, 0, ⟨#[]⟩, []⟩
def vN (n : Int) : V := ⟨0, n, ⟨#[]⟩, []⟩
def nms : List ByteArray := [⟨#[112, 117, 116]⟩, ⟨#[103, 101, 116]⟩, ⟨#[97, 100, 100]⟩]
def evCrash : Ev := ⟨2, 0, ⟨#[]⟩, [], V0⟩
def evEnd (k : Int) : Ev := ⟨1, k % 4, ⟨#[]⟩, [], vN (k / 52 % 3)⟩
def evBeg (k : Int) : Ev := ⟨0, k % 4, nms.getD (k / 52 % 3).toNat ⟨#[]⟩, if k / 156 % 2 = 0 then [vN (k / 312 % 3)] else [], V0⟩
def genStep (l : List Int) (st : List Ev × Nat) (i : Nat) : List Ev × Nat :=
  let k := pk l i 1000000
  if k / 4 % 13 = 0 then (st.1 ++ [evCrash], st.2)
  else if 0 ≤ opn st.1 (k % 4) st.1.length then (st.1 ++ [evEnd k], st.2)
  else if st.2 < 16 then (st.1 ++ [evBeg k], st.2 + 1) else st
def genN (l : List Int) : Nat → List Ev × Nat
  | 0 => ([], 0)
  | i + 1 => genStep l (genN l i) i
theorem genN_len (l : List Int) (i : Nat) : (genN l i).1.length ≤ i ∧ (genN l i).2 ≤ 16 := by
  induction i with
  | zero => simp [genN]
  | succ i ih =>
    simp only [genN, genStep]
    (repeat' split) <;> (try simp) <;> omega
theorem pk_range {l : List Int} {i m : Int} (hm : 0 < m) : 0 ≤ pk l i m ∧ pk l i m < m := by
  unfold pk
  split
  · omega
  · exact arnd_range hm

theorem ec_row {w : World} {S : List Nat} (e : Ev) {sa sr : Value} (h1 : VS w S e.args sa) (h2 : VS w S e.res.kids sr) : EvR w S e (ec e sa sr) := ⟨sa, sr, rfl, h1, h2⟩

theorem historyC (x : Value) (l : List Int) (m : Nat) (w : World) (hx : Src w x l.length (l.map (.int .i64))) (hl : ∀ n ∈ l, InI64 n) (hm : m ≤ 1000) :
    Calls Try.prog 11 #[x, .int .i64 m] w fun e w' => ∃ v', e = .returned v' ∧ OwnR w' 46 8 EvR (genN l m).1 v' ∧ (∀ k ∈ blks v', w.heap.size ≤ k) ∧ Fr [] w w' := by
  refine enter Try.func11 rfl Try.ntmps11 rfl ?_
  refine rx ?_
  refine c_loopK 12 [5, 6, 7, 8, 9, 10, 11] (σ := Nat × Value) (fun st g u => g 5 = st.2 ∧ g 6 = .int .i64 (genN l st.1).2 ∧ g 7 = .int .i64 st.1 ∧ st.1 ≤ m ∧ OwnR u 46 8 EvR (genN l st.1).1 st.2 ∧ (∀ k ∈ blks st.2, w.heap.size ≤ k) ∧ Fr [] w u)
    (fun st => m - st.1) (0, .slice none 0 0) ⟨rfl, rfl, rfl, Nat.zero_le _, OwnR.nil _ _ _ _, by simp [blks, Value.ownBlock], Fr.refl _ _⟩ ?_
  rintro ⟨i, v⟩ g u ⟨h5, h6, h7, hi, ho, hk, hf⟩
  simp only at h5 h6 h7 hi ho hk
  rw [eq_upd h5, eq_upd h6, eq_upd h7]
  by_cases hlt : i < m
  case neg =>
    refine rx ?_
    (apply ret1; exact rfl; (conv => lhs; whnf))
    have : i = m := by omega
    subst this
    exact ⟨_, rfl, ho, hk, hf⟩
  obtain ⟨gl, gb⟩ := genN_len l i
  obtain ⟨av, cv, hv⟩ := ho.slice
  refine rx ?_
  refine s_call (pick x l i 1000000 u (hx.tr0 hf) hl (by omega)) rfl ?_
  rintro _ _ ⟨rfl, rfl⟩
  refine ⟨_, rfl, ?_⟩
  have hp := pk_range (l := l) (i := (i : Int)) (m := 1000000) (by omega)
  have hnext : genN l (i + 1) = genStep l (genN l i) i := rfl
  unfold genStep at hnext
  simp only at hnext
  generalize pk l i 1000000 = k at hp hnext
  have hsz := hf.size
  subst hv
  refine rx ?_
  refine s_call (opnC (genN l i).1 _ (k % 4) (genN l i).1.length u (ho.sl evStab) (Nat.le_refl _) (by omega)) rfl ?_
  rintro _ _ ⟨rfl, rfl⟩
  refine ⟨_, rfl, ?_⟩
  have fin : ∀ (e : Ev) (v' : Value) (u' : World), OwnR u' 46 8 EvR ((genN l i).1 ++ [e]) v' → (∀ b ∈ blks v', b ∈ blks (.slice av (genN l i).1.length cv) ∨ u.heap.size ≤ b) → (genN l (i + 1)).1 = (genN l i).1 ++ [e] →
      OwnR u' 46 8 EvR (genN l (i + 1)).1 v' ∧ (∀ k ∈ blks v', w.heap.size ≤ k) := fun e v' u' h1 h2 h3 => ⟨by rw [h3]; exact h1, fun b hb => by
        rcases h2 b hb with h | h
        · exact hk b h
        · omega⟩
  by_cases c1 : k / 4 % 13 = 0
  · rw [if_pos c1] at hnext
    refine rx ?_
    refine s_build (ec evCrash (.slice none 0 0) (.slice none 0 0)) rfl ?_
    refine s_pushA (a := evCrash) (cs := ec evCrash (.slice none 0 0) (.slice none 0 0)) ho evStab rfl rfl rfl (ec_row evCrash (VS.nil _ _) (VS.nil _ _)) rfl rfl rfl (by unfold maxLen; omega) (by omega) (fun v' u' ho' hf' hk' => ?_)
    refine rx ?_
    have hfin := fin evCrash v' u' ho' hk' (by rw [hnext])
    exact q_roundK (i + 1, v') (by (repeat (first | exact Keep.mrg _ _ _ _ | (refine Keep.hi rfl ?_) | (refine Keep.one rfl ?_) | exact Keep.all rfl | (refine Keep.inn rfl ?_) | (refine Keep.set rfl ?_)))) ⟨rfl, by rw [hnext]; rfl, rfl, by simp only; omega, hfin.1, hfin.2, hf.trans hf' (fun b hb => .inr (hk b hb))⟩ (by simp only; omega)
  rw [if_neg c1] at hnext
  by_cases c2 : 0 ≤ opn (genN l i).1 (k % 4) (genN l i).1.length
  · rw [if_pos c2] at hnext
    refine rx ?_
    refine s_build (vc (vN (k / 52 % 3)) (.slice none 0 0)) rfl ?_
    refine s_build (ec (evEnd k) (.slice none 0 0) (.slice none 0 0)) rfl ?_
    refine s_pushA (a := evEnd k) (cs := ec (evEnd k) (.slice none 0 0) (.slice none 0 0)) ho evStab rfl rfl rfl (ec_row (evEnd k) (VS.nil _ _) (VS.nil _ _)) rfl rfl rfl (by unfold maxLen; omega) (by omega) (fun v' u' ho' hf' hk' => ?_)
    refine rx ?_
    have hfin := fin (evEnd k) v' u' ho' hk' (by rw [hnext])
    exact q_roundK (i + 1, v') (by (repeat (first | exact Keep.mrg _ _ _ _ | (refine Keep.hi rfl ?_) | (refine Keep.one rfl ?_) | exact Keep.all rfl | (refine Keep.inn rfl ?_) | (refine Keep.set rfl ?_)))) ⟨rfl, by rw [hnext]; rfl, rfl, by simp only; omega, hfin.1, hfin.2, hf.trans hf' (fun b hb => .inr (hk b hb))⟩ (by simp only; omega)
  rw [if_neg c2] at hnext
  by_cases c3 : (genN l i).2 < 16
  case neg =>
    rw [if_neg c3] at hnext
    refine rx ?_
    exact q_roundK (i + 1, _) (by (repeat (first | exact Keep.mrg _ _ _ _ | (refine Keep.hi rfl ?_) | (refine Keep.one rfl ?_) | exact Keep.all rfl | (refine Keep.inn rfl ?_) | (refine Keep.set rfl ?_)))) ⟨rfl, by rw [hnext]; rfl, rfl, by simp only; omega, by rw [hnext]; exact ho, hk, hf⟩ (by simp only; omega)
  rw [if_pos c3] at hnext
  obtain ⟨j, hj⟩ : ∃ j : Nat, k / 52 % 3 = (j : Int) := ⟨(k / 52 % 3).toNat, by omega⟩
  have hj3 : j < 3 := by omega
  obtain ⟨nm, hnm⟩ : ∃ nm, nms[j]? = some nm := ⟨_, List.getElem?_eq_getElem (by simpa [nms] using hj3)⟩
  have hbeg : evBeg k = ⟨0, k % 4, nm, if k / 156 % 2 = 0 then [vN (k / 312 % 3)] else [], V0⟩ := by
    unfold evBeg
    rw [hj, Int.toNat_natCast, List.getD, hnm]; rfl
  refine rx ?_
  refine s_buildS (nms.map .string) rfl rfl rfl rfl (fun u1 ho1 hf1 hs1 => ?_)
  have hcell := src_cell (j := j) (u := .string nm) ho1.src (by rw [List.getElem?_map, hnm]; rfl)
  refine rx ?_
  rw [hj]
  refine s_index1 rfl rfl rfl hj3 rfl ?_
  refine s_load rfl hcell ?_
  refine s_build (ec ⟨0, k % 4, nm, [], V0⟩ (.slice none 0 0) (.slice none 0 0)) rfl ?_
  refine s_alloc rfl (fun u2 hb2 hf2 hs2 => ?_)
  refine s_storeAggB rfl rfl hb2 (by intro c hc; simp only [ec, List.mem_cons, List.not_mem_nil, or_false] at hc; rcases hc with rfl | rfl | rfl | rfl | rfl | rfl | rfl | rfl <;> rfl) rfl rfl (fun u3 hb3 hf3 hs3 => ?_)
  have hF3 : Fr [] u u3 := (hf1.trans0 hf2).trans hf3 (by simp; omega)
  have ho3 := ho.tr0 evStab hF3
  have hlt0 := ho.lt
  have hs3' := hF3.size
  by_cases c4 : k / 156 % 2 = 0
  · have hargs : (evBeg k).args = [vN (k / 312 % 3)] := by rw [hbeg, if_pos c4]
    refine rx ?_
    refine s_build (vc (vN (k / 312 % 3)) (.slice none 0 0)) rfl ?_
    refine s_pushA (R := VR) (l := []) (a := vN (k / 312 % 3)) (cs := vc (vN (k / 312 % 3)) (.slice none 0 0)) (OwnR.nil _ _ _ _) vrStab rfl rfl rfl ⟨_, rfl, VS.nil _ _⟩ rfl rfl rfl (by unfold maxLen; simp) (by simp) (fun va u4 ho4 hf4 hk4 => ?_)
    obtain ⟨aa, ca, hva⟩ := ho4.slice
    have hf4' : Fr [] u3 u4 := hf4.mono (by simp [blks, Value.ownBlock])
    have hk4' : ∀ b ∈ blks va, u3.heap.size ≤ b := fun b hb => by
      rcases hk4 b hb with h | h
      · simp [blks, Value.ownBlock] at h
      · exact h
    have hvs : ∀ S, (∀ b ∈ S, b < u3.heap.size) → VS u4 S [vN (k / 312 % 3)] va := fun S hS => OwnR.vs ho4 (by simp) (fun b hb hm => by have := hk4' b hb; have := hS b hm; omega) (by
      intro x cs hx hr
      simp at hx
      subst hx
      obtain ⟨sl, rfl, h⟩ := hr
      exact ⟨sl, rfl, by
        obtain ⟨a', c', rfl, hc'⟩ := h.slice
        exact VS.empty (fun e => by
          cases h with
          | mk sls ys h0 h1 h2 h3 h4 h5 =>
            obtain ⟨ao', c'', e', _, hn, _⟩ := h3
            simp only [Value.slice.injEq] at e'
            rw [e'.2.2]; exact (hn (by rw [← e'.1]; exact e)).2.1)⟩)
    subst hva
    have hb4 := hb3.tr0 hf4'
    refine rx ?_
    ((with_reducible apply s_storeB); exact rfl; (conv => lhs; whnf); exact rfl; exact hb4; exact rfl)
    intro u5 hb5 hf5 hs5
    have hb5' : Blk u5 u1.heap.size (ec (evBeg k) (.slice aa 1 ca) (.slice none 0 0)) 46 := by rw [hbeg]; exact hb5
    have hF5 : Fr [] u u5 := (hF3.trans0 hf4').trans hf5 (by simp; omega)
    have hv5 : VS u5 (blks (.slice av (genN l i).1.length cv)) (evBeg k).args (.slice aa 1 ca) := by
      rw [hargs]
      have h1 := hvs (blks (.slice av (genN l i).1.length cv) ++ [u1.heap.size]) (by
        intro b hb
        rcases List.mem_append.1 hb with h | h
        · have := hlt0 b h; omega
        · simp at h; omega)
      exact (h1.tr (hf5.mono (by simp))).mono (fun b hb => .inl (by simp [hb]))
    refine rx ?_
    refine s_pushA (a := evBeg k) (cs := ec (evBeg k) (.slice aa 1 ca) (.slice none 0 0)) (ho.tr0 evStab hF5) evStab rfl rfl rfl (ec_row (evBeg k) hv5 (VS.nil _ _)) rfl rfl rfl (by unfold maxLen; omega) (by omega) (fun v' u' ho' hf' hk' => ?_)
    refine rx ?_
    have hszF := hF5.size
    have hfin := fin (evBeg k) v' u' ho' (fun b hb => by
      rcases hk' b hb with h | h
      · exact .inl h
      · right; omega) (by rw [hnext])
    exact q_roundK (i + 1, v') (by (repeat (first | exact Keep.mrg _ _ _ _ | (refine Keep.hi rfl ?_) | (refine Keep.one rfl ?_) | exact Keep.all rfl | (refine Keep.inn rfl ?_) | (refine Keep.set rfl ?_)))) ⟨rfl, by rw [hnext]; rfl, rfl, by simp only; omega, hfin.1, hfin.2, (hf.trans0 hF5).trans hf' (fun b hb => .inr (hk b hb))⟩ (by simp only; omega)
  · have hargs : (evBeg k).args = [] := by rw [hbeg, if_neg c4]
    have hb5' : Blk u3 u1.heap.size (ec (evBeg k) (.slice none 0 0) (.slice none 0 0)) 46 := by rw [hbeg]; exact hb3
    have hv5 : VS u3 (blks (.slice av (genN l i).1.length cv)) (evBeg k).args (.slice none 0 0) := by rw [hargs]; exact VS.nil _ _
    clear hb3
    refine rx ?_
    refine s_pushA (a := evBeg k) (cs := ec (evBeg k) (.slice none 0 0) (.slice none 0 0)) ho3 evStab rfl rfl rfl (ec_row (evBeg k) hv5 (VS.nil _ _)) rfl rfl rfl (by unfold maxLen; omega) (by omega) (fun v' u' ho' hf' hk' => ?_)
    refine rx ?_
    have hfin := fin (evBeg k) v' u' ho' (fun b hb => by
      rcases hk' b hb with h | h
      · exact .inl h
      · right; omega) (by rw [hnext])
    exact q_roundK (i + 1, v') (by (repeat (first | exact Keep.mrg _ _ _ _ | (refine Keep.hi rfl ?_) | (refine Keep.one rfl ?_) | exact Keep.all rfl | (refine Keep.inn rfl ?_) | (refine Keep.set rfl ?_)))) ⟨rfl, by rw [hnext]; rfl, rfl, by simp only; omega, hfin.1, hfin.2, (hf.trans0 hF3).trans hf' (fun b hb => .inr (hk b hb))⟩ (by simp only; omega)
end Go.Proofs.Ytcogpedfnnfnaaa
