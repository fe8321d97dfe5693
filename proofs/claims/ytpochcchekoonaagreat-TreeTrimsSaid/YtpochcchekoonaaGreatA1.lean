/-
  Choice trees: nodes, how they lie in memory. The reference of trees: unused, Capital, numbers, formed.
-/
import Derived.Test.YtpochcchekoonaaGreatK3
import Derived.Test.YtpochcchekoonaaGreatK2
import Derived.Test.YtpochcchekoonaaGreatRf1
namespace Go.Proofs.YtpochcchekoonaaGreat
open Go.Rf Go.RowKit
set_option linter.unusedVariables false
attribute [local irreducible] Code.wp wpList Exit.then Exit.inBlock bodyPost A Calls execOp Addr.add

/-! ### readable slices of plain things -/
def Ls {α : Type} (c : α → Value) (w : World) (S : List Nat) (l : List α) (sl : Value) : Prop := Src w sl l.length (l.map c) ∧ Off sl (l.map c) S
section
variable {α : Type} {c : α → Value} {w w' : World} {S T : List Nat} {l : List α} {sl : Value}
theorem Ls.slice (h : Ls c w S l sl) : ∃ ao k, sl = .slice ao l.length k ∧ l.length ≤ k := by obtain ⟨⟨ao, k, rfl, hk, _⟩, _⟩ := h; exact ⟨ao, k, rfl, hk⟩
theorem Ls.one (h : Ls c w S l sl) : sl.oneCell' = true := by obtain ⟨ao, k, rfl, _⟩ := h.slice; rfl
theorem Ls.tr (h : Ls c w S l sl) (hf : Fr S w w') : Ls c w' S l sl := ⟨h.1.tr hf h.2, h.2⟩
theorem Ls.mono (h : Ls c w S l sl) (hT : ∀ k ∈ T, k ∈ S ∨ w.heap.size ≤ k) : Ls c w T l sl := ⟨h.1, Off.mono h.1 h.2 hT⟩
theorem Ls.nil : Ls c w S [] (.slice none 0 0) := ⟨Src.nil w, fun _ _ _ e => by cases e⟩
theorem Ls.ofSrc (h : Src w sl l.length (l.map c)) : Ls c w [] l sl := ⟨h, fun _ _ _ _ _ => by simp⟩
theorem Ls.old (h : Ls c w S l sl) (hf : Fr T w w') (hT : ∀ k ∈ T, k ∈ S ∨ w.heap.size ≤ k) : Ls c w' S l sl := by
  have h2 : Fr (S ++ T) w w' := hf.mono (fun x hx => .inl (by simp [hx]))
  have h3 := (h.mono (T := S ++ T) (fun k hk => by
    rcases List.mem_append.1 hk with hk | hk
    · exact .inl hk
    · exact hT k hk)).tr h2
  exact ⟨h3.1, fun ad n k e hl hS => h3.2 ad n k e hl (by simp [hS])⟩
theorem Ls.tr0 (h : Ls c w S l sl) (hf : Fr [] w w') : Ls c w' S l sl := h.old hf (by simp)
theorem Ls.at {ao : Option Addr} {m k : Nat} (h : Ls c w S l (.slice ao m k)) {i : Nat} (hi : i < l.length) : ∃ ad, ao = some ad ∧ w.cell? (ad.add i) = some (c l[i]) := by
  have hl : l.length = m := by obtain ⟨ao', k', e, _⟩ := h.slice; simp only [Value.slice.injEq] at e; exact e.2.1.symm
  have h1 := h.1
  rw [hl] at h1
  exact src_at h1 (by simp [hi])
end
abbrev IS := Ls (Value.int .i64)
abbrev TS := Ls Value.string

structure Nd where
  kind : Int
  name : ByteArray
  lo : Int
  hi : Int
  ws : List Int
  labs : List ByteArray
  vals : List V
  kids : List Int
  val : V
def nc (x : Nd) (sw sl sv sk sx : Value) : List Value :=
  [.int .i64 x.kind, .string x.name, .int .i64 x.lo, .int .i64 x.hi, sw, sl, sv, sk, .int .i64 x.val.kind, .int .i64 x.val.n, .string x.val.s, sx]
def NdR (w : World) (S : List Nat) (x : Nd) (cs : List Value) : Prop :=
  ∃ sw sl sv sk sx, cs = nc x sw sl sv sk sx ∧ IS w S x.ws sw ∧ TS w S x.labs sl ∧ VS w S x.vals sv ∧ IS w S x.kids sk ∧ VS w S x.val.kids sx
theorem ndStab : Stab NdR 12 where
  tr := by rintro w w' S x cs ⟨a, b, c, d, e, rfl, h1, h2, h3, h4, h5⟩ hf; exact ⟨a, b, c, d, e, rfl, h1.tr hf, h2.tr hf, h3.tr hf, h4.tr hf, h5.tr hf⟩
  mono := by rintro w S T x cs ⟨a, b, c, d, e, rfl, h1, h2, h3, h4, h5⟩ hT; exact ⟨a, b, c, d, e, rfl, h1.mono hT, h2.mono hT, h3.mono hT, h4.mono hT, h5.mono hT⟩
  len := by rintro w S x cs ⟨a, b, c, d, e, rfl, _⟩; rfl
  one := by
    rintro w S x cs ⟨a, b, c, d, e, rfl, h1, h2, h3, h4, h5⟩ u hu
    simp only [nc, List.mem_cons, List.not_mem_nil, or_false] at hu
    rcases hu with rfl | rfl | rfl | rfl | rfl | rfl | rfl | rfl | rfl | rfl | rfl | rfl
    all_goals first | rfl | exact h1.one | exact h2.one | exact h3.one | exact h4.one | exact h5.one
theorem ndLen {w : World} {S : List Nat} : ∀ x cs, NdR w S x cs → cs.length = 12 := fun x cs h => ndStab.len h
/-- a readable slice of nodes -/
def NS (w : World) (S : List Nat) (l : List Nd) (sl : Value) : Prop := Sl w S (NdR w S) l sl
section
variable {w w' : World} {S T : List Nat} {l : List Nd} {sl : Value}
theorem NS.tr (h : NS w S l sl) (hf : Fr S w w') : NS w' S l sl := (Sl.tr h hf).imp fun x cs _ hr => ndStab.tr hr hf
theorem NS.mono (h : NS w S l sl) (hT : ∀ k ∈ T, k ∈ S ∨ w.heap.size ≤ k) : NS w T l sl := (Sl.mono h hT).imp fun x cs _ hr => ndStab.mono hr hT
theorem NS.old (h : NS w S l sl) (hf : Fr T w w') (hT : ∀ k ∈ T, k ∈ S ∨ w.heap.size ≤ k) : NS w' S l sl := by
  have h2 : Fr (S ++ T) w w' := hf.mono (fun x hx => .inl (by simp [hx]))
  have h3 := (h.mono (T := S ++ T) (fun k hk => by
    rcases List.mem_append.1 hk with hk | hk
    · exact .inl hk
    · exact hT k hk)).tr h2
  exact h3.mono (fun k hk => .inl (by simp [hk]))
theorem NS.tr0 (h : NS w S l sl) (hf : Fr [] w w') : NS w' S l sl := h.old hf (by simp)
theorem NS.slice (h : NS w S l sl) : ∃ ao c, sl = .slice ao l.length c ∧ l.length ≤ c := Sl.slice h
end

/-! ### what the walks need of the sizes -/
structure NdOk (x : Nd) : Prop where
  kind : InI64 x.kind
  name : x.name.size ≤ 1000000000000
  lo : InI64 x.lo
  hi : InI64 x.hi
  ws : ∀ n ∈ x.ws, InI64 n
  kids : ∀ n ∈ x.kids, InI64 n
  lw : x.ws.length ≤ 1000000
  ll : x.labs.length ≤ 1000000
  lv : x.vals.length ≤ 1000000
  lk : x.kids.length ≤ 1000000
  vals : ∀ v ∈ x.vals, VNm v ∧ vsz v ≤ 10000000
  val : VNm x.val ∧ vsz x.val ≤ 10000000

def unusedN (x : Nd) : Bool := decide (¬ (x.kind ≠ 0 ∧ zeroV x.val = false) ∧ ¬ (x.kind ≠ 1 ∧ (x.lo ≠ 0 ∨ x.hi ≠ 0)) ∧ ¬ (x.kind ≠ 3 ∧ x.name ≠ ⟨#[]⟩) ∧
  ¬ (x.kind ≠ 2 ∧ (0 < x.ws.length ∨ 0 < x.labs.length)) ∧ ¬ (x.kind ≠ 4 ∧ 0 < x.vals.length) ∧ (x.kind ≠ 0 ∧ x.kind ≠ 1 ∨ x.kids.length = 0))
end Go.Proofs.YtpochcchekoonaaGreat
namespace Go.Proofs.YtpochcchekoonaaGreat
open Go.Rf Go.RowKit
set_option linter.unusedVariables false
set_option linter.unusedSimpArgs false
attribute [local irreducible] Code.wp wpList Exit.then Exit.inBlock bodyPost A Calls execOp Addr.add

set_option maxHeartbeats 4000000 in
theorem capital14 (s : ByteArray) (w : World) (hs : s.size ≤ 1000000000000) : Calls Tryz.prog 133 #[.string s] w fun e w' => e = .returned (.bool (capB s.data.toList)) ∧ w = w' := by
  refine enter Tryz.func133 rfl Tryz.ntmps133 rfl ?_
  have hlen : s.data.toList.length = s.size := by simp
  rcases hl : s.data.toList with _ | ⟨c, r⟩
  · have e : s.size = 0 := by rw [← hlen, hl]; rfl
    refine rx ?_
    (apply ret1; exact rfl; (conv => lhs; whnf))
    exact ⟨rfl, rfl⟩
  have hsz : s.size = r.length + 1 := by rw [← hlen, hl]; simp
  have h0 : s.data.toList[0]? = some c := by rw [hl]; rfl
  refine rx ?_
  refine s_gtr rfl rfl (fun h => ?_) (fun h => ?_)
  · refine rx ?_
    (apply ret1; exact rfl; (conv => lhs; whnf))
    refine ⟨?_, rfl⟩
    have : ¬ r.length ≤ 15 := by omega
    simp [capB, this]
  have h15 : r.length ≤ 15 := by omega
  refine rx ?_
  refine s_indexStr (j := 0) rfl rfl h0 ?_
  refine rx ?_
  refine s_lss rfl rfl (fun h => ?_) (fun h => ?_)
  · refine rx ?_
    (apply ret1; exact rfl; (conv => lhs; whnf))
    refine ⟨?_, rfl⟩
    have : ¬ 65 ≤ c.toNat := by omega
    simp [capB, this]
  have h65 : 65 ≤ c.toNat := by omega
  refine rx ?_
  refine s_indexStr (j := 0) rfl rfl h0 ?_
  refine rx ?_
  refine s_gtr rfl rfl (fun h => ?_) (fun h => ?_)
  · refine rx ?_
    (apply ret1; exact rfl; (conv => lhs; whnf))
    refine ⟨?_, rfl⟩
    have : ¬ c.toNat ≤ 90 := by omega
    simp [capB, this]
  have h90 : c.toNat ≤ 90 := by omega
  refine rx ?_
  have hcin : inNm c = true := by unfold inNm; exact decide_eq_true (by omega)
  have hc0 : capB (c :: r) = (s.data.toList.drop 0).all inNm := by rw [hl]; simp [capB, h15, h65, h90, hcin]
  refine c_loopK 5 [3, 4] (σ := Nat) (fun i g u => g 3 = .int .i64 i ∧ i ≤ s.size ∧ capB (c :: r) = (s.data.toList.drop i).all inNm ∧ w = u) (fun i => s.size - i) 0 ⟨rfl, by omega, hc0, rfl⟩ ?_
  rintro i g u ⟨h3, hi, hc, rfl⟩
  rw [eq_upd h3]
  by_cases hlt : i < s.size
  case neg =>
    refine rx ?_
    (apply ret1; exact rfl; (conv => lhs; whnf))
    refine ⟨?_, rfl⟩
    rw [hc, List.drop_eq_nil_of_le (by rw [hlen]; omega)]; rfl
  have hlt' : i < s.data.toList.length := by rw [hlen]; exact hlt
  rw [all_drop hlt'] at hc
  refine rx ?_
  refine s_indexStr (j := i) (b := s.data.toList[i]) rfl rfl (by rw [List.getElem?_eq_getElem hlt']) ?_
  generalize s.data.toList[i] = b at hc
  rcases hq : inNm b with _ | _
  · have hq' : ¬ (97 ≤ b.toNat ∧ b.toNat ≤ 122 ∨ 65 ≤ b.toNat ∧ b.toNat ≤ 90 ∨ 48 ≤ b.toNat ∧ b.toNat ≤ 57 ∨ b.toNat = 95) := of_decide_eq_false hq
    (refine rx ?_; repeat' ((first | refine s_eql rfl rfl (fun h => ?_) (fun h => ?_) | refine s_neq rfl rfl (fun h => ?_) (fun h => ?_) | refine s_lss rfl rfl (fun h => ?_) (fun h => ?_) | refine s_leq rfl rfl (fun h => ?_) (fun h => ?_) | refine s_gtr rfl rfl (fun h => ?_) (fun h => ?_) | refine s_geq rfl rfl (fun h => ?_) (fun h => ?_) | refine s_eqlE rfl rfl (fun h => ?_) (fun h => ?_) | refine s_neqE rfl rfl (fun h => ?_) (fun h => ?_) | refine s_lssS rfl rfl (fun h => ?_) (fun h => ?_) | refine s_gtrS rfl rfl (fun h => ?_) (fun h => ?_)) <;> refine rx ?_))
    all_goals
      (apply ret1; exact rfl; (conv => lhs; whnf))
      exact ⟨by rw [hc, hq]; rfl, rfl⟩
  · have hq' : 97 ≤ b.toNat ∧ b.toNat ≤ 122 ∨ 65 ≤ b.toNat ∧ b.toNat ≤ 90 ∨ 48 ≤ b.toNat ∧ b.toNat ≤ 57 ∨ b.toNat = 95 := of_decide_eq_true hq
    (refine rx ?_; repeat' ((first | refine s_eql rfl rfl (fun h => ?_) (fun h => ?_) | refine s_neq rfl rfl (fun h => ?_) (fun h => ?_) | refine s_lss rfl rfl (fun h => ?_) (fun h => ?_) | refine s_leq rfl rfl (fun h => ?_) (fun h => ?_) | refine s_gtr rfl rfl (fun h => ?_) (fun h => ?_) | refine s_geq rfl rfl (fun h => ?_) (fun h => ?_) | refine s_eqlE rfl rfl (fun h => ?_) (fun h => ?_) | refine s_neqE rfl rfl (fun h => ?_) (fun h => ?_) | refine s_lssS rfl rfl (fun h => ?_) (fun h => ?_) | refine s_gtrS rfl rfl (fun h => ?_) (fun h => ?_)) <;> refine rx ?_))
    all_goals
      exact q_roundK (i + 1) (by (repeat (first | exact Keep.mrg _ _ _ _ | (refine Keep.hi rfl ?_) | (refine Keep.one rfl ?_) | exact Keep.all rfl | (refine Keep.inn rfl ?_) | (refine Keep.set rfl ?_)))) ⟨rfl, by omega, (by rw [hc, hq]; simp), rfl⟩ (by omega)

set_option maxHeartbeats 8000000 in
theorem unusedC (x : Nd) (sw sl sv sk sx : Value) (w : World) (hw : IS w [] x.ws sw) (hl : TS w [] x.labs sl) (hv : VS w [] x.vals sv) (hk : IS w [] x.kids sk) (hx : VS w [] x.val.kids sx) :
    Calls Tryz.prog 132 #[.agg (nc x sw sl sv sk sx).toArray] w fun e w' => e = .returned (.bool (unusedN x)) ∧ Fr [] w w' := by
  obtain ⟨aw, cw, rfl, _⟩ := hw.slice
  obtain ⟨al, cl, rfl, _⟩ := hl.slice
  obtain ⟨av, cv, rfl, _⟩ := hv.slice
  obtain ⟨ak, ck, rfl, _⟩ := hk.slice
  obtain ⟨ax, cx, rfl, _⟩ := hx.slice
  refine enter Tryz.func132 rfl Tryz.ntmps132 rfl ?_
  refine rx ?_
  refine s_box rfl rfl (fun w1 hb1 hf1 hs1 => ?_)
  refine rx ?_
  refine s_alloc rfl (fun w2 hb2 hf2 hs2 => ?_)
  have hb1' := hb1.tr0 hf2
  refine s_storeAggB (cs := vc x.val (.slice ax x.val.kids.length cx)) rfl rfl hb2 ?_ rfl rfl (fun w3 hb3 hf3 hs3 => ?_)
  · intro u hu
    simp only [vc, List.mem_cons, List.not_mem_nil, or_false] at hu
    rcases hu with rfl | rfl | rfl | rfl <;> rfl
  have hb4 : Blk w3 w.heap.size (nc x (.slice aw x.ws.length cw) (.slice al x.labs.length cl) (.slice av x.vals.length cv) (.slice ak x.kids.length ck) (.slice ax x.val.kids.length cx)) 36 := hb1'.tr hf3 (by simp; omega)
  have hF : Fr [] w w3 := (hf1.trans0 hf2).trans hf3 (by simp; omega)
  clear hb1 hb1' hb2 hf1 hf2 hf3
  (refine rr ?_; refine wpList_nil ?_; refine q_then ?_; refine wp_seq ?_; refine c_cut (fun g u => g 1 = .pointer (some ⟨w.heap.size, 0, none⟩) ∧ g 4 = .bool (zeroV x.val) ∧ u = w3) ?_ ?_)
  · by_cases hs : x.val.s = ⟨#[]⟩
    all_goals
      (refine rx ?_; repeat' ((first | refine s_eql rfl rfl (fun h => ?_) (fun h => ?_) | refine s_neq rfl rfl (fun h => ?_) (fun h => ?_) | refine s_lss rfl rfl (fun h => ?_) (fun h => ?_) | refine s_leq rfl rfl (fun h => ?_) (fun h => ?_) | refine s_gtr rfl rfl (fun h => ?_) (fun h => ?_) | refine s_geq rfl rfl (fun h => ?_) (fun h => ?_) | refine s_eqlE rfl rfl (fun h => ?_) (fun h => ?_) | refine s_neqE rfl rfl (fun h => ?_) (fun h => ?_) | refine s_lssS rfl rfl (fun h => ?_) (fun h => ?_) | refine s_gtrS rfl rfl (fun h => ?_) (fun h => ?_)) <;> refine rx ?_))
      all_goals
        refine q_cut ⟨rfl, ?_, rfl⟩
        refine congrArg Value.bool ?_
        unfold zeroV
        first
        | exact (decide_eq_true ⟨by omega, by omega, hs, by omega⟩).symm
        | exact (decide_eq_false (fun ⟨a, b, c, d⟩ => by first | exact hs c | omega)).symm
  rintro g u ⟨q1, q4, rfl⟩
  rw [eq_upd q1, eq_upd q4]
  unfold unusedN
  rcases hz : zeroV x.val with _ | _
  all_goals
    by_cases hn : x.name = ⟨#[]⟩
    all_goals
      simp only [hn, ne_eq, not_true_eq_false, not_false_eq_true, and_true, and_false, true_and, Bool.true_eq_false, Bool.false_eq_true]
      (refine rx ?_; repeat' ((first | refine s_eql rfl rfl (fun h => ?_) (fun h => ?_) | refine s_neq rfl rfl (fun h => ?_) (fun h => ?_) | refine s_lss rfl rfl (fun h => ?_) (fun h => ?_) | refine s_leq rfl rfl (fun h => ?_) (fun h => ?_) | refine s_gtr rfl rfl (fun h => ?_) (fun h => ?_) | refine s_geq rfl rfl (fun h => ?_) (fun h => ?_) | refine s_eqlE rfl rfl (fun h => ?_) (fun h => ?_) | refine s_neqE rfl rfl (fun h => ?_) (fun h => ?_) | refine s_lssS rfl rfl (fun h => ?_) (fun h => ?_) | refine s_gtrS rfl rfl (fun h => ?_) (fun h => ?_)) <;> refine rx ?_))
      all_goals
        (apply ret1; exact rfl; (conv => lhs; whnf))
        refine ⟨congrArg (fun b => Ending.returned (.bool b)) ?_, hF⟩
        first
        | exact (decide_eq_true (by omega)).symm
        | exact (decide_eq_false (by omega)).symm

end Go.Proofs.YtpochcchekoonaaGreat
