/-
  Histories: events and calls, how they lie in memory; contracts of the reference's Pick, Open and of the law's own, back, calls.
-/
import Derived.Test.YtcogpedfnnfnaaaVh
import Derived.Test.YtcogpedfnnfnaaaPu
import Derived.Test.YtcogpedfnnfnaaaRf1
namespace Go.Proofs.Ytcogpedfnnfnaaa
open Go.Rf Go.RowKit
set_option linter.unusedVariables false
attribute [local irreducible] Code.wp wpList Exit.then Exit.inBlock bodyPost A Calls execOp Addr.add

structure Ev where
  kind : Int
  client : Int
  name : ByteArray
  args : List V
  res : V
def ec (e : Ev) (sa sr : Value) : List Value := [.int .i64 e.kind, .int .i64 e.client, .string e.name, sa, .int .i64 e.res.kind, .int .i64 e.res.n, .string e.res.s, sr]
def EvR (w : World) (S : List Nat) (e : Ev) (cs : List Value) : Prop := ∃ sa sr, cs = ec e sa sr ∧ VS w S e.args sa ∧ VS w S e.res.kids sr
theorem evStab : Stab EvR 8 where
  tr := by rintro w w' S x cs ⟨sa, sr, rfl, h1, h2⟩ hf; exact ⟨sa, sr, rfl, h1.tr hf, h2.tr hf⟩
  mono := by rintro w S T x cs ⟨sa, sr, rfl, h1, h2⟩ hT; exact ⟨sa, sr, rfl, h1.mono hT, h2.mono hT⟩
  len := by rintro w S x cs ⟨sa, sr, rfl, h1, h2⟩; rfl
  one := by
    rintro w S x cs ⟨sa, sr, rfl, h1, h2⟩ u hu
    simp only [ec, List.mem_cons, List.not_mem_nil, or_false] at hu
    rcases hu with rfl | rfl | rfl | rfl | rfl | rfl | rfl | rfl
    all_goals first | rfl | exact h1.one | exact h2.one
theorem evLen {w : World} {S : List Nat} : ∀ x cs, EvR w S x cs → cs.length = 8 := fun x cs h => evStab.len h
/-- a readable slice of events -/
def EvS (w : World) (l : List Ev) (sl : Value) : Prop := Sl w [] (EvR w []) l sl
theorem EvS.tr0 {w w' : World} {l : List Ev} {sl : Value} (h : EvS w l sl) (hf : Fr [] w w') : EvS w' l sl := (Sl.tr0 h hf).imp fun x cs _ hr => evStab.old hr hf (by simp)
theorem EvS.old {w w' : World} {T : List Nat} {l : List Ev} {sl : Value} (h : EvS w l sl) (hf : Fr T w w') (hT : ∀ k ∈ T, w.heap.size ≤ k) : EvS w' l sl := (Sl.old h hf hT).imp fun x cs _ hr => evStab.old hr hf (fun b hb => .inr (hT b hb))

structure Cl where
  client : Int
  beg : Int
  fin : Int
  lost : Int
  name : ByteArray
  args : List V
  res : V
def oc (o : Cl) (sa sr : Value) : List Value := [.int .i64 o.client, .int .i64 o.beg, .int .i64 o.fin, .int .i64 o.lost, .string o.name, sa, .int .i64 o.res.kind, .int .i64 o.res.n, .string o.res.s, sr]
def OpR (w : World) (S : List Nat) (o : Cl) (cs : List Value) : Prop := ∃ sa sr, cs = oc o sa sr ∧ VS w S o.args sa ∧ VS w S o.res.kids sr
theorem opStab : Stab OpR 10 where
  tr := by rintro w w' S x cs ⟨sa, sr, rfl, h1, h2⟩ hf; exact ⟨sa, sr, rfl, h1.tr hf, h2.tr hf⟩
  mono := by rintro w S T x cs ⟨sa, sr, rfl, h1, h2⟩ hT; exact ⟨sa, sr, rfl, h1.mono hT, h2.mono hT⟩
  len := by rintro w S x cs ⟨sa, sr, rfl, h1, h2⟩; rfl
  one := by
    rintro w S x cs ⟨sa, sr, rfl, h1, h2⟩ u hu
    simp only [oc, List.mem_cons, List.not_mem_nil, or_false] at hu
    rcases hu with rfl | rfl | rfl | rfl | rfl | rfl | rfl | rfl | rfl | rfl
    all_goals first | rfl | exact h1.one | exact h2.one
theorem opLen {w : World} {S : List Nat} : ∀ x cs, OpR w S x cs → cs.length = 10 := fun x cs h => opStab.len h
def OpS (w : World) (l : List Cl) (sl : Value) : Prop := Sl w [] (OpR w []) l sl
theorem OpS.tr0 {w w' : World} {l : List Cl} {sl : Value} (h : OpS w l sl) (hf : Fr [] w w') : OpS w' l sl := (Sl.tr0 h hf).imp fun x cs _ hr => opStab.old hr hf (by simp)
theorem OpS.old {w w' : World} {T : List Nat} {l : List Cl} {sl : Value} (h : OpS w l sl) (hf : Fr T w w') (hT : ∀ k ∈ T, w.heap.size ≤ k) : OpS w' l sl := (Sl.old h hf hT).imp fun x cs _ hr => opStab.old hr hf (fun b hb => .inr (hT b hb))

/-! ### Pick -/
def pk (l : List Int) (i m : Int) : Int := if i < 0 ∨ (l.length : Int) ≤ i then 0 else arnd (l.getD i.toNat 0) m
theorem pick (x : Value) (l : List Int) (i m : Int) (w : World) (hx : Src w x l.length (l.map (.int .i64))) (hl : ∀ n ∈ l, InI64 n) (hm : 0 < m) :
    Calls Try.prog 44 #[x, .int .i64 i, .int .i64 m] w fun e w' => e = .returned (.int .i64 (pk l i m)) ∧ w = w' := by
  obtain ⟨ao, c, rfl, hc, _⟩ := id hx
  refine enter Try.func44 rfl Try.ntmps44 rfl ?_
  by_cases h1 : i < 0
  · refine rx ?_
    (apply ret1; exact rfl; (conv => lhs; whnf))
    exact ⟨by simp [pk, h1], rfl⟩
  by_cases h2 : (l.length : Int) ≤ i
  · refine rx ?_
    (apply ret1; exact rfl; (conv => lhs; whnf))
    exact ⟨by simp [pk, h2], rfl⟩
  obtain ⟨j, rfl⟩ : ∃ j : Nat, i = (j : Int) := ⟨i.toNat, by omega⟩
  have hj : j < l.length := by omega
  obtain ⟨ad, rfl, hcell⟩ := src_at (j := j) (u := .int .i64 l[j]) hx (by simp [hj])
  refine rx ?_
  rw [Nat.mul_one]
  refine s_load rfl hcell ?_
  have hb := hl l[j] (by simp)
  refine rx ?_
  refine s_call (around l[j] m w hb.1 hb.2 hm) rfl ?_
  rintro _ _ ⟨rfl, rfl⟩
  refine ⟨_, rfl, ?_⟩
  refine rx ?_
  (apply ret1; exact rfl; (conv => lhs; whnf))
  refine ⟨?_, rfl⟩
  rw [pk, if_neg (by omega)]
  simp [List.getD, hj]

/-! ### Open -/
def opn (l : List Ev) (client : Int) : Nat → Int
  | 0 => -1
  | k + 1 => match l[k]? with
    | none => -1
    | some e => if e.kind = 2 ∨ e.kind = 1 ∧ e.client = client then -1 else if e.kind = 0 ∧ e.client = client then k else opn l client k
set_option maxHeartbeats 4000000 in
theorem opnC (l : List Ev) (sl : Value) (client : Int) (m : Nat) (w : World) (hl : EvS w l sl) (hm : m ≤ l.length) (hb : l.length ≤ 1000000000000) :
    Calls Try.prog 45 #[sl, .int .i64 client, .int .i64 m] w fun e w' => e = .returned (.int .i64 (opn l client m)) ∧ w = w' := by
  obtain ⟨ao, c, rfl, hc⟩ := Sl.slice hl
  refine enter Try.func45 rfl Try.ntmps45 rfl ?_
  refine rx ?_
  refine c_loopK 8 [7] (σ := Nat) (fun i g u => g 7 = .int .i64 ((i : Int) - 1) ∧ i ≤ m ∧ opn l client m = opn l client i ∧ w = u) (fun i => i) m ⟨rfl, Nat.le_refl _, rfl, rfl⟩ ?_
  rintro i g u ⟨h7, hi, ho, rfl⟩
  rw [eq_upd h7]
  cases i with
  | zero =>
    refine rx ?_
    (apply ret1; exact rfl; (conv => lhs; whnf))
    exact ⟨by rw [ho]; rfl, rfl⟩
  | succ i =>
    have hi' : i < l.length := by omega
    obtain ⟨ad, cs, rfl, ⟨sa, sr, rfl, ha, hr⟩, hcell⟩ := Sl.at hl evLen hi'
    have e1 : (((i + 1 : Nat) : Int) - 1) = (i : Int) := by omega
    rw [e1]
    have ho' : opn l client m = if l[i].kind = 2 ∨ l[i].kind = 1 ∧ l[i].client = client then -1 else if l[i].kind = 0 ∧ l[i].client = client then (i : Int) else opn l client i := by
      rw [ho, opn, List.getElem?_eq_getElem hi']
    (refine rx ?_; repeat' ((first | refine s_eql rfl rfl (fun h => ?_) (fun h => ?_) | refine s_neq rfl rfl (fun h => ?_) (fun h => ?_) | refine s_lss rfl rfl (fun h => ?_) (fun h => ?_) | refine s_leq rfl rfl (fun h => ?_) (fun h => ?_) | refine s_gtr rfl rfl (fun h => ?_) (fun h => ?_) | refine s_geq rfl rfl (fun h => ?_) (fun h => ?_) | refine s_eqlE rfl rfl (fun h => ?_) (fun h => ?_) | refine s_neqE rfl rfl (fun h => ?_) (fun h => ?_) | refine s_lssS rfl rfl (fun h => ?_) (fun h => ?_) | refine s_gtrS rfl rfl (fun h => ?_) (fun h => ?_)) <;> refine rx ?_))
    all_goals
      first
      | ((apply ret1; exact rfl; (conv => lhs; whnf))
         refine ⟨?_, rfl⟩
         rw [ho']
         first
         | rw [if_pos (by omega)]
         | rw [if_neg (by omega), if_pos (by omega)])
      | exact q_roundK i (by (repeat (first | exact Keep.mrg _ _ _ _ | (refine Keep.hi rfl ?_) | (refine Keep.one rfl ?_) | exact Keep.all rfl | (refine Keep.inn rfl ?_) | (refine Keep.set rfl ?_)))) ⟨rfl, by omega, (by rw [ho', if_neg (by omega), if_neg (by omega)]), rfl⟩ (by omega)

set_option maxHeartbeats 4000000 in
theorem ownC (l : List Ev) (sl : Value) (w : World) (hl : EvS w l sl) (hb : l.length ≤ 1000000) :
    Calls Try.prog 15 #[sl] w fun e w' => ∃ v', e = .returned v' ∧ OwnR w' 61 8 EvR l v' ∧ (∀ k ∈ blks v', w.heap.size ≤ k) ∧ Fr [] w w' := by
  obtain ⟨ao, c, rfl, hc⟩ := Sl.slice hl
  refine enter Try.func15 rfl Try.ntmps15 rfl ?_
  refine rx ?_
  refine c_loopK 5 [3, 4] (σ := Nat × Value) (fun st g u => g 3 = st.2 ∧ g 4 = .int .i64 st.1 ∧ st.1 ≤ l.length ∧ OwnR u 61 8 EvR (l.take st.1) st.2 ∧ (∀ k ∈ blks st.2, w.heap.size ≤ k) ∧ Fr [] w u)
    (fun st => l.length - st.1) (0, .slice none 0 0) ⟨rfl, rfl, Nat.zero_le _, by simpa using OwnR.nil _ _ _ _, by simp [blks, Value.ownBlock], Fr.refl _ _⟩ ?_
  rintro ⟨i, v⟩ g u ⟨h3, h4, hi, ho, hk, hf⟩
  simp only at h3 h4 hi ho hk
  rw [eq_upd h3, eq_upd h4]
  by_cases hlt : i < l.length
  case neg =>
    refine rx ?_
    (apply ret1; exact rfl; (conv => lhs; whnf))
    rw [List.take_of_length_le (by omega)] at ho
    exact ⟨_, rfl, ho, hk, hf⟩
  obtain ⟨ad, cs, rfl, ⟨sa, sr, rfl, ha, hr⟩, hcell⟩ := Sl.at hl evLen hlt
  obtain ⟨aa, ca, hsa, _⟩ := ha.slice
  subst hsa
  have hcu := hcell.tr0 hf
  have hbl : (ad.add (i * 8)).block < w.heap.size := by
    have := World.block_lt_of_cell? w _ (hcell 0 _ rfl)
    rwa [add_block] at this
  have hrow : EvR u (blks v) l[i] (ec l[i] (.slice aa l[i].args.length ca) sr) := evStab.old (evStab.mono (S := []) ⟨_, sr, rfl, ha, hr⟩ (fun b hb => .inr (hk b hb))) hf (by simp)
  refine rx ?_
  (refine d_begin (fun z => Cells z (ad.add (i * 8)) (ec l[i] (.slice aa l[i].args.length ca) sr)) (by kernel_rfl) rfl ?_)
  have hS : Cells u.drew (ad.add (i * 8)) (ec l[i] (.slice aa l[i].args.length ca) sr) := hcu.tr0 (Fr.drew _ _)
  ((first | refine d_tx 0 hS ?_ | refine d_ty 0 hS ?_ | refine d_tn 0 hS ?_); (first | refine d_tx 1 hS ?_ | refine d_ty 1 hS ?_ | refine d_tn 1 hS ?_); (first | refine d_tx 2 hS ?_ | refine d_ty 2 hS ?_ | refine d_tn 2 hS ?_); (first | refine d_tx 3 hS ?_ | refine d_ty 3 hS ?_ | refine d_tn 3 hS ?_); (first | refine d_tx 4 hS ?_ | refine d_ty 4 hS ?_ | refine d_tn 4 hS ?_); (first | refine d_tx 5 hS ?_ | refine d_ty 5 hS ?_ | refine d_tn 5 hS ?_); (first | refine d_tx 6 hS ?_ | refine d_ty 6 hS ?_ | refine d_tn 6 hS ?_); (first | refine d_tx 7 hS ?_ | refine d_ty 7 hS ?_ | refine d_tn 7 hS ?_); (first | refine d_tx 8 hS ?_ | refine d_ty 8 hS ?_ | refine d_tn 8 hS ?_); (first | refine d_tx 9 hS ?_ | refine d_ty 9 hS ?_ | refine d_tn 9 hS ?_); (first | refine d_tx 10 hS ?_ | refine d_ty 10 hS ?_ | refine d_tn 10 hS ?_); (first | refine d_tx 11 hS ?_ | refine d_ty 11 hS ?_ | refine d_tn 11 hS ?_); (first | refine d_tx 12 hS ?_ | refine d_ty 12 hS ?_ | refine d_tn 12 hS ?_); (first | refine d_tx 13 hS ?_ | refine d_ty 13 hS ?_ | refine d_tn 13 hS ?_); (first | refine d_tx 14 hS ?_ | refine d_ty 14 hS ?_ | refine d_tn 14 hS ?_); (first | refine d_tx 15 hS ?_ | refine d_ty 15 hS ?_ | refine d_tn 15 hS ?_); (first | refine d_tx 16 hS ?_ | refine d_ty 16 hS ?_ | refine d_tn 16 hS ?_); (first | refine d_tx 17 hS ?_ | refine d_ty 17 hS ?_ | refine d_tn 17 hS ?_); (first | refine d_tx 18 hS ?_ | refine d_ty 18 hS ?_ | refine d_tn 18 hS ?_); (first | refine d_tx 19 hS ?_ | refine d_ty 19 hS ?_ | refine d_tn 19 hS ?_); (first | refine d_tx 20 hS ?_ | refine d_ty 20 hS ?_ | refine d_tn 20 hS ?_); (first | refine d_tx 21 hS ?_ | refine d_ty 21 hS ?_ | refine d_tn 21 hS ?_); (first | refine d_tx 22 hS ?_ | refine d_ty 22 hS ?_ | refine d_tn 22 hS ?_); (first | refine d_tx 23 hS ?_ | refine d_ty 23 hS ?_ | refine d_tn 23 hS ?_); (first | refine d_tx 24 hS ?_ | refine d_ty 24 hS ?_ | refine d_tn 24 hS ?_); (first | refine d_tx 25 hS ?_ | refine d_ty 25 hS ?_ | refine d_tn 25 hS ?_))
  refine d_one (i := 26) rfl (by kernel_rfl) ?_
  refine s_build (ec l[i] (.slice aa l[i].args.length ca) sr) rfl ?_
  refine wpList_nil (q_held hS ?_)
  refine d_one (i := 27) rfl (by kernel_rfl) ?_
  refine s_buildS (ec l[i] (.slice aa l[i].args.length ca) sr) rfl rfl rfl rfl (fun u1 ho1 hf1 hs1 => ?_)
  have hF1 : Fr [] u u1 := (Fr.drew _ _).trans0 hf1
  refine wpList_nil (q_held (hS.tr0 hf1) ?_)
  refine d_one (i := 28) rfl (by kernel_rfl) ?_
  refine s_appR (al := [l[i]]) (ho.tr0 evStab hF1) evStab rfl rfl ho1.src (Rws.one (evStab.old hrow hF1 (by simp))) rfl (by unfold maxLen; simp; omega) (by simp; omega) (fun v' u2 ho2 hf2 hk2 _ => ?_)
  have hS2 : Cells u2 (ad.add (i * 8)) (ec l[i] (.slice aa l[i].args.length ca) sr) := (hS.tr0 hf1).tr hf2 (fun hm => by have := hk _ hm; omega)
  refine wpList_nil (q_held hS2 ?_)
  refine d_one (i := 29) rfl (by kernel_rfl) ?_
  refine rx ?_
  refine q_held hS2 ?_
  (refine d_done (by kernel_rfl) ?_)
  refine rx ?_
  have hsz := hf.size
  have hsz1 := hF1.size
  refine q_roundK (i + 1, v') (by (repeat (first | exact Keep.mrg _ _ _ _ | (refine Keep.hi rfl ?_) | (refine Keep.one rfl ?_) | exact Keep.all rfl | (refine Keep.inn rfl ?_) | (refine Keep.set rfl ?_)))) ⟨rfl, rfl, by simp only; omega, ?_, fun k hm => ?_, (hf.trans0 hF1).trans hf2 (fun k hm => .inr (hk k hm))⟩ (by simp only; omega)
  · simp only
    rw [List.take_succ_eq_append_getElem hlt]; exact ho2
  · rcases hk2 k hm with h | h
    · exact hk k h
    · omega

set_option maxHeartbeats 4000000 in
theorem backC (l : List Ev) (sl : Value) (w : World) (hl : EvS w l sl) (hb : l.length ≤ 1000000) :
    Calls Try.prog 40 #[sl] w fun e w' => ∃ v', e = .returned v' ∧ OwnR w' 46 8 EvR l v' ∧ (∀ k ∈ blks v', w.heap.size ≤ k) ∧ Fr [] w w' := by
  obtain ⟨ao, c, rfl, hc⟩ := Sl.slice hl
  refine enter Try.func40 rfl Try.ntmps40 rfl ?_
  refine rx ?_
  refine c_loopK 5 [3, 4] (σ := Nat × Value) (fun st g u => g 3 = st.2 ∧ g 4 = .int .i64 st.1 ∧ st.1 ≤ l.length ∧ OwnR u 46 8 EvR (l.take st.1) st.2 ∧ (∀ k ∈ blks st.2, w.heap.size ≤ k) ∧ Fr [] w u)
    (fun st => l.length - st.1) (0, .slice none 0 0) ⟨rfl, rfl, Nat.zero_le _, by simpa using OwnR.nil _ _ _ _, by simp [blks, Value.ownBlock], Fr.refl _ _⟩ ?_
  rintro ⟨i, v⟩ g u ⟨h3, h4, hi, ho, hk, hf⟩
  simp only at h3 h4 hi ho hk
  rw [eq_upd h3, eq_upd h4]
  by_cases hlt : i < l.length
  case neg =>
    refine rx ?_
    (apply ret1; exact rfl; (conv => lhs; whnf))
    rw [List.take_of_length_le (by omega)] at ho
    exact ⟨_, rfl, ho, hk, hf⟩
  obtain ⟨ad, cs, rfl, ⟨sa, sr, rfl, ha, hr⟩, hcell⟩ := Sl.at hl evLen hlt
  obtain ⟨aa, ca, hsa, _⟩ := ha.slice
  subst hsa
  have hcu := hcell.tr0 hf
  have hbl : (ad.add (i * 8)).block < w.heap.size := by
    have := World.block_lt_of_cell? w _ (hcell 0 _ rfl)
    rwa [add_block] at this
  have hrow : EvR u (blks v) l[i] (ec l[i] (.slice aa l[i].args.length ca) sr) := evStab.old (evStab.mono (S := []) ⟨_, sr, rfl, ha, hr⟩ (fun b hb => .inr (hk b hb))) hf (by simp)
  refine rx ?_
  (refine d_begin (fun z => Cells z (ad.add (i * 8)) (ec l[i] (.slice aa l[i].args.length ca) sr)) (by kernel_rfl) rfl ?_)
  have hS : Cells u.drew (ad.add (i * 8)) (ec l[i] (.slice aa l[i].args.length ca) sr) := hcu.tr0 (Fr.drew _ _)
  ((first | refine d_tx 0 hS ?_ | refine d_ty 0 hS ?_ | refine d_tn 0 hS ?_); (first | refine d_tx 1 hS ?_ | refine d_ty 1 hS ?_ | refine d_tn 1 hS ?_); (first | refine d_tx 2 hS ?_ | refine d_ty 2 hS ?_ | refine d_tn 2 hS ?_); (first | refine d_tx 3 hS ?_ | refine d_ty 3 hS ?_ | refine d_tn 3 hS ?_); (first | refine d_tx 4 hS ?_ | refine d_ty 4 hS ?_ | refine d_tn 4 hS ?_); (first | refine d_tx 5 hS ?_ | refine d_ty 5 hS ?_ | refine d_tn 5 hS ?_); (first | refine d_tx 6 hS ?_ | refine d_ty 6 hS ?_ | refine d_tn 6 hS ?_); (first | refine d_tx 7 hS ?_ | refine d_ty 7 hS ?_ | refine d_tn 7 hS ?_); (first | refine d_tx 8 hS ?_ | refine d_ty 8 hS ?_ | refine d_tn 8 hS ?_); (first | refine d_tx 9 hS ?_ | refine d_ty 9 hS ?_ | refine d_tn 9 hS ?_); (first | refine d_tx 10 hS ?_ | refine d_ty 10 hS ?_ | refine d_tn 10 hS ?_); (first | refine d_tx 11 hS ?_ | refine d_ty 11 hS ?_ | refine d_tn 11 hS ?_); (first | refine d_tx 12 hS ?_ | refine d_ty 12 hS ?_ | refine d_tn 12 hS ?_); (first | refine d_tx 13 hS ?_ | refine d_ty 13 hS ?_ | refine d_tn 13 hS ?_); (first | refine d_tx 14 hS ?_ | refine d_ty 14 hS ?_ | refine d_tn 14 hS ?_); (first | refine d_tx 15 hS ?_ | refine d_ty 15 hS ?_ | refine d_tn 15 hS ?_); (first | refine d_tx 16 hS ?_ | refine d_ty 16 hS ?_ | refine d_tn 16 hS ?_); (first | refine d_tx 17 hS ?_ | refine d_ty 17 hS ?_ | refine d_tn 17 hS ?_); (first | refine d_tx 18 hS ?_ | refine d_ty 18 hS ?_ | refine d_tn 18 hS ?_); (first | refine d_tx 19 hS ?_ | refine d_ty 19 hS ?_ | refine d_tn 19 hS ?_); (first | refine d_tx 20 hS ?_ | refine d_ty 20 hS ?_ | refine d_tn 20 hS ?_); (first | refine d_tx 21 hS ?_ | refine d_ty 21 hS ?_ | refine d_tn 21 hS ?_); (first | refine d_tx 22 hS ?_ | refine d_ty 22 hS ?_ | refine d_tn 22 hS ?_); (first | refine d_tx 23 hS ?_ | refine d_ty 23 hS ?_ | refine d_tn 23 hS ?_); (first | refine d_tx 24 hS ?_ | refine d_ty 24 hS ?_ | refine d_tn 24 hS ?_); (first | refine d_tx 25 hS ?_ | refine d_ty 25 hS ?_ | refine d_tn 25 hS ?_))
  refine d_one (i := 26) rfl (by kernel_rfl) ?_
  refine s_build (ec l[i] (.slice aa l[i].args.length ca) sr) rfl ?_
  refine wpList_nil (q_held hS ?_)
  refine d_one (i := 27) rfl (by kernel_rfl) ?_
  refine s_buildS (ec l[i] (.slice aa l[i].args.length ca) sr) rfl rfl rfl rfl (fun u1 ho1 hf1 hs1 => ?_)
  have hF1 : Fr [] u u1 := (Fr.drew _ _).trans0 hf1
  refine wpList_nil (q_held (hS.tr0 hf1) ?_)
  refine d_one (i := 28) rfl (by kernel_rfl) ?_
  refine s_appR (al := [l[i]]) (ho.tr0 evStab hF1) evStab rfl rfl ho1.src (Rws.one (evStab.old hrow hF1 (by simp))) rfl (by unfold maxLen; simp; omega) (by simp; omega) (fun v' u2 ho2 hf2 hk2 _ => ?_)
  have hS2 : Cells u2 (ad.add (i * 8)) (ec l[i] (.slice aa l[i].args.length ca) sr) := (hS.tr0 hf1).tr hf2 (fun hm => by have := hk _ hm; omega)
  refine wpList_nil (q_held hS2 ?_)
  refine d_one (i := 29) rfl (by kernel_rfl) ?_
  refine rx ?_
  refine q_held hS2 ?_
  (refine d_done (by kernel_rfl) ?_)
  refine rx ?_
  have hsz := hf.size
  have hsz1 := hF1.size
  refine q_roundK (i + 1, v') (by (repeat (first | exact Keep.mrg _ _ _ _ | (refine Keep.hi rfl ?_) | (refine Keep.one rfl ?_) | exact Keep.all rfl | (refine Keep.inn rfl ?_) | (refine Keep.set rfl ?_)))) ⟨rfl, rfl, by simp only; omega, ?_, fun k hm => ?_, (hf.trans0 hF1).trans hf2 (fun k hm => .inr (hk k hm))⟩ (by simp only; omega)
  · simp only
    rw [List.take_succ_eq_append_getElem hlt]; exact ho2
  · rcases hk2 k hm with h | h
    · exact hk k h
    · omega

set_option maxHeartbeats 4000000 in
theorem callsC (l : List Cl) (sl : Value) (w : World) (hl : OpS w l sl) (hb : l.length ≤ 1000000) :
    Calls Try.prog 19 #[sl] w fun e w' => ∃ v', e = .returned v' ∧ OwnR w' 57 10 OpR l v' ∧ (∀ k ∈ blks v', w.heap.size ≤ k) ∧ Fr [] w w' := by
  obtain ⟨ao, c, rfl, hc⟩ := Sl.slice hl
  refine enter Try.func19 rfl Try.ntmps19 rfl ?_
  refine rx ?_
  refine c_loopK 6 [3, 4, 5] (σ := Nat × Value) (fun st g u => g 3 = st.2 ∧ g 4 = .int .i64 st.1 ∧ st.1 ≤ l.length ∧ OwnR u 57 10 OpR (l.take st.1) st.2 ∧ (∀ k ∈ blks st.2, w.heap.size ≤ k) ∧ Fr [] w u)
    (fun st => l.length - st.1) (0, .slice none 0 0) ⟨rfl, rfl, Nat.zero_le _, by simpa using OwnR.nil _ _ _ _, by simp [blks, Value.ownBlock], Fr.refl _ _⟩ ?_
  rintro ⟨i, v⟩ g u ⟨h3, h4, hi, ho, hk, hf⟩
  simp only at h3 h4 hi ho hk
  rw [eq_upd h3, eq_upd h4]
  by_cases hlt : i < l.length
  case neg =>
    refine rx ?_
    (apply ret1; exact rfl; (conv => lhs; whnf))
    rw [List.take_of_length_le (by omega)] at ho
    exact ⟨_, rfl, ho, hk, hf⟩
  obtain ⟨ad, cs, rfl, ⟨sa, sr, rfl, ha, hr⟩, hcell⟩ := Sl.at hl opLen hlt
  obtain ⟨aa, ca, hsa, _⟩ := ha.slice
  subst hsa
  have hcu := hcell.tr0 hf
  have hrow : OpR u (blks v) l[i] (oc l[i] (.slice aa l[i].args.length ca) sr) := opStab.old (opStab.mono (S := []) ⟨_, sr, rfl, ha, hr⟩ (fun b hb => .inr (hk b hb))) hf (by simp)
  refine rx ?_
  refine s_alloc rfl (fun u1 hb1 hf1 hs1 => ?_)
  refine s_storeAggB rfl rfl hb1 (opStab.one hrow) rfl rfl (fun u2 hb2 hf2 hs2 => ?_)
  have hF2 : Fr [] u u2 := hf1.trans hf2 (by simp)
  refine rx ?_
  refine s_build (oc l[i] (.slice aa l[i].args.length ca) sr) rfl ?_
  refine s_pushA (cs := oc l[i] (.slice aa l[i].args.length ca) sr) (ho.tr0 opStab hF2) opStab rfl rfl rfl (opStab.old hrow hF2 (by simp)) rfl rfl rfl (by unfold maxLen; simp; omega) (by simp; omega) (fun v' u3 ho3 hf3 hk3 => ?_)
  refine rx ?_
  have hsz := hf.size
  have hsz1 := hF2.size
  refine q_roundK (i + 1, v') (by (repeat (first | exact Keep.mrg _ _ _ _ | (refine Keep.hi rfl ?_) | (refine Keep.one rfl ?_) | exact Keep.all rfl | (refine Keep.inn rfl ?_) | (refine Keep.set rfl ?_)))) ⟨rfl, rfl, by simp only; omega, ?_, fun k hm => ?_, (hf.trans0 hF2).trans hf3 (fun k hm => .inr (hk k hm))⟩ (by simp only; omega)
  · simp only
    rw [List.take_succ_eq_append_getElem hlt]; exact ho3
  · rcases hk3 k hm with h | h
    · exact hk k h
    · omega
end Go.Proofs.Ytcogpedfnnfnaaa
