/-
  The plain law of exchanges: a history without crashes, its open calls ended; exchanging neighbors.
-/
import Derived.Test.YtcogpedfnnfnaaaGa
import Derived.Test.YtcogpedfnnfnaaaHu
namespace Go.Proofs.Ytcogpedfnnfnaaa
open Go.Rf Go.RowKit
set_option linter.unusedVariables false

theorem err_ok {l : List Ev} : ∀ (n i : Nat), l.length - i = n → errL l i (l.drop i) = 0 → ∀ k (h : k < l.length), i ≤ k → chk l k l[k] = 0 := by
  intro n
  induction n with
  | zero => intro i hn _ k hk hik; omega
  | succ n ih =>
    intro i hn he k hk hik
    have hil : i < l.length := by omega
    rw [errL_drop hil] at he
    by_cases hc : chk l i l[i] ≠ 0
    · rw [if_pos hc] at he; exact absurd he hc
    · rw [if_neg hc] at he
      by_cases hki : k = i
      · subst hki; exact Decidable.not_not.1 hc
      · exact ih (i + 1) (by omega) he k hk (by omega)
theorem valid_ok {l : List Ev} (h : validH l = 0) : AllOk l ∧ l.length ≤ 64 ∧ nbeg l ≤ 16 := by
  unfold validH at h
  by_cases hb : 64 < l.length ∨ 16 < nbeg l
  · rw [if_pos hb] at h; omega
  · rw [if_neg hb] at h
    exact ⟨fun i hi => err_ok l.length 0 (by omega) (by simpa using h) i hi (Nat.zero_le _), by omega, by omega⟩
def noCr (l : List Ev) : Prop := ∀ e ∈ l, e.kind ≠ 2
theorem findEnd_noCr (c : Int) : ∀ (r : List Ev) (k : Nat), noCr r → (findEnd c k r).2.1 = -1 := by
  intro r
  induction r with
  | nil => intro k _; rfl
  | cons e r ih =>
    intro k h
    simp only [findEnd]
    rw [if_neg (h e (by simp))]
    split
    · rfl
    · exact ih _ (fun x hx => h x (by simp [hx]))
theorem ops_noCr {l : List Ev} (h : noCr l) : ∀ o ∈ opsFrom 0 l, o.lost = -1 := by
  intro o ho
  obtain ⟨p, e, s, h1, h2, h3⟩ := ops_at l 0 o ho
  rw [h3]
  exact findEnd_noCr _ s _ (fun x hx => h x (by rw [h1]; simp [hx]))
theorem ops_clients {l : List Ev} (h : AllOk l) : ∀ o ∈ opsFrom 0 l, 0 ≤ o.client ∧ o.client < 4 := by
  intro o ho
  obtain ⟨p, e, s, h1, h2, h3⟩ := ops_at l 0 o ho
  have hk := h p.length (by rw [h1]; simp)
  have hget : l[p.length]'(by rw [h1]; simp) = e := by simp [h1]
  rw [hget] at hk
  have hf : fmdE e = 0 := by
    unfold chk at hk
    by_cases hf : fmdE e ≠ 0
    · rw [if_pos hf] at hk; exact absurd hk hf
    · exact Decidable.not_not.1 hf
  have := fmd_ok hf
  rw [h3]
  exact ⟨this.2.2.1, this.2.2.2.1⟩

def evE (c : Nat) : Ev := ⟨1, c, ⟨#[]⟩, [], V0⟩
def isE (c : Nat) (o : Cl) : Bool := decide (o.client = c ∧ o.fin < 0)
def endsC (b : List Cl) (c : Nat) : List Ev := (b.filter (isE c)).map (fun _ => evE c)
def endsTo (b : List Cl) : Nat → List Ev
  | 0 => []
  | c + 1 => endsTo b c ++ endsC b c
theorem fmd_evE {c : Nat} (h : c < 4) : fmdE (evE c) = 0 := by
  have : c = 0 ∨ c = 1 ∨ c = 2 ∨ c = 3 := by omega
  rcases this with rfl | rfl | rfl | rfl <;> decide +kernel
theorem pair_filter {α : Type} {p : α → Bool} {l : List α} (h : l.Pairwise (fun a b => ¬ (p a = true ∧ p b = true))) : l.filter p = [] ∨ ∃ o, l.filter p = [o] := by
  have h1 : (l.filter p).Pairwise (fun a b => ¬ (p a = true ∧ p b = true)) := h.sublist List.filter_sublist
  have h2 : ∀ x ∈ l.filter p, p x = true := fun x hx => (List.mem_filter.1 hx).2
  match hl : l.filter p with
  | [] => exact .inl rfl
  | [o] => exact .inr ⟨o, rfl⟩
  | a :: b :: r =>
    rw [hl] at h1 h2
    rw [List.pairwise_cons] at h1
    exact absurd ⟨h2 a (by simp), h2 b (by simp)⟩ (h1.1 b (by simp))
theorem isE_open {l : List Ev} (hn : noCr l) {c : Nat} {o : Cl} (ho : o ∈ opsFrom 0 l) : isE c o = true ↔ isOpen o ∧ o.client = c := by
  have h1 := ((opsFrom_beg l 0).1 o ho).2.2.2.2.1
  have h2 := ops_noCr hn o ho
  unfold isE isOpen
  rw [decide_eq_true_eq]
  omega
theorem ends_cases {l : List Ev} (hok : AllOk l) (hn : noCr l) (c : Nat) : (hasOpen (opsFrom 0 l) c ∧ endsC (opsFrom 0 l) c = [evE c]) ∨ (¬ hasOpen (opsFrom 0 l) c ∧ endsC (opsFrom 0 l) c = []) := by
  have hp : (opsFrom 0 l).Pairwise (fun a b => ¬ (isE c a = true ∧ isE c b = true)) := by
    rw [List.pairwise_iff_getElem]
    rintro i j hi hj hij ⟨h1, h2⟩
    have ha := List.getElem_mem hi
    have hb := List.getElem_mem hj
    rw [isE_open hn ha] at h1
    rw [isE_open hn hb] at h2
    have := one_client hok ha hb (by rw [h1.2, h2.2]) ((timed_ops l).inc i j hi hj hij)
    obtain ⟨h3, h4⟩ := h1.1
    simp only [bef, decide_eq_true_eq] at this
    omega
  rcases pair_filter hp with h | ⟨o, h⟩
  · right
    refine ⟨?_, by rw [endsC, h]; rfl⟩
    rintro ⟨o, ho, h1, h2⟩
    have : o ∈ (opsFrom 0 l).filter (isE c) := List.mem_filter.2 ⟨ho, (isE_open hn ho).2 ⟨h1, h2⟩⟩
    rw [h] at this; cases this
  · left
    refine ⟨?_, by rw [endsC, h]; rfl⟩
    have : o ∈ (opsFrom 0 l).filter (isE c) := by rw [h]; simp
    obtain ⟨h1, h2⟩ := List.mem_filter.1 this
    have := (isE_open hn h1).1 h2
    exact ⟨o, h1, this.1, this.2⟩
structure Fin (A : List Ev) (c : Nat) : Prop where
  ok : AllOk (A ++ endsTo (opsFrom 0 A) c)
  nc : noCr (A ++ endsTo (opsFrom 0 A) c)
  op : ∀ d : Nat, hasOpen (opsFrom 0 (A ++ endsTo (opsFrom 0 A) c)) d ↔ hasOpen (opsFrom 0 A) d ∧ c ≤ d
  nb : nbeg (A ++ endsTo (opsFrom 0 A) c) = nbeg A
  len : (A ++ endsTo (opsFrom 0 A) c).length ≤ A.length + c
theorem fin_all {A : List Ev} (hok : AllOk A) (hn : noCr A) : ∀ c, c ≤ 4 → Fin A c := by
  intro c
  induction c with
  | zero =>
    intro _
    have e : A ++ endsTo (opsFrom 0 A) 0 = A := by simp [endsTo]
    exact ⟨by rw [e]; exact hok, by rw [e]; exact hn, fun d => by rw [e]; simp, by rw [e], by rw [e]; omega⟩
  | succ c ih =>
    intro hc
    have h := ih (by omega)
    have e0 : A ++ endsTo (opsFrom 0 A) (c + 1) = (A ++ endsTo (opsFrom 0 A) c) ++ endsC (opsFrom 0 A) c := by simp [endsTo]
    rcases ends_cases hok hn c with ⟨h1, h2⟩ | ⟨h1, h2⟩
    · rw [h2] at e0
      obtain ⟨p1, p2, p3, p4, p5⟩ := h
      generalize A ++ endsTo (opsFrom 0 A) c = P at p1 p2 p3 p4 p5 e0
      refine ⟨?_, ?_, ?_, ?_, ?_⟩
      · rw [e0]
        refine AllOk.snoc p1 ?_
        have hop := opn_hasOpen P (c : Int) P.length (Nat.le_refl _)
        rw [List.take_length, p3 c] at hop
        have := hop.2 ⟨h1, Nat.le_refl _⟩
        unfold chk
        rw [fmd_evE (by omega), if_neg (by simp), if_neg (by simp [evE]), if_neg]
        rintro ⟨_, h4⟩
        have e1 : (evE c).client = (c : Int) := rfl
        rw [e1] at h4
        omega
      · rw [e0]
        intro e he
        rcases List.mem_append.1 he with h3 | h3
        · exact p2 e h3
        · simp at h3; subst h3; simp [evE]
      · intro d
        rw [e0, hasOpen_snoc, p3 d]
        have e1 : (evE c).client = (c : Int) := rfl
        have e2 : (evE c).kind = 1 := rfl
        rw [e1, e2]
        constructor
        · rintro (h3 | ⟨⟨h3, h4⟩, h5⟩)
          · omega
          · exact ⟨h3, by omega⟩
        · rintro ⟨h3, h4⟩
          exact .inr ⟨⟨h3, by omega⟩, by omega⟩
      · rw [e0]
        unfold nbeg at p4 ⊢
        rw [List.countP_append, p4]; simp [evE]
      · rw [e0]; simp; omega
    · rw [h2, List.append_nil] at e0
      obtain ⟨p1, p2, p3, p4, p5⟩ := h
      rw [← e0] at p1 p2 p3 p4 p5
      refine ⟨p1, p2, fun d => ?_, p4, by omega⟩
      rw [p3 d]
      constructor
      · rintro ⟨h3, h4⟩
        refine ⟨h3, ?_⟩
        by_cases hdc : d = c
        · subst hdc; exact absurd h3 h1
        · omega
      · rintro ⟨h3, h4⟩; exact ⟨h3, by omega⟩
theorem fin_valid {A : List Ev} (hv : validH A = 0) (hn : noCr A) (hl : A.length ≤ 60) : validH (A ++ endsTo (opsFrom 0 A) 4) = 0 := by
  obtain ⟨h1, h2, h3⟩ := valid_ok hv
  have h := fin_all h1 hn 4 (Nat.le_refl _)
  have h4 := h.len
  have h5 := h.nb
  unfold validH
  rw [if_neg (by omega)]
  exact h.ok.err 0 (Nat.zero_le _)
theorem fin_ended {A : List Ev} (hv : validH A = 0) (hn : noCr A) : ∀ o ∈ opsFrom 0 (A ++ endsTo (opsFrom 0 A) 4), o.fin ≠ -1 := by
  obtain ⟨h1, h2, h3⟩ := valid_ok hv
  have h := fin_all h1 hn 4 (Nat.le_refl _)
  intro o ho hf
  have hlo := ops_noCr h.nc o ho
  have hcl := ops_clients h.ok o ho
  obtain ⟨d, hd⟩ : ∃ d : Nat, o.client = d := ⟨o.client.toNat, by omega⟩
  have := (h.op d).1 ⟨o, ho, ⟨hf, hlo⟩, hd⟩
  omega

/-! ### all calls, and exchanges -/
theorem sub_len : ∀ (n : Nat) (x : List Nat), (∀ k, k < n → k ∈ x) → n ≤ x.length := by
  intro n
  induction n with
  | zero => intro x _; exact Nat.zero_le _
  | succ n ih =>
    intro x h
    have hn : n ∈ x := h n (by omega)
    have h1 := ih (x.erase n) (fun k hk => (List.mem_erase_of_ne (by omega)).2 (h k (by omega)))
    rw [List.length_erase_of_mem hn] at h1
    have := List.length_pos_of_mem hn
    omega
theorem all_len {l : List Cl} {x : List Nat} (h : LinP l (iv x)) (hall : ∀ o ∈ l, o.fin ≠ -1) : x.length = l.length := by
  have h1 := nodup_len l.length x (iv_nodup.1 h.nd) (fun y hy => by have := (h.inn y (iv_mem.2 hy)).2; omega)
  have h2 := sub_len l.length x (fun k hk => iv_mem.1 (h.all k hk (hall _ (List.getElem_mem hk))))
  omega
theorem swap_iff {l : List Cl} {p s : List Int} {a b : Int} (h : LinP l (p ++ a :: b :: s)) : (LinP l (p ++ b :: a :: s) ↔ bf l a.toNat b.toNat = false) ∧ bf l b.toNat a.toNat = false := by
  have hperm : ∀ x, x ∈ p ++ b :: a :: s ↔ x ∈ p ++ a :: b :: s := by
    intro x
    simp only [List.mem_append, List.mem_cons]
    constructor
    · rintro (h | h | h | h)
      · exact .inl h
      · exact .inr (.inr (.inl h))
      · exact .inr (.inl h)
      · exact .inr (.inr (.inr h))
    · rintro (h | h | h | h)
      · exact .inl h
      · exact .inr (.inr (.inl h))
      · exact .inr (.inl h)
      · exact .inr (.inr (.inr h))
  have hpw := h.pw
  rw [List.pairwise_append, List.pairwise_cons, List.pairwise_cons] at hpw
  obtain ⟨w1, ⟨w2, w3, w4⟩, w5⟩ := hpw
  refine ⟨⟨fun h' => ?_, fun hab => ⟨?_, ?_, ?_, ?_⟩⟩, w2 b (by simp)⟩
  · have hpw' := h'.pw
    rw [List.pairwise_append, List.pairwise_cons, List.pairwise_cons] at hpw'
    exact hpw'.2.1.1 a (by simp)
  · intro x hx; exact h.inn x ((hperm x).1 hx)
  · have hp : List.Perm (p ++ a :: b :: s) (p ++ b :: a :: s) := List.Perm.append_left p (List.Perm.swap b a s)
    exact hp.nodup_iff.1 h.nd
  · intro i hi hf; exact (hperm _).2 (h.all i hi hf)
  · rw [List.pairwise_append, List.pairwise_cons, List.pairwise_cons]
    refine ⟨w1, ⟨?_, fun y hy => w2 y (by simp [hy]), w4⟩, ?_⟩
    · intro y hy
      rcases List.mem_cons.1 hy with rfl | hy
      · exact hab
      · exact w3 y hy
    · intro x hx y hy
      refine w5 x hx y ?_
      simp only [List.mem_cons] at hy ⊢
      rcases hy with h | h | h
      · exact .inr (.inl h)
      · exact .inl h
      · exact .inr (.inr h)
theorem split_two {x : List Int} {k : Nat} (h : k + 1 < x.length) : x = x.take k ++ x[k] :: x[k + 1] :: x.drop (k + 2) ∧ (x.set k x[k + 1]).set (k + 1) x[k] = x.take k ++ x[k + 1] :: x[k] :: x.drop (k + 2) := by
  have e1 : x = x.take k ++ x[k] :: x[k + 1] :: x.drop (k + 2) := by
    conv => lhs; rw [← List.take_append_drop k x, List.drop_eq_getElem_cons (by omega), List.drop_eq_getElem_cons (i := k + 1) h]
  refine ⟨e1, ?_⟩
  have hl : (x.take k).length = k := by rw [List.length_take]; omega
  generalize x[k] = a at e1
  generalize x[k + 1] = b at e1
  generalize x.take k = p at e1 hl
  generalize x.drop (k + 2) = s at e1
  subst e1
  rw [List.set_append, if_neg (by omega), hl, Nat.sub_self, List.set_cons_zero, List.set_append, if_neg (by omega), hl, Nat.add_sub_cancel_left, List.set_cons_succ, List.set_cons_zero]

/-! ### there is an order -/
theorem beg_range {l : List Cl} (h : Timed l) {k : Nat} (hk : k ≤ l.length) : BegP l (iv (List.range k)) := by
  refine ⟨?_, ?_, ?_, ?_⟩
  · intro i hi
    simp only [iv, List.mem_map, List.mem_range] at hi
    obtain ⟨j, hj, rfl⟩ := hi
    omega
  · exact iv_nodup.2 List.nodup_range
  · rw [iv, List.pairwise_map]
    rw [List.pairwise_iff_getElem]
    intro i j hi hj hij
    simp only [List.length_range] at hi hj
    simp only [List.getElem_range, Int.toNat_natCast]
    rw [bf_eq (by omega) (by omega)]
    cases hb : bef l[j] l[i]
    · rfl
    · have := bef_beg (h.late j (by omega)) hb
      have := h.inc i j (by omega) (by omega) hij
      omega
  · intro i hi j hj hb hf
    simp only [iv, List.mem_map, List.mem_range] at hi
    obtain ⟨m, hm, rfl⟩ := hi
    rw [Int.toNat_natCast, bf_eq hj (by omega)] at hb
    have h1 := bef_beg (h.late j hj) hb
    refine iv_mem.2 (List.mem_range.2 ?_)
    by_cases hjm : j < k
    · exact hjm
    · have := h.inc m j (by omega) hj (by omega)
      omega
theorem growP_mono (l : List Cl) (most : Nat) : ∀ (f : Nat) (order : List Nat) (left : Int) (out : List (List Nat)), out.length ≤ (growP l most f order left out).length := by
  intro f
  induction f with
  | zero => intro order left out; rw [growP]; split <;> simp
  | succ f ih =>
    intro order left out
    rw [growP]
    refine foldl_inv (P := fun (o : List (List Nat)) => out.length ≤ o.length) _ _ (by split <;> simp) (fun o i _ hP => ?_)
    split
    · exact hP
    · split
      · exact Nat.le_trans hP (ih _ _ _)
      · exact hP
theorem foldl_ne {α β : Type} {f : List β → α → List β} : ∀ (l : List α) (b : List β) (i : α), i ∈ l → (∀ o a, a ∈ l → o.length ≤ (f o a).length) → (∀ o, f o i ≠ []) → l.foldl f b ≠ [] := by
  intro l
  induction l with
  | nil => intro b i hi; cases hi
  | cons a l ih =>
    intro b i hi hm hf
    simp only [List.foldl_cons]
    by_cases hil : i ∈ l
    · exact ih (f b a) i hil (fun o a ha => hm o a (by simp [ha])) hf
    · have : i = a := by
        rcases List.mem_cons.1 hi with h | h
        · exact h
        · exact absurd h hil
      subst this
      have h1 : 0 < (f b i).length := List.length_pos_iff.2 (hf b)
      have := foldl_inv (P := fun (o : List β) => 0 < o.length) (f := f) l (f b i) h1 (fun o a ha hP => by have := hm o a (by simp [ha]); omega)
      exact List.length_pos_iff.1 this
theorem grow_ne {l : List Cl} (ht : Timed l) {most : Nat} (hm : 0 < most) : ∀ (f k : Nat) (out : List (List Nat)), k + f = l.length → growP l most f (List.range k) (remE l (List.range k)) out ≠ [] := by
  intro f
  induction f with
  | zero =>
    intro k out hk
    rw [growP, if_pos]
    · simp
    · have : remE l (List.range k) = 0 := rem_zero.2 (fun j hj _ => List.mem_range.2 (by omega))
      omega
  | succ f ih =>
    intro k out hk
    have hkl : k < l.length := by omega
    have hb := beg_range ht (k := k) (by omega)
    have hb' : BegP l (iv (List.range k ++ [k])) := by rw [← List.range_succ]; exact beg_range ht (by omega)
    rw [growP]
    refine foldl_ne _ _ k (List.mem_range.2 hkl) (fun o i _ => ?_) (fun o => ?_)
    · split
      · exact Nat.le_refl _
      · split
        · exact growP_mono _ _ _ _ _ _
        · exact Nat.le_refl _
    · split
      · rename_i h
        intro e
        rw [e] at h
        simp at h
        omega
      · rw [if_pos ((fit_iff hkl hb).2 hb'), left_snoc hkl (nd_of_beg hb'), ← List.range_succ]
        exact ih (k + 1) o (by omega)
theorem orders_ne {l : List Cl} (ht : Timed l) {most : Int} (hm : 0 < most) : ordersP l most ≠ [] := by
  unfold ordersP
  rw [if_neg (by omega), ← rem_nil]
  exact grow_ne ht (by omega) l.length 0 [] (by omega)
end Go.Proofs.Ytcogpedfnnfnaaa
