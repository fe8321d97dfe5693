/-
  The stepping engine: frames as functions of the slot, one rule for each kind of operation, of the weakest preconditions of the kit. It speaks of no program.
-/
import Derived.WalkKit
import Derived.ProofKit
namespace Go.Rf
open Go.RowKit

/-! ### frames -/
abbrev Env := Nat → Value
def upd (f : Env) (d : Nat) (v : Value) : Env := fun k => cond (Nat.beq k d) v (f k)
/-- the deferred calls of the frame (none, unless said) -/
class Dfs where ds : List Deferred
def A (n : Nat) (f : Env) [D : Dfs] : Act := { tmps := (List.ofFn (n := n) fun i => f i.val).toArray, defers := D.ds }
def ev (n : Nat) (f : Env) : Operand → Value
  | .tmp t => cond (Nat.blt t n) (f t) undef
  | .const v => v
  | .global g => .pointer (some ⟨g, 0, none⟩)
  | .func g => .func (.func g) #[] #[]
def evs (n : Nat) (f : Env) : List Operand → List Value
  | [] => []
  | x :: l => ev n f x :: evs n f l
def updo (f : Env) : Option Nat → Value → Env
  | some d, v => upd f d v
  | none, _ => f

theorem upd_same (f : Env) (k : Nat) (v : Value) : upd f k v k = v := by simp [upd]
theorem upd_ne (f : Env) {k d : Nat} (v : Value) (h : k ≠ d) : upd f d v k = f k := by
  have : Nat.beq k d = false := by
    cases hb : Nat.beq k d
    · rfl
    · exact absurd (Nat.eq_of_beq_eq_true hb) h
  simp [upd, this]
theorem eq_upd {f : Env} {k : Nat} {v : Value} (h : f k = v) : f = upd f k v := by
  funext j
  by_cases e : j = k
  · subst e; rw [upd_same, h]
  · rw [upd_ne _ _ e]

section
variable {D : Dfs}
theorem A_size (n : Nat) (f : Env) : (A n f).tmps.size = n := by simp [A]
theorem A_get (n : Nat) (f : Env) (k : Nat) : (A n f).tmps[k]? = if k < n then some (f k) else none := by
  simp only [A, List.getElem?_toArray, List.getElem?_ofFn]
  split <;> rfl
theorem blt_yes {k n : Nat} (h : k < n) : Nat.blt k n = true := Nat.ble_eq_true_of_le h
theorem blt_no {k n : Nat} (h : ¬ k < n) : Nat.blt k n = false := by
  cases hb : Nat.blt k n
  · rfl
  · exact absurd (Nat.le_of_ble_eq_true hb) h
theorem A_getD (n : Nat) (f : Env) (k : Nat) : (A n f).tmps.getD k undef = cond (Nat.blt k n) (f k) undef := by
  rw [Array.getD_eq_getD_getElem?, A_get]
  by_cases h : k < n
  · simp [h, blt_yes h]
  · simp [h, blt_no h]
theorem A_eval (n : Nat) (f : Env) : (A n f).eval = ev n f := by
  funext x
  cases x with
  | tmp t => exact A_getD n f t
  | const v => rfl
  | global g => rfl
  | func g => rfl
theorem A_put (n : Nat) (f : Env) (d : Option Nat) (v : Value) : (A n f).put d v = A n (updo f d v) := by
  cases d with
  | none => rfl
  | some d =>
    show Act.mk _ _ = Act.mk _ _
    congr 1
    apply Array.ext_getElem?
    intro i
    have h1 := A_get (D := D) n (upd f d v) i
    have h0 := A_get (D := D) n f i
    have hs := A_size (D := D) n f
    rw [Array.getElem?_setIfInBounds, h0]
    show _ = (A n (upd f d v)).tmps[i]?
    rw [h1, hs]
    by_cases e : d = i
    · subst e; simp [upd_same]
    · simp [e, upd_ne f v (Ne.symm e)]
theorem evs_map (n : Nat) (f : Env) (l : List Operand) : l.map (ev n f) = evs n f l := by
  induction l with
  | nil => rfl
  | cons x l ih => simp [evs, ih]

/-! ### an operation that runs: the general rule -/
section
variable {P : Program} {ops : Array Oper} {Q : Exit → Act → World → Prop} {rest : List Oper} {n : Nat} {f : Env} {w : World}
variable {d : Option Nat} {op : Op} {ty : TypeId} {ps : String} {af : Array Edge}

theorem s_run {v : Value} {w' : World} (hr : (execOp (ev n f) ⟨d, op, ty, ps, af, none⟩).run P w = .ok (.value v) w')
    (h : wpList P ops Q rest (A n (updo f d v)) w') : wpList P ops Q (⟨d, op, ty, ps, af, none⟩ :: rest) (A n f) w := by
  refine wpList_plain rfl fun K hK => ?_
  unfold Oper.wp
  rw [A_eval, hr]
  show K _ _
  rw [A_put]
  exact hK _ _ h
theorem s_skip {w' : World} (hr : (execOp (ev n f) ⟨d, op, ty, ps, af, none⟩).run P w = .ok .skip w')
    (h : wpList P ops Q rest (A n (updo f d undef)) w') : wpList P ops Q (⟨d, op, ty, ps, af, none⟩ :: rest) (A n f) w := by
  refine wpList_plain rfl fun K hK => ?_
  unfold Oper.wp
  rw [A_eval, hr]
  show K _ _
  rw [A_put]
  exact hK _ _ h

/-! ### guards -/
def yld (ops : List Oper) (n : Nat) (f : Env) (j : Nat) : Option Bool :=
  match ops[j]? with
  | some o => match o.dst with
    | some t => match cond (Nat.blt t n) (some (f t)) none with
      | some (.bool b) => some b
      | _ => none
    | none => none
  | none => none
theorem yld_eq (l : List Oper) (n : Nat) (f : Env) (j : Nat) : yielded l.toArray (A n f).tmps j = yld l n f j := by
  unfold yielded yld
  simp only [List.getElem?_toArray]
  cases l[j]? with
  | none => rfl
  | some o =>
    simp only [Option.bind_some]
    cases o.dst with
    | none => rfl
    | some t =>
      simp only [Option.bind_some, A_get]
      by_cases h : t < n
      · rw [if_pos h, blt_yes h]; simp only [cond_true]; split <;> simp_all
      · rw [if_neg h, blt_no h]; rfl
theorem g_yes {l : List Oper} {j : Nat} {b : Bool} (hy : yld l n f j = some b)
    (h : wpList P l.toArray Q (⟨d, op, ty, ps, af, none⟩ :: rest) (A n f) w) : wpList P l.toArray Q (⟨d, op, ty, ps, af, some (j, b)⟩ :: rest) (A n f) w := by
  unfold wpList at h ⊢
  rw [if_pos (by simp [Region.wanted, yld_eq, hy])]
  rw [if_pos (by simp [Region.wanted])] at h
  exact h
theorem g_no {l : List Oper} {j : Nat} {b : Bool} (hy : (yld l n f j == some b) = false)
    (h : wpList P l.toArray Q rest (A n (updo f d undef)) w) : wpList P l.toArray Q (⟨d, op, ty, ps, af, some (j, b)⟩ :: rest) (A n f) w := by
  unfold wpList
  rw [if_neg (by simp [Region.wanted, yld_eq, hy])]
  rw [A_put]
  exact h
end

/-! ### control -/
section
variable {P : Program} {Q : Exit → Act → World → Prop} {n : Nat} {f : Env} {w : World} {a : Act}
theorem c_region {id : Nat} {l : List Oper} (h : wpList P l.toArray Q l a w) : (Code.region id l.toArray false).wp P Q a w := wp_region_lit h
theorem c_true {c : Operand} {x y : Code} (hc : ev n f c = .bool true) (h : x.wp P Q (A n f) w) : (Code.cond c x y).wp P Q (A n f) w :=
  wp_cond_true (by rw [A_eval]; exact hc) h
theorem c_false {c : Operand} {x y : Code} (hc : ev n f c = .bool false) (h : y.wp P Q (A n f) w) : (Code.cond c x y).wp P Q (A n f) w :=
  wp_cond_false (by rw [A_eval]; exact hc) h
theorem q_then {c : Code} {Q' : Exit → Act → World → Prop} (h : c.wp P Q a w) : Exit.then (c.wp P Q) Q' .normal a w := h
theorem q_then_k {K : Act → World → Prop} (h : K a w) : Exit.then K Q .normal a w := h
theorem q_then_exit {K : Act → World → Prop} {i : Nat} (h : Q (.exit i) a w) : Exit.then K Q (.exit i) a w := h
theorem q_then_ret {K : Act → World → Prop} (h : Q .ret a w) : Exit.then K Q .ret a w := h
theorem q_blk {i : Nat} (h : Q .normal a w) : Exit.inBlock i Q .normal a w := h
theorem q_blk_ret {i : Nat} (h : Q .ret a w) : Exit.inBlock i Q .ret a w := h
theorem q_blk_eq {i : Nat} (h : Q .normal a w) : Exit.inBlock i Q (.exit i) a w := by simp only [Exit.inBlock, if_true]; exact h
theorem q_blk_ne {i j : Nat} (hn : (Nat.beq j i) = false) (h : Q (.exit j) a w) : Exit.inBlock i Q (.exit j) a w := by
  have : ¬ j = i := fun e => by subst e; simp at hn
  simp only [Exit.inBlock, if_neg this]; exact h
/-- the loop: 's' is whatever the invariant speaks of -/
theorem c_loop {σ : Type} {c : Code} (I : σ → Env → World → Prop) (μ : σ → Nat) (s : σ) (h0 : I s f w)
    (hr : ∀ s g w, I s g w → c.wp P (Exit.then (fun a' w' => ∃ s' g', a' = A n g' ∧ I s' g' w' ∧ μ s' < μ s) Q) (A n g) w) : (Code.loop c).wp P Q (A n f) w := by
  intro b k cs
  have key : ∀ m s g w, μ s = m → I s g w →
      ∃ e a' w', Q e a' w' ∧ Arrives P (lone (b.at (A n g) (.code c :: .inLoop c :: k)) cs w) b k cs e a' w' := by
    intro m
    induction m using Nat.strongRecOn with
    | _ m ih =>
      intro s g w hm hI
      obtain ⟨e, a₁, w₁, hq, harr⟩ := hr s g w hI b (.inLoop c :: k) cs
      cases e with
      | normal =>
        obtain ⟨s', g', rfl, hI₁, hlt⟩ := hq
        obtain ⟨e₂, a₂, w₂, hq₂, harr₂⟩ := ih (μ s') (hm ▸ hlt) s' g' w₁ rfl hI₁
        exact ⟨e₂, a₂, w₂, hq₂, .of_steps (Steps.trans harr (.one step_inLoop)) harr₂⟩
      | exit id => exact ⟨_, a₁, w₁, hq, .pass (x := .inLoop c) rfl (fun _ _ => .inl (by simp)) harr⟩
      | goto l => exact ⟨_, a₁, w₁, hq, .pass (x := .inLoop c) rfl (fun _ _ => .inl (by simp)) harr⟩
      | ret => exact ⟨_, a₁, w₁, hq, .pass (x := .inLoop c) rfl (fun _ _ => .inl (by simp)) harr⟩
      | panic ch => exact ⟨_, a₁, w₁, hq, .pass (x := .inLoop c) rfl (fun _ _ => .inl (by simp)) harr⟩
      | outgrown => exact ⟨_, a₁, w₁, hq, .pass (x := .inLoop c) rfl (fun _ _ => .inl (by simp)) harr⟩
  obtain ⟨e, a', w', hq, harr⟩ := key _ s f w rfl h0
  exact ⟨e, a', w', hq, .of_steps (.one step_loop) harr⟩
theorem q_round {σ : Type} {I : σ → Env → World → Prop} {μ : σ → Nat} {s : σ} (s' : σ) (hI : I s' f w) (hm : μ s' < μ s) :
    Exit.then (fun a' w' => ∃ s' g', a' = A n g' ∧ I s' g' w' ∧ μ s' < μ s) Q .normal (A n f) w := ⟨s', f, rfl, hI, hm⟩
/-- where ways meet again -/
theorem c_cut {c : Code} {K : Act → World → Prop} (R : Env → World → Prop) (h1 : c.wp P (Exit.then (fun a w => ∃ g, a = A n g ∧ R g w) Q) (A n f) w)
    (h2 : ∀ g w, R g w → K (A n g) w) : c.wp P (Exit.then K Q) (A n f) w :=
  wp_mono h1 fun e a w h => by
    cases e with
    | normal => obtain ⟨g, rfl, hR⟩ := h; exact h2 g w hR
    | _ => exact h
theorem q_cut {R : Env → World → Prop} (h : R f w) : Exit.then (fun a w => ∃ g, a = A n g ∧ R g w) Q .normal (A n f) w := ⟨f, rfl, h⟩
end

/-! ### a loop that keeps the locals (the slots below 'nl') but for those of S -/
def elemB : List Nat → Nat → Bool
  | [], _ => false
  | x :: l, k => cond (Nat.beq x k) true (elemB l k)
def mrg (nl : Nat) (S : List Nat) (f g : Env) : Env := fun s => cond (Nat.blt s nl) (cond (elemB S s) (g s) (f s)) (g s)
def Keep (nl : Nat) (S : List Nat) (f g : Env) : Prop := ∀ s, s < nl → elemB S s = false → g s = f s
theorem Keep.refl (nl : Nat) (S : List Nat) (f : Env) : Keep nl S f f := fun _ _ _ => rfl
theorem Keep.mrg (nl : Nat) (S : List Nat) (f g : Env) : Keep nl S f (mrg nl S f g) := fun s h1 h2 => by
  simp only [Go.Rf.mrg, blt_yes h1, h2, cond_true, cond_false]
theorem Keep.hi {nl : Nat} {S : List Nat} {f g : Env} {d : Nat} {v : Value} (hd : Nat.ble nl d = true) (h : Keep nl S f g) : Keep nl S f (upd g d v) := fun s h1 h2 => by
  have := Nat.le_of_ble_eq_true hd
  rw [upd_ne _ _ (by omega)]; exact h s h1 h2
theorem Keep.one {nl : Nat} {S : List Nat} {f g : Env} {d : Nat} {v : Value} (hd : elemB S d = true) (h : Keep nl S f g) : Keep nl S f (upd g d v) := fun s h1 h2 => by
  rw [upd_ne _ _ (fun e => by subst e; rw [hd] at h2; cases h2)]; exact h s h1 h2
theorem Keep.set {nl : Nat} {S : List Nat} {f g : Env} {d : Nat} {v : Value} (hv : f d = v) (h : Keep nl (d :: S) f g) : Keep nl S f (upd g d v) := fun s h1 h2 => by
  by_cases e : s = d
  · subst e; rw [upd_same, hv]
  · rw [upd_ne _ _ e]
    refine h s h1 ?_
    have : Nat.beq d s = false := by
      cases hb : Nat.beq d s
      · rfl
      · exact absurd (Nat.eq_of_beq_eq_true hb).symm e
    simp [elemB, this, h2]
def allB (S : List Nat) : Nat → Bool
  | 0 => true
  | k + 1 => elemB S k && allB S k
theorem Keep.all {nl : Nat} {S : List Nat} {f g : Env} (h : allB S nl = true) : Keep nl S f g := fun s h1 h2 => by
  exfalso
  induction nl with
  | zero => omega
  | succ k ih =>
    simp only [allB, Bool.and_eq_true] at h
    by_cases e : s = k
    · subst e; rw [h.1] at h2; cases h2
    · exact ih h.2 (by omega)
theorem Keep.eq {nl : Nat} {S : List Nat} {f g : Env} (h : Keep nl S f g) : g = Go.Rf.mrg nl S f g := by
  funext s
  unfold Go.Rf.mrg
  by_cases h1 : s < nl
  · rw [blt_yes h1]
    cases h2 : elemB S s with
    | true => rfl
    | false => rw [h s h1 h2]; rfl
  · rw [blt_no h1]; rfl
section
variable {P : Program} {Q : Exit → Act → World → Prop} {n : Nat} {f : Env} {w : World}
theorem c_loopK {σ : Type} {c : Code} (nl : Nat) (S : List Nat) (I : σ → Env → World → Prop) (μ : σ → Nat) (s : σ) (h0 : I s f w)
    (hr : ∀ s g u, I s (mrg nl S f g) u → c.wp P (Exit.then (fun a' w' => ∃ s' g', a' = A n g' ∧ (Keep nl S f g' ∧ I s' g' w') ∧ μ s' < μ s) Q) (A n (mrg nl S f g)) u) : (Code.loop c).wp P Q (A n f) w :=
  c_loop (fun s g u => Keep nl S f g ∧ I s g u) μ s ⟨Keep.refl _ _ _, h0⟩ fun s g u ⟨hk, hI⟩ => by
    have e := hk.eq
    rw [e] at hI ⊢
    exact hr s g u hI
theorem q_roundK {σ : Type} {nl : Nat} {S : List Nat} {f0 : Env} {I : σ → Env → World → Prop} {μ : σ → Nat} {s : σ} (s' : σ) (hk : Keep nl S f0 f) (hI : I s' f w) (hm : μ s' < μ s) :
    Exit.then (fun a' w' => ∃ s' g', a' = A n g' ∧ (Keep nl S f0 g' ∧ I s' g' w') ∧ μ s' < μ s) Q .normal (A n f) w := ⟨s', f, rfl, ⟨hk, hI⟩, hm⟩
end

end

/-! ### a function's beginning and end -/
instance dfs0 : Dfs := ⟨[]⟩
def envL : Nat → List Value → Env
  | _, [] => fun _ => undef
  | i, v :: l => upd (envL (i + 1) l) i v
theorem envL_get (l : List Value) : ∀ i k, envL i l (i + k) = l.getD k undef := by
  induction l with
  | nil => intro i k; simp [envL]
  | cons v l ih =>
    intro i k
    cases k with
    | zero => simp [envL, upd_same]
    | succ k =>
      rw [envL, upd_ne _ _ (by omega)]
      have := ih (i + 1) k
      rw [show i + (k + 1) = i + 1 + k by omega, this]
      simp
theorem enter_act {fn : Func} {l : List Value} {n : Nat} (hn : fn.ntmps = n) (hl : Nat.ble l.length n = true) :
    ({ tmps := l.toArray ++ Array.replicate (fn.ntmps - l.toArray.size) undef, defers := [] } : Act) = A n (envL 0 l) := by
  have hle := Nat.le_of_ble_eq_true hl
  show Act.mk _ _ = Act.mk _ _
  congr 1
  apply Array.ext_getElem?
  intro i
  show _ = (A n (envL 0 l)).tmps[i]?
  rw [A_get]
  have hg := envL_get l 0 i
  rw [Nat.zero_add] at hg
  rw [hg, hn]
  by_cases hi : i < l.length
  · rw [Array.getElem?_append_left (by simpa using hi), if_pos (by omega)]
    simp [List.getD, hi]
  · rw [Array.getElem?_append_right (by simp; omega)]
    simp only [List.size_toArray, Array.getElem?_replicate]
    by_cases h2 : i < n
    · rw [if_pos (by omega), if_pos h2]; simp [List.getD, List.getElem?_eq_none (by omega : l.length ≤ i)]
    · rw [if_neg (by omega), if_neg h2]
theorem enter {P : Program} {fid : FuncId} {fn : Func} {c : Code} {l : List Value} {w : World} {R : Ending → World → Prop} {n : Nat}
    (hf : P.funcs[fid]? = some fn) (hb : fn.body = some c) (hn : fn.ntmps = n) (hl : Nat.ble l.length n = true)
    (h : c.wp P (bodyPost P fn R) (A n (envL 0 l)) w) : Calls P fid l.toArray w R := by
  refine calls_of_wp hf hb ?_
  rw [enter_act hn hl]
  exact h
section
variable {P : Program} {fn : Func} {R : Ending → World → Prop} {n : Nat} {f : Env} {w : World}
theorem ret0 (hr : fn.results = #[]) (h : R (.returned (.tuple #[])) w) : bodyPost P fn R .ret (A n f) w :=
  ⟨rfl, .tuple #[], by simp [results, hr], h⟩
theorem end0 (hr : fn.results = #[]) (h : R (.returned (.tuple #[])) w) : bodyPost P fn R .normal (A n f) w :=
  ⟨rfl, .tuple #[], by simp [results, hr], h⟩
theorem ret1 {t : Nat} {v : Value} (hr : fn.results = #[.tmp t]) (hv : ev n f (.tmp t) = v) (h : R (.returned v) w) : bodyPost P fn R .ret (A n f) w :=
  ⟨rfl, v, by
    have e : (A n f).tmps.getD t undef = v := by rw [A_getD]; exact hv
    rw [Array.getD_eq_getD_getElem?] at e
    simp [results, hr, e], h⟩
theorem ret2 {t u : Nat} {v x : Value} (hr : fn.results = #[.tmp t, .tmp u]) (hv : ev n f (.tmp t) = v) (hx : ev n f (.tmp u) = x)
    (h : R (.returned (.tuple #[v, x])) w) : bodyPost P fn R .ret (A n f) w :=
  ⟨rfl, .tuple #[v, x], by
    have e : (A n f).tmps.getD t undef = v := by rw [A_getD]; exact hv
    have e2 : (A n f).tmps.getD u undef = x := by rw [A_getD]; exact hx
    rw [Array.getD_eq_getD_getElem?] at e e2
    simp [results, hr, e, e2], h⟩
theorem retc {t ty : Nat} {v : Value} {a : Addr} (hr : fn.results = #[.cell t ty]) (hv : ev n f (.tmp t) = .pointer (some a)) (hl : (loadVar ty a).run P w = .ok v w)
    (h : R (.returned v) w) : bodyPost P fn R .ret (A n f) w :=
  ⟨rfl, v, by
    have e : (A n f).tmps.getD t undef = .pointer (some a) := by rw [A_getD]; exact hv
    rw [Array.getD_eq_getD_getElem?] at e
    simp [results, hr, e, asAddr, hl], h⟩
end
end Go.Rf
