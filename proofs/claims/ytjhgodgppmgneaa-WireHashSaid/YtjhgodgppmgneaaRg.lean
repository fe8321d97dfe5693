/-
  A range over a function (the kit's laws of the fenced walk, brought to the frames of this engine). It speaks of no program.
-/
import Derived.Test.YtjhgodgppmgneaaOp3
import Derived.RangeFuncSeq
import Derived.RangeFuncLeaves
import Derived.TacticsIn
namespace Go.Rf
open Go.RowKit
set_option linter.unusedVariables false
set_option linter.unusedSimpArgs false

def noDefer : List Oper → Bool
  | [] => true
  | o :: l => (match o.op with | .defer _ => false | _ => true) && noDefer l
theorem noDefer_one {o : Oper} {l : List Oper} (h : noDefer (o :: l) = true) : ∀ c, o.op ≠ .defer c := by
  intro c e
  simp [noDefer, e] at h
/-- one operation of a fenced list, by the rules of the plain walk -/
theorem in_step {P : Program} {ops : Array Oper} {Q : Exit → Act → World → Prop} {rest : List Oper} {o : Oper} {a : Act} {w : World} {ro : Option Nat} {m : Nat} (hn : noDefer [o] = true)
    (h : wpList P ops (Exit.then (wpListIn { Fence.wide with round := ro } m P ops Q rest) (fun _ _ _ => False)) [o] a w) : wpListIn { Fence.wide with round := ro } m P ops Q (o :: rest) a w := by
  unfold wpList at h
  unfold wpListIn
  split
  · rename_i hw
    rw [if_pos hw] at h
    rcases h with h | ⟨_, a', w', h2⟩
    · refine ⟨fun _ _ => trivial, ?_⟩
      rw [Oper.semAt_eq _ _ _ (noDefer_one hn)]
      unfold Oper.wp at h
      generalize (execOp a.eval o).run P w = r at h ⊢
      cases r with
      | ok x w' =>
        cases x with
        | value v => exact h
        | skip => exact h
        | defer d => exact h
        | enter fid args =>
          refine ⟨fun hd => by simp [Fence.wide] at hd, ?_⟩
          have := callsIn_wide (n := m - 1) (P := P).2 h
          refine CallsIn.mono (F := { Fence.wide with round := ro }) this fun e w'' he => ?_
          cases e with
          | returned v => exact he
          | panicked c => exact he.elim
          | outgrown => obtain ⟨_, _, hf⟩ := he; exact hf.elim
        | row row args =>
          refine ⟨fun hd => by simp [Fence.wide] at hd, ?_⟩
          intro c cs _
          obtain ⟨v, w'', hr, hs⟩ := h c cs
          exact ⟨v, w'', hr, stepsIn_wide.2 hs⟩
        | _ => exact h.elim
      | halt x w' => cases x <;> exact h.elim
    · exact h2.elim
  · rename_i hw
    rw [if_neg hw] at h
    exact ⟨fun _ _ => trivial, h⟩
/-- a whole region of a round's frame -/
theorem in_list {P : Program} {ops : Array Oper} {Q : Exit → Act → World → Prop} {ro : Option Nat} {m : Nat} : ∀ (l : List Oper) (a : Act) (w : World), noDefer l = true → wpList P ops (Exit.then (fun a w => Q .normal a w) (fun _ _ _ => False)) l a w → wpListIn { Fence.wide with round := ro } m P ops Q l a w
  | [], a, w, _, h => h
  | o :: l, a, w, hn, h => by
    have hn' : noDefer l = true := by simp only [noDefer, Bool.and_eq_true] at hn; exact hn.2
    have hn1 : noDefer [o] = true := by simp only [noDefer, Bool.and_eq_true] at hn ⊢; exact ⟨hn.1, trivial⟩
    refine in_step hn1 ?_
    have ih := fun a w => in_list (P := P) (ops := ops) (Q := Q) (ro := ro) (m := m) l a w hn'
    unfold wpList at h ⊢
    split
    · rename_i hw
      rw [if_pos hw] at h
      rcases h with h | ⟨_, a', w', h2⟩
      · refine .inl ?_
        unfold Oper.wp at h ⊢
        generalize (execOp a.eval o).run P w = r at h ⊢
        cases r with
        | ok x w' =>
          cases x with
          | value v => exact ih _ _ h
          | skip => exact ih _ _ h
          | defer d => exact ih _ _ h
          | enter fid args =>
            refine Calls.mono h fun e w'' he => ?_
            cases e with
            | returned v => exact ih _ _ he
            | panicked c => exact he
            | outgrown => obtain ⟨_, _, hf⟩ := he; exact hf.elim
          | row row args => exact Rows.mono h (fun _ _ he => ih _ _ he)
          | _ => exact h.elim
        | halt x w' => cases x <;> exact h.elim
      · exact h2.elim
    · rename_i hw
      rw [if_neg hw] at h
      exact ih _ _ h
theorem in_region {P : Program} {Q : Exit → Act → World → Prop} {ro : Option Nat} {m id : Nat} {l : List Oper} {a : Act} {w : World} (hn : noDefer l = true)
    (h : wpList P l.toArray (Exit.then (fun a w => Q .normal a w) (fun _ _ _ => False)) l a w) : (Code.region id l.toArray false).wpIn { Fence.wide with round := ro } m P Q a w := wpIn_region_lit (in_list l a w hn h)
/-- a plain frame's region, whose list is walked fenced -/
theorem c_regionIn {P : Program} {Q : Exit → Act → World → Prop} {id : Nat} {l : List Oper} {a : Act} {w : World} (h : wpListIn { Fence.wide with round := none } 0 P l.toArray Q l a w) : (Code.region id l.toArray false).wp P Q a w :=
  wpIn_wide.1 (wpIn_region_lit h)
/-- the call of yield -/
theorem in_yield {D : Dfs} {P : Program} {ops : Array Oper} {Q : Exit → Act → World → Prop} {rest : List Oper} {n : Nat} {f : Env} {w : World} {d : Nat} {ty : TypeId} {ps : String} {af : Array Edge} {x y : Operand} {at_ : Array TypeId} {l : Nat} {v : Value} {R : Ending → World → Prop}
    (hx : ev n f x = .func (.yield l) #[] #[]) (hy : ev n f y = v) (hY : YieldAt Fence.wide 0 P l #[v] w R)
    (h : ∀ e w', R e w' → ∃ r, e = .returned r ∧ wpListIn { Fence.wide with round := none } 0 P ops Q rest (A n (upd f d r)) w') :
    wpListIn { Fence.wide with round := none } 0 P ops Q (⟨some d, .call { callee := .value x, args := #[y], argTypes := at_ }, ty, ps, af, none⟩ :: rest) (A n f) w := by
  obtain ⟨fn, tmps, assign, body, hy', hR⟩ := hY
  unfold wpListIn
  rw [if_pos (by simp [Region.wanted])]
  refine ⟨fun _ _ => trivial, ?_⟩
  have e : (Oper.semAt none (A n f).eval ⟨some d, .call { callee := .value x, args := #[y], argTypes := at_ }, ty, ps, af, none⟩).run P w = .ok (.round l fn tmps assign body) w := by
    rw [Oper.semAt_none, A_eval]
    simp only [execOp, resolve, invoke, hx, Deferred.ofValue]
    simp [hy, hy']
  show Oper.uponIn _ _ _ _ _ _ _ ((Oper.semAt none (A n f).eval ⟨some d, .call { callee := .value x, args := #[y], argTypes := at_ }, ty, ps, af, none⟩).run P w)
  rw [e]
  refine ⟨fun hd => by simp [Fence.wide] at hd, ?_⟩
  refine RoundIn.mono (F := { Fence.wide with round := none }) hR fun e' w' he => ?_
  obtain ⟨r, rfl, hk⟩ := h e' w' he
  show wpListIn _ _ _ _ _ _ ((A n f).put (some d) r) w'
  rw [A_put]
  exact hk

theorem A_round (n : Nat) (f : Env) (p : Nat) (v : Value) : ({ tmps := ((#[p] : Array Tmp).zip #[v]).foldl (fun t (p, v) => t.setIfInBounds p v) (A n f).tmps, defers := [] } : Act) = A n (upd f p v) := by
  have h := A_put (D := dfs0) n f (some p) v
  simp only [Act.put, updo] at h
  rw [← h]
  have e : (#[p] : Array Nat).zip #[v] = #[(p, v)] := by simp [Array.zip]
  simp [e]
  rfl
/-- the statement 'for x := range g { body }' where no round leaves early: 'xs' are the values that come, 'I k' holds after k rounds -/
theorem c_range {D : Dfs} {P : Program} {Q : Exit → Act → World → Prop} {n : Nat} {f : Env} {w : World} {g : Operand} {p gf : Nat} {lb : Array Value} {asg body : Code} [F : FnT P gf] (f1 : Value → Env) (hg : ev n f g = .func (.func gf) #[] lb)
    (xs : List Value) (I : Nat → World → Prop) (hI : ∀ k W W', I k W → Fr [w.heap.size + 1] W W' → I k W') (h0 : ∀ W, Fr [] w W → I 0 W)
    (hseq : ∀ (l : Nat) (J : Nat → World → Prop) (W : World), J 0 W → (∀ k W1, J k W1 → I k W1) →
      (∀ k v W1, xs[k]? = some v → J k W1 → YieldAt Fence.wide 0 P l #[v] W1 fun e W' => e = .returned (.bool true) ∧ J (k + 1) W') →
      Calls P gf (#[.func (.yield l) #[] #[]] ++ lb) W fun e W' => (∃ v, e = .returned v) ∧ J xs.length W')
    (hasg : ∀ l v W K, K (@A n (f1 v) dfs0) W → asg.wpIn { Fence.wide with round := some l } 0 P (Exit.then K (fun _ _ _ => False)) (@A n (upd f p v) dfs0) W)
    (hbody : ∀ l k v W, xs[k]? = some v → I k W → w.heap.size + 1 < W.heap.size → body.wpIn { Fence.wide with round := some l } 0 P (fun e _ W' => e = .normal ∧ I (k + 1) W' ∧ W'.heap[w.heap.size]? = W.heap[w.heap.size]? ∧ W'.heap[w.heap.size + 1]? = W.heap[w.heap.size + 1]?) (@A n (f1 v) dfs0) W)
    (hdone : ∀ W, I xs.length W → W.heap[w.heap.size]? = some (.deferred (some [])) → Q .normal (@A n f ⟨{ target := .collected w.heap.size, args := #[] } :: D.ds⟩) W) : (Code.rangeFunc g #[p] asg body).wp P Q (A n f) w := by
  refine (wpIn_wide (n := 0)).1 (wpIn_rangeFunc ?_)
  intro fn hfn
  obtain ⟨rec, hrec⟩ : ∃ rec : LoopState → Option Code → Loop, rec = fun st pe => { state := st, pending := pe, fn, tmps := (A n f).tmps, params := #[p], assign := asg, body, defers := w.heap.size } := ⟨_, rfl⟩
  obtain ⟨W1, hW1⟩ : ∃ W1, (w.alloc (.deferred (some []))).alloc (.loop (rec .ready none)) = W1 := ⟨_, rfl⟩
  have hL1 : W1.heap[w.heap.size + 1]? = some (.loop (rec .ready none)) := by
    rw [← hW1]; have := World.alloc_heap_new (w.alloc (.deferred (some []))) (.loop (rec .ready none)); rwa [World.size_alloc] at this
  have hK1 : W1.heap[w.heap.size]? = some (.deferred (some [])) := by
    rw [← hW1]; exact (Below.heap_alloc _ _ _ (by simp)).trans (World.alloc_heap_new w _)
  have hF1 : Fr [] w W1 := by rw [← hW1]; exact (Fr.alloc [] w _).trans0 (Fr.alloc [] _ _)
  have hput : ∀ (W : World) (o : Obj), Fr [w.heap.size + 1] W (W.putObj (w.heap.size + 1) o) := fun W o => ⟨rfl, rfl, rfl, by simp, fun k _ hk => World.putObj_heap_other (by simpa using hk)⟩
  obtain ⟨fn0, hfn0, hnm, hbd⟩ := F.f
  refine ⟨w.heap.size + 1, [{ target := .collected w.heap.size, args := #[] }], W1, { target := .fn (.func gf) lb, args := #[.func (.yield (w.heap.size + 1)) #[] #[]] }, W1, gf,
    #[.func (.yield (w.heap.size + 1)) #[] #[]] ++ lb, W1, ?_, ?_, fun _ _ => trivial, ?_, fun hd => by simp [Fence.wide] at hd, ?_⟩
  · rw [← hW1, hrec]; exact run_enterLoop_outer _ _ _ _ _
  · simp only [resolve]
    have e1 : Act.eval { A n f with defers := [{ target := .collected w.heap.size, args := #[] }] ++ (A n f).defers } = ev n f := A_eval (D := ⟨[{ target := .collected w.heap.size, args := #[] }] ++ (A n f).defers⟩) n f
    first
      | (rw [e1, hg]; simp [go_sem, ev])
      | (simp only [A_eval, hg]; simp [go_sem, ev])
  · have hn' : ¬ fn0.name = "runtime.NumGoroutine" := by simpa using hnm
    have hb' : ¬ fn0.body = none := by intro e; rw [e] at hbd; cases hbd
    simp [invoke, callFunc, go_sem, hfn0, hn', hb']
  · refine callsIn_wide.2 ((hseq (w.heap.size + 1) (fun k W => I k W ∧ W.heap[w.heap.size + 1]? = some (.loop (rec .ready none)) ∧ W.heap[w.heap.size]? = some (.deferred (some []))) W1 ⟨h0 _ hF1, hL1, hK1⟩ (fun k W h => h.1) ?_).mono ?_)
    · rintro k v W hx ⟨hi, hl, hk⟩
      have hlt : w.heap.size + 1 < W.heap.size := (Array.getElem?_eq_some_iff.1 hl).1
      have hy := run_yield (P := P) (args := #[v]) hl (by rw [hrec]; rfl)
      rw [hrec] at hy
      refine ⟨fn, _, asg, body, hy, roundIn_of_wpIn hfn ?_⟩
      have hl2 : (W.putObj (w.heap.size + 1) (.loop { rec .ready none with state := .busy })).heap[w.heap.size + 1]? = some (.loop { rec .ready none with state := .busy }) := World.putObj_heap_same hlt
      have hk2 : (W.putObj (w.heap.size + 1) (.loop { rec .ready none with state := .busy })).heap[w.heap.size]? = some (.deferred (some [])) := (World.putObj_heap_other (by omega)).trans hk
      have hb := hbody (w.heap.size + 1) k v _ hx (hI _ _ _ hi (hput W (.loop { rec .ready none with state := .busy }))) (by simpa using hlt)
      have key : asg.wpIn (Fence.wide.inRound (w.heap.size + 1)) 0 P (Exit.then (fun a₁ w₁ => ∃ w₂, (Instr.beginRound (w.heap.size + 1)).run P w₁ = .ok () w₂ ∧ body.wpIn (Fence.wide.inRound (w.heap.size + 1)) 0 P (roundPost P (w.heap.size + 1) (fun e W' => e = .returned (.bool true) ∧ I (k + 1) W' ∧ W'.heap[w.heap.size + 1]? = some (.loop (rec .ready none)) ∧ W'.heap[w.heap.size]? = some (.deferred (some [])))) a₁ w₂) (fun _ _ _ => False)) (@A n (upd f p v) dfs0) W := by
        refine hasg _ v W _ ⟨_, run_beginRound hl (by rw [hrec]), ?_⟩
        refine wpIn_mono hb ?_
        rintro e a3 W3 ⟨rfl, hi3, hd3, hl3⟩
        have hl3' := hl3.trans hl2
        refine ⟨_, _, run_endRound none hl3', rfl, hI _ _ _ hi3 (hput _ _), ?_, ?_⟩
        · have := World.putObj_heap_same (w := W3) (o := .loop (rec .ready none)) (Array.getElem?_eq_some_iff.1 hl3').1
          rw [hrec] at this ⊢
          exact this
        · exact (World.putObj_heap_other (by omega)).trans (hd3.trans hk2)
      rw [← A_round n f p v] at key
      exact key
    · rintro e W2 ⟨⟨v, rfl⟩, hi, hl, hk⟩
      refine ⟨none, _, by have := run_endLoop (P := P) hl (by rw [hrec]; simp); rw [hrec] at this; exact this, ?_⟩
      exact hdone _ (hI _ _ _ hi (hput _ _)) ((World.putObj_heap_other (by omega)).trans hk)

/-- the same, where the loop has one variable of its own -/
theorem c_rangeD {D : Dfs} {P : Program} {Q : Exit → Act → World → Prop} {n : Nat} {f : Env} {w : World} {g : Operand} {p d gf id : Nat} {ty : TypeId} {ps : String} {af : Array Edge} {lb : List Value} {body : Code} [F : FnT P gf] (hg : ev n f g = .func (.func gf) #[] lb.toArray)
    (xs : List Value) (I : Nat → World → Prop) (hI : ∀ k W W', I k W → Fr [w.heap.size + 1] W W' → I k W') (h0 : ∀ W, Fr [] w W → I 0 W)
    (hseq : ∀ (l : Nat) (J : Nat → World → Prop) (W : World), J 0 W → (∀ k W1, J k W1 → I k W1) →
      (∀ k v W1, xs[k]? = some v → J k W1 → YieldAt Fence.wide 0 P l #[v] W1 fun e W' => e = .returned (.bool true) ∧ J (k + 1) W') →
      Calls P gf (.func (.yield l) #[] #[] :: lb).toArray W fun e W' => (∃ v, e = .returned v) ∧ J xs.length W')
    (hbody : ∀ l k v W, xs[k]? = some v → I k W → w.heap.size + 1 < W.heap.size → body.wpIn { Fence.wide with round := some l } 0 P (fun e _ W' => e = .normal ∧ I (k + 1) W' ∧ W'.heap[w.heap.size]? = W.heap[w.heap.size]? ∧ W'.heap[w.heap.size + 1]? = W.heap[w.heap.size + 1]?) (@A n (upd (upd f p v) d v) dfs0) W)
    (hdone : ∀ W, I xs.length W → W.heap[w.heap.size]? = some (.deferred (some [])) → Q .normal (@A n f ⟨{ target := .collected w.heap.size, args := #[] } :: D.ds⟩) W) (hp : Nat.blt p n = true := by rfl) :
    (Code.rangeFunc g #[p] (Code.region id [⟨some d, .assign (.tmp p), ty, ps, af, none⟩].toArray false) body).wp P Q (A n f) w := by
  refine c_range (fun v => upd (upd f p v) d v) hg xs I hI h0 ?_ ?_ hbody hdone
  · intro l J W h1 h2 h3
    have := hseq l J W h1 h2 h3
    simpa using this
  · intro l v W K hK
    refine in_region rfl ?_
    refine s_assignV (v := v) ?_ (wpList_nil hK)
    simp only [ev, hp, cond_true, upd_same]

/-! ### a function with such a statement: its beginning and end -/
theorem enterM {P : Program} {fid : FuncId} {fn : Func} {c : Code} {l : List Value} {w : World} {R : Ending → World → Prop} {n : Nat}
    (hf : P.funcs[fid]? = some fn) (hb : fn.body = some c) (hn : fn.ntmps = n) (hl : Nat.ble l.length n = true)
    (h : c.wp P (bodyPostM Fence.wide 0 P fn R) (A n (envL 0 l)) w) : Calls P fid l.toArray w R := by
  refine (callsIn_wide (n := 0)).1 (callsIn_of_wp_marks hf hb trivial ?_)
  rw [enter_act hn hl]
  exact wpIn_wide.2 h
def Mark (b : Nat) : Deferred := { target := .collected b, args := #[] }
theorem retM1 {P : Program} {fn : Func} {R : Ending → World → Prop} {n : Nat} {f : Env} {w : World} {b t : Nat} {v : Value} (hr : fn.results = #[.tmp t]) (hD : w.heap[b]? = some (.deferred (some []))) (hv : ev n f (.tmp t) = v)
    (h : ∀ w', Fr [b] w w' → R (.returned v) w') : bodyPostM Fence.wide 0 P fn R .ret (@A n f ⟨[Mark b]⟩) w := by
  refine ⟨by simp, .inl ⟨b, _, rfl, run_takeDeferred hD, ?_⟩⟩
  refine ⟨v, ?_, h _ ⟨rfl, rfl, rfl, by simp, fun k _ hk => World.putObj_heap_other (by simpa using hk)⟩⟩
  have e : (A n f).tmps.getD t undef = v := by rw [A_getD]; exact hv
  rw [Array.getD_eq_getD_getElem?] at e
  have e' : (@A n f ⟨[Mark b]⟩).tmps = (A n f).tmps := rfl
  simp [results, hr, e', e]

/-! ### equality of truth values -/
theorem equalIn_bool {P : Program} {w : World} {t : Nat} (dd : Nat) {a b : Bool} (hu : P.underlying t = some .bool) : (Op.equalIn (dd + 1) t (.bool a) (.bool b)).run P w = .ok (a == b) w := by
  simp [Op.equalIn, run_underlying hu]
theorem equal_bool {P : Program} {w : World} {t : Nat} {a b : Bool} (hu : P.underlying t = some .bool) : (Op.equal t (.bool a) (.bool b)).run P w = .ok (a == b) w := equalIn_bool 9999 hu
theorem s_eqlB {D : Dfs} {P : Program} {ops : Array Oper} {Q : Exit → Act → World → Prop} {rest : List Oper} {n : Nat} {f : Env} {w : World} {d : Nat} {ty : TypeId} {ps : String} {af : Array Edge} {x y : Operand} {t t2 : Nat} {a b p : Bool} (hu : P.underlying t = some .bool) (hx : ev n f x = .bool a) (hy : ev n f y = .bool b) (hp : (a == b) = p) (h : wpList P ops Q rest (A n (upd f d (.bool p))) w) :
    wpList P ops Q (⟨some d, .binOp .eql t x y t2, ty, ps, af, none⟩ :: rest) (A n f) w := by
  subst hp
  have := equal_bool (P := P) (w := w) (a := a) (b := b) hu
  exact s_run (by simp [execOp, eqGuard, binOp, hx, hy, this]) h
end Go.Rf
