/-
  Maps for the stepping engine: what a map holds ('Mp'), making, looking up, storing, counting, ranging over. It speaks of no program.
-/
import Derived.Test.YtpochcchekoonaaGreatK1
import Derived.Maps.RangeRun
namespace Go.Rf
open Go.RowKit
set_option linter.unusedVariables false
set_option linter.unusedSimpArgs false
/-- cuts that keep the locals -/
theorem cut_key {K : Act → World → Prop} {n : Nat} {f : Env} {nl : Nat} {S : List Nat} {R : Env → World → Prop} (h2 : ∀ g w, R (mrg nl S f g) w → K (A n (mrg nl S f g)) w) : ∀ g w, (Keep nl S f g ∧ R g w) → K (A n g) w := fun g w ⟨hk, hR⟩ => by
  have e := hk.eq
  rw [e] at hR ⊢
  exact h2 g w hR
theorem w_cutK {P : Program} {ops : Array Oper} {Q : Exit → Act → World → Prop} {K : Act → World → Prop} {l : List Oper} {n : Nat} {f : Env} {w : World} (nl : Nat) (S : List Nat) (R : Env → World → Prop)
    (h1 : wpList P ops (Exit.then (fun a w => ∃ g, a = A n g ∧ (Keep nl S f g ∧ R g w)) Q) l (A n f) w) (h2 : ∀ g w, R (mrg nl S f g) w → K (A n (mrg nl S f g)) w) : wpList P ops (Exit.then K Q) l (A n f) w :=
  w_cut (fun g w => Keep nl S f g ∧ R g w) h1 (cut_key h2)
theorem c_cutK {P : Program} {Q : Exit → Act → World → Prop} {K : Act → World → Prop} {n : Nat} {f : Env} {w : World} {c : Code} (nl : Nat) (S : List Nat) (R : Env → World → Prop)
    (h1 : c.wp P (Exit.then (fun a w => ∃ g, a = A n g ∧ (Keep nl S f g ∧ R g w)) Q) (A n f) w) (h2 : ∀ g w, R (mrg nl S f g) w → K (A n (mrg nl S f g)) w) : c.wp P (Exit.then K Q) (A n f) w :=
  c_cut (fun g w => Keep nl S f g ∧ R g w) h1 (cut_key h2)
theorem q_cutK {Q : Exit → Act → World → Prop} {n : Nat} {f f0 : Env} {w : World} {nl : Nat} {S : List Nat} {R : Env → World → Prop} (hk : Keep nl S f0 f) (h : R f w) : Exit.then (fun a w => ∃ g, a = A n g ∧ (Keep nl S f0 g ∧ R g w)) Q .normal (A n f) w := ⟨f, rfl, hk, h⟩
/-- the keys of a map's type: the values 'key a' are compared as the a are -/
class KeyT (P : Program) (k : Nat) {α : Type} [DecidableEq α] (key : α → Value) : Prop where
  now : ∃ d, P.underlying k = some d ∧ ((∀ a b, Instr.sameNow d (key a) (key b) = some (decide (a = b))) ∨ (∀ a b, Instr.sameNow d (key a) (key b) = none))
  eqv : ∀ a b w, (Op.equal k (key a) (key b)).run P w = .ok (decide (a = b)) w
  chk : ∀ (e : Bool) a w, (Instr.checkKey e 10000 k (key a)).run P w = .ok () w
  same : ∀ a, Instr.sameBits 10000 (key a) (key a) = true
class MapT (P : Program) (t : Nat) (k e : outParam Nat) : Prop where u : P.underlying t = some (.map k e)
section
variable {α β : Type} [DecidableEq α]
def getM : List (α × β) → α → Option β
  | [], _ => none
  | p :: m, a => if a = p.1 then some p.2 else getM m a
def putM : List (α × β) → α → β → List (α × β)
  | [], a, v => [(a, v)]
  | p :: m, a, v => if a = p.1 then (a, v) :: m else p :: putM m a v
/-- where a key is, and its element -/
def lookI : List (α × β) → α → Nat → Option (Nat × β)
  | [], _, _ => none
  | p :: m, a, i => if a = p.1 then some (i, p.2) else lookI m a (i + 1)
theorem lookI_get : ∀ (m : List (α × β)) (a : α) (i : Nat), (lookI m a i).map (·.2) = getM m a
  | [], a, i => rfl
  | p :: m, a, i => by
    rw [lookI, getM]
    split
    · rfl
    · exact lookI_get m a (i + 1)
theorem lookI_none : ∀ {m : List (α × β)} {a : α} {i : Nat}, lookI m a i = none ↔ a ∉ m.map Prod.fst
  | [], a, i => by simp [lookI]
  | p :: m, a, i => by
    rw [lookI]
    split
    · rename_i h; simp [h]
    · rename_i h; rw [lookI_none]; simp [h]
theorem lookI_some : ∀ {m : List (α × β)} {a : α} {i j : Nat} {v : β}, lookI m a i = some (j, v) → i ≤ j ∧ m[j - i]? = some (a, v) ∧ ∀ v', putM m a v' = m.set (j - i) (a, v')
  | [], a, i, j, v, h => by simp [lookI] at h
  | p :: m, a, i, j, v, h => by
    rw [lookI] at h
    split at h
    · rename_i hp
      simp only [Option.some.injEq, Prod.mk.injEq] at h
      obtain ⟨rfl, rfl⟩ := h
      refine ⟨Nat.le_refl _, by rw [Nat.sub_self, hp]; rfl, fun v' => by rw [Nat.sub_self, putM, if_pos hp]; rfl⟩
    · rename_i hp
      obtain ⟨h1, h2, h3⟩ := lookI_some h
      obtain ⟨q, hq⟩ : ∃ q, j - i = q + 1 := ⟨j - i - 1, by omega⟩
      have hq' : j - (i + 1) = q := by omega
      rw [hq'] at h2 h3
      rw [hq]
      exact ⟨by omega, by simpa using h2, fun v' => by rw [putM, if_neg hp, h3]; rfl⟩
theorem putM_new {m : List (α × β)} {a : α} {v : β} (h : a ∉ m.map Prod.fst) : putM m a v = m ++ [(a, v)] := by
  induction m with
  | nil => rfl
  | cons p m ih =>
    simp only [List.map_cons, List.mem_cons, not_or] at h
    rw [putM, if_neg h.1, ih h.2]; rfl
theorem putM_keys {m : List (α × β)} {a : α} {v : β} : (putM m a v).map Prod.fst = if a ∈ m.map Prod.fst then m.map Prod.fst else m.map Prod.fst ++ [a] := by
  induction m with
  | nil => simp [putM]
  | cons p m ih =>
    rw [putM]
    by_cases h : a = p.1
    · simp [h]
    · rw [if_neg h, List.map_cons, ih]
      simp only [List.map_cons, List.mem_cons, h, false_or]
      split <;> simp
theorem putM_nd {m : List (α × β)} {a : α} {v : β} (h : (m.map Prod.fst).Nodup) : ((putM m a v).map Prod.fst).Nodup := by
  rw [putM_keys]
  split
  · exact h
  · rename_i hn
    rw [List.nodup_append]
    exact ⟨h, by simp, fun x hx y hy => by rw [List.mem_singleton] at hy; subst hy; exact fun e => hn (e ▸ hx)⟩
theorem getM_put {m : List (α × β)} {a c : α} {v : β} : getM (putM m a v) c = if c = a then some v else getM m c := by
  induction m with
  | nil => rfl
  | cons p m ih =>
    rw [putM]
    by_cases h : a = p.1
    · rw [if_pos h, getM, getM]
      by_cases hc : c = a
      · rw [if_pos hc, if_pos hc]
      · rw [if_neg hc, if_neg hc, if_neg (fun e => hc (by rw [e, h]))]
    · rw [if_neg h, getM, getM, ih]
      by_cases hc : c = p.1
      · rw [if_pos hc, if_neg (fun e => h (by rw [← e, hc])), if_pos hc]
      · rw [if_neg hc, if_neg hc]
theorem getM_none {m : List (α × β)} {a : α} : getM m a = none ↔ a ∉ m.map Prod.fst := by
  induction m with
  | nil => simp [getM]
  | cons p m ih =>
    rw [getM]
    by_cases h : a = p.1
    · simp [h]
    · rw [if_neg h, ih]; simp [h]
theorem getM_mem {m : List (α × β)} (hn : (m.map Prod.fst).Nodup) {a : α} {v : β} : getM m a = some v ↔ (a, v) ∈ m := by
  induction m with
  | nil => simp [getM]
  | cons p m ih =>
    simp only [List.map_cons, List.nodup_cons] at hn
    rw [getM]
    by_cases h : a = p.1
    · rw [if_pos h]
      constructor
      · intro e; cases e; rw [h]; simp
      · intro hm
        rcases List.mem_cons.1 hm with e | hm
        · rw [← e]
        · exact absurd (List.mem_map.2 ⟨_, hm, h⟩) hn.1
    · rw [if_neg h, ih hn.2]
      simp only [List.mem_cons]
      constructor
      · exact .inr
      · rintro (e | hm)
        · exact absurd (by rw [← e]) h
        · exact hm
end
/-! ### a map in memory -/
section
variable {α β : Type}
def ents (key : α → Value) (val : β → Value) : List (α × β) → List Nat → List MapEntry
  | p :: m, n :: ns => ⟨key p.1, val p.2, n⟩ :: ents key val m ns
  | _, _ => []
theorem ents_len (key : α → Value) (val : β → Value) : ∀ {m : List (α × β)} {ns : List Nat}, ns.length = m.length → (ents key val m ns).length = m.length
  | [], [], _ => rfl
  | [], n :: ns, h => by simp at h
  | p :: m, [], h => by simp at h
  | p :: m, n :: ns, h => by simp only [ents, List.length_cons]; rw [ents_len key val (by simpa using h)]
theorem ents_get (key : α → Value) (val : β → Value) : ∀ {m : List (α × β)} {ns : List Nat} {i : Nat} {p : α × β} {n : Nat}, m[i]? = some p → ns[i]? = some n → (ents key val m ns)[i]? = some ⟨key p.1, val p.2, n⟩
  | [], ns, i, p, n, h, _ => by simp at h
  | q :: m, [], i, p, n, _, h => by simp at h
  | q :: m, k :: ns, 0, p, n, h1, h2 => by
    simp only [List.getElem?_cons_zero, Option.some.injEq] at h1 h2
    subst h1 h2; rfl
  | q :: m, k :: ns, i + 1, p, n, h1, h2 => by
    simp only [List.getElem?_cons_succ] at h1 h2
    simpa [ents] using ents_get key val h1 h2
theorem ents_snoc (key : α → Value) (val : β → Value) : ∀ {m : List (α × β)} {ns : List Nat} {p : α × β} {n : Nat}, ns.length = m.length → ents key val (m ++ [p]) (ns ++ [n]) = ents key val m ns ++ [⟨key p.1, val p.2, n⟩]
  | [], [], p, n, _ => rfl
  | [], k :: ns, p, n, h => by simp at h
  | q :: m, [], p, n, h => by simp at h
  | q :: m, k :: ns, p, n, h => by simp only [List.cons_append, ents]; rw [ents_snoc key val (by simpa using h)]
theorem ents_mod (key : α → Value) (val : β → Value) (a : α) (v : β) : ∀ {m : List (α × β)} {ns : List Nat} {i : Nat}, ns.length = m.length → (ents key val m ns).modify i (fun e => { e with key := key a, val := val v }) = ents key val (m.set i (a, v)) ns
  | [], [], i, _ => by simp [ents]
  | [], k :: ns, i, h => by simp at h
  | q :: m, [], i, h => by simp at h
  | q :: m, k :: ns, 0, h => by simp [ents]
  | q :: m, k :: ns, i + 1, h => by
    simp only [ents, List.modify_succ_cons, List.set_cons_succ]
    rw [ents_mod key val a v (by simpa using h)]
end
section
variable {α β : Type}
/-- block b of w is a map with the elements m (in the order in which their keys were first stored) -/
def Mp (key : α → Value) (val : β → Value) (w : World) (b : Nat) (m : List (α × β)) : Prop :=
  ∃ ns clock, ns.length = m.length ∧ w.heap[b]? = some (.map (ents key val m ns).toArray clock) ∧ (m.map Prod.fst).Nodup ∧ ns.Nodup ∧ ∀ n ∈ ns, n < clock
variable {key : α → Value} {val : β → Value} {w w' : World} {b : Nat} {m : List (α × β)}
theorem Mp.lt (h : Mp key val w b m) : b < w.heap.size := by
  obtain ⟨ns, c, _, h, _⟩ := h
  exact (Array.getElem?_eq_some_iff.1 h).1
theorem Mp.tr {S : List Nat} (h : Mp key val w b m) (hf : Fr S w w') (hS : b ∉ S) : Mp key val w' b m := by
  have hl := h.lt
  obtain ⟨ns, c, h1, h2, h3⟩ := h
  exact ⟨ns, c, h1, by rw [hf.block b hl hS]; exact h2, h3⟩
theorem Mp.tr0 (h : Mp key val w b m) (hf : Fr [] w w') : Mp key val w' b m := h.tr hf (by simp)
theorem Mp.nd (h : Mp key val w b m) : (m.map Prod.fst).Nodup := by obtain ⟨ns, c, _, _, h, _⟩ := h; exact h
theorem Mp.ne {l : List Value} {c t : Nat} (h : Mp key val w b m) (hb : Blk w c l t) : b ≠ c := by
  intro e; subst e
  obtain ⟨ns, c, _, h, _⟩ := h
  unfold Blk at hb
  rw [h] at hb; cases hb
section
variable {P : Program} {ops : Array Oper} {Q : Exit → Act → World → Prop} {rest : List Oper} {n : Nat} {f : Env} {D : Dfs}
variable {d : Nat} {d' : Option Nat} {ty : TypeId} {ps : String} {af : Array Edge} {gd : Option (Nat × Bool)} {x y z : Operand} {t k e : Nat}
/-- make(map[K]V) -/
theorem s_makeMap (h : ∀ w', Mp key val w' w.heap.size ([] : List (α × β)) → Fr [] w w' → w'.heap.size = w.heap.size + 1 → wpList P ops Q rest (A n (upd f d (.map (some w.heap.size)))) w') :
    wpList P ops Q (⟨some d, .makeMap t none, ty, ps, af, none⟩ :: rest) (A n f) w := by
  refine s_run (w' := w.alloc (.map #[] 0)) (v := .map (some w.heap.size)) ?_ (h _ ⟨[], 0, rfl, (MapKept.heap_alloc w _).1, by simp, by simp, by simp⟩ (Fr.alloc _ _ _) (by simp))
  simp only [execOp, Instr.makeMap, newObj, Option.map_none]
  rfl
theorem r_lenM {b : Nat} [T : MapT P t k e] (hx : ev n f x = .map (some b)) (hm : Mp key val w b m) :
    (execOp (ev n f) ⟨some d, .call { callee := .builtin .len, args := #[x], argTypes := #[t] }, ty, ps, af, gd⟩).run P w = .ok (.value (.int .i64 (m.length : Nat))) w := by
  obtain ⟨ns, c, h1, h2, _⟩ := hm
  simp [execOp, resolve, invoke, builtin, Builtin.len_, run_underlying T.u, hx, goInt, MapKept.run_getObj_map h2, ents_len key val h1]
theorem s_lenM {b : Nat} [T : MapT P t k e] (hx : ev n f x = .map (some b)) (hm : Mp key val w b m) (h : wpList P ops Q rest (A n (upd f d (.int .i64 (m.length : Nat)))) w) :
    wpList P ops Q (⟨some d, .call { callee := .builtin .len, args := #[x], argTypes := #[t] }, ty, ps, af, none⟩ :: rest) (A n f) w := s_run (r_lenM hx hm) h
end
variable [DecidableEq α]
theorem find_now {d : TypeDesc} (hd : ∀ a b, Instr.sameNow d (key a) (key b) = some (decide (a = b))) (a : α) : ∀ {m : List (α × β)} {ns : List Nat} {i : Nat}, ns.length = m.length → Instr.findNow d (key a) (ents key val m ns) i = some ((lookI m a i).map fun p => (p.1, val p.2))
  | [], [], i, _ => rfl
  | [], n :: ns, i, h => by simp at h
  | p :: m, [], i, h => by simp at h
  | p :: m, n :: ns, i, h => by
    rw [ents, Instr.findNow, lookI, hd]
    by_cases e : a = p.1
    · rw [if_pos e, decide_eq_true e]; rfl
    · rw [if_neg e, decide_eq_false e]
      exact find_now hd a (by simpa using h)
theorem find_ask {P : Program} {k : Nat} (hd : ∀ a b w, (Op.equal k (key a) (key b)).run P w = .ok (decide (a = b)) w) (a : α) : ∀ {m : List (α × β)} {ns : List Nat} {i : Nat}, ns.length = m.length → (Instr.findAsking k (key a) (ents key val m ns) i).run P w = .ok ((lookI m a i).map fun p => (p.1, val p.2)) w
  | [], [], i, _ => rfl
  | [], n :: ns, i, h => by simp at h
  | p :: m, [], i, h => by simp at h
  | p :: m, n :: ns, i, h => by
    rw [ents, Instr.findAsking, lookI]
    simp only [Sem.run_bind, hd, Result.andThen_ok]
    by_cases e : a = p.1
    · rw [if_pos e, if_pos (decide_eq_true e)]; rfl
    · rw [if_neg e, if_neg (by simpa using e)]
      exact find_ask hd a (by simpa using h)
theorem find_key {P : Program} {k : Nat} [K : KeyT P k key] (a : α) {ns : List Nat} (h : ns.length = m.length) : (Instr.findKey k (key a) (ents key val m ns)).run P w = .ok ((lookI m a 0).map fun p => (p.1, val p.2)) w := by
  obtain ⟨d, hd, hn⟩ := K.now
  unfold Instr.findKey
  simp only [Sem.run_bind, run_underlying hd, Result.andThen_ok]
  rcases hn with hn | hn
  · rw [find_now hn a h]; rfl
  · cases m with
    | nil =>
      cases ns with
      | nil => rfl
      | cons n ns => simp at h
    | cons p m =>
      cases ns with
      | nil => simp at h
      | cons n ns =>
        have : Instr.findNow d (key a) (ents key val (p :: m) (n :: ns)) 0 = none := by rw [ents, Instr.findNow, hn]
        rw [this]
        exact find_ask K.eqv a h
section
variable {P : Program} {ops : Array Oper} {Q : Exit → Act → World → Prop} {rest : List Oper} {n : Nat} {f : Env} {D : Dfs}
variable {d : Nat} {d' : Option Nat} {ty : TypeId} {ps : String} {af : Array Edge} {gd : Option (Nat × Bool)} {x y z : Operand} {t k e : Nat}
theorem r_look {b : Nat} {a : α} {ok : Bool} [T : MapT P t k e] [K : KeyT P k key] {zv : Value} [Z : ZeroT P e zv] (hx : ev n f x = .map (some b)) (hy : ev n f y = key a) (hm : Mp key val w b m) :
    (execOp (ev n f) ⟨some d, .lookup t x y ok, ty, ps, af, gd⟩).run P w = .ok (.value (match getM m a with | some v => if ok then .tuple #[val v, .bool true] else val v | none => if ok then .tuple #[zv, .bool false] else zv)) w := by
  obtain ⟨ns, c, h1, h2, _⟩ := hm
  obtain ⟨i, hi, hz⟩ := Z.z
  have hf := find_key (P := P) (k := k) (w := w) (key := key) (val := val) a h1
  simp only [execOp, Instr.lookup, Sem.run_bind, run_underlying T.u, hx, hy, Result.andThen_ok, Sem.run_pure, MapKept.run_getObj_map h2, K.chk]
  rw [hf]
  rw [← lookI_get m a 0]
  cases hl : lookI m a 0 with
  | none => cases ok <;> simp [zeroValue, typeInfo, hi, hz]
  | some p => cases ok <;> simp
/-- v, ok := m[k] -/
theorem s_look2 {b : Nat} {a : α} [T : MapT P t k e] [K : KeyT P k key] {zv : Value} [Z : ZeroT P e zv] (hx : ev n f x = .map (some b)) (hy : ev n f y = key a) (hm : Mp key val w b m)
    (h : wpList P ops Q rest (A n (upd f d (match getM m a with | some v => .tuple #[val v, .bool true] | none => .tuple #[zv, .bool false]))) w) :
    wpList P ops Q (⟨some d, .lookup t x y true, ty, ps, af, none⟩ :: rest) (A n f) w := s_run (r_look hx hy hm) h
/-- m[k] -/
theorem s_look1 {b : Nat} {a : α} [T : MapT P t k e] [K : KeyT P k key] {zv : Value} [Z : ZeroT P e zv] (hx : ev n f x = .map (some b)) (hy : ev n f y = key a) (hm : Mp key val w b m)
    (h : wpList P ops Q rest (A n (upd f d (match getM m a with | some v => val v | none => zv))) w) :
    wpList P ops Q (⟨some d, .lookup t x y false, ty, ps, af, none⟩ :: rest) (A n f) w := s_run (r_look hx hy hm) h
theorem mp_set {o : Obj} {b : Nat} {es : Array MapEntry} {c : Nat} (h : w.heap[b]? = some (.map es c)) : Fr [b] w (ChangeMaps.setBlock w b o) ∧ (ChangeMaps.setBlock w b o).heap[b]? = some o := by
  have hl := (Array.getElem?_eq_some_iff.1 h).1
  refine ⟨⟨rfl, rfl, rfl, by simp [ChangeMaps.setBlock], fun i _ hi => ?_⟩, ?_⟩
  · have : ¬ b = i := fun e => hi (by rw [e]; simp)
    simp [ChangeMaps.setBlock, Array.getElem?_setIfInBounds, this]
  · simp [ChangeMaps.setBlock, Array.getElem?_setIfInBounds, hl]
theorem run_mapUpd {b : Nat} {a : α} {v : β} [T : MapT P t k e] [K : KeyT P k key] (hm : Mp key val w b m) :
    ∃ w', (Instr.mapUpdate t (.map (some b)) (key a) (val v)).run P w = .ok () w' ∧ Mp key val w' b (putM m a v) ∧ Fr [b] w w' ∧ w'.heap.size = w.heap.size := by
  obtain ⟨ns, c, h1, h2, h3, h4, h5⟩ := hm
  have hf := find_key (P := P) (k := k) (w := w) (key := key) (val := val) a h1
  cases hl : lookI m a 0 with
  | none =>
    rw [hl] at hf
    have hnm := lookI_none.1 hl
    have hs := mp_set (o := .map (ents key val (m ++ [(a, v)]) (ns ++ [c])).toArray (c + 1)) h2
    refine ⟨_, ?_, ⟨ns ++ [c], c + 1, by simp [putM_new hnm, h1], ?_, putM_nd h3, ?_, ?_⟩, hs.1, by simp [ChangeMaps.setBlock]⟩
    · simp only [Instr.mapUpdate, Sem.run_bind, run_underlying T.u, Result.andThen_ok, MapKept.run_getObj_map h2, K.chk]
      rw [hf]
      simp only [Option.map_none, Result.andThen_ok, MapKept.run_setObj_map _ h2]
      rw [ents_snoc key val h1]
      simp [ChangeMaps.setBlock]
    · rw [putM_new hnm]; exact hs.2
    · rw [List.nodup_append]
      exact ⟨h4, by simp, fun x hx y hy => by rw [List.mem_singleton] at hy; subst hy; exact fun e => by have := h5 x hx; omega⟩
    · intro q hq
      rcases List.mem_append.1 hq with hq | hq
      · have := h5 q hq; omega
      · rw [List.mem_singleton.1 hq]; omega
  | some p =>
    obtain ⟨j, v0⟩ := p
    rw [hl] at hf
    obtain ⟨_, g1, g2⟩ := lookI_some hl
    rw [Nat.sub_zero] at g1 g2
    have hjl : j < m.length := (List.getElem?_eq_some_iff.1 g1).1
    have hs := mp_set (o := .map (ents key val (m.set j (a, v)) ns).toArray c) h2
    have hge := ents_get key val (i := j) g1 (List.getElem?_eq_getElem (show j < ns.length by omega))
    refine ⟨_, ?_, ⟨ns, c, by rw [g2]; simp [h1], ?_, putM_nd h3, h4, h5⟩, hs.1, by simp [ChangeMaps.setBlock]⟩
    · simp only [Instr.mapUpdate, Sem.run_bind, run_underlying T.u, Result.andThen_ok, MapKept.run_getObj_map h2, K.chk]
      rw [hf]
      simp only [Option.map_some, Result.andThen_ok, Sem.run_bind, List.getElem?_toArray, hge, Option.getD_some, Instr.keyThatStays, K.same, if_true, Sem.run_pure, MapKept.run_setObj_map _ h2]
      rw [← ents_mod key val a v h1]
      simp [ChangeMaps.setBlock]
    · rw [g2]; exact hs.2
/-- m[k] = v -/
theorem s_mapUpd {b : Nat} {a : α} {v : β} [T : MapT P t k e] [K : KeyT P k key] (hm : Mp key val w b m) (hx : ev n f x = .map (some b)) (hy : ev n f y = key a) (hz : ev n f z = val v)
    (h : ∀ w', Mp key val w' b (putM m a v) → Fr [b] w w' → w'.heap.size = w.heap.size → wpList P ops Q rest (A n (updo f d' undef)) w') :
    wpList P ops Q (⟨d', .mapUpdate t x y z, ty, ps, af, none⟩ :: rest) (A n f) w := by
  obtain ⟨w', hr, h1, h2, h3⟩ := run_mapUpd (P := P) (t := t) (a := a) (v := v) hm
  refine s_skip (w' := w') ?_ (h w' h1 h2 h3)
  simp [execOp, hx, hy, hz, hr, Result.andThen]
end
end
/-! ### keys that are strings -/
theorem bytes_dec (a b : ByteArray) : (a == b) = decide (a = b) := by
  by_cases h : a = b
  · rw [decide_eq_true h]; exact (MapKept.bytes_beq a b).2 h
  · rw [decide_eq_false h]
    cases hb : a == b
    · rfl
    · exact absurd ((MapKept.bytes_beq a b).1 hb) h
theorem eqv_str {P : Program} {k : Nat} (h : P.underlying k = some .string) (a b : ByteArray) (w : World) : (Op.equal k (.string a) (.string b)).run P w = .ok (decide (a = b)) w := by
  have e := bytes_dec a b
  show (Op.equalIn (9999 + 1) k _ _).run P w = _
  rw [Op.equalIn]
  simp only [Sem.run_bind, run_underlying h, Result.andThen_ok, Sem.run_pure, e]
instance keyStr {P : Program} {k : Nat} [S : StrT P k] : KeyT P k Value.string where
  now := ⟨_, S.u, .inl fun a b => by
    have e := bytes_dec a b
    simp [Instr.sameNow, e]⟩
  eqv := eqv_str S.u
  chk := fun e a w => by
    show (Instr.checkKey e (9999 + 1) k (.string a)).run P w = _
    rw [Instr.checkKey]
    simp only [Sem.run_bind, run_underlying S.u, Result.andThen_ok]
    rfl
  same := fun a => by
    show Instr.sameBits (9999 + 1) _ _ = true
    rw [Instr.sameBits]
    exact (MapKept.bytes_beq a a).2 rfl
end Go.Rf
