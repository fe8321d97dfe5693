/-
  Memory: what a step may have changed ('Fr S w w'': of the blocks that were there only those in S), a block known whole ('Blk'), a slice that can be read ('Src'), a slice that the call owns ('Own'); 'append' for whatever source. It speaks of no program.
-/
import Derived.Test.YtpochcchekoonaaEng
namespace Go.Rf
open Go.RowKit

structure Fr (S : List Nat) (w w' : World) : Prop where
  os : w'.os = w.os
  tape : w'.tape = w.tape
  output : w'.output = w.output
  size : w.heap.size ≤ w'.heap.size
  block : ∀ k, k < w.heap.size → k ∉ S → w'.heap[k]? = w.heap[k]?
theorem Fr.refl (S : List Nat) (w : World) : Fr S w w := ⟨rfl, rfl, rfl, Nat.le_refl _, fun _ _ _ => rfl⟩
theorem Fr.trans {S T : List Nat} {a b c : World} (h : Fr S a b) (k : Fr T b c) (hT : ∀ x ∈ T, x ∈ S ∨ a.heap.size ≤ x) : Fr S a c :=
  ⟨k.os.trans h.os, k.tape.trans h.tape, k.output.trans h.output, Nat.le_trans h.size k.size, fun i hi hS =>
    (k.block i (Nat.lt_of_lt_of_le hi h.size) (fun e => by rcases hT i e with h' | h'; exact hS h'; omega)).trans (h.block i hi hS)⟩
theorem Fr.trans0 {S : List Nat} {a b c : World} (h : Fr S a b) (k : Fr [] b c) : Fr S a c := h.trans k (fun _ h => by cases h)
theorem Fr.mono {S T : List Nat} {a b : World} (h : Fr S a b) (hT : ∀ x ∈ S, x ∈ T ∨ a.heap.size ≤ x) : Fr T a b :=
  ⟨h.os, h.tape, h.output, h.size, fun i hi hS => h.block i hi (fun e => by rcases hT i e with h' | h'; exact hS h'; omega)⟩
theorem Fr.below {w w' : World} (h : Fr [] w w') : Below w.heap.size w w' := ⟨h.os, h.tape, h.output, h.size, fun k hk => h.block k hk (by simp)⟩
theorem Fr.of_below {w w' : World} (h : Below w.heap.size w w') : Fr [] w w' := ⟨h.os, h.tape, h.output, h.size, fun k hk _ => h.block k hk⟩
theorem Fr.drew (S : List Nat) (w : World) : Fr S w w.drew := ⟨rfl, rfl, rfl, Nat.le_refl _, fun _ _ _ => rfl⟩
theorem Fr.alloc (S : List Nat) (w : World) (o : Obj) : Fr S w (w.alloc o) :=
  ⟨rfl, rfl, rfl, by simp, fun k hk _ => Below.heap_alloc _ _ _ hk⟩
theorem Fr.setCell (w : World) (a : Addr) (v : Value) : Fr [a.block] w (w.setCell a v) :=
  ⟨rfl, rfl, rfl, by simp [World.setCell], fun k _ h => Below.heap_setCell _ _ _ _ (by simpa using h)⟩
theorem Fr.cell {S : List Nat} {w w' : World} (h : Fr S w w') {a : Addr} (hb : a.block < w.heap.size) (hS : a.block ∉ S) : w'.cell? a = w.cell? a :=
  World.cell?_of_block (w := w) (h.block _ hb hS)

/-! ### a block known whole -/
def Blk (w : World) (b : Nat) (l : List Value) (t : Nat) : Prop := w.heap[b]? = some (.cells l.toArray t (0, 0))
theorem Blk.lt {w : World} {b t : Nat} {l : List Value} (h : Blk w b l t) : b < w.heap.size := lt_of_block h
theorem Blk.tr {S : List Nat} {w w' : World} {b t : Nat} {l : List Value} (h : Blk w b l t) (hf : Fr S w w') (hS : b ∉ S) : Blk w' b l t := by
  have := hf.block b h.lt hS
  unfold Blk at *
  rw [this]; exact h
theorem Blk.tr0 {w w' : World} {b t : Nat} {l : List Value} (h : Blk w b l t) (hf : Fr [] w w') : Blk w' b l t := h.tr hf (by simp)
theorem Blk.cell {w : World} {b t o : Nat} {l : List Value} {v : Value} (h : Blk w b l t) (ho : l[o]? = some v) : w.cell? ⟨b, o, none⟩ = some v := by
  unfold Blk at h
  simp [World.cell?, h, ho]
theorem Blk.free {w : World} {b t o : Nat} {l : List Value} (h : Blk w b l t) : w.frozen? ⟨b, o, none⟩ = false := by
  unfold Blk at h
  simp [World.frozen?, h]
theorem Blk.set {w : World} {b t o : Nat} {l : List Value} {v : Value} (h : Blk w b l t) : Blk (w.setCell ⟨b, o, none⟩ v) b (l.set o v) t := by
  have hlt := h.lt
  unfold Blk at *
  have h' : w.heap[b] = .cells l.toArray t (0, 0) := by simpa [Array.getElem?_eq_getElem hlt] using h
  show (w.heap.modify b _)[b]? = _
  rw [Array.getElem?_eq_getElem (by simpa using hlt), Array.getElem_modify_self, h']
  simp
theorem Blk.new (w : World) (l : List Value) (t : Nat) : Blk (w.alloc (.cells l.toArray t)) w.heap.size l t := heap_alloc_new w _
theorem Blk.ne {w : World} {a b s t : Nat} {l m : List Value} (h : Blk w a l s) (k : Blk w b m t) (hst : s ≠ t) : a ≠ b := by
  intro e; subst e
  unfold Blk at *
  rw [h] at k
  simp at k
  exact hst k.2

theorem add0 (a : Addr) : a.add 0 = a := by simp [Addr.add]
theorem add_lit (b o i : Nat) : (⟨b, o, none⟩ : Addr).add i = ⟨b, o + i, none⟩ := by unfold Addr.add; split <;> simp_all
theorem add_block (a : Addr) (i : Nat) : (a.add i).block = a.block := by unfold Addr.add; split <;> rfl
theorem add_add (a : Addr) (i j : Nat) : (a.add i).add j = a.add (i + j) := by
  unfold Addr.add
  by_cases hi : i = 0
  · subst hi; simp
  · by_cases hj : j = 0
    · subst hj; simp [hi]
    · simp [hi, hj]; omega

/-! ### a slice that can be read: m elements, the cells ys -/
def Src (w : World) (v : Value) (m : Nat) (ys : List Value) : Prop :=
  ∃ ao c, v = .slice ao m c ∧ m ≤ c ∧ (ao = none → m = 0 ∧ c = 0 ∧ ys = []) ∧ ∀ ad, ao = some ad → ∀ j u, ys[j]? = some u → w.cell? (ad.add j) = some u
theorem Src.tr {S : List Nat} {w w' : World} {v : Value} {m : Nat} {ys : List Value} (h : Src w v m ys) (hf : Fr S w w') (hS : ∀ ad n c, v = .slice (some ad) n c → 0 < ys.length → ad.block ∉ S) : Src w' v m ys := by
  obtain ⟨ao, c, rfl, hm, hn, hc⟩ := h
  refine ⟨ao, c, rfl, hm, hn, fun ad ha j u hu => ?_⟩
  have h0 := hc ad ha j u hu
  have hl : 0 < ys.length := by have := (List.getElem?_eq_some_iff.1 hu).1; omega
  rw [hf.cell (World.block_lt_of_cell? w _ h0) (by rw [add_block]; exact hS ad m c (by rw [ha]) hl)]
  exact h0
theorem Src.tr0 {w w' : World} {v : Value} {m : Nat} {ys : List Value} (h : Src w v m ys) (hf : Fr [] w w') : Src w' v m ys := h.tr hf (by simp)
theorem Src.nil (w : World) : Src w (.slice none 0 0) 0 [] := ⟨none, 0, rfl, Nat.le_refl _, fun _ => ⟨rfl, rfl, rfl⟩, fun _ h => by cases h⟩
/-- the block of a slice's cells -/
theorem Src.lt {w : World} {m c : Nat} {ad : Addr} {ys : List Value} (h : Src w (.slice (some ad) m c) m ys) (hl : 0 < ys.length) : ad.block < w.heap.size := by
  obtain ⟨ao, c', e, _, _, hc⟩ := h
  simp only [Value.slice.injEq] at e
  have := hc ad e.1.symm 0 ys[0] (by simp [hl])
  exact (add_block ad 0) ▸ World.block_lt_of_cell? w _ this

/-- 's[j:k]' -/
theorem Src.cut {w : World} {ao : Option Addr} {m c j k size : Nat} {ys : List Value} (h : Src w (.slice ao m c) m ys) (hl : ys.length = m * size) (hjk : j ≤ k) (hk : k ≤ m) :
    Src w (.slice (if c = j then ao else ao.map (·.add (j * size))) (k - j) (c - j)) (k - j) ((ys.take (k * size)).drop (j * size)) := by
  obtain ⟨ao', c', e, hm, hn, hc⟩ := h
  simp only [Value.slice.injEq] at e
  obtain ⟨rfl, _, rfl⟩ := e
  refine ⟨_, _, rfl, by omega, ?_, ?_⟩
  · intro e0
    have hao : ao = none ∨ (c = j ∧ ao = none) := by
      split at e0
      · exact .inl e0
      · left; cases ao <;> simp_all
    have : ao = none := by rcases hao with h | h; exact h; exact h.2
    obtain ⟨h1, h2, h3⟩ := hn this
    subst h3
    refine ⟨by omega, by omega, by simp⟩
  · intro ad e0 i u hu
    rw [List.getElem?_drop, List.getElem?_take] at hu
    split at hu
    · rename_i hlt
      split at e0
      · rename_i hcj
        have : k = j := by omega
        subst this
        omega
      · obtain ⟨a0, ha0, hadd⟩ := Option.map_eq_some_iff.1 e0
        subst hadd
        rw [add_add]
        exact hc a0 ha0 _ u hu
    · cases hu

/-- the slice's cells lie outside S -/
def Off (v : Value) (ys : List Value) (S : List Nat) : Prop := ∀ ad n c, v = .slice (some ad) n c → 0 < ys.length → ad.block ∉ S
theorem Src.off {w : World} {v : Value} {m : Nat} {ys : List Value} {S : List Nat} (h : Src w v m ys) (hS : ∀ k ∈ S, w.heap.size ≤ k) : Off v ys S := by
  intro ad n c e hl hm
  subst e
  obtain ⟨ao, c', e, _, _, hc⟩ := h
  simp only [Value.slice.injEq] at e
  have h0 := hc ad e.1.symm 0 ys[0] (by simp [hl])
  have := World.block_lt_of_cell? w _ h0
  rw [add_block] at this
  have := hS _ hm
  omega
theorem Off.mono {v : Value} {ys : List Value} {S T : List Nat} {w : World} {m : Nat} (hs : Src w v m ys) (h : Off v ys S) (hT : ∀ k ∈ T, k ∈ S ∨ w.heap.size ≤ k) : Off v ys T := by
  intro ad n c e hl hm
  rcases hT _ hm with h' | h'
  · exact h ad n c e hl h'
  · exact hs.off (S := [ad.block]) (by simpa using h') ad n c e hl (by simp)

/-! ### a slice that the call owns -/
def Own (w : World) (e size : Nat) (v : Value) (n : Nat) (xs : List Value) : Prop := w.ownsRow 0 e size v n xs
def blks (v : Value) : List Nat := v.ownBlock.toList
theorem Own.nil (w : World) (e size : Nat) : Own w e size (.slice none 0 0) 0 [] := World.ownsRow_nil w 0 e size
theorem Own.len {w : World} {e size n : Nat} {v : Value} {xs : List Value} (h : Own w e size v n xs) : xs.length = n * size := h.1
theorem Own.lt {w : World} {e size n : Nat} {v : Value} {xs : List Value} (h : Own w e size v n xs) : ∀ k ∈ blks v, k < w.heap.size := by
  intro k hk
  simp only [blks, Option.mem_toList] at hk
  exact (World.ownsRow.lt h k hk).2
theorem Own.tr {S : List Nat} {w w' : World} {e size n : Nat} {v : Value} {xs : List Value} (h : Own w e size v n xs) (hf : Fr S w w') (hS : ∀ k ∈ blks v, k ∉ S) : Own w' e size v n xs := by
  refine ⟨h.1, ?_⟩
  rcases h.2 with hn | ⟨g, cap, cur, rfl, hb, hgg, r⟩
  · exact .inl hn
  · refine .inr ⟨g, cap, cur, rfl, hb, ?_, r⟩
    rw [hf.block g (Array.getElem?_eq_some_iff.1 hgg).1 (hS g (by simp [blks, Value.ownBlock]))]
    exact hgg
theorem Own.tr0 {w w' : World} {e size n : Nat} {v : Value} {xs : List Value} (h : Own w e size v n xs) (hf : Fr [] w w') : Own w' e size v n xs := h.tr hf (by simp)
theorem Own.src {w : World} {e size n : Nat} {v : Value} {xs : List Value} (h : Own w e size v n xs) : Src w v n xs := by
  rcases h.2 with ⟨rfl, rfl⟩ | ⟨g, cap, cur, rfl, _, hgg, hnc, _⟩
  · have : xs = [] := List.eq_nil_of_length_eq_zero (by simpa using h.1)
    subst this
    exact Src.nil w
  · refine ⟨some ⟨g, 0, none⟩, cap, rfl, hnc, fun e => (by cases e), fun ad ha => ?_⟩
    simp only [Option.some.injEq] at ha
    subst ha
    exact World.ownsRow.cells h (g := g) rfl
/-- what is owned is told apart from a block of another type -/
theorem Own.ne {w : World} {e size n b t : Nat} {v : Value} {xs l : List Value} (h : Own w e size v n xs) (hb : Blk w b l t) (het : e ≠ t) : ∀ k ∈ blks v, k ≠ b := by
  intro k hk hkb
  subst hkb
  rcases h.2 with ⟨rfl, rfl⟩ | ⟨g, cap, cur, rfl, _, hgg, _⟩
  · simp [blks, Value.ownBlock] at hk
  · simp [blks, Value.ownBlock] at hk
    subst hk
    unfold Blk at hb
    rw [hgg] at hb
    simp at hb
    exact het hb.2
theorem Own.slice {w : World} {e size n : Nat} {v : Value} {xs : List Value} (h : Own w e size v n xs) : ∃ ao c, v = .slice ao n c := by
  rcases h.2 with ⟨rfl, rfl⟩ | ⟨g, cap, cur, rfl, _⟩
  · exact ⟨_, _, rfl⟩
  · exact ⟨_, _, rfl⟩
theorem Own.one {w : World} {e size n : Nat} {v : Value} {xs : List Value} (h : Own w e size v n xs) : v.oneCell' = true := by
  obtain ⟨ao, c, rfl⟩ := h.slice
  rfl
theorem Src.one {w : World} {m : Nat} {v : Value} {xs : List Value} (h : Src w v m xs) : v.oneCell' = true := by
  obtain ⟨ao, c, rfl, _⟩ := h
  rfl

/-! ### what lay there before keeps -/
theorem Blk.old {S : List Nat} {w w' : World} {b t : Nat} {l : List Value} (h : Blk w b l t) (hf : Fr S w w') (hS : ∀ k ∈ S, w.heap.size ≤ k) : Blk w' b l t := h.tr hf (fun hm => by have := hS b hm; have := h.lt; omega)
theorem Own.old {S : List Nat} {w w' : World} {e size n : Nat} {v : Value} {xs : List Value} (h : Own w e size v n xs) (hf : Fr S w w') (hS : ∀ k ∈ S, w.heap.size ≤ k) : Own w' e size v n xs :=
  h.tr hf (fun k hk hm => by have := hS k hm; have := h.lt k hk; omega)
theorem Src.old {S : List Nat} {w w' : World} {v : Value} {m : Nat} {ys : List Value} (h : Src w v m ys) (hf : Fr S w w') (hS : ∀ k ∈ S, w.heap.size ≤ k) : Src w' v m ys := h.tr hf (h.off hS)

/-! ### append, whatever the source -/
/-- the facts on a slice type: its element's type, how many cells and bytes one takes -/
class RowT (P : Program) (t : Nat) (e size bytes : outParam Nat) : Prop where
  und : P.underlying t = some (.slice e)
  inf : ∃ i z, P.info? e = some i ∧ i.zero = some z ∧ i.size = size ∧ i.bytes = bytes ∧ z.cells.size = size
  pos : 0 < size
/-- what a source gives in a world: its length and its cells -/
structure Gives (P : Program) (w : World) (size : Nat) (x : Value) (m : Nat) (ys : List Value) : Prop where
  len : ys.length = m * size
  lenOf : ∀ u : World, (Builtin.lenOf x).run P u = .ok m u
  cells : ∀ u : World, (∀ a, u.cell? a = w.cell? a) → (Builtin.firstCells size m x).run P u = .ok ys.toArray u
  one : ∀ y ∈ ys, y.oneCell' = true
theorem Src.gives {P : Program} {w : World} {v : Value} {m size : Nat} {ys : List Value} (h : Src w v m ys) (hl : ys.length = m * size) (h1 : ∀ y ∈ ys, y.oneCell' = true) : Gives P w size v m ys := by
  obtain ⟨ao, c, rfl, hm, hn, hc⟩ := h
  refine ⟨hl, fun u => by simp [Builtin.lenOf], fun u hu => ?_, h1⟩
  cases ao with
  | none =>
    obtain ⟨rfl, rfl, rfl⟩ := hn rfl
    simp [Builtin.firstCells]
  | some ad => exact run_firstCells_some u size m ad m c ys hl (fun j y hy => by rw [hu]; exact hc ad rfl j y hy)

/-- the result of an append to what is owned: owned; it lies where it lay, or in a new block -/
theorem run_app {P : Program} {t xt ty e size bytes : Nat} [R : RowT P t e size bytes] {w : World} {v x : Value} {n m : Nat} {xs ys : List Value}
    (hxt : (∃ e', P.underlying xt = some (.slice e')) ∨ P.underlying xt = some .string) (hown : Own w e size v n xs) (hx : Gives P w size x m ys) (h63 : n + m ≤ maxLen) (hb : (n + m) * bytes ≤ 140737488355328) :
    ∃ v' w', (Builtin.append_ #[t, xt] ty #[v, x]).run P w = .ok v' w' ∧ Own w' e size v' (n + m) (xs ++ ys) ∧ Fr (blks v) w w' ∧ (∀ k ∈ blks v', k ∈ blks v ∨ w.heap.size ≤ k) ∧
      (v' = .slice none 0 0 ↔ v = .slice none 0 0 ∧ m = 0) := by
  obtain ⟨i, z, hi, hz, rfl, rfl, hzs⟩ := R.inf
  have ht := R.und
  have hsmall : n + m ≤ 9223372036854775807 := by simp only [maxLen] at h63; omega
  have hlen : (xs ++ ys).length = (n + m) * i.size := by rw [List.length_append, hown.1, hx.len, Nat.add_mul]
  have hm0 : m = 0 → ys = [] := fun e => List.eq_nil_of_length_eq_zero (by rw [hx.len, e]; simp)
  have h63' : ¬ (9223372036854775807 < ((n : Int) + (m : Int))) := by omega
  have grown : ∀ (old : Nat),
      Own (w.drew.alloc (.cells (xs.toArray ++ ys.toArray ++ Builtin.zeroCells z.cells (grownCap w (n + m) old e - (n + m))) e)) e i.size
        (.slice (some ⟨w.heap.size, 0, none⟩) (n + m) (grownCap w (n + m) old e)) (n + m) (xs ++ ys) ∧
      Fr (blks v) w (w.drew.alloc (.cells (xs.toArray ++ ys.toArray ++ Builtin.zeroCells z.cells (grownCap w (n + m) old e - (n + m))) e)) := by
    intro old
    have hge := grownCap_ge w (n + m) old e
    have hcm : grownCap w (n + m) old e ≤ maxLen := grownCap_le_maxLen w (n + m) old e h63
    refine ⟨⟨hlen, .inr ⟨w.heap.size, _, _, rfl, Nat.zero_le _, heap_alloc_new w.drew _, hge, hcm, ?_, ?_⟩⟩, (Fr.drew _ w).trans0 (Fr.alloc [] _ _)⟩
    · simp only [Array.size_append, List.size_toArray, size_zeroCells, hzs, hown.1, hx.len, ← Nat.add_mul]
      congr 1
      omega
    · simp only [Array.toList_append, List.append_assoc]
      rw [← List.append_assoc, ← hlen]
      exact List.take_left
  have hfx := hx.cells w (fun _ => rfl)
  have hfd := hx.cells w.drew (fun _ => rfl)
  have hlx := hx.lenOf w
  rcases hown.2 with ⟨rfl, rfl⟩ | ⟨g, cap, cur, rfl, hbg, hg, hnc, hcm, hcs, htake⟩
  · have hxs : xs = [] := List.eq_nil_of_length_eq_zero (by simpa using hown.1)
    subst hxs
    by_cases hm : m = 0
    · have hys := hm0 hm
      subst hm; subst hys
      refine ⟨.slice none 0 0, w, ?_, Own.nil w e i.size, Fr.refl _ _, fun k hk => by simp [blks, Value.ownBlock] at hk, by simp⟩
      rcases hxt with ⟨e', hd⟩ | hd <;> simp [Builtin.append_, run_underlying ht, run_underlying hd, sizeOf, typeInfo, hi, hlx, hfx]
    · have h48' : ¬ (281474976710656 < Builtin.nextslicecap m 0 * i.bytes) := by
        have := growslice_fits (bytes := i.bytes) (show 0 < m by omega) (by simpa using hb); omega
      have hgr := grown 0
      simp only [Nat.zero_add, List.nil_append, Array.empty_append] at hgr h63' ⊢
      refine ⟨_, _, ?_, hgr.1, hgr.2, fun k hk => by simp [blks, Value.ownBlock] at hk; omega, by simp [hm]⟩
      have h63'' : ¬ (9223372036854775807 < (m : Int)) := by omega
      rcases hxt with ⟨e', hd⟩ | hd <;> simp [Builtin.append_, run_underlying ht, run_underlying hd, sizeOf, typeInfo, zeroValue, hi, hz, hlx, hfd, hm, h63'', h48', Question.forced, run_firstCells_none, newRow, grownCap]
  · by_cases hroom : n + m ≤ cap
    · have hfit : n * i.size + ys.length ≤ cur.size := by rw [hx.len, hcs, ← Nat.add_mul]; exact Nat.mul_le_mul_right _ hroom
      have hst := run_storeCells_at P g (n * i.size) e ys 0 cur w hg (by simpa using hfit) hx.one
      simp only [Nat.add_zero] at hst
      have hr : (Builtin.append_ #[t, xt] ty #[.slice (some ⟨g, 0, none⟩) n cap, x]).run P w = .ok (.slice (some ⟨g, 0, none⟩) (n + m) cap) (w.setRow g (cur.toList.take (n * i.size) ++ ys ++ cur.toList.drop (n * i.size + ys.length)).toArray) := by
        rcases hxt with ⟨e', hd⟩ | hd <;> simp [Builtin.append_, run_underlying ht, run_underlying hd, sizeOf, typeInfo, hi, hlx, hroom, hfx, Addr.add_lit, hst]
      refine ⟨_, _, hr, ⟨hlen, .inr ⟨g, cap, _, rfl, hbg, setRow_heap w g cur _ e _ hg, hroom, hcm, ?_, ?_⟩⟩, ⟨rfl, rfl, rfl, by simp, fun k _ hk => setRow_other w g k _ (fun e => hk (by simp [blks, Value.ownBlock, e]))⟩, fun k hk => .inl hk, by simp⟩
      · simp only [List.size_toArray, List.length_append, List.length_take, List.length_drop, Array.length_toList]
        omega
      · rw [htake, ← hlen]
        exact List.take_left
    · have holds : ∀ j u, xs[j]? = some u → w.cell? ((⟨g, 0, none⟩ : Addr).add j) = some u := World.ownsRow.cells hown (g := g) rfl
      have hfo := run_firstCells_some (P := P) w.drew i.size n ⟨g, 0, none⟩ n cap xs hown.1 (by simpa using holds)
      have h48' : ¬ (281474976710656 < Builtin.nextslicecap (n + m) cap * i.bytes) := by
        have := growslice_fits (bytes := i.bytes) (show cap < n + m by omega) hb; omega
      have hgr := grown cap
      refine ⟨_, _, ?_, hgr.1, hgr.2, fun k hk => by simp [blks, Value.ownBlock] at hk; exact .inr (by omega), by simp⟩
      rcases hxt with ⟨e', hd⟩ | hd <;> simp [Builtin.append_, run_underlying ht, run_underlying hd, sizeOf, typeInfo, zeroValue, hi, hz, hlx, hroom, h63', h48', Question.forced, hfd, hfo, newRow, grownCap] <;> rw [← List.append_toArray, Array.append_assoc]
end Go.Rf
