/-
  An append that tells that the old slice can still be read. It speaks of no program.
-/
import Derived.Test.YtpochcchekoonaaGreatK1
namespace Go.Rf
open Go.RowKit
set_option linter.unusedVariables false
set_option linter.unusedSimpArgs false
theorem run_appK {P : Program} {t xt ty e size bytes : Nat} [R : RowT P t e size bytes] {w : World} {v x : Value} {n m : Nat} {xs ys : List Value}
    (hxt : (∃ e', P.underlying xt = some (.slice e')) ∨ P.underlying xt = some .string) (hown : Own w e size v n xs) (hx : Gives P w size x m ys) (h63 : n + m ≤ maxLen) (hb : (n + m) * bytes ≤ 140737488355328) :
    ∃ v' w', (Builtin.append_ #[t, xt] ty #[v, x]).run P w = .ok v' w' ∧ Own w' e size v' (n + m) (xs ++ ys) ∧ Fr (blks v) w w' ∧ (∀ k ∈ blks v', k ∈ blks v ∨ w.heap.size ≤ k) ∧
      (v' = .slice none 0 0 ↔ v = .slice none 0 0 ∧ m = 0) ∧ Src w' v n xs := by
  obtain ⟨i, z, hi, hz, rfl, rfl, hzs⟩ := R.inf
  have ht := R.und
  have hsmall : n + m ≤ 9223372036854775807 := by simp only [maxLen] at h63; omega
  have hlen : (xs ++ ys).length = (n + m) * i.size := by rw [List.length_append, hown.1, hx.len, Nat.add_mul]
  have hm0 : m = 0 → ys = [] := fun e => List.eq_nil_of_length_eq_zero (by rw [hx.len, e]; simp)
  have h63' : ¬ (9223372036854775807 < ((n : Int) + (m : Int))) := by omega
  have grown : ∀ (old : Nat),
      Own (w.drew.alloc (.cells (xs.toArray ++ ys.toArray ++ Builtin.zeroCells z.cells (grownCap w (n + m) old e - (n + m))) e)) e i.size
        (.slice (some ⟨w.heap.size, 0, none⟩) (n + m) (grownCap w (n + m) old e)) (n + m) (xs ++ ys) ∧
      Fr (blks v) w (w.drew.alloc (.cells (xs.toArray ++ ys.toArray ++ Builtin.zeroCells z.cells (grownCap w (n + m) old e - (n + m))) e)) := by
    intro old
    have hge := grownCap_ge w (n + m) old e
    have hcm : grownCap w (n + m) old e ≤ maxLen := grownCap_le_maxLen w (n + m) old e h63
    refine ⟨⟨hlen, .inr ⟨w.heap.size, _, _, rfl, Nat.zero_le _, heap_alloc_new w.drew _, hge, hcm, ?_, ?_⟩⟩, (Fr.drew _ w).trans0 (Fr.alloc [] _ _)⟩
    · simp only [Array.size_append, List.size_toArray, size_zeroCells, hzs, hown.1, hx.len, ← Nat.add_mul]
      congr 1
      omega
    · simp only [Array.toList_append, List.append_assoc]
      rw [← List.append_assoc, ← hlen]
      exact List.take_left
  have hfx := hx.cells w (fun _ => rfl)
  have hfd := hx.cells w.drew (fun _ => rfl)
  have hlx := hx.lenOf w
  rcases hown.2 with ⟨rfl, rfl⟩ | ⟨g, cap, cur, rfl, hbg, hg, hnc, hcm, hcs, htake⟩
  · have hxs : xs = [] := List.eq_nil_of_length_eq_zero (by simpa using hown.1)
    subst hxs
    by_cases hm : m = 0
    · have hys := hm0 hm
      subst hm; subst hys
      refine ⟨.slice none 0 0, w, ?_, Own.nil w e i.size, Fr.refl _ _, fun k hk => by simp [blks, Value.ownBlock] at hk, by simp, Src.nil _⟩
      rcases hxt with ⟨e', hd⟩ | hd <;> simp [Builtin.append_, run_underlying ht, run_underlying hd, sizeOf, typeInfo, hi, hlx, hfx]
    · have h48' : ¬ (281474976710656 < Builtin.nextslicecap m 0 * i.bytes) := by
        have := growslice_fits (bytes := i.bytes) (show 0 < m by omega) (by simpa using hb); omega
      have hgr := grown 0
      simp only [Nat.zero_add, List.nil_append, Array.empty_append] at hgr h63' ⊢
      refine ⟨_, _, ?_, hgr.1, hgr.2, fun k hk => by simp [blks, Value.ownBlock] at hk; omega, by simp [hm], Src.nil _⟩
      have h63'' : ¬ (9223372036854775807 < (m : Int)) := by omega
      rcases hxt with ⟨e', hd⟩ | hd <;> simp [Builtin.append_, run_underlying ht, run_underlying hd, sizeOf, typeInfo, zeroValue, hi, hz, hlx, hfd, hm, h63'', h48', Question.forced, run_firstCells_none, newRow, grownCap]
  · by_cases hroom : n + m ≤ cap
    · have hfit : n * i.size + ys.length ≤ cur.size := by rw [hx.len, hcs, ← Nat.add_mul]; exact Nat.mul_le_mul_right _ hroom
      have hst := run_storeCells_at P g (n * i.size) e ys 0 cur w hg (by simpa using hfit) hx.one
      simp only [Nat.add_zero] at hst
      have hr : (Builtin.append_ #[t, xt] ty #[.slice (some ⟨g, 0, none⟩) n cap, x]).run P w = .ok (.slice (some ⟨g, 0, none⟩) (n + m) cap) (w.setRow g (cur.toList.take (n * i.size) ++ ys ++ cur.toList.drop (n * i.size + ys.length)).toArray) := by
        rcases hxt with ⟨e', hd⟩ | hd <;> simp [Builtin.append_, run_underlying ht, run_underlying hd, sizeOf, typeInfo, hi, hlx, hroom, hfx, Addr.add_lit, hst]
      have hO : Own (w.setRow g (cur.toList.take (n * i.size) ++ ys ++ cur.toList.drop (n * i.size + ys.length)).toArray) e i.size (.slice (some ⟨g, 0, none⟩) (n + m) cap) (n + m) (xs ++ ys) := by
        refine ⟨hlen, .inr ⟨g, cap, _, rfl, hbg, setRow_heap w g cur _ e _ hg, hroom, hcm, ?_, ?_⟩⟩
        · simp only [List.size_toArray, List.length_append, List.length_take, List.length_drop, Array.length_toList]
          omega
        · rw [htake, ← hlen]
          exact List.take_left
      refine ⟨_, _, hr, hO, ⟨rfl, rfl, rfl, by simp, fun k _ hk => setRow_other w g k _ (fun e => hk (by simp [blks, Value.ownBlock, e]))⟩, fun k hk => .inl hk, by simp, ⟨_, cap, rfl, by omega, by simp, fun ad ha j u hu => ?_⟩⟩
      obtain ⟨ao', c', e', _, _, hc'⟩ := hO.src
      simp only [Value.slice.injEq] at e'
      exact hc' ad (e'.1 ▸ ha) j u (by rw [List.getElem?_append_left (List.getElem?_eq_some_iff.1 hu).1]; exact hu)
    · have holds : ∀ j u, xs[j]? = some u → w.cell? ((⟨g, 0, none⟩ : Addr).add j) = some u := World.ownsRow.cells hown (g := g) rfl
      have hfo := run_firstCells_some (P := P) w.drew i.size n ⟨g, 0, none⟩ n cap xs hown.1 (by simpa using holds)
      have h48' : ¬ (281474976710656 < Builtin.nextslicecap (n + m) cap * i.bytes) := by
        have := growslice_fits (bytes := i.bytes) (show cap < n + m by omega) hb; omega
      have hgr := grown cap
      refine ⟨_, _, ?_, hgr.1, hgr.2, fun k hk => by simp [blks, Value.ownBlock] at hk; exact .inr (by omega), by simp, hown.src.tr0 ((Fr.drew [] w).trans0 (Fr.alloc [] _ _))⟩
      rcases hxt with ⟨e', hd⟩ | hd <;> simp [Builtin.append_, run_underlying ht, run_underlying hd, sizeOf, typeInfo, zeroValue, hi, hz, hlx, hroom, h63', h48', Question.forced, hfd, hfo, newRow, grownCap] <;> rw [← List.append_toArray, Array.append_assoc]

section
variable {P : Program} {ops : Array Oper} {Q : Exit → Act → World → Prop} {rest : List Oper} {n : Nat} {f : Env} {w : World}
variable {d : Nat} {ty : TypeId} {ps : String} {af : Array Edge} {x y : Operand} {t : Nat} {gd : Option (Nat × Bool)}
theorem s_appendK {s : Operand} {e size by_ : Nat} {v xv : Value} {k m : Nat} {xs ys : List Value} [R : RowT P t e size by_] (hown : Own w e size v k xs) (hs : ev n f s = v) (hsrc : Src w xv m ys) (hx : ev n f x = xv) (hl : ys.length = m * size) (h1 : ∀ u ∈ ys, u.oneCell' = true)
    (h63 : k + m ≤ maxLen) (hb : (k + m) * by_ ≤ 140737488355328)
    (h : ∀ v' w', Own w' e size v' (k + m) (xs ++ ys) → Fr (blks v) w w' → (∀ b ∈ blks v', b ∈ blks v ∨ w.heap.size ≤ b) → Src w' v k xs → wpList P ops Q rest (A n (upd f d v')) w') :
    wpList P ops Q (⟨some d, .call { callee := .builtin .append, args := #[s, x], argTypes := #[t, t] }, ty, ps, af, none⟩ :: rest) (A n f) w := by
  obtain ⟨v', w', hr, a1, a2, a3, a4, a5⟩ := run_appK (P := P) (t := t) (xt := t) (ty := ty) (.inl ⟨e, R.und⟩) hown (hsrc.gives (P := P) hl h1) h63 hb
  exact s_run (by simp [execOp, resolve, invoke, builtin, hs, hx, hr]) (h v' w' a1 a2 a3 a5)
end
theorem Cells.get0 {w : World} {a : Addr} {l : List Value} {u : Value} (h : Cells w a l) (e : l[0]? = some u) : w.cell? a = some u := by
  have := h 0 u e
  rwa [add0] at this
section
variable {D : Dfs}
variable {P : Program} {ops : Array Oper} {Q : Exit → Act → World → Prop} {rest : List Oper} {n : Nat} {f : Env} {w : World}
variable {d : Nat} {ty : TypeId} {ps : String} {af : Array Edge} {x : Operand} {t : Nat}
/-- an allocation whose address is not told -/
theorem s_allocG {e : Nat} {z : Value} {l : List Value} [Z : ZeroT P e z] (hz : z.cells = l.toArray) (h : ∀ b w', w.heap.size ≤ b → Blk w' b l e → Fr [] w w' → wpList P ops Q rest (A n (upd f d (.pointer (some ⟨b, 0, none⟩)))) w') :
    wpList P ops Q (⟨some d, .alloc e, ty, ps, af, none⟩ :: rest) (A n f) w := s_alloc hz (fun w' hb hf _ => h _ w' (Nat.le_refl _) hb hf)
theorem s_build1G {e by_ : Nat} {v : Value} [R : RowT P t e 1 by_] (hx : ev n f x = v) (h1 : v.oneCell' = true) (h : ∀ b w', w.heap.size ≤ b → Own w' e 1 (.slice (some ⟨b, 0, none⟩) 1 1) 1 [v] → Fr [] w w' → wpList P ops Q rest (A n (upd f d (.slice (some ⟨b, 0, none⟩) 1 1))) w') :
    wpList P ops Q (⟨some d, .buildSlice t 1 #[(0, x)], ty, ps, af, none⟩ :: rest) (A n f) w := s_build1 hx h1 (fun w' ho hf _ => h _ w' (Nat.le_refl _) ho hf)
end
end Go.Rf
