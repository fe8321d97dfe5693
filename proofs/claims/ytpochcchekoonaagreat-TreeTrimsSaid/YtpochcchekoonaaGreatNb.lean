/-
  The walk of the law TreeLimits.
-/
import Derived.Test.YtpochcchekoonaaGreatA8
namespace Go.Rf
open Go.RowKit
theorem equalIn_bool {P : Program} {w : World} {t : Nat} (dd : Nat) {a b : Bool} (hu : P.underlying t = some .bool) : (Op.equalIn (dd + 1) t (.bool a) (.bool b)).run P w = .ok (a == b) w := by
  simp [Op.equalIn, run_underlying hu]
theorem equal_bool {P : Program} {w : World} {t : Nat} {a b : Bool} (hu : P.underlying t = some .bool) : (Op.equal t (.bool a) (.bool b)).run P w = .ok (a == b) w := equalIn_bool 9999 hu
theorem s_eqlB {P : Program} {ops : Array Oper} {Q : Exit → Act → World → Prop} {rest : List Oper} {n : Nat} {f : Env} {w : World} {d : Nat} {ty : TypeId} {ps : String} {af : Array Edge} {x y : Operand} {t t2 : Nat} {a b p : Bool} (hu : P.underlying t = some .bool) (hx : ev n f x = .bool a) (hy : ev n f y = .bool b) (hp : (a == b) = p) (h : wpList P ops Q rest (A n (upd f d (.bool p))) w) :
    wpList P ops Q (⟨some d, .binOp .eql t x y t2, ty, ps, af, none⟩ :: rest) (A n f) w := by
  subst hp
  have := equal_bool (P := P) (w := w) (a := a) (b := b) hu
  exact s_run (by simp [execOp, eqGuard, binOp, hx, hy, this]) h
end Go.Rf
namespace Go.Proofs.YtpochcchekoonaaGreat
open Go.Rf Go.RowKit
set_option linter.unusedVariables false
set_option linter.unusedSimpArgs false
theorem ownTurnR {α : Type} {R : World → List Nat → α → List Value → Prop} {k : Nat} (hs : Stab R k) {w w' : World} {e : Nat} {S2 S3 T : List Nat} {l : List α} {v : Value} (h : OwnR w e k (plusR R S2) l v) (hf : Fr T w w') (hT : ∀ b ∈ T, b ∈ S2) (hd : ∀ b ∈ blks v, b ∉ T) (h3 : ∀ b ∈ S3, b ∈ S2 ∨ w.heap.size ≤ b) : OwnR w' e k (plusR R S3) l v := by
  obtain ⟨ys, h1, h2⟩ := h
  refine ⟨ys, h1.tr hf hd, h2.imp fun x cs _ hr => ?_⟩
  have h4 : R w (blks v ++ (S2 ++ S3)) x cs := hs.mono hr (fun b hb => by
    rcases List.mem_append.1 hb with h | h
    · exact .inl (List.mem_append.2 (.inl h))
    rcases List.mem_append.1 h with h | h
    · exact .inl (List.mem_append.2 (.inr h))
    · rcases h3 b h with h | h
      · exact .inl (List.mem_append.2 (.inr h))
      · exact .inr h)
  have h5 := hs.tr h4 (hf.mono (fun b hb => .inl (by
    have := hT b hb
    simp [this])))
  exact hs.mono h5 (fun b hb => by
    rcases List.mem_append.1 hb with h | h
    · exact .inl (by simp [h])
    · exact .inl (by simp [h]))
theorem ownNS {w : World} {e : Nat} {S0 : List Nat} {l : List Nd} {v : Value} (h : OwnR w e 12 (plusR NdR S0) l v) : NS w [] l v := (h.sl (plusStab ndStab)).imp fun x cs _ hr => ndStab.mono hr (by simp)
/-- an owned slice of numbers that lies outside S -/
theorem isOff {w : World} {e n : Nat} {v : Value} {l : List Int} {cs : List Value} {S : List Nat} (h : Own w e 1 v n cs) (hn : n = l.length) (hc : cs = l.map (.int .i64)) (hS : ∀ b ∈ blks v, b ∉ S) : IS w S l v := by
  subst hn hc
  refine ⟨h.src, fun ad n c e hp hm => ?_⟩
  refine hS ad.block ?_ hm
  rcases h.2 with ⟨hv, h0⟩ | ⟨g, cap, cur, hv, _⟩
  · rw [hv] at e; cases e
  · subst hv
    simp only [Value.slice.injEq, Option.some.injEq] at e
    rw [← e.1]; simp [blks, Value.ownBlock]
theorem rep_map (n : Nat) (k : Int) : (List.replicate n k).map (Value.int .i64) ++ [.int .i64 k] = (List.replicate (n + 1) k).map (Value.int .i64) := by
  rw [List.replicate_succ', List.map_append]; rfl
theorem simR {w : World} {S : List Nat} {x : Nd} (hw : x.ws = []) (hl : x.labs = []) (hv : x.vals = []) (hk : x.kids = []) (hx : x.val.kids = []) : NdR w S x (nc x (.slice none 0 0) (.slice none 0 0) (.slice none 0 0) (.slice none 0 0) (.slice none 0 0)) := by
  refine ⟨_, _, _, _, _, rfl, ?_, ?_, ?_, ?_, ?_⟩
  · rw [hw]; exact Ls.nil
  · rw [hl]; exact Ls.nil
  · rw [hv]; exact VS.nil _ _
  · rw [hk]; exact Ls.nil
  · rw [hx]; exact VS.nil _ _
theorem vs_nil_any {w w' : World} {S T : List Nat} {sl : Value} (h : VS w S [] sl) : VS w' T [] sl := by
  obtain ⟨ao, c, rfl, _⟩ := h.slice
  obtain ⟨ys, ⟨ao', c', e, h1, h2, _⟩, _, _⟩ := h.rows
  injection e with e1 e2 e3
  exact VS.empty (fun hn => by rw [← e1] at h2; rw [e3]; exact (h2 hn).2.1)
theorem nums_succ (n : Nat) : numsV (n + 1) = numsV n ++ [numV (n : Int)] := by
  unfold numsV
  rw [List.range_succ, List.map_append]; rfl
attribute [local irreducible] Code.wp wpList Exit.then Exit.inBlock bodyPost A Calls execOp Addr.add
end Go.Proofs.YtpochcchekoonaaGreat
