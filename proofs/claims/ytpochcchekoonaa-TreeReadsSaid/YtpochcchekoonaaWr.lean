/-
  Contracts of package wire's Writer.
-/
import Derived.Test.YtpochcchekoonaaPlain
import Derived.Test.YtpochcchekoonaaInst
namespace Go.Proofs.Ytpochcchekoonaa
open Go.Rf Go.RowKit
attribute [local irreducible] Code.wp wpList Exit.then Exit.inBlock bodyPost A Calls execOp Addr.add

theorem around (a b : Int) (w : World) (ha : -9223372036854775808 ≤ a) (ha2 : a ≤ 9223372036854775807) (hb : 0 < b) :
    Calls Try.prog 12 #[.int .i64 a, .int .i64 b] w fun e w' => e = .returned (.int .i64 (arnd a b)) ∧ w = w' := by
  refine enter Try.func12 rfl Try.ntmps12 rfl ?_
  refine rn ?_
  refine s_lss rfl rfl (fun h => ?_) (fun h => ?_)
  · refine rn ?_
    (apply ret1; exact rfl; (conv => lhs; whnf))
    exact ⟨by rw [arnd, if_pos h, Int.zero_sub], rfl⟩
  · refine rn ?_
    (apply ret1; exact rfl; (conv => lhs; whnf))
    exact ⟨by rw [arnd, if_neg h], rfl⟩




theorem ints_one (k : IntKind) (l : List Int) : ∀ u ∈ l.map (Value.int k), u.oneCell' = true := by
  intro u hu
  obtain ⟨c, _, rfl⟩ := List.mem_map.1 hu
  rfl





/-- an element of a slice that can be read -/
theorem src_at {w : World} {ao : Option Addr} {m c j : Nat} {ys : List Value} {u : Value} (h : Src w (.slice ao m c) m ys) (hj : ys[j]? = some u) : ∃ ad, ao = some ad ∧ w.cell? (ad.add j) = some u := by
  obtain ⟨ao', c', e, _, hn, hc⟩ := h
  simp only [Value.slice.injEq] at e
  obtain ⟨rfl, _, rfl⟩ := e
  cases ao with
  | none => obtain ⟨_, _, rfl⟩ := hn rfl; simp at hj
  | some ad => exact ⟨ad, rfl, hc ad rfl j u hj⟩

theorem src_cell {w : World} {ad : Addr} {m c j : Nat} {ys : List Value} {u : Value} (h : Src w (.slice (some ad) m c) m ys) (hj : ys[j]? = some u) : w.cell? (ad.add j) = some u := by
  obtain ⟨ad', e, h⟩ := src_at h hj
  simp only [Option.some.injEq] at e
  subst e; exact h

def InI64 (n : Int) : Prop := -9223372036854775808 ≤ n ∧ n ≤ 9223372036854775807
theorem flatMap_iv_len (l : List Int) (h : ∀ n ∈ l, InI64 n) : (l.flatMap iv).length ≤ 10 * l.length := by
  induction l with
  | nil => simp
  | cons a l ih =>
    have h1 := iv_len (h a (by simp)).1 (h a (by simp)).2
    have h2 := ih (fun n hn => h n (by simp [hn]))
    simp only [List.flatMap_cons, List.length_append, List.length_cons]; omega



theorem bound (a m : Int) (w : World) (ha : InI64 a) (hm : 0 ≤ m) (hm2 : m ≤ 1000000) :
    Calls Try.prog 16 #[.int .i64 a, .int .i64 m] w fun e w' => e = .returned (.int .i64 (arnd a (2 * m + 1) - m)) ∧ w = w' := by
  refine enter Try.func16 rfl Try.ntmps16 rfl ?_
  refine rn ?_
  refine s_call (around a (2 * m + 1) w ha.1 ha.2 (by omega)) rfl ?_
  rintro _ _ ⟨rfl, rfl⟩
  refine ⟨_, rfl, ?_⟩
  have hr := arnd_range (a := a) (m := 2 * m + 1) (by omega)
  refine rn ?_
  (apply ret1; exact rfl; (conv => lhs; whnf))
  exact ⟨rfl, rfl⟩
end Go.Proofs.Ytpochcchekoonaa
