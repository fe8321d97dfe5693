/-
  Contracts of package wire's Reader.
-/
import Derived.Test.YtpochcchekoonaaGreatRf1
namespace Go.Proofs.YtpochcchekoonaaGreat
set_option linter.unusedVariables false
open Go.Rf Go.RowKit
attribute [local irreducible] Code.wp wpList Exit.then Exit.inBlock bodyPost A Calls execOp Addr.add

def Sub (v v' : Value) : Prop := ∀ ad' n' c', v' = .slice (some ad') n' c' → ∃ ad n c, v = .slice (some ad) n c ∧ ad'.block = ad.block
theorem Sub.refl (v : Value) : Sub v v := fun ad n c h => ⟨ad, n, c, h, rfl⟩
theorem Sub.trans {a b c : Value} (h : Sub a b) (k : Sub b c) : Sub a c := fun ad n cc e => by
  obtain ⟨ad1, n1, c1, e1, h1⟩ := k ad n cc e
  obtain ⟨ad2, n2, c2, e2, h2⟩ := h ad1 n1 c1 e1
  exact ⟨ad2, n2, c2, e2, h1.trans h2⟩
theorem Sub.off {v v' : Value} {ys ys' : List Value} {S : List Nat} (h : Sub v v') (hl : 0 < ys'.length → 0 < ys.length) (ho : Off v ys S) : Off v' ys' S := fun ad n c e hp => by
  obtain ⟨ad1, n1, c1, e1, h1⟩ := h ad n c e
  rw [h1]; exact ho ad1 n1 c1 e1 (hl hp)

def IsR (w : World) (p : Nat) (v : Value) (bs : List Int) (e : Int) : Prop :=
  Blk w p [v, .int .i64 e] 107 ∧ Src w v bs.length (bs.map (.int .u8)) ∧ Off v (bs.map (.int .u8)) [p] ∧ Bys bs
def RStep (p : Nat) (w : World) (v : Value) (bs' : List Int) (e' : Int) (w' : World) : Prop := ∃ v', IsR w' p v' bs' e' ∧ Fr [p] w w' ∧ Sub v v'
theorem RStep.trans {p : Nat} {w w1 w2 : World} {v v1 : Value} {bs2 : List Int} {e2 : Int} (hf : Fr [p] w w1) (hs : Sub v v1) (h : RStep p w1 v1 bs2 e2 w2) : RStep p w v bs2 e2 w2 := by
  obtain ⟨v2, a, b, c⟩ := h
  exact ⟨v2, a, hf.trans b (fun x hx => .inl hx), hs.trans c⟩
theorem IsR.src {w : World} {p : Nat} {v : Value} {bs : List Int} {e : Int} (h : IsR w p v bs e) : Src w v bs.length (bs.map (.int .u8)) := h.2.1














end Go.Proofs.YtpochcchekoonaaGreat
