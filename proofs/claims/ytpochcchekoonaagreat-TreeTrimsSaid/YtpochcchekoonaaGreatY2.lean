/-
  Package tree's decoder: lists of numbers, texts, values, nodes. Package tree's decoder: values and nodes.
-/
import Derived.Test.YtpochcchekoonaaGreatY1
import Derived.Test.YtpochcchekoonaaGreatRd
import Derived.Test.YtpochcchekoonaaGreatAk
namespace Go.Proofs.YtpochcchekoonaaGreat
open Go.Rf Go.RowKit
set_option linter.unusedVariables false
set_option linter.unusedSimpArgs false
theorem IsR.far {w : World} {p : Nat} {v v' : Value} {bs bs' : List Int} {e : Int} (h : IsR w p v bs e) (hs : Sub v v') (hl : bs'.length ≤ bs.length) {S : List Nat} (hS : ∀ b ∈ S, w.heap.size ≤ b) : Off v' (bs'.map (.int .u8)) S :=
  hs.off (ys := bs.map (.int .u8)) (by simp only [List.length_map]; omega) (h.2.1.off hS)
def IsD (w : World) (d r : Nat) (v : Value) (m : Int) (s : DS) : Prop := Blk w d [.pointer (some ⟨r, 0, none⟩), .int .i64 m, .bool s.bad] 102 ∧ IsR w r v s.bs s.e
def DStep (d r : Nat) (m : Int) (w : World) (v : Value) (s' : DS) (w' : World) : Prop := ∃ v', IsD w' d r v' m s' ∧ Fr [d, r] w w' ∧ Sub v v'
theorem IsR.trF {u u' : World} {r : Nat} {v : Value} {bs : List Int} {e : Int} {T : List Nat} (h : IsR u r v bs e) (hf : Fr T u u') (hr : r ∉ T) (ho : Off v (bs.map (.int .u8)) T) : IsR u' r v bs e :=
  ⟨h.1.tr hf hr, h.2.1.tr hf ho, h.2.2.1, h.2.2.2⟩
theorem IsR.tr0 {u u' : World} {r : Nat} {v : Value} {bs : List Int} {e : Int} (h : IsR u r v bs e) (hf : Fr [] u u') : IsR u' r v bs e :=
  ⟨h.1.tr0 hf, h.2.1.tr0 hf, h.2.2.1, h.2.2.2⟩
theorem IsD.ne {u : World} {d r : Nat} {v : Value} {m : Int} {s : DS} (h : IsD u d r v m s) : d ≠ r := h.1.ne h.2.1 (by decide)
theorem IsD.trF {u u' : World} {d r : Nat} {v : Value} {m : Int} {s : DS} {T : List Nat} (h : IsD u d r v m s) (hf : Fr T u u') (hd : d ∉ T) (hr : r ∉ T) (ho : Off v (s.bs.map (.int .u8)) T) : IsD u' d r v m s :=
  ⟨h.1.tr hf hd, h.2.trF hf hr ho⟩
theorem IsD.tr0 {u u' : World} {d r : Nat} {v : Value} {m : Int} {s : DS} (h : IsD u d r v m s) (hf : Fr [] u u') : IsD u' d r v m s :=
  ⟨h.1.tr0 hf, h.2.tr0 hf⟩
theorem IsD.old {u u' : World} {d r : Nat} {v : Value} {m : Int} {s : DS} {T : List Nat} (h : IsD u d r v m s) (hf : Fr T u u') (hT : ∀ b ∈ T, u.heap.size ≤ b) : IsD u' d r v m s :=
  h.trF hf (fun hm => by have := hT _ hm; have := h.1.lt; omega) (fun hm => by have := hT _ hm; have := h.2.1.lt; omega) (h.2.far (Sub.refl _) (Nat.le_refl _) hT)
/-- the source lies in no decoder -/
theorem IsD.off {u : World} {d r : Nat} {v : Value} {m : Int} {s : DS} (h : IsD u d r v m s) (hO : Off v (s.bs.map (.int .u8)) [d]) : Off v (s.bs.map (.int .u8)) [d] := hO
def iR (w : World) (S : List Nat) (x : Int) (cs : List Value) : Prop := cs = [.int .i64 x]
def tR (w : World) (S : List Nat) (x : ByteArray) (cs : List Value) : Prop := cs = [.string x]
theorem rws_map {α : Type} {c : α → Value} {R : α → List Value → Prop} (hR : ∀ x cs, R x cs → cs = [c x]) {l : List α} {ys : List Value} (h : Rws R l ys) : ys = l.map c := by
  induction h with
  | nil => rfl
  | cons h1 _ ih => rw [hR _ _ h1, ih]; rfl
theorem Sl.is {w : World} {S : List Nat} {l : List Int} {sl : Value} (h : Sl w S (iR w S) l sl) : IS w S l sl := by
  obtain ⟨ys, h1, h2, h3⟩ := h
  have := rws_map (c := Value.int .i64) (fun x cs h => h) h3
  subst this
  exact ⟨h1, h2⟩
theorem Sl.ts {w : World} {S : List Nat} {l : List ByteArray} {sl : Value} (h : Sl w S (tR w S) l sl) : TS w S l sl := by
  obtain ⟨ys, h1, h2, h3⟩ := h
  have := rws_map (c := Value.string) (fun x cs h => h) h3
  subst this
  exact ⟨h1, h2⟩
section
variable {α : Type} {Rp : World → List Nat → α → List Value → Prop} {k : Nat}
/-- off some more blocks -/
def Rm (Rp : World → List Nat → α → List Value → Prop) (S0 : List Nat) (w : World) (S : List Nat) (x : α) (cs : List Value) : Prop := Rp w (S0 ++ S) x cs
structure LI (Rp : World → List Nat → α → List Value → Prop) (e k : Nat) (w : World) (S0 : List Nat) (d r : Nat) (m : Int) (v : Value) (B : Nat) (s0 : DS) (el : DS → α × DS) (n : Int) (i : Nat) (q : DS) (l : List α) (vl vr : Value) (z : World) : Prop where
  dd : IsD z d r vr m q
  fr : Fr [d, r] w z
  sub : Sub v vr
  len : q.bs.length ≤ B
  own : OwnR z e k (Rm Rp S0) l vl
  new : ∀ b ∈ blks vl, w.heap.size ≤ b
  ll : l.length = i
  nm : q.bad = false → n ≤ m
  lb : l.length ≤ 100000000000
  go : dGo el n.toNat s0 = (l ++ (dGo el (n.toNat - i) q).1, (dGo el (n.toNat - i) q).2)
/-- what a function that reads one element does -/
def ElC (kf : Nat) (args : List Value) (Rp : World → List Nat → α → List Value → Prop) (el : DS → α × DS) (m : Int) (d r B : Nat) (w : World) : Prop :=
  ∀ (q : DS) (vq : Value) (u : World) (S : List Nat), Fr [d, r] w u → IsD u d r vq m q → Off vq (q.bs.map (.int .u8)) [d] → q.bs.length ≤ B → (∀ b ∈ S, b < u.heap.size) →
    Calls Tryz.prog kf args.toArray u fun e u' => ∃ x cs, e = .returned x ∧ x.cells = cs.toArray ∧ Rp u' S (el q).1 cs ∧ DStep d r m u vq (el q).2 u'
end
attribute [local irreducible] Code.wp wpList Exit.then Exit.inBlock bodyPost A Calls execOp Addr.add
end Go.Proofs.YtpochcchekoonaaGreat
namespace Go.Rf
open Go.RowKit
set_option linter.unusedVariables false
section
variable {P : Program} {n : Nat} {f : Env} {w : World} {d : Nat} {ty : TypeId} {ps : String} {af : Array Edge} {gd : Option (Nat × Bool)}
end
end Go.Rf
namespace Go.Proofs.YtpochcchekoonaaGreat
open Go.Rf Go.RowKit
set_option linter.unusedVariables false
set_option linter.unusedSimpArgs false
def Hd (m : Int) (d r b2 : Nat) (y : World) : Prop := (∃ b, Blk y d [.pointer (some ⟨r, 0, none⟩), .int .i64 m, .bool b] 102) ∧ Blk y b2 [.pointer (some ⟨d, 0, none⟩)] 100
def ValC (m : Int) (d r f : Nat) : Prop := ∀ (L : Int) (hL : L = 131073 - f) (s : DS) (v : Value) (w : World) (S : List Nat), IsD w d r v m s → Off v (s.bs.map (.int .u8)) [d] → s.bs.length ≤ 100000000000 → (∀ b ∈ S, b < w.heap.size) →
  Calls Tryz.prog 102 #[.pointer (some ⟨d, 0, none⟩), .int .i64 L] w fun e w' => ∃ sl, e = .returned (.agg (vc (dVal m f s).1 sl).toArray) ∧ VS w' S (dVal m f s).1.kids sl ∧ DStep d r m w v (dVal m f s).2 w'
attribute [local irreducible] Code.wp wpList Exit.then Exit.inBlock bodyPost A Calls execOp Addr.add
end Go.Proofs.YtpochcchekoonaaGreat
