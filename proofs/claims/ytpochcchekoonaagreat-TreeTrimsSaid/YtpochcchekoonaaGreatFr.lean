/-
  From the readings of arguments to the walks' premises.
-/
import Derived.Test.YtpochcchekoonaaGreatWr
import Derived.OpenShut
import Derived.ShutString
import Derived.ChangeOld
namespace Go.Proofs.YtpochcchekoonaaGreat
open Go.Rf Go.RowKit
theorem wf_i64 {n : Int} (h : (Lit.int .i64 n).wf = true) : InI64 n := by
  have : -9223372036854775808 ≤ n ∧ n ≤ 9223372036854775807 := by simpa [Lit.wf, IntKind.min, IntKind.max, IntKind.signed, IntKind.bits] using h
  exact this
theorem wf_u64 {n : Int} (h : (Lit.int .u64 n).wf = true) : ∃ u : Nat, n = (u : Int) ∧ u < 18446744073709551616 := by
  have : 0 ≤ n ∧ n ≤ 18446744073709551615 := by simpa [Lit.wf, IntKind.min, IntKind.max, IntKind.signed, IntKind.bits] using h
  exact ⟨n.toNat, by omega, by omega⟩
theorem wf_u8 {n : Int} (h : (Lit.int .u8 n).wf = true) : 0 ≤ n ∧ n < 256 := by
  have : 0 ≤ n ∧ n ≤ 255 := by simpa [Lit.wf, IntKind.min, IntKind.max, IntKind.signed, IntKind.bits] using h
  omega
theorem srcOfRow {W : World} {k : IntKind} {x : Addr} {len cap : Nat} {zs : List Int} (hl : len ≤ cap) (hz : zs.length = cap) (hcell : ∀ i, i < zs.length → W.cell? (x.add i) = some (.int k (zs.getD i 0))) (hw : ∀ n ∈ zs, (Lit.int k n).wf = true) :
    ∃ xs : List Int, Src W (.slice (some x) len cap) xs.length (xs.map (.int k)) ∧ ∀ n ∈ xs, (Lit.int k n).wf = true := by
  have e : (zs.take len).length = len := by simp; omega
  refine ⟨zs.take len, ⟨some x, cap, by rw [e], by rw [e]; exact hl, fun h => (by cases h), ?_⟩, fun n hn => hw n (List.mem_of_mem_take hn)⟩
  intro ad ha j u hu
  simp only [Option.some.injEq] at ha
  subst ha
  rw [List.getElem?_map] at hu
  obtain ⟨z, hz1, rfl⟩ := Option.map_eq_some_iff.1 hu
  obtain ⟨hj, hz2⟩ := List.getElem?_eq_some_iff.1 hz1
  have hj2 : j < zs.length := by simp at hj; omega
  rw [hcell j hj2]
  rw [List.getElem_take] at hz2
  simp [List.getD, hj2, hz2]
end Go.Proofs.YtpochcchekoonaaGreat
