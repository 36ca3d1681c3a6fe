/-
  Layer 15: a row of bytes, read as an argument.
-/
import Derived.Test.YteihpaikdpdglaaRow
namespace Go.Proofs.Yteihpaikdpdglaa
open Go.RowKit
theorem openB {w : World} {v : Value} (hv : ∃ a n c, v = .slice a n c) (h : Reads w 28 v.cells.toList) : ∃ l : List Int, Rd w 1 v l.length (l.flatMap fun z => [Value.int .u8 z]) ∧ (∀ y ∈ l, 0 ≤ y ∧ y ≤ 255) ∧ l.length ≤ maxLen := by
  obtain ⟨a, n, c, rfl⟩ := hv
  obtain ⟨v, l, hv, hr, hok, hm, _⟩ := Reads.ints (q := .u8) Try.underlying28 Try.underlying5 (by kernel_rfl) h
  obtain rfl := one_of_cells hv (by intro cs e; cases e)
  exact ⟨l, hr, fun y hy => wf_u8 (hok y hy), hm⟩
end Go.Proofs.Yteihpaikdpdglaa
