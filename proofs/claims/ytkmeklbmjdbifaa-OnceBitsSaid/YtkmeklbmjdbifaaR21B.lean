/-
  Layer 21: a row of bools, read as an argument.
-/
import Derived.Test.YtkmeklbmjdbifaaRow
namespace Go.Proofs.Ytkmeklbmjdbifaa
open Go.RowKit
theorem openL {w : World} {v : Value} (hv : ∃ a n c, v = .slice a n c) (h : Reads w 64 v.cells.toList) : ∃ l : List Bool, Rd w 1 v l.length (l.flatMap fun b => [Value.bool b]) ∧ l.length ≤ maxLen := by
  obtain ⟨a, n, c, rfl⟩ := hv
  obtain ⟨v, l, hv, hr, hok, hm, _⟩ := Reads.rows (α := Bool) (fun b => [Value.bool b]) (fun _ => True) Try.underlying64 (by kernel_rfl) (fun _ h => by obtain ⟨b, hb⟩ := h.bool Try.underlying4; exact ⟨b, hb, trivial⟩) h
  obtain rfl := one_of_cells hv (by intro cs e; cases e)
  exact ⟨l, hr, hm⟩
end Go.Proofs.Ytkmeklbmjdbifaa
