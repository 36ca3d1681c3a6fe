/-
  Package queue: what all kinds of items share.
-/
import Derived.Test.YtjefmicmhcajoaaSub
namespace Go.Proofs.Ytjefmicmhcajoaa
open Go.RowKit
set_option linter.unusedVariables false

abbrev enQ (v : Value) : List Value := [v]
theorem enQ_len (v : Value) : (enQ v).length = 1 := rfl
/-- A block of one cell, as a slice. -/
theorem rd_one {w : World} {b t : Nat} {x : Value} (h : w.heap[b]? = some (.cells #[x] t (0, 0))) : Rd w 1 (.slice (some ⟨b, 0, none⟩) 1 1) 1 [x] := by
  refine ⟨rfl, _, _, rfl, fun e => (by cases e), fun ad e j u hu => ?_⟩
  cases e
  rw [Addr.add_lit, Nat.zero_add, blk_cell h]
  simpa using hu
/-- What there is behind Put. -/
def putL (most : Int) (l : List Value) (x : Value) : List Value := if (l.length : Int) < most then l ++ [x] else l
theorem enQ_ones {l : List Value} (h : ∀ v ∈ l, v.oneCell' = true) : ∀ u ∈ l.flatMap enQ, u.oneCell' = true := fun u hu => by
  obtain ⟨x, hx, he⟩ := List.mem_flatMap.1 hu
  simp [enQ] at he
  rw [he]
  exact h x hx

end Go.Proofs.Ytjefmicmhcajoaa
