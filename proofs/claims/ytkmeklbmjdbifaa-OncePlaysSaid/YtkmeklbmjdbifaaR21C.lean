/-
  Layer 21: a configuration, read as an argument.
-/
import Derived.Test.YtkmeklbmjdbifaaRow
namespace Go.Proofs.Ytkmeklbmjdbifaa
open Go.RowKit
set_option linter.unusedVariables false
theorem openC {w : World} {v : Value} {r : Reach} {b0 : Nat} (hk : Value.okWide Try.prog w r b0 30 v) (h : Reads w 30 v.cells.toList) : ∃ t0 t1 t2, v = .agg #[.int .i64 t0, .int .i64 t1, .int .i64 t2] := by
  obtain ⟨cs, rfl⟩ := okWide_struct Try.underlying30 hk
  obtain ⟨hl, hf⟩ := Reads.struct Try.underlying30 h
  have h0 : Reads w 3 (((Value.agg cs).cells.toList.drop 0).take (Try.prog.cellsOf 3)) := hf 0 _ rfl
  have h1 : Reads w 3 (((Value.agg cs).cells.toList.drop 1).take (Try.prog.cellsOf 3)) := hf 1 _ rfl
  have h2 : Reads w 3 (((Value.agg cs).cells.toList.drop 2).take (Try.prog.cellsOf 3)) := hf 2 _ rfl
  rw [show (Value.agg cs).cells = cs from rfl] at hl h0 h1 h2
  rw [show Try.prog.cellsOf 3 = 1 by kernel_rfl] at h0 h1 h2
  rw [show Try.prog.cellsOf 30 = 3 by kernel_rfl] at hl
  obtain ⟨l⟩ := cs
  obtain ⟨x, y, z, rfl⟩ : ∃ x y z, l = [x, y, z] := by
    match l, hl with
    | [x, y, z], _ => exact ⟨x, y, z, rfl⟩
  obtain ⟨t0, e0, _⟩ := Reads.int Try.underlying3 (show Reads w 3 [x] from h0)
  obtain ⟨t1, e1, _⟩ := Reads.int Try.underlying3 (show Reads w 3 [y] from h1)
  obtain ⟨t2, e2, _⟩ := Reads.int Try.underlying3 (show Reads w 3 [z] from h2)
  cases e0; cases e1; cases e2
  exact ⟨t0, t1, t2, rfl⟩
end Go.Proofs.Ytkmeklbmjdbifaa
