/-
  Layer 20: a row of deeds (Do, B), read as an argument: l : List (Int × Value), each B a row of bytes that reads.
-/
import Derived.Test.YtfibajfhaadnfaaRow
import Derived.Test.YtfibajfhaadnfaaByt
namespace Go.Proofs.Ytfibajfhaadnfaa
open Go.RowKit
def encD (d : Int × Value) : List Value := [.int .i64 d.1, d.2]
theorem encD_len (d : Int × Value) : (encD d).length = 2 := rfl
/-- What a deed must be. -/
def okD (w : World) (d : Int × Value) : Prop := (-9223372036854775808 ≤ d.1 ∧ d.1 ≤ 9223372036854775807) ∧ ∃ b : List Int, RdB w d.2 b ∧ (∀ y ∈ b, 0 ≤ y ∧ y ≤ 255) ∧ b.length ≤ maxLen
theorem readD {w : World} (cs : List Value) (h : Reads w 38 cs) : ∃ d : Int × Value, cs = encD d ∧ okD w d := by
  obtain ⟨hl, hf⟩ := Reads.struct Try.underlying38 h
  have h0 : Reads w 3 ((cs.drop 0).take (Try.prog.cellsOf 3)) := hf 0 _ rfl
  have h1 : Reads w 29 ((cs.drop 1).take (Try.prog.cellsOf 29)) := hf 1 _ rfl
  rw [show Try.prog.cellsOf 38 = 2 by kernel_rfl] at hl
  obtain ⟨x, y, rfl⟩ : ∃ x y, cs = [x, y] := by
    match cs, hl with
    | [x, y], _ => exact ⟨x, y, rfl⟩
  have e0 : Try.prog.cellsOf 3 = 1 := by kernel_rfl
  have e1 : Try.prog.cellsOf 29 = 1 := by kernel_rfl
  rw [e0] at h0
  rw [e1] at h1
  change Reads w 3 [x] at h0
  change Reads w 29 [y] at h1
  obtain ⟨n, hn, hw⟩ := Reads.int Try.underlying3 h0
  obtain ⟨v, l, hv, hr, hok, hm, _⟩ := Reads.ints (q := .u8) Try.underlying29 Try.underlying5 (by kernel_rfl) h1
  cases hn
  cases hv
  exact ⟨(n, y), rfl, wf_i64 hw, l, hr, fun y hy => wf_u8 (hok y hy), hm⟩
theorem openD {w : World} {v : Value} (hv : ∃ a n c, v = .slice a n c) (h : Reads w 36 v.cells.toList) : ∃ l : List (Int × Value), Rd w 2 v l.length (l.flatMap encD) ∧ (∀ d ∈ l, okD w d) ∧ l.length ≤ maxLen := by
  obtain ⟨a, n, c, rfl⟩ := hv
  haveI : Inhabited (Int × Value) := ⟨(0, .bool false)⟩
  obtain ⟨v, l, hv, hr, hok, hm, _⟩ := Reads.rows encD (okD w) Try.underlying36 (by kernel_rfl) readD h
  obtain rfl := one_of_cells hv (by intro cs e; cases e)
  exact ⟨l, hr, hok, hm⟩
end Go.Proofs.Ytfibajfhaadnfaa
