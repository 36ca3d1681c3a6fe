/-
  Layer 18: a row of deeds (Do, N, B), read as an argument; a row of rows of bytes.
-/
import Derived.Test.YtlpkjnafmknddaaRow
import Derived.Test.YtlpkjnafmknddaaByt
namespace Go.Proofs.Ytlpkjnafmknddaa
open Go.RowKit
/-- A deed: Do, N, B and the bytes that B reads as. -/
abbrev Dd := Int × Int × Value × List Int
def encD (d : Dd) : List Value := [.int .i64 d.1, .int .i64 d.2.1, d.2.2.1]
theorem encD_len (d : Dd) : (encD d).length = 3 := rfl
/-- What a deed must be. -/
def okD (w : World) (d : Dd) : Prop := (-9223372036854775808 ≤ d.1 ∧ d.1 ≤ 9223372036854775807) ∧ (-9223372036854775808 ≤ d.2.1 ∧ d.2.1 ≤ 9223372036854775807) ∧ RdB w d.2.2.1 d.2.2.2
theorem readD {w : World} (cs : List Value) (h : Reads w 35 cs) : ∃ d : Dd, cs = encD d ∧ okD w d := by
  obtain ⟨hl, hf⟩ := Reads.struct Try.underlying35 h
  have h0 : Reads w 3 ((cs.drop 0).take (Try.prog.cellsOf 3)) := hf 0 _ rfl
  have h1 : Reads w 3 ((cs.drop 1).take (Try.prog.cellsOf 3)) := hf 1 _ rfl
  have h2 : Reads w 26 ((cs.drop 2).take (Try.prog.cellsOf 26)) := hf 2 _ rfl
  rw [show Try.prog.cellsOf 35 = 3 by kernel_rfl] at hl
  obtain ⟨x, y, z, rfl⟩ : ∃ x y z, cs = [x, y, z] := by
    match cs, hl with
    | [x, y, z], _ => exact ⟨x, y, z, rfl⟩
  have e0 : Try.prog.cellsOf 3 = 1 := by kernel_rfl
  have e1 : Try.prog.cellsOf 26 = 1 := by kernel_rfl
  rw [e0] at h0 h1
  rw [e1] at h2
  change Reads w 3 [x] at h0
  change Reads w 3 [y] at h1
  change Reads w 26 [z] at h2
  obtain ⟨n, hn, hw⟩ := Reads.int Try.underlying3 h0
  obtain ⟨m, hm, hw2⟩ := Reads.int Try.underlying3 h1
  obtain ⟨v, l, hv, hr, hok, hm', _⟩ := Reads.ints (q := .u8) Try.underlying26 Try.underlying5 (by kernel_rfl) h2
  cases hn
  cases hm
  cases hv
  exact ⟨(n, m, z, l), rfl, wf_i64 hw, wf_i64 hw2, hr⟩
theorem openD {w : World} {v : Value} (hv : ∃ a n c, v = .slice a n c) (h : Reads w 32 v.cells.toList) : ∃ l : List Dd, Rd w 3 v l.length (l.flatMap encD) ∧ (∀ d ∈ l, okD w d) ∧ l.length ≤ maxLen := by
  obtain ⟨a, n, c, rfl⟩ := hv
  haveI : Inhabited Dd := ⟨(0, 0, .bool false, [])⟩
  obtain ⟨v, l, hv, hr, hok, hm, _⟩ := Reads.rows encD (okD w) Try.underlying32 (by kernel_rfl) readD h
  obtain rfl := one_of_cells hv (by intro cs e; cases e)
  exact ⟨l, hr, hok, hm⟩
end Go.Proofs.Ytlpkjnafmknddaa
