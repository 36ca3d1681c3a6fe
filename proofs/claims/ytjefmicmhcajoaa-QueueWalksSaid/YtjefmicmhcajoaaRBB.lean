/-
  A row of rows of bytes, read as an argument.
-/
import Derived.Test.YtjefmicmhcajoaaRow
import Derived.Test.YtjefmicmhcajoaaByt
namespace Go.Proofs.Ytjefmicmhcajoaa
open Go.RowKit
/-- A row of bytes: the slice and what it reads as. -/
abbrev BB := Value × List Int
def encBB (d : BB) : List Value := [d.1]
theorem encBB_len (d : BB) : (encBB d).length = 1 := rfl
def okBB (w : World) (d : BB) : Prop := RdB w d.1 d.2
theorem readBB {w : World} (cs : List Value) (h : Reads w 35 cs) : ∃ d : BB, cs = encBB d ∧ okBB w d := by
  obtain ⟨v, l, hv, hr, hok, hm', _⟩ := Reads.ints (q := .u8) Try.underlying35 Try.underlying5 (by kernel_rfl) h
  exact ⟨(v, l), hv, hr⟩
theorem openBB {w : World} {v : Value} (hv : ∃ a n c, v = .slice a n c) (h : Reads w 34 v.cells.toList) : ∃ l : List BB, Rd w 1 v l.length (l.flatMap encBB) ∧ (∀ d ∈ l, okBB w d) ∧ l.length ≤ maxLen := by
  obtain ⟨a, n, c, rfl⟩ := hv
  haveI : Inhabited BB := ⟨(.bool false, [])⟩
  obtain ⟨v, l, hv, hr, hok, hm, _⟩ := Reads.rows encBB (okBB w) Try.underlying34 (by kernel_rfl) readBB h
  obtain rfl := one_of_cells hv (by intro cs e; cases e)
  exact ⟨l, hr, hok, hm⟩
end Go.Proofs.Ytjefmicmhcajoaa
