/-
  Layer 10: what a row of Deeds, or of bytes, reads as.
-/
import Derived.Test.YtidcjbfppdhghaaC10E
import Derived.Test.YtidcjbfppdhghaaRow
namespace Go.Proofs.Ytidcjbfppdhghaa
open Go.ChangeShapes Go.WideShapes Go.ChangeAt Go.RowKit Go.Deep

theorem cellsInt : Try.prog.cellsOf 3 = 1 := by kernel_rfl
theorem cellsU8 : Try.prog.cellsOf 5 = 1 := by kernel_rfl
theorem cellsDeed : Try.prog.cellsOf 34 = 3 := by kernel_rfl

theorem readDeed {w : World} {cs : List Value} (h : Reads w 34 cs) : ∃ y : Deed, cs = encD y ∧ okD y := by
  obtain ⟨hl, hf⟩ := h.struct Try.underlying34
  rw [cellsDeed] at hl
  match cs, hl with
  | [x, y, z], _ =>
    have h0 : Reads w 3 [x] := by simpa [cellsInt] using hf 0 _ rfl
    have h1 : Reads w 3 [y] := by simpa [cellsInt] using hf 1 _ rfl
    have h2 : Reads w 3 [z] := by simpa [cellsInt] using hf 2 _ rfl
    obtain ⟨a, e0, w0⟩ := h0.int Try.underlying3
    obtain ⟨b, e1, w1⟩ := h1.int Try.underlying3
    obtain ⟨c, e2, w2⟩ := h2.int Try.underlying3
    simp at e0 e1 e2
    subst e0 e1 e2
    exact ⟨(a, b, c), rfl, wf_i64 w0, wf_i64 w1, wf_i64 w2⟩

theorem openDeeds {w : World} {a : Option Addr} {n c : Nat} (h : Reads w 29 (Value.slice a n c).cells.toList) :
    ∃ l : List Deed, Rd w 3 (.slice a n c) l.length (l.flatMap encD) ∧ (∀ d ∈ l, okD d) ∧ l.length ≤ maxLen := by
  obtain ⟨v, l, e, hr, ho, hm, _⟩ := h.rows encD okD Try.underlying29 cellsDeed (fun cs hc => readDeed hc)
  simp [Value.cells] at e
  subst e
  exact ⟨l, hr, ho, hm⟩
theorem openBytes {w : World} {a : Option Addr} {n c : Nat} (h : Reads w 39 (Value.slice a n c).cells.toList) :
    ∃ l : List Int, Rd w 1 (.slice a n c) l.length (l.flatMap fun z => [Value.int .u8 z]) ∧ (∀ d ∈ l, 0 ≤ d ∧ d ≤ 255) ∧ l.length ≤ maxLen := by
  obtain ⟨v, l, e, hr, ho, hm, _⟩ := h.ints Try.underlying39 Try.underlying5 cellsU8
  simp [Value.cells] at e
  subst e
  exact ⟨l, hr, fun d hd => wf_u8 (ho d hd), hm⟩
end Go.Proofs.Ytidcjbfppdhghaa
