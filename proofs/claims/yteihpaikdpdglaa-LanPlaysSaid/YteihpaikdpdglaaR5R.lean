/-
  Layer 5: deeds, addresses, rows of three, read as arguments.
-/
import Derived.Test.YteihpaikdpdglaaRow
import Derived.Test.YteihpaikdpdglaaAdr
namespace Go.Proofs.Yteihpaikdpdglaa
open Go.RowKit
set_option linter.unusedVariables false

/-- A deed: what is done, from whom to whom, with which bit, and with which bytes. -/
structure De where
  dw : Int
  fr : Int
  tg : Int
  bit : Int
  a : Option Addr
  n : Nat
  c : Nat
  b : List Int
def encE (d : De) : List Value := [.int .i64 d.dw, .int .i64 d.fr, .int .i64 d.tg, .int .i64 d.bit, .slice d.a d.n d.c]
theorem encE_len (d : De) : (encE d).length = 5 := rfl
structure De.ok (w : World) (d : De) : Prop where
  i0 : -9223372036854775808 ≤ d.dw ∧ d.dw ≤ 9223372036854775807
  i1 : -9223372036854775808 ≤ d.fr ∧ d.fr ≤ 9223372036854775807
  i2 : -9223372036854775808 ≤ d.tg ∧ d.tg ≤ 9223372036854775807
  i3 : -9223372036854775808 ≤ d.bit ∧ d.bit ≤ 9223372036854775807
  rd : RdB w (.slice d.a d.n d.c) d.b
  len : d.n = d.b.length
  cap : d.n ≤ d.c ∧ d.c ≤ maxLen
  byte : ∀ x ∈ d.b, 0 ≤ x ∧ x ≤ 255
theorem De.ok.below {w w' : World} {d : De} (h : d.ok w) (hb : Below w.heap.size w w') : d.ok w' := ⟨h.i0, h.i1, h.i2, h.i3, h.rd.fr hb, h.len, h.cap, h.byte⟩
theorem readE {w : World} (cs : List Value) (h : Reads w 51 cs) : ∃ d : De, cs = encE d ∧ d.ok w := by
  obtain ⟨hl, hf⟩ := Reads.struct Try.underlying51 h
  have h0 : Reads w 3 ((cs.drop 0).take (Try.prog.cellsOf 3)) := hf 0 _ rfl
  have h1 : Reads w 3 ((cs.drop 1).take (Try.prog.cellsOf 3)) := hf 1 _ rfl
  have h2 : Reads w 3 ((cs.drop 2).take (Try.prog.cellsOf 3)) := hf 2 _ rfl
  have h3 : Reads w 3 ((cs.drop 3).take (Try.prog.cellsOf 3)) := hf 3 _ rfl
  have h4 : Reads w 28 ((cs.drop 4).take (Try.prog.cellsOf 28)) := hf 4 _ rfl
  rw [show Try.prog.cellsOf 51 = 5 by kernel_rfl] at hl
  obtain ⟨x0, x1, x2, x3, x4, rfl⟩ : ∃ x0 x1 x2 x3 x4, cs = [x0, x1, x2, x3, x4] := by
    match cs, hl with
    | [x0, x1, x2, x3, x4], _ => exact ⟨x0, x1, x2, x3, x4, rfl⟩
  have e0 : Try.prog.cellsOf 3 = 1 := by kernel_rfl
  have e1 : Try.prog.cellsOf 28 = 1 := by kernel_rfl
  rw [e0] at h0 h1 h2 h3
  rw [e1] at h4
  obtain ⟨n0, hn0, w0⟩ := Reads.int Try.underlying3 (show Reads w 3 [x0] from h0)
  obtain ⟨n1, hn1, w1⟩ := Reads.int Try.underlying3 (show Reads w 3 [x1] from h1)
  obtain ⟨n2, hn2, w2⟩ := Reads.int Try.underlying3 (show Reads w 3 [x2] from h2)
  obtain ⟨n3, hn3, w3⟩ := Reads.int Try.underlying3 (show Reads w 3 [x3] from h3)
  obtain ⟨v, l, hv, hr, hok, hm, a, c, hva, hlc, hcm⟩ := Reads.ints (q := .u8) Try.underlying28 Try.underlying5 (by kernel_rfl) (show Reads w 28 [x4] from h4)
  cases hn0; cases hn1; cases hn2; cases hn3; cases hv
  subst hva
  exact ⟨⟨n0, n1, n2, n3, a, l.length, c, l⟩, rfl, wf_i64 w0, wf_i64 w1, wf_i64 w2, wf_i64 w3, hr, rfl, ⟨hlc, hcm⟩, fun y hy => wf_u8 (hok y hy)⟩
theorem openE {w : World} {v : Value} (hv : ∃ a n c, v = .slice a n c) (h : Reads w 48 v.cells.toList) : ∃ l : List De, Rd w 5 v l.length (l.flatMap encE) ∧ (∀ d ∈ l, d.ok w) ∧ l.length ≤ maxLen := by
  obtain ⟨a, n, c, rfl⟩ := hv
  haveI : Inhabited De := ⟨⟨0, 0, 0, 0, none, 0, 0, []⟩⟩
  obtain ⟨v, l, hv, hr, hok, hm, _⟩ := Reads.rows encE (De.ok w) Try.underlying48 (by kernel_rfl) readE h
  obtain rfl := one_of_cells hv (by intro cs e; cases e)
  exact ⟨l, hr, hok, hm⟩
theorem openAd {w : World} {v : Value} {r : Reach} {b0 : Nat} (hk : Value.okWide Try.prog w r b0 43 v) (h : Reads w 43 v.cells.toList) : ∃ a : Ad, v = adV a ∧ ∀ x ∈ a.b, 0 ≤ x ∧ x ≤ 255 := by
  obtain ⟨cs, rfl⟩ := okWide_array Try.underlying43 hk
  obtain ⟨hl, hi⟩ := Reads.array Try.underlying43 h
  rw [show Try.prog.cellsOf 43 = 6 by kernel_rfl] at hl
  rw [show Try.prog.cellsOf 5 = 1 by kernel_rfl] at hi
  have h2 : (Value.agg cs).cells = cs := rfl
  rw [h2] at hl hi
  obtain ⟨l, rfl⟩ : ∃ l, cs = l.toArray := ⟨cs.toList, by simp⟩
  simp only at hl hi
  obtain ⟨a0, a1, a2, a3, a4, a5, rfl⟩ : ∃ a0 a1 a2 a3 a4 a5, l = [a0, a1, a2, a3, a4, a5] := by
    match l, hl with
    | [a0, a1, a2, a3, a4, a5], _ => exact ⟨a0, a1, a2, a3, a4, a5, rfl⟩
  obtain ⟨x0, e0, b0⟩ := Reads.int Try.underlying5 (show Reads w 5 [a0] from hi 0 (by decide))
  obtain ⟨x1, e1, b1⟩ := Reads.int Try.underlying5 (show Reads w 5 [a1] from hi 1 (by decide))
  obtain ⟨x2, e2, b2⟩ := Reads.int Try.underlying5 (show Reads w 5 [a2] from hi 2 (by decide))
  obtain ⟨x3, e3, b3⟩ := Reads.int Try.underlying5 (show Reads w 5 [a3] from hi 3 (by decide))
  obtain ⟨x4, e4, b4⟩ := Reads.int Try.underlying5 (show Reads w 5 [a4] from hi 4 (by decide))
  obtain ⟨x5, e5, b5⟩ := Reads.int Try.underlying5 (show Reads w 5 [a5] from hi 5 (by decide))
  cases e0; cases e1; cases e2; cases e3; cases e4; cases e5
  refine ⟨⟨x0, x1, x2, x3, x4, x5⟩, rfl, ?_⟩
  intro x hx
  simp only [Ad.b, List.mem_cons, List.not_mem_nil, or_false] at hx
  rcases hx with rfl | rfl | rfl | rfl | rfl | rfl
  · exact wf_u8 b0
  · exact wf_u8 b1
  · exact wf_u8 b2
  · exact wf_u8 b3
  · exact wf_u8 b4
  · exact wf_u8 b5
theorem open3 {w : World} {v : Value} {r : Reach} {b0 : Nat} (hk : Value.okWide Try.prog w r b0 41 v) (h : Reads w 41 v.cells.toList) : ∃ x0 x1 x2 : Int, v = .agg #[.int .u8 x0, .int .u8 x1, .int .u8 x2] ∧ (0 ≤ x0 ∧ x0 ≤ 255) ∧ (0 ≤ x1 ∧ x1 ≤ 255) := by
  obtain ⟨cs, rfl⟩ := okWide_array Try.underlying41 hk
  obtain ⟨hl, hi⟩ := Reads.array Try.underlying41 h
  rw [show Try.prog.cellsOf 41 = 3 by kernel_rfl] at hl
  rw [show Try.prog.cellsOf 5 = 1 by kernel_rfl] at hi
  have h2 : (Value.agg cs).cells = cs := rfl
  rw [h2] at hl hi
  obtain ⟨l, rfl⟩ : ∃ l, cs = l.toArray := ⟨cs.toList, by simp⟩
  simp only at hl hi
  obtain ⟨a0, a1, a2, rfl⟩ : ∃ a0 a1 a2, l = [a0, a1, a2] := by
    match l, hl with
    | [a0, a1, a2], _ => exact ⟨a0, a1, a2, rfl⟩
  obtain ⟨x0, e0, b0⟩ := Reads.int Try.underlying5 (show Reads w 5 [a0] from hi 0 (by decide))
  obtain ⟨x1, e1, b1⟩ := Reads.int Try.underlying5 (show Reads w 5 [a1] from hi 1 (by decide))
  obtain ⟨x2, e2, b2⟩ := Reads.int Try.underlying5 (show Reads w 5 [a2] from hi 2 (by decide))
  cases e0; cases e1; cases e2
  exact ⟨x0, x1, x2, rfl, wf_u8 b0, wf_u8 b1⟩
theorem open3I {w : World} {v : Value} {r : Reach} {b0 : Nat} (hk : Value.okWide Try.prog w r b0 55 v) (h : Reads w 55 v.cells.toList) : ∃ x0 x1 x2 : Int, v = .agg #[.int .i64 x0, .int .i64 x1, .int .i64 x2] ∧ (-9223372036854775808 ≤ x0 ∧ x0 ≤ 9223372036854775807) ∧ (-9223372036854775808 ≤ x1 ∧ x1 ≤ 9223372036854775807) ∧ (-9223372036854775808 ≤ x2 ∧ x2 ≤ 9223372036854775807) := by
  obtain ⟨cs, rfl⟩ := okWide_array Try.underlying55 hk
  obtain ⟨hl, hi⟩ := Reads.array Try.underlying55 h
  rw [show Try.prog.cellsOf 55 = 3 by kernel_rfl] at hl
  rw [show Try.prog.cellsOf 3 = 1 by kernel_rfl] at hi
  have h2 : (Value.agg cs).cells = cs := rfl
  rw [h2] at hl hi
  obtain ⟨l, rfl⟩ : ∃ l, cs = l.toArray := ⟨cs.toList, by simp⟩
  simp only at hl hi
  obtain ⟨a0, a1, a2, rfl⟩ : ∃ a0 a1 a2, l = [a0, a1, a2] := by
    match l, hl with
    | [a0, a1, a2], _ => exact ⟨a0, a1, a2, rfl⟩
  obtain ⟨x0, e0, b0⟩ := Reads.int Try.underlying3 (show Reads w 3 [a0] from hi 0 (by decide))
  obtain ⟨x1, e1, b1⟩ := Reads.int Try.underlying3 (show Reads w 3 [a1] from hi 1 (by decide))
  obtain ⟨x2, e2, b2⟩ := Reads.int Try.underlying3 (show Reads w 3 [a2] from hi 2 (by decide))
  cases e0; cases e1; cases e2
  exact ⟨x0, x1, x2, rfl, wf_i64 b0, wf_i64 b1, wf_i64 b2⟩
end Go.Proofs.Yteihpaikdpdglaa
