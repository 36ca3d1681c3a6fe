/-
  Layer 12: a key, a row of keys, a row of deeds, read as arguments.
-/
import Derived.Test.YtjjfminpaoooaaaRow
import Derived.Test.YtjjfminpaoooaaaKey
namespace Go.Proofs.Ytjjfminpaoooaaa
open Go.RowKit
set_option linter.unusedVariables false

theorem cI : Try.prog.cellsOf 3 = 1 := by kernel_rfl
theorem cB : Try.prog.cellsOf 5 = 1 := by kernel_rfl
theorem cF : Try.prog.cellsOf 23 = 6 := by kernel_rfl
theorem cK : Try.prog.cellsOf 25 = 8 := by kernel_rfl
theorem cD : Try.prog.cellsOf 46 = 10 := by kernel_rfl
theorem len8 {l : List Value} (h : l.length = 8) : ∃ a0 a1 a2 a3 a4 a5 a6 a7, l = [a0, a1, a2, a3, a4, a5, a6, a7] := by
  match l, h with
  | [a0, a1, a2, a3, a4, a5, a6, a7], _ => exact ⟨a0, a1, a2, a3, a4, a5, a6, a7, rfl⟩
theorem len10 {l : List Value} (h : l.length = 10) : ∃ b0 b1 a0 a1 a2 a3 a4 a5 a6 a7, l = [b0, b1, a0, a1, a2, a3, a4, a5, a6, a7] := by
  match l, h with
  | [b0, b1, a0, a1, a2, a3, a4, a5, a6, a7], _ => exact ⟨b0, b1, a0, a1, a2, a3, a4, a5, a6, a7, rfl⟩

theorem readK {w : World} (cs : List Value) (h : Reads w 25 cs) : ∃ k : Ky, cs = (kyCs k).toList ∧ k.ok := by
  obtain ⟨hl, hf⟩ := Reads.struct Try.underlying25 h
  have h0 : Reads w 23 ((cs.drop 0).take (Try.prog.cellsOf 23)) := hf 0 _ rfl
  have h1 : Reads w 3 ((cs.drop 6).take (Try.prog.cellsOf 3)) := hf 1 _ rfl
  have h2 : Reads w 3 ((cs.drop 7).take (Try.prog.cellsOf 3)) := hf 2 _ rfl
  rw [cK] at hl
  obtain ⟨a0, a1, a2, a3, a4, a5, a6, a7, rfl⟩ := len8 hl
  rw [cF] at h0
  rw [cI] at h1 h2
  obtain ⟨_, hi⟩ := Reads.array Try.underlying23 (show Reads w 23 [a0, a1, a2, a3, a4, a5] from h0)
  rw [cB] at hi
  obtain ⟨x0, e0, b0⟩ := Reads.int Try.underlying5 (show Reads w 5 [a0] from hi 0 (by decide))
  obtain ⟨x1, e1, b1⟩ := Reads.int Try.underlying5 (show Reads w 5 [a1] from hi 1 (by decide))
  obtain ⟨x2, e2, b2⟩ := Reads.int Try.underlying5 (show Reads w 5 [a2] from hi 2 (by decide))
  obtain ⟨x3, e3, b3⟩ := Reads.int Try.underlying5 (show Reads w 5 [a3] from hi 3 (by decide))
  obtain ⟨x4, e4, b4⟩ := Reads.int Try.underlying5 (show Reads w 5 [a4] from hi 4 (by decide))
  obtain ⟨x5, e5, b5⟩ := Reads.int Try.underlying5 (show Reads w 5 [a5] from hi 5 (by decide))
  obtain ⟨x6, e6, _⟩ := Reads.int Try.underlying3 (show Reads w 3 [a6] from h1)
  obtain ⟨x7, e7, _⟩ := Reads.int Try.underlying3 (show Reads w 3 [a7] from h2)
  cases e0; cases e1; cases e2; cases e3; cases e4; cases e5; cases e6; cases e7
  refine ⟨⟨x0, x1, x2, x3, x4, x5, x6, x7⟩, rfl, ?_⟩
  intro x hx
  simp only [Ky.b, List.mem_cons, List.not_mem_nil, or_false] at hx
  rcases hx with rfl | rfl | rfl | rfl | rfl | rfl
  · exact wf_u8 b0
  · exact wf_u8 b1
  · exact wf_u8 b2
  · exact wf_u8 b3
  · exact wf_u8 b4
  · exact wf_u8 b5
theorem openK {w : World} {v : Value} {r : Reach} {b0 : Nat} (hk : Value.okWide Try.prog w r b0 25 v) (h : Reads w 25 v.cells.toList) : ∃ k : Ky, v = kyV k ∧ k.ok := by
  obtain ⟨cs, rfl⟩ := okWide_struct Try.underlying25 hk
  obtain ⟨k, he, hok⟩ := readK _ h
  refine ⟨k, ?_, hok⟩
  have : cs = kyCs k := by
    have h2 : (Value.agg cs).cells = cs := rfl
    rw [h2] at he
    cases cs
    simp only at he
    rw [he]
  rw [this]
/-- A deed: what is done, with what, at which key. -/
structure Dd where
  dw : Int
  x : Int
  k : Ky
def encD (d : Dd) : List Value := [.int .i64 d.dw, .int .i64 d.x, .int .u8 d.k.f0, .int .u8 d.k.f1, .int .u8 d.k.f2, .int .u8 d.k.f3, .int .u8 d.k.f4, .int .u8 d.k.f5, .int .i64 d.k.near, .int .i64 d.k.there]
theorem encD_len (d : Dd) : (encD d).length = 10 := rfl
def encK (k : Ky) : List Value := [.int .u8 k.f0, .int .u8 k.f1, .int .u8 k.f2, .int .u8 k.f3, .int .u8 k.f4, .int .u8 k.f5, .int .i64 k.near, .int .i64 k.there]
theorem encK_len (k : Ky) : (encK k).length = 8 := rfl
theorem readD {w : World} (cs : List Value) (h : Reads w 46 cs) : ∃ d : Dd, cs = encD d ∧ d.k.ok := by
  obtain ⟨hl, hf⟩ := Reads.struct Try.underlying46 h
  have h0 : Reads w 3 ((cs.drop 0).take (Try.prog.cellsOf 3)) := hf 0 _ rfl
  have h1 : Reads w 3 ((cs.drop 1).take (Try.prog.cellsOf 3)) := hf 1 _ rfl
  have h2 : Reads w 25 ((cs.drop 2).take (Try.prog.cellsOf 25)) := hf 2 _ rfl
  rw [cD] at hl
  obtain ⟨b0, b1, a0, a1, a2, a3, a4, a5, a6, a7, rfl⟩ := len10 hl
  rw [cI] at h0 h1
  rw [cK] at h2
  obtain ⟨x0, e0, _⟩ := Reads.int Try.underlying3 (show Reads w 3 [b0] from h0)
  obtain ⟨x1, e1, _⟩ := Reads.int Try.underlying3 (show Reads w 3 [b1] from h1)
  obtain ⟨k, e2, hok⟩ := readK [a0, a1, a2, a3, a4, a5, a6, a7] h2
  cases e0; cases e1; cases e2
  exact ⟨⟨x0, x1, k⟩, rfl, hok⟩
theorem openD {w : World} {v : Value} (hv : ∃ a n c, v = .slice a n c) (h : Reads w 41 v.cells.toList) : ∃ l : List Dd, Rd w 10 v l.length (l.flatMap encD) ∧ (∀ d ∈ l, d.k.ok) ∧ l.length ≤ maxLen := by
  obtain ⟨a, n, c, rfl⟩ := hv
  haveI : Inhabited Dd := ⟨⟨0, 0, ⟨0, 0, 0, 0, 0, 0, 0, 0⟩⟩⟩
  obtain ⟨v, l, hv, hr, hok, hm, _⟩ := Reads.rows encD (fun d => d.k.ok) Try.underlying41 cD readD h
  obtain rfl := one_of_cells hv (by intro cs e; cases e)
  exact ⟨l, hr, hok, hm⟩
theorem openKs {w : World} {v : Value} (hv : ∃ a n c, v = .slice a n c) (h : Reads w 55 v.cells.toList) : ∃ l : List Ky, Rd w 8 v l.length (l.flatMap encK) ∧ (∀ d ∈ l, d.ok) ∧ l.length ≤ maxLen := by
  obtain ⟨a, n, c, rfl⟩ := hv
  haveI : Inhabited Ky := ⟨⟨0, 0, 0, 0, 0, 0, 0, 0⟩⟩
  obtain ⟨v, l, hv, hr, hok, hm, _⟩ := Reads.rows encK (fun d => d.ok) Try.underlying55 cK readK h
  obtain rfl := one_of_cells hv (by intro cs e; cases e)
  exact ⟨l, hr, hok, hm⟩
end Go.Proofs.Ytjjfminpaoooaaa
