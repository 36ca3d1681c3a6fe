/-
  Layer 4: a row of deeds (Do, X, N), read as an argument; a row of ints.
-/
import Derived.Test.YtjefmicmhcajoaaRow
import Derived.Test.YtjefmicmhcajoaaQueC
namespace Go.Proofs.Ytjefmicmhcajoaa
open Go.RowKit
abbrev Dz := Int × Int × Int
def encD (d : Dz) : List Value := [.int .i64 d.1, .int .i64 d.2.1, .int .i64 d.2.2]
theorem encD_len (d : Dz) : (encD d).length = 3 := rfl
def i64B (z : Int) : Prop := -9223372036854775808 ≤ z ∧ z ≤ 9223372036854775807
def okD (d : Dz) : Prop := i64B d.1 ∧ i64B d.2.1 ∧ i64B d.2.2
theorem readD {w : World} (cs : List Value) (h : Reads w 48 cs) : ∃ d : Dz, cs = encD d ∧ okD d := by
  obtain ⟨hl, hf⟩ := Reads.struct Try.underlying48 h
  have h0 : Reads w 3 ((cs.drop 0).take (Try.prog.cellsOf 3)) := hf 0 _ rfl
  have h1 : Reads w 3 ((cs.drop 1).take (Try.prog.cellsOf 3)) := hf 1 _ rfl
  have h2 : Reads w 3 ((cs.drop 2).take (Try.prog.cellsOf 3)) := hf 2 _ rfl
  rw [show Try.prog.cellsOf 48 = 3 by kernel_rfl] at hl
  obtain ⟨x, y, z, rfl⟩ : ∃ x y z, cs = [x, y, z] := by
    match cs, hl with
    | [x, y, z], _ => exact ⟨x, y, z, rfl⟩
  have e0 : Try.prog.cellsOf 3 = 1 := by kernel_rfl
  rw [e0] at h0 h1 h2
  change Reads w 3 [x] at h0
  change Reads w 3 [y] at h1
  change Reads w 3 [z] at h2
  obtain ⟨n, hn, hw⟩ := Reads.int Try.underlying3 h0
  obtain ⟨m, hm, hw2⟩ := Reads.int Try.underlying3 h1
  obtain ⟨k, hk, hw3⟩ := Reads.int Try.underlying3 h2
  cases hn
  cases hm
  cases hk
  exact ⟨(n, m, k), rfl, wf_i64 hw, wf_i64 hw2, wf_i64 hw3⟩
theorem openD {w : World} {v : Value} (hv : ∃ a n c, v = .slice a n c) (h : Reads w 46 v.cells.toList) : ∃ l : List Dz, Rd w 3 v l.length (l.flatMap encD) ∧ (∀ d ∈ l, okD d) ∧ l.length ≤ maxLen := by
  obtain ⟨a, n, c, rfl⟩ := hv
  haveI : Inhabited Dz := ⟨(0, 0, 0)⟩
  obtain ⟨v, l, hv, hr, hok, hm, _⟩ := Reads.rows encD okD Try.underlying46 (by kernel_rfl) readD h
  obtain rfl := one_of_cells hv (by intro cs e; cases e)
  exact ⟨l, hr, hok, hm⟩
theorem openZ {w : World} {v : Value} (hv : ∃ a n c, v = .slice a n c) (h : Reads w 42 v.cells.toList) : ∃ l : List Int, Rd w 1 v l.length ((l.map fun z => Value.int .i64 z).flatMap enQ) ∧ (∀ y ∈ l, i64B y) ∧ l.length ≤ maxLen := by
  obtain ⟨a, n, c, rfl⟩ := hv
  obtain ⟨v, l, hv, hr, hok, hm, _⟩ := Reads.ints (q := .i64) Try.underlying42 Try.underlying3 (by kernel_rfl) h
  obtain rfl := one_of_cells hv (by intro cs e; cases e)
  refine ⟨l, ?_, fun y hy => wf_i64 (hok y hy), hm⟩
  have e : (l.map fun z => Value.int .i64 z).flatMap enQ = l.flatMap fun z => [Value.int .i64 z] := by
    rw [List.flatMap_map]
  rw [e]
  exact hr
theorem openZ2 {w : World} {v : Value} (hv : ∃ a n c, v = .slice a n c) (h : Reads w 42 v.cells.toList) : ∃ (l : List Int) (a : Option Addr) (c : Nat), v = .slice a l.length c ∧ Rd w 1 v l.length ((l.map fun z => Value.int .i64 z).flatMap enQ) ∧ (∀ y ∈ l, i64B y) ∧ l.length ≤ maxLen ∧ l.length ≤ c := by
  obtain ⟨a, n, c, rfl⟩ := hv
  obtain ⟨v, l, hv, hr, hok, hm, a', c', hv', hc, _⟩ := Reads.ints (q := .i64) Try.underlying42 Try.underlying3 (by kernel_rfl) h
  obtain rfl := one_of_cells hv (by intro cs e; cases e)
  refine ⟨l, a', c', hv', ?_, fun y hy => wf_i64 (hok y hy), hm, hc⟩
  have e : (l.map fun z => Value.int .i64 z).flatMap enQ = l.flatMap fun z => [Value.int .i64 z] := by
    rw [List.flatMap_map]
  rw [e]
  exact hr
theorem openA3 {W : World} {r : Reach} {b0 : Nat} {v : Value} (hv : Value.okWide Try.prog W r b0 58 v) (h : Reads W 58 v.cells.toList) : ∃ x y z : Int, v = .agg #[.int .i64 x, .int .i64 y, .int .i64 z] ∧ i64B x ∧ i64B y ∧ i64B z := by
  obtain ⟨cs, rfl⟩ := okWide_array Try.underlying58 hv
  obtain ⟨hl, hf⟩ := Reads.array Try.underlying58 h
  rw [show Try.prog.cellsOf 58 = 3 by kernel_rfl] at hl
  have e0 : Try.prog.cellsOf 3 = 1 := by kernel_rfl
  have h0 := hf 0 (by decide)
  have h1 := hf 1 (by decide)
  have h2 := hf 2 (by decide)
  rw [e0] at h0 h1 h2
  obtain ⟨l⟩ := cs
  change l.length = 3 at hl
  obtain ⟨x, y, z, rfl⟩ : ∃ x y z, l = [x, y, z] := by
    match l, hl with
    | [x, y, z], _ => exact ⟨x, y, z, rfl⟩
  change Reads W 3 [x] at h0
  change Reads W 3 [y] at h1
  change Reads W 3 [z] at h2
  obtain ⟨n, hn, hw⟩ := Reads.int Try.underlying3 h0
  obtain ⟨m, hm, hw2⟩ := Reads.int Try.underlying3 h1
  obtain ⟨k, hk, hw3⟩ := Reads.int Try.underlying3 h2
  cases hn
  cases hm
  cases hk
  exact ⟨n, m, k, rfl, wf_i64 hw, wf_i64 hw2, wf_i64 hw3⟩
end Go.Proofs.Ytjefmicmhcajoaa
