/-
  Layer 21: a PDU, a row of deeds, read as arguments.
-/
import Derived.Test.YtkmeklbmjdbifaaRow
import Derived.Test.YtkmeklbmjdbifaaPdu
namespace Go.Proofs.Ytkmeklbmjdbifaa
open Go.RowKit
set_option linter.unusedVariables false

/-- A row of bytes that an argument holds. -/
structure ArgB (w : World) (v : Value) (l : List Int) : Prop where
  rd : RdB w v l
  byt : ∀ y ∈ l, 0 ≤ y ∧ y ≤ 255
  sh : ∃ a c, v = .slice a l.length c ∧ l.length ≤ c ∧ c ≤ 9223372036854775807
structure Dd where
  dw : Int
  n : Int
  poll : Bool
  bv : Value
  b : List Int
  p : Pd
  pv : Value
def encD (d : Dd) : List Value := [.int .i64 d.dw, .int .i64 d.n, .bool d.poll, d.bv, .int .i64 d.p.dt, .int .i64 d.p.fr, .bool d.p.resp, .int .i64 d.p.form, .int .i64 d.p.kind, .int .i64 d.p.ns, .int .i64 d.p.nr, .bool d.p.poll, d.pv]
theorem encD_len (d : Dd) : (encD d).length = 13 := rfl
def okD (w : World) (d : Dd) : Prop := ArgB w d.bv d.b ∧ ArgB w d.pv d.p.info

theorem readBs {w : World} {y : Value} (h : Reads w 31 [y]) : ∃ l, ArgB w y l := by
  obtain ⟨v, l, hv, hr, hok, hm, a, c, hs, hc, hcm⟩ := Reads.ints (q := .u8) Try.underlying31 Try.underlying5 (by kernel_rfl) h
  cases hv
  exact ⟨l, hr, fun y hy => wf_u8 (hok y hy), a, c, hs, hc, by unfold maxLen at hcm; omega⟩
theorem cI : Try.prog.cellsOf 3 = 1 := by kernel_rfl
theorem cL : Try.prog.cellsOf 4 = 1 := by kernel_rfl
theorem cB : Try.prog.cellsOf 31 = 1 := by kernel_rfl
theorem cP : Try.prog.cellsOf 33 = 9 := by kernel_rfl
theorem cD : Try.prog.cellsOf 44 = 13 := by kernel_rfl
theorem nine {l : List Value} (h : l.length = 9) : ∃ a0 a1 a2 a3 a4 a5 a6 a7 a8, l = [a0, a1, a2, a3, a4, a5, a6, a7, a8] := by
  match l, h with
  | [a0, a1, a2, a3, a4, a5, a6, a7, a8], _ => exact ⟨a0, a1, a2, a3, a4, a5, a6, a7, a8, rfl⟩
theorem thirteen {l : List Value} (h : l.length = 13) : ∃ b0 b1 b2 b3 a0 a1 a2 a3 a4 a5 a6 a7 a8, l = [b0, b1, b2, b3, a0, a1, a2, a3, a4, a5, a6, a7, a8] := by
  match l, h with
  | [b0, b1, b2, b3, a0, a1, a2, a3, a4, a5, a6, a7, a8], _ => exact ⟨b0, b1, b2, b3, a0, a1, a2, a3, a4, a5, a6, a7, a8, rfl⟩

theorem readP {w : World} (cs : List Value) (h : Reads w 33 cs) : ∃ (p : Pd) (v : Value), cs = [.int .i64 p.dt, .int .i64 p.fr, .bool p.resp, .int .i64 p.form, .int .i64 p.kind, .int .i64 p.ns, .int .i64 p.nr, .bool p.poll, v] ∧ ArgB w v p.info := by
  obtain ⟨hl, hf⟩ := Reads.struct Try.underlying33 h
  have h0 : Reads w 3 ((cs.drop 0).take (Try.prog.cellsOf 3)) := hf 0 _ rfl
  have h1 : Reads w 3 ((cs.drop 1).take (Try.prog.cellsOf 3)) := hf 1 _ rfl
  have h2 : Reads w 4 ((cs.drop 2).take (Try.prog.cellsOf 4)) := hf 2 _ rfl
  have h3 : Reads w 3 ((cs.drop 3).take (Try.prog.cellsOf 3)) := hf 3 _ rfl
  have h4 : Reads w 3 ((cs.drop 4).take (Try.prog.cellsOf 3)) := hf 4 _ rfl
  have h5 : Reads w 3 ((cs.drop 5).take (Try.prog.cellsOf 3)) := hf 5 _ rfl
  have h6 : Reads w 3 ((cs.drop 6).take (Try.prog.cellsOf 3)) := hf 6 _ rfl
  have h7 : Reads w 4 ((cs.drop 7).take (Try.prog.cellsOf 4)) := hf 7 _ rfl
  have h8 : Reads w 31 ((cs.drop 8).take (Try.prog.cellsOf 31)) := hf 8 _ rfl
  rw [cP] at hl
  obtain ⟨a0, a1, a2, a3, a4, a5, a6, a7, a8, rfl⟩ := nine hl
  rw [cI] at h0 h1 h3 h4 h5 h6
  rw [cL] at h2 h7
  rw [cB] at h8
  obtain ⟨x0, e0, _⟩ := Reads.int Try.underlying3 (show Reads w 3 [a0] from h0)
  obtain ⟨x1, e1, _⟩ := Reads.int Try.underlying3 (show Reads w 3 [a1] from h1)
  obtain ⟨x2, e2⟩ := Reads.bool Try.underlying4 (show Reads w 4 [a2] from h2)
  obtain ⟨x3, e3, _⟩ := Reads.int Try.underlying3 (show Reads w 3 [a3] from h3)
  obtain ⟨x4, e4, _⟩ := Reads.int Try.underlying3 (show Reads w 3 [a4] from h4)
  obtain ⟨x5, e5, _⟩ := Reads.int Try.underlying3 (show Reads w 3 [a5] from h5)
  obtain ⟨x6, e6, _⟩ := Reads.int Try.underlying3 (show Reads w 3 [a6] from h6)
  obtain ⟨x7, e7⟩ := Reads.bool Try.underlying4 (show Reads w 4 [a7] from h7)
  obtain ⟨l, hlb⟩ := readBs (show Reads w 31 [a8] from h8)
  cases e0; cases e1; cases e2; cases e3; cases e4; cases e5; cases e6; cases e7
  exact ⟨⟨x0, x1, x2, x3, x4, x5, x6, x7, l⟩, a8, rfl, hlb⟩

theorem readD {w : World} (cs : List Value) (h : Reads w 44 cs) : ∃ d : Dd, cs = encD d ∧ okD w d := by
  obtain ⟨hl, hf⟩ := Reads.struct Try.underlying44 h
  have h0 : Reads w 3 ((cs.drop 0).take (Try.prog.cellsOf 3)) := hf 0 _ rfl
  have h1 : Reads w 3 ((cs.drop 1).take (Try.prog.cellsOf 3)) := hf 1 _ rfl
  have h2 : Reads w 4 ((cs.drop 2).take (Try.prog.cellsOf 4)) := hf 2 _ rfl
  have h3 : Reads w 31 ((cs.drop 3).take (Try.prog.cellsOf 31)) := hf 3 _ rfl
  have h4 : Reads w 33 ((cs.drop 4).take (Try.prog.cellsOf 33)) := hf 4 _ rfl
  rw [cD] at hl
  obtain ⟨b0, b1, b2, b3, a0, a1, a2, a3, a4, a5, a6, a7, a8, rfl⟩ := thirteen hl
  rw [cI] at h0 h1
  rw [cL] at h2
  rw [cB] at h3
  rw [cP] at h4
  obtain ⟨x0, e0, _⟩ := Reads.int Try.underlying3 (show Reads w 3 [b0] from h0)
  obtain ⟨x1, e1, _⟩ := Reads.int Try.underlying3 (show Reads w 3 [b1] from h1)
  obtain ⟨x2, e2⟩ := Reads.bool Try.underlying4 (show Reads w 4 [b2] from h2)
  obtain ⟨l, hl3⟩ := readBs (show Reads w 31 [b3] from h3)
  obtain ⟨p, v, e4, hp⟩ := readP [a0, a1, a2, a3, a4, a5, a6, a7, a8] h4
  cases e0; cases e1; cases e2; cases e4
  exact ⟨⟨x0, x1, x2, b3, l, p, a8⟩, rfl, hl3, hp⟩
theorem openD {w : World} {v : Value} (hv : ∃ a n c, v = .slice a n c) (h : Reads w 41 v.cells.toList) : ∃ l : List Dd, Rd w 13 v l.length (l.flatMap encD) ∧ (∀ d ∈ l, okD w d) ∧ l.length ≤ maxLen := by
  obtain ⟨a, n, c, rfl⟩ := hv
  haveI : Inhabited Dd := ⟨⟨0, 0, false, .bool false, [], ⟨0, 0, false, 0, 0, 0, 0, false, []⟩, .bool false⟩⟩
  obtain ⟨v, l, hv, hr, hok, hm, _⟩ := Reads.rows encD (okD w) Try.underlying41 cD readD h
  obtain rfl := one_of_cells hv (by intro cs e; cases e)
  exact ⟨l, hr, hok, hm⟩
theorem openP {w : World} {v : Value} {r : Reach} {b0 : Nat} (hk : Value.okWide Try.prog w r b0 33 v) (h : Reads w 33 v.cells.toList) : ∃ (p : Pd) (u : Value), v = pdV p u ∧ ArgB w u p.info := by
  obtain ⟨cs, rfl⟩ := okWide_struct Try.underlying33 hk
  obtain ⟨p, u, he, ha⟩ := readP _ h
  refine ⟨p, u, ?_, ha⟩
  have : cs = (pdCs p u) := by
    have h2 : (Value.agg cs).cells = cs := rfl
    rw [h2] at he
    cases cs
    simp only at he
    rw [he]
  rw [this]
/-- The cells of a deed. -/
theorem deed_ad {w : World} {v : Value} {ds : List Dd} (hl : Rd w 13 v ds.length (ds.flatMap encD)) (hn : 0 < ds.length) : ∃ lb lo lc, v = .slice (some ⟨lb, lo, none⟩) ds.length lc := by
  obtain ⟨b', o', c', hv, _, hx⟩ := Rd.some hl hn (by decide)
  exact ⟨b', o', c', hv⟩
theorem deed_at {w w' : World} {lb lo n lc : Nat} {ds : List Dd} (hl : Rd w 13 (.slice (some ⟨lb, lo, none⟩) n lc) ds.length (ds.flatMap encD)) (hb : Below w.heap.size w w') {i : Nat} (hi : i < ds.length) :
    ∀ j u, (encD ds[i])[j]? = some u → w'.cell? ⟨lb, lo + i * 13 + j, none⟩ = some u := by
  obtain ⟨b', o', c', hv, _, hx⟩ := Rd.some (Rd.fr hl (Fr.of_below hb no) (fun _ _ e => e)) (by omega) (by decide)
  simp at hv
  obtain ⟨⟨rfl, rfl⟩, _, _⟩ := hv
  intro j u hu
  have hj : j < 13 := by
    by_cases h : j < 13
    · exact h
    · rw [List.getElem?_eq_none (by rw [encD_len]; omega)] at hu; cases hu
  have := Rd.el encD_len hx hi hj hu
  rwa [← Nat.add_assoc] at this
/-- An argument's bytes read on, whatever turns that came later. -/
theorem ArgB.thru {w0 w : World} {v : Value} {l : List Int} (h : ArgB w0 v l) (hb : Below w0.heap.size w0 w) {o : Nat} (ho : w0.heap.size ≤ o) : ∀ W', Fr (fun x => x = o) w W' → RdB W' v l := fun W' hf =>
  h.rd.fr (hb.trans (hf.below' hb.size (fun b e => by omega)))
end Go.Proofs.Ytkmeklbmjdbifaa
