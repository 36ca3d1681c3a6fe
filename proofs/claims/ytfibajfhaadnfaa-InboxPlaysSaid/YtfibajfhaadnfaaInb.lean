/-
  Package inbox: New, row, Len, Full, turned, Put.
-/
import Derived.Test.YtfibajfhaadnfaaQue4B
import Derived.Test.YtfibajfhaadnfaaByt
namespace Go.Proofs.Ytfibajfhaadnfaa
open Go.RowKit
set_option linter.unusedVariables false


/-- An inbox. -/
structure IsIn (w : World) (B i c : Nat) (most : Int) (full : Bool) (sv : Value) (l : List Value) : Prop where
  blk : w.heap[i]? = some (.cells #[.pointer (some ⟨c, 0, none⟩), .bool full] 51 (0, 0))
  ge : B ≤ i
  q : IsQB w B c most sv l
/-- What may turn. -/
abbrev ftpI (i c : Nat) (sv : Value) : Nat → Prop := fun b => b = i ∨ ftp c sv b

theorem IsIn.below {w w' : World} {B i c : Nat} {most : Int} {full : Bool} {sv : Value} {l : List Value} (h : IsIn w B i c most full sv l) (hb : Below w.heap.size w w') : IsIn w' B i c most full sv l :=
  ⟨(hb.block i (lt_of_block h.blk)).trans h.blk, h.ge, h.q.below hb⟩
theorem IsIn.c0 {w : World} {B i c : Nat} {most : Int} {full : Bool} {sv : Value} {l : List Value} (h : IsIn w B i c most full sv l) : w.cell? ⟨i, 0, none⟩ = some (.pointer (some ⟨c, 0, none⟩)) := blk_cell h.blk 0
theorem IsIn.c1 {w : World} {B i c : Nat} {most : Int} {full : Bool} {sv : Value} {l : List Value} (h : IsIn w B i c most full sv l) : w.cell? ⟨i, 1, none⟩ = some (.bool full) := blk_cell h.blk 1
theorem IsIn.ne {w : World} {B i c : Nat} {most : Int} {full : Bool} {sv : Value} {l : List Value} (h : IsIn w B i c most full sv l) : ¬ ftp c sv i := fun e => by
  rcases e with rfl | e
  · have h1 := h.blk; rw [h.q.blk] at h1; cases h1
  · exact own_ne h.q.own h.blk (by decide) e

theorem inewYes (most : Int) (hm : 1 ≤ most ∧ most ≤ 16) (w : World) :
    Calls Try.prog 9 #[.int .i64 most] w fun e w' => ∃ i, e = .returned (.tuple #[.pointer (some ⟨i, 0, none⟩), .int .i64 0]) ∧ IsIn w' w.heap.size i w.heap.size most false (.slice none 0 0) [] ∧ Below w.heap.size w w' := by
  obtain ⟨h1, h2⟩ := hm
  have d1 : decide (most < 1) = false := by simp; omega
  have d2 : decide ((16 : Int) < most) = false := by simp; omega
  have Hm : Hid (max most 0 = most) := by unfold Hid; omega
  go_enter Try.func9, Try.ntmps9
  go_wp2_with fail
  refine (newQB most (by omega) w).mono ?_
  rintro e w1 ⟨rfl, hq, hb⟩
  rw [Hm.out] at hq
  have fin : Hid (IsIn (w1.alloc (.cells #[.pointer (some ⟨w.heap.size, 0, none⟩), .bool false] 51)) w.heap.size w1.heap.size w.heap.size most false (.slice none 0 0) [] ∧ Below w.heap.size w (w1.alloc (.cells #[.pointer (some ⟨w.heap.size, 0, none⟩), .bool false] 51))) :=
    ⟨⟨heap_alloc_new' w1 _, hb.size, hq.below ((Below.refl _ w1).alloc (Nat.le_refl _) _)⟩, hb.alloc hb.size _⟩
  clear hq hb
  go_wp2_with fail
  go_ret2
  exact ⟨_, rfl, fin.out⟩

theorem inewNo (most : Int) (hm : most < 1 ∨ 16 < most) (w : World) :
    Calls Try.prog 9 #[.int .i64 most] w fun e w' => e = .returned (.tuple #[.pointer none, .int .i64 1]) ∧ w' = w := by
  by_cases h : most < 1
  · have d1 : decide (most < 1) = true := by simpa using h
    clear hm
    go_enter Try.func9, Try.ntmps9
    go_wp2_with fail
    go_ret2
    exact ⟨rfl, rfl⟩
  · have d1 : decide (most < 1) = false := by simpa using h
    have d2 : decide ((16 : Int) < most) = true := by simp; omega
    clear hm h
    go_enter Try.func9, Try.ntmps9
    go_wp2_with fail
    go_ret2
    exact ⟨rfl, rfl⟩

theorem irow (i c : Nat) (w : World) (h : w.cell? ⟨i, 0, none⟩ = some (.pointer (some ⟨c, 0, none⟩))) : Calls Try.prog 21 #[.pointer (some ⟨i, 0, none⟩)] w fun e w' => e = .returned (.pointer (some ⟨c, 0, none⟩)) ∧ w' = w := by
  go_enter Try.func21, Try.ntmps21
  go_wp2_with fail
  go_ret
  exact ⟨rfl, rfl⟩

theorem ilen (i c : Nat) (most : Int) (full : Bool) (sv : Value) (l : List Value) (w : World) (B : Nat) (h : IsIn w B i c most full sv l) : Calls Try.prog 14 #[.pointer (some ⟨i, 0, none⟩)] w fun e w' => e = .returned (.int .i64 l.length) ∧ w' = w := by
  have H := Lib.hid h
  clear h
  go_enter Try.func14, Try.ntmps14
  go_wp2_with fail
  refine (irow i c w H.out.c0).mono ?_
  rintro e w' ⟨rfl, rfl⟩
  go_wp2_with fail
  refine (lenQB c most sv l _ B H.out.q).mono ?_
  rintro e w' ⟨rfl, rfl⟩
  go_wp2_with fail
  go_ret
  exact ⟨rfl, rfl⟩

theorem ifull (i : Nat) (full : Bool) (w : World) (h : w.cell? ⟨i, 1, none⟩ = some (.bool full)) : Calls Try.prog 12 #[.pointer (some ⟨i, 0, none⟩)] w fun e w' => e = .returned (.bool full) ∧ w' = w := by
  go_enter Try.func12, Try.ntmps12
  go_wp2_with fail
  go_ret
  exact ⟨rfl, rfl⟩

/-- Put's test. -/
theorem iput1 (i pn pi : Nat) (now full : Bool) (w : World) (h : w.cell? ⟨i, 1, none⟩ = some (.bool full)) (hn : w.cell? ⟨pn, 0, none⟩ = some (.bool now)) (hp : w.cell? ⟨pi, 0, none⟩ = some (.pointer (some ⟨i, 0, none⟩))) :
    Calls Try.prog 27 #[.pointer (some ⟨pn, 0, none⟩), .pointer (some ⟨pi, 0, none⟩)] w fun e w' => e = .returned (.bool (now && !full)) ∧ w' = w := by
  cases now
  all_goals cases full
  all_goals
    go_enter Try.func27, Try.ntmps27
    go_wp2_with fail
    go_ret
    exact ⟨rfl, rfl⟩

/-- turned, as Put asks it. -/
theorem turnedPut (i pn pi : Nat) (now full : Bool) (w : World) (h : w.cell? ⟨i, 1, none⟩ = some (.bool full)) (h' : w.frozen? ⟨i, 1, none⟩ = false) (hn : w.cell? ⟨pn, 0, none⟩ = some (.bool now)) (hp : w.cell? ⟨pi, 0, none⟩ = some (.pointer (some ⟨i, 0, none⟩))) :
    Calls Try.prog 26 #[.pointer (some ⟨i, 0, none⟩), .func (.func 27) #[] #[.pointer (some ⟨pn, 0, none⟩), .pointer (some ⟨pi, 0, none⟩)]] w fun e w' => e = .returned (.bool (now && !full)) ∧ w' = if (now && !full) = true then w.setCell ⟨i, 1, none⟩ (.bool true) else w := by
  have C := Lib.hid (iput1 i pn pi now full w h hn hp)
  cases q : (now && !full) with
  | true =>
    rw [q] at C
    have hf : full = false := by cases full <;> simp_all
    subst hf
    go_enter Try.func26, Try.ntmps26
    go_wp2_with fail
    refine C.out.mono ?_
    rintro e w' ⟨rfl, rfl⟩
    go_wp2_with fail
    go_ret
    exact ⟨rfl, rfl⟩
  | false =>
    rw [q] at C
    go_enter Try.func26, Try.ntmps26
    go_wp2_with fail
    refine C.out.mono ?_
    rintro e w' ⟨rfl, rfl⟩
    go_wp2_with fail
    go_ret
    exact ⟨rfl, rfl⟩
end Go.Proofs.Ytfibajfhaadnfaa
