/-
  Package inbox: Take, Clear.
-/
import Derived.Test.YtfibajfhaadnfaaInb2
namespace Go.Proofs.Ytfibajfhaadnfaa
open Go.RowKit
set_option linter.unusedVariables false


/-- Is it full no more? -/
def freeB (full : Bool) (n : Nat) (most : Int) : Bool := full && decide ((n : Int) ≤ most / 2)

theorem itake1 (i c pi pq : Nat) (most : Int) (full : Bool) (sv : Value) (l : List Value) (w : World) (B : Nat) (h : IsIn w B i c most full sv l) (hm : 0 ≤ most ∧ most ≤ 1000) (hp : w.cell? ⟨pi, 0, none⟩ = some (.pointer (some ⟨i, 0, none⟩))) (hq : w.cell? ⟨pq, 0, none⟩ = some (.pointer (some ⟨c, 0, none⟩))) :
    Calls Try.prog 29 #[.pointer (some ⟨pi, 0, none⟩), .pointer (some ⟨pq, 0, none⟩)] w fun e w' => e = .returned (.bool (freeB full l.length most)) ∧ Below w.heap.size w w' := by
  have H := Lib.hid h
  have c0 : ∀ p : After w, p.w'.cell? ⟨pi, 0, none⟩ = some (.pointer (some ⟨i, 0, none⟩)) := fun p => p.cell hp
  have c1 : ∀ p : After w, p.w'.cell? ⟨pq, 0, none⟩ = some (.pointer (some ⟨c, 0, none⟩)) := fun p => p.cell hq
  have c2 : ∀ p : After w, p.w'.cell? ⟨i, 1, none⟩ = some (.bool full) := fun p => p.cell h.c1
  obtain ⟨m0, m1⟩ := hm
  clear h hp hq
  cases full with
  | false =>
    go_enter Try.func29, Try.ntmps29
    go_wp2_with fail
    refine wp_region_after (by kernel_rfl) (by kernel_rfl) ?_
    repeat (go_big_quiet_step (fail))
    refine wpQuiet_nil ?_
    rintro w1 ⟨⟨_, hb⟩, rfl⟩
    clear c0 c1 c2
    go_wp2_with fail
    go_ret
    exact ⟨rfl, hb⟩
  | true =>
    go_enter Try.func29, Try.ntmps29
    go_wp2_with fail
    refine wp_region_after (by kernel_rfl) (by kernel_rfl) ?_
    repeat (go_big_quiet_step ((first
      | (go_at_call 24; exact Calls.after_of ((lenQB c most sv l _ B (H.out.q.below (After.h _))).mono fun _ _ ⟨he, hw⟩ => ⟨he, by rw [hw]; exact Below.refl _ _⟩))
      | (go_at_call 25; exact Calls.after_of ((mostQB c most sv l _ B (H.out.q.below (After.h _))).mono fun _ _ ⟨he, hw⟩ => ⟨he, by rw [hw]; exact Below.refl _ _⟩))
      | fail)))
    refine wpQuiet_nil ?_
    rintro w1 ⟨⟨_, hb⟩, rfl⟩
    clear c0 c1 c2
    go_wp2_with fail
    go_ret
    exact ⟨rfl, hb⟩

theorem turnedTake (i c pi pq : Nat) (most : Int) (full : Bool) (sv : Value) (l : List Value) (w : World) (B : Nat) (h : IsIn w B i c most full sv l) (hm : 0 ≤ most ∧ most ≤ 1000) (hp : w.cell? ⟨pi, 0, none⟩ = some (.pointer (some ⟨i, 0, none⟩))) (hq : w.cell? ⟨pq, 0, none⟩ = some (.pointer (some ⟨c, 0, none⟩))) :
    Calls Try.prog 26 #[.pointer (some ⟨i, 0, none⟩), .func (.func 29) #[] #[.pointer (some ⟨pi, 0, none⟩), .pointer (some ⟨pq, 0, none⟩)]] w fun e w' => e = .returned (.bool (freeB full l.length most)) ∧ ∃ w1, Below w.heap.size w w1 ∧ w' = if freeB full l.length most = true then w1.setCell ⟨i, 1, none⟩ (.bool false) else w1 := by
  have C := Lib.hid (itake1 i c pi pq most full sv l w B h hm hp hq)
  have H := Lib.hid h
  clear h hp hq
  cases q : freeB full l.length most with
  | true =>
    rw [q] at C
    have hf : full = true := by cases full <;> simp_all [freeB]
    subst hf
    go_enter Try.func26, Try.ntmps26
    go_wp2_with fail
    refine C.out.mono ?_
    rintro e w1 ⟨rfl, hb⟩
    have i1 := (H.out.below hb).c1
    have i1' : w1.frozen? ⟨i, 1, none⟩ = false := blk_free (H.out.below hb).blk 1
    have Hb := Lib.hid hb
    clear hb q
    go_wp2_with fail
    go_ret
    exact ⟨rfl, w1, Hb.out, rfl⟩
  | false =>
    rw [q] at C
    clear q
    go_enter Try.func26, Try.ntmps26
    go_wp2_with fail
    refine C.out.mono ?_
    rintro e w1 ⟨rfl, hb⟩
    have Hb := Lib.hid hb
    clear hb
    go_wp2_with fail
    go_ret
    first
    | exact ⟨rfl, w1, Hb.out, rfl⟩
    | exact ⟨rfl, Hb.out⟩

set_option maxHeartbeats 2000000 in
theorem itakeNo (i c : Nat) (most : Int) (full : Bool) (sv : Value) (w : World) (B : Nat) (h : IsIn w B i c most full sv []) :
    Calls Try.prog 11 #[.pointer (some ⟨i, 0, none⟩)] w fun e w' => e = .returned (.tuple #[.slice none 0 0, .bool false, .bool false]) ∧ Below w.heap.size w w' := by
  have H := Lib.hid h
  clear h
  go_enter Try.func11, Try.ntmps11
  go_upto_region 1 with fail
  obtain ⟨pi, hpi⟩ : ∃ b, b = w.heap.size := ⟨_, rfl⟩
  obtain ⟨W0, hW0⟩ : ∃ x, x = w.alloc (.cells #[.pointer (some ⟨i, 0, none⟩)] 23) := ⟨_, rfl⟩
  have p0 : W0.cell? ⟨pi, 0, none⟩ = some (.pointer (some ⟨i, 0, none⟩)) := by subst hW0 hpi; exact blk_cell (heap_alloc_new' w _) 0
  have hb0 : Below w.heap.size w W0 := by subst hW0; exact (Below.refl _ w).alloc (Nat.le_refl _) _
  rw [← hW0, ← hpi]
  have HB0 := Lib.hid hb0
  have H0 := Lib.hid (H.out.below hb0)
  clear hW0 hpi hb0
  go_wp2_with fail
  refine (irow i c W0 H0.out.c0).mono ?_
  rintro e w1 ⟨rfl, rfl⟩
  go_wp2_with fail
  have hal := (Below.refl w1.heap.size w1).alloc (Nat.le_refl _) (.cells #[.pointer (some ⟨c, 0, none⟩)] 48)
  have HA := Lib.hid hal
  clear hal
  refine (takeNoB c most sv _ B (H0.out.q.below HA.out)).mono ?_
  rintro e w2 ⟨rfl, rfl⟩
  have Fin := Lib.hid (HB0.out.trans (HA.out.mono HB0.out.size))
  go_wp2_with fail
  go_ret3
  exact ⟨rfl, Fin.out⟩

set_option maxHeartbeats 2000000 in
theorem itakeYes (i c : Nat) (most : Int) (full : Bool) (sv : Value) (xa : Option Addr) (xn xk : Nat) (r : List Value) (w : World) (B : Nat) (hB : B ≤ w.heap.size) (h : IsIn w B i c most full sv (.slice xa xn xk :: r)) (hm : 0 ≤ most ∧ most ≤ 1000) (hl : r.length ≤ 1000) :
    Calls Try.prog 11 #[.pointer (some ⟨i, 0, none⟩)] w fun e w' => e = .returned (.tuple #[.slice xa xn xk, .bool true, .bool (freeB full r.length most)]) ∧
      ∃ sv', IsIn w' B i c most (full && !freeB full r.length most) sv' r ∧ Mv w sv sv' ∧ Fr (ftpI i c sv) w w' := by
  have H := Lib.hid h
  clear h
  go_enter Try.func11, Try.ntmps11
  go_upto_region 1 with fail
  obtain ⟨pi, hpi⟩ : ∃ b, b = w.heap.size := ⟨_, rfl⟩
  obtain ⟨W0, hW0⟩ : ∃ x, x = w.alloc (.cells #[.pointer (some ⟨i, 0, none⟩)] 23) := ⟨_, rfl⟩
  have p0 : W0.cell? ⟨pi, 0, none⟩ = some (.pointer (some ⟨i, 0, none⟩)) := by subst hW0 hpi; exact blk_cell (heap_alloc_new' w _) 0
  have hb0 : Below w.heap.size w W0 := by subst hW0; exact (Below.refl _ w).alloc (Nat.le_refl _) _
  rw [← hW0, ← hpi]
  have HB0 := Lib.hid hb0
  have Hpi := Lib.hid hpi
  have H0 := Lib.hid (H.out.below hb0)
  clear hW0 hpi hb0
  go_wp2_with fail
  refine (irow i c W0 H0.out.c0).mono ?_
  rintro e w1 ⟨rfl, rfl⟩
  go_upto_region 2 with fail
  obtain ⟨pq, hpq⟩ : ∃ b, b = w1.heap.size := ⟨_, rfl⟩
  obtain ⟨W2, hW2⟩ : ∃ x, x = w1.alloc (.cells #[.pointer (some ⟨c, 0, none⟩)] 48) := ⟨_, rfl⟩
  have q2 : W2.cell? ⟨pq, 0, none⟩ = some (.pointer (some ⟨c, 0, none⟩)) := by subst hW2 hpq; exact blk_cell (heap_alloc_new' w1 _) 0
  have hb2 : Below w1.heap.size w1 W2 := by subst hW2; exact (Below.refl _ w1).alloc (Nat.le_refl _) _
  have p2 := cellOn p0 hb2
  have H2 := Lib.hid (H0.out.below hb2)
  have HB2 : Hid (Below w.heap.size w W2) := HB0.out.trans (hb2.mono HB0.out.size)
  have Hpq := Lib.hid hpq
  rw [← hW2, ← hpq]
  have s2 := HB2.out.size
  clear hW2 hpq hb2 p0
  go_wp2_with fail
  refine (takeYesB c most sv _ r W2 B (by omega) H2.out.q (by simp; omega) ⟨_, _, _, rfl⟩).mono ?_
  rintro e w3 ⟨rfl, sv', q3, m3, f3⟩
  have hcw := lt_of_block H.out.q.blk
  have hp3 := f3.cellN p2 (fun e => by have := Hpi.out; omega)
  have hq3 := f3.cellN q2 (fun e => by have := Hpq.out; have := HB0.out.size; omega)
  have H3 := Lib.hid (H2.out.row (f3.mono (fun _ _ e => .inl e)) q3)
  have F3 := Lib.hid f3
  have M3 := Lib.hid m3
  clear q3 f3 m3 p2 q2
  go_wp2_with fail
  refine (turnedTake i c pi pq most full sv' r w3 B H3.out hm hp3 hq3).mono ?_
  rintro e w5 ⟨rfl, w4, hb4, hw5⟩
  have fin : Hid (∃ sv', IsIn w5 B i c most (full && !freeB full r.length most) sv' r ∧ Mv w sv sv' ∧ Fr (ftpI i c sv) w w5) := by
    have h4 := H3.out.below hb4
    have hf4 : Fr (ftpI i c sv) w w4 := ((Fr.of_below HB2.out (ftpI i c sv)).trans' F3.out (fun _ _ e => e) (fun _ _ e => .inr (.inl e))).trans' (Fr.of_below hb4 no) (fun _ _ e => e) (fun _ _ e => e.elim)
    refine ⟨sv', ?_, fun g hg => (M3.out g hg).imp id (fun q => by omega), ?_⟩
    · rw [hw5]
      cases hq : freeB full r.length most with
      | true => rw [if_pos rfl]; simpa using h4.setFull false
      | false => rw [if_neg (by decide)]; simpa using h4
    · rw [hw5]
      split
      · exact hf4.setCell (p := ⟨i, 1, none⟩) (fun _ => .inl rfl) _
      · exact hf4
  clear hw5 hb4 hp3 hq3
  go_wp2_with fail
  go_ret3
  exact ⟨rfl, fin.out⟩
end Go.Proofs.Ytfibajfhaadnfaa
