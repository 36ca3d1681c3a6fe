/-
  The reference's May: the same answer as the program's.
-/
import Derived.Test.YtkmeklbmjdbifaaOnr9
namespace Go.Proofs.Ytkmeklbmjdbifaa
open Go.RowKit
set_option linter.unusedVariables false


theorem inR_def (x y : Int) : inR x y = (decide (0 ≤ x) && decide (x ≤ y)) := by unfold inR; rfl
theorem nat_beq0 (n : Nat) : (n == 0) = ((n : Int) == 0) := by cases n <;> simp <;> omega
theorem headNo {p : Pd} (h : p.dt < 0 ∨ 255 < p.dt ∨ p.fr < 0 ∨ 254 < p.fr ∨ p.fr % 2 = 1 ∨ p.ns < 0 ∨ 127 < p.ns ∨ p.nr < 0 ∨ 127 < p.nr ∨ 1040 < (p.info.length : Int)) : mayP p = false := by
  cases hm : mayP p with
  | false => rfl
  | true =>
    unfold mayP headOk at hm
    simp only [inR_def, Bool.and_eq_true, decide_eq_true_eq, Bool.not_eq_true', beq_eq_false_iff_ne, decide_eq_false_iff_not] at hm
    omega
theorem headYes {p : Pd} (h0 : 0 ≤ p.dt) (h1 : p.dt ≤ 255) (h2 : 0 ≤ p.fr) (h3 : p.fr ≤ 254) (h4 : p.fr % 2 = 0) (h5 : 0 ≤ p.ns) (h6 : p.ns ≤ 127) (h7 : 0 ≤ p.nr) (h8 : p.nr ≤ 127) (h9 : (p.info.length : Int) ≤ 1040) : headOk p = true := by
  unfold headOk
  simp only [inR_def, Bool.and_eq_true, decide_eq_true_eq, Bool.not_eq_true', beq_eq_false_iff_ne, decide_eq_false_iff_not]
  omega

set_option maxHeartbeats 4000000 in
set_option maxRecDepth 100000 in
theorem rmay (p : Pd) (a : Option Addr) (c : Nat) (w : World) : Calls Try.prog 24 #[pdV p (.slice a p.info.length c)] w fun e w' => e = .returned (.bool (mayP p)) ∧ Below w.heap.size w w' := by
  by_cases h0 : p.dt < 0
  · have hm := Lib.hid (headNo (p := p) (by omega))
    have d0 : decide (p.dt < 0) = true := by simpa using h0
    clear h0
    go_enter Try.func24, Try.ntmps24
    go_wp2_with fail
    go_ret
    exact ⟨by rw [hm.out]; rfl, (Below.refl _ w).alloc (Nat.le_refl _) _⟩
  have d0 : decide (p.dt < 0) = false := by simpa using h0
  by_cases h1 : 255 < p.dt
  · have hm := Lib.hid (headNo (p := p) (by omega))
    have d1 : decide (255 < p.dt) = true := by simpa using h1
    clear h0 h1
    go_enter Try.func24, Try.ntmps24
    go_wp2_with fail
    go_ret
    exact ⟨by rw [hm.out]; rfl, (Below.refl _ w).alloc (Nat.le_refl _) _⟩
  have d1 : decide (255 < p.dt) = false := by simpa using h1
  by_cases h2 : p.fr < 0
  · have hm := Lib.hid (headNo (p := p) (by omega))
    have d2 : decide (p.fr < 0) = true := by simpa using h2
    clear h0 h1 h2
    go_enter Try.func24, Try.ntmps24
    go_wp2_with fail
    go_ret
    exact ⟨by rw [hm.out]; rfl, (Below.refl _ w).alloc (Nat.le_refl _) _⟩
  have d2 : decide (p.fr < 0) = false := by simpa using h2
  by_cases h3 : 254 < p.fr
  · have hm := Lib.hid (headNo (p := p) (by omega))
    have d3 : decide (254 < p.fr) = true := by simpa using h3
    clear h0 h1 h2 h3
    go_enter Try.func24, Try.ntmps24
    go_wp2_with fail
    go_ret
    exact ⟨by rw [hm.out]; rfl, (Below.refl _ w).alloc (Nat.le_refl _) _⟩
  have d3 : decide (254 < p.fr) = false := by simpa using h3
  have z0 : 0 ≤ p.dt := by omega
  have z1 : 0 ≤ p.fr := by omega
  by_cases h4 : p.fr % 2 = 1
  · have hm := Lib.hid (headNo (p := p) (by omega))
    clear h0 h1 h2 h3
    go_enter Try.func24, Try.ntmps24
    go_wp2_with fail
    go_ret
    exact ⟨by rw [hm.out]; rfl, (Below.refl _ w).alloc (Nat.le_refl _) _⟩
  replace h4 : p.fr % 2 = 0 := by omega
  by_cases h5 : p.ns < 0
  · have hm := Lib.hid (headNo (p := p) (by omega))
    have d5 : decide (p.ns < 0) = true := by simpa using h5
    clear h0 h1 h2 h3 h5
    go_enter Try.func24, Try.ntmps24
    go_wp2_with fail
    go_ret
    exact ⟨by rw [hm.out]; rfl, (Below.refl _ w).alloc (Nat.le_refl _) _⟩
  have d5 : decide (p.ns < 0) = false := by simpa using h5
  by_cases h6 : 127 < p.ns
  · have hm := Lib.hid (headNo (p := p) (by omega))
    have d6 : decide (127 < p.ns) = true := by simpa using h6
    clear h0 h1 h2 h3 h5 h6
    go_enter Try.func24, Try.ntmps24
    go_wp2_with fail
    go_ret
    exact ⟨by rw [hm.out]; rfl, (Below.refl _ w).alloc (Nat.le_refl _) _⟩
  have d6 : decide (127 < p.ns) = false := by simpa using h6
  by_cases h7 : p.nr < 0
  · have hm := Lib.hid (headNo (p := p) (by omega))
    have d7 : decide (p.nr < 0) = true := by simpa using h7
    clear h0 h1 h2 h3 h5 h6 h7
    go_enter Try.func24, Try.ntmps24
    go_wp2_with fail
    go_ret
    exact ⟨by rw [hm.out]; rfl, (Below.refl _ w).alloc (Nat.le_refl _) _⟩
  have d7 : decide (p.nr < 0) = false := by simpa using h7
  by_cases h8 : 127 < p.nr
  · have hm := Lib.hid (headNo (p := p) (by omega))
    have d8 : decide (127 < p.nr) = true := by simpa using h8
    clear h0 h1 h2 h3 h5 h6 h7 h8
    go_enter Try.func24, Try.ntmps24
    go_wp2_with fail
    go_ret
    exact ⟨by rw [hm.out]; rfl, (Below.refl _ w).alloc (Nat.le_refl _) _⟩
  have d8 : decide (127 < p.nr) = false := by simpa using h8
  by_cases h9 : (1040 : Int) < p.info.length
  · have hm := Lib.hid (headNo (p := p) (by omega))
    have d9 : decide ((1040 : Int) < p.info.length) = true := by simpa using h9
    clear h0 h1 h2 h3 h5 h6 h7 h8 h9
    go_enter Try.func24, Try.ntmps24
    go_wp2_with fail
    go_ret
    exact ⟨by rw [hm.out]; rfl, (Below.refl _ w).alloc (Nat.le_refl _) _⟩
  have d9 : decide ((1040 : Int) < p.info.length) = false := by simpa using h9
  have hh := headYes z0 (by omega) z1 (by omega) h4 (by omega) (by omega) (by omega) (by omega) (by omega)
  have Hh := Lib.hid hh
  have Hz0 := Lib.hid z0
  clear h0 h1 h2 h3 h5 h6 h7 h8 h9 hh
  rcases Int.emod_two_eq p.dt with t2 | t2
  all_goals
    cases e0 : (p.form == 0) with
    | true =>
      have f0 : p.form = 0 := by simpa using e0
      have F0 := Lib.hid f0
      have T2 := Lib.hid t2
      clear f0
      cases ek : (p.kind == 0)
      all_goals
        go_enter Try.func24, Try.ntmps24
        go_wp2_with fail
        go_ret
        exact ⟨by have hh := Hh.out; have f0 := F0.out; have t2 := T2.out; simp [mayP, formOk, hh, f0, ek, t2], (Below.refl _ w).alloc (Nat.le_refl _) _⟩
    | false =>
      have f0 : ¬ p.form = 0 := by simpa using e0
      have F0 := Lib.hid f0
      clear f0
      cases e1 : (p.form == 1) with
      | true =>
        have f1 : p.form = 1 := by simpa using e1
        have F1 := Lib.hid f1
        have T2 := Lib.hid t2
        clear f1
        cases k0 : decide (0 ≤ p.kind)
        all_goals cases k1 : decide (p.kind ≤ 2)
        all_goals cases k2 : (p.ns == 0)
        all_goals cases k3 : ((p.info.length : Int) == 0)
        all_goals
          go_enter Try.func24, Try.ntmps24
          go_wp2_with fail
          go_ret
          refine ⟨?_, (Below.refl _ w).alloc (Nat.le_refl _) _⟩
          have hh := Hh.out
          have f1 := F1.out
          have t2 := T2.out
          simp only [mayP, formOk, hh, f1, inR_def, k0, k1, k2, nat_beq0, k3, t2]
          try rfl
      | false =>
        have f1 : ¬ p.form = 1 := by simpa using e1
        have F1 := Lib.hid f1
        clear f1
        cases e2 : (p.form == 2) with
        | true =>
          have f2 : p.form = 2 := by simpa using e2
          have F2 := Lib.hid f2
          clear f2
          clear t2
          go_enter Try.func24, Try.ntmps24
          go_wp2_with fail
          refine (rmayU p a c Hz0.out _).mono ?_
          rintro e w1 ⟨rfl, b1⟩
          have B1 : Hid (Below w.heap.size w w1) := ((Below.refl _ w).alloc (Nat.le_refl _) _).trans (b1.mono (by simp))
          clear b1
          go_wp2_with fail
          go_ret
          exact ⟨by have hh := Hh.out; have f2 := F2.out; simp [mayP, formOk, hh, f2], B1.out⟩
        | false =>
          have f2 : ¬ p.form = 2 := by simpa using e2
          have F2 := Lib.hid f2
          clear f2
          go_enter Try.func24, Try.ntmps24
          go_wp2_with fail
          go_ret
          exact ⟨by have hh := Hh.out; have f0 := F0.out; have f1 := F1.out; have f2 := F2.out; simp [mayP, formOk, hh, f0, f1, f2], (Below.refl _ w).alloc (Nat.le_refl _) _⟩
end Go.Proofs.Ytkmeklbmjdbifaa
