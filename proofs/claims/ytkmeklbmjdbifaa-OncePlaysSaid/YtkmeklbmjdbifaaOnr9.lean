/-
  The reference's mayU.
-/
import Derived.Test.YtkmeklbmjdbifaaOnr8
namespace Go.Proofs.Ytkmeklbmjdbifaa
open Go.RowKit
set_option linter.unusedVariables false


set_option maxHeartbeats 2000000 in
theorem rmayU (p : Pd) (a : Option Addr) (c : Nat) (hd : 0 ≤ p.dt) (w : World) : Calls Try.prog 36 #[pdV p (.slice a p.info.length c)] w fun e w' => e = .returned (.bool ((p.ns == 0) && (p.nr == 0) && kindOk p.dt p.resp p.kind p.info.length)) ∧ Below w.heap.size w w' := by
  cases en : (p.ns == 0) with
  | false =>
    have en' : (p.ns != 0) = true := by rw [bne, en]; rfl
    go_enter Try.func36, Try.ntmps36
    go_wp2_with fail
    go_ret
    exact ⟨rfl, (Below.refl _ w).alloc (Nat.le_refl _) _⟩
  | true =>
    have en' : (p.ns != 0) = false := by rw [bne, en]; rfl
    cases er : (p.nr == 0) with
    | false =>
      have er' : (p.nr != 0) = true := by rw [bne, er]; rfl
      go_enter Try.func36, Try.ntmps36
      go_wp2_with fail
      go_ret
      exact ⟨rfl, (Below.refl _ w).alloc (Nat.le_refl _) _⟩
    | true =>
      have er' : (p.nr != 0) = false := by rw [bne, er]; rfl
      rcases Int.emod_two_eq p.dt with h2 | h2
      all_goals
        go_enter Try.func36, Try.ntmps36
        go_wp2
        all_goals
          go_ret
          refine ⟨?_, (Below.refl _ w).alloc (Nat.le_refl _) _⟩
          simp only [beq_iff_eq, beq_eq_false_iff_ne] at *
          simp [kindOk, *]
end Go.Proofs.Ytkmeklbmjdbifaa
