/-
  The reference's GetStatus.
-/
import Derived.Test.YtkmeklbmjdbifaaOnr5
namespace Go.Proofs.Ytkmeklbmjdbifaa
open Go.RowKit
set_option linter.unusedVariables false


theorem rgetstNo (w : World) : Calls Try.prog 35 #[.slice none 0 0] w fun e w' => e = .returned (.tuple #[.int .i64 0, .slice none 0 0, .int .i64 2]) ∧ w' = w := by
  go_enter Try.func35, Try.ntmps35
  go_wp2_with fail
  go_ret3
  exact ⟨rfl, rfl⟩
theorem rgetstNo' (a : Option Addr) (k : Nat) (w : World) : Calls Try.prog 35 #[.slice a 0 k] w fun e w' => e = .returned (.tuple #[.int .i64 0, .slice none 0 0, .int .i64 2]) ∧ w' = w := by
  go_enter Try.func35, Try.ntmps35
  go_wp2_with fail
  go_ret3
  exact ⟨rfl, rfl⟩

set_option maxHeartbeats 2000000 in
theorem rgetstYes (g o k : Nat) (x : Int) (l : List Int) (w : World) (h : RdB w (.slice (some ⟨g, o, none⟩) (l.length + 1) k) (x :: l)) (hk : l.length + 1 ≤ k) (hx : 0 ≤ x ∧ x ≤ 255) (hl : l.length ≤ 100000) (hk2 : k ≤ 9223372036854775807) :
    Calls Try.prog 35 #[.slice (some ⟨g, o, none⟩) (l.length + 1) k] w fun e w' => ∃ v', e = .returned (.tuple #[.int .i64 x, v', .int .i64 0]) ∧ OwnB w.heap.size w' v' l ∧ Below w.heap.size w w' := by
  have y0 : w.cell? ⟨g, o, none⟩ = some (.int .u8 x) := by
    have := h.at (i := 0) (by simp)
    simpa using this
  have y1 : w.drew.cell? ⟨g, o, none⟩ = some (.int .u8 x) := y0
  have hi0 : (0 : Int) < (l.length : Int) + 1 := by omega
  have hi1 : (1 : Int) ≤ (l.length : Int) + 1 := by omega
  have hi2 : (l.length : Int) + 1 ≤ (k : Int) := by omega
  have hi3 : (1 : Int) ≤ (k : Int) := by omega
  have hne : ((l.length : Int) + 1 == 0) = false := by simp; omega
  have hne2 : ¬ ((l.length : Int) + 1 = 0) := by omega
  have hw : IntKind.i64.wrap x = x := IntWalk.i64_in _ (by omega)
  have tail : ∀ (cc : Nat), Rd w.drew 1 (.slice (some ⟨g, o + 1, none⟩) l.length cc) l.length (l.flatMap encB) := fun cc => by
    obtain ⟨b', o', c', hv, _, hxs⟩ := Rd.some h (by simp) (by decide)
    simp at hv
    obtain ⟨⟨rfl, rfl⟩, rfl⟩ := hv
    refine ⟨by rw [flat_len encB 1 encB_len], _, cc, rfl, fun e => (by cases e), fun ad e j u hu => ?_⟩
    cases e
    rw [Addr.add_lit, Nat.add_assoc, Nat.add_comm 1 j]
    exact hxs (j + 1) u (by simpa [encB] using hu)
  by_cases h1 : k = 1
  · subst h1
    obtain rfl : l = [] := List.eq_nil_of_length_eq_zero (by omega)
    have HT : Hid (∀ (ad : Addr) (cc : Nat), RdB w.drew (.slice (some ad) 0 cc) ([] : List Int)) := fun ad cc => ⟨rfl, _, cc, rfl, fun e => (by cases e), fun _ _ j u hu => by simp at hu⟩
    clear tail h
    go_enter Try.func35, Try.ntmps35
    go_wp2_with fail
    go_region_held3 (fun w' => w'.cell? ⟨g, o, none⟩ = some (.int .u8 x)) (first | with_reducible assumption | with_reducible exact y1 | with_reducible exact y2) (first
      | (go_at_call 13; refine (copyB _ [] w.drew (HT.out _ _) (by simp)).mono ?_; rintro e w3 ⟨v', rfl, o3, b3⟩; have y2 := cellOn' y1 b3; obtain ⟨ua, uc, hu, _⟩ := own_shape o3; subst hu; have O3 := Lib.hid o3; have B3 := Lib.hid b3; clear o3 b3)
      | fail)
    all_goals
      try simp only [Act.put, List.setIfInBounds_toArray, List.set_cons_zero, List.set_cons_succ]
      go_wp2_with fail
      go_ret3
      exact ⟨_, rfl, O3.out, (Below.refl _ w).drew.trans B3.out⟩
  · have HT := Lib.hid tail
    have h1' : ¬ (1 = k) := fun e => h1 e.symm
    clear tail h
    go_enter Try.func35, Try.ntmps35
    go_wp2_with fail
    go_region_held3 (fun w' => w'.cell? ⟨g, o, none⟩ = some (.int .u8 x)) (first | with_reducible assumption | with_reducible exact y1 | with_reducible exact y2) (first
      | (go_at_call 13; refine (copyB _ l w.drew (HT.out _) (by omega)).mono ?_; rintro e w3 ⟨v', rfl, o3, b3⟩; have y2 := cellOn' y1 b3; obtain ⟨ua, uc, hu, _⟩ := own_shape o3; subst hu; have O3 := Lib.hid o3; have B3 := Lib.hid b3; clear o3 b3)
      | fail)
    all_goals
      try simp only [Act.put, List.setIfInBounds_toArray, List.set_cons_zero, List.set_cons_succ]
      go_wp2_with fail
      go_ret3
      exact ⟨_, rfl, O3.out, (Below.refl _ w).drew.trans B3.out⟩
end Go.Proofs.Ytkmeklbmjdbifaa
