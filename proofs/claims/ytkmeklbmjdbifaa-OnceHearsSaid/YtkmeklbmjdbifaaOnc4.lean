/-
  Package once: sap, New; field.GetStatus.
-/
import Derived.Test.YtkmeklbmjdbifaaOnc3
namespace Go.Proofs.Ytkmeklbmjdbifaa
open Go.RowKit
set_option linter.unusedVariables false


def SapI (x : Int) : Prop := 2 ≤ x ∧ x ≤ 254 ∧ x % 2 = 0
theorem osap (x : Int) (h : SapI x) (w : World) : Calls Try.prog 25 #[.int .i64 x] w fun e w' => e = .returned (.bool true) ∧ w' = w := by
  obtain ⟨h1, h2, h3⟩ := h
  have d1 : decide (2 ≤ x) = true := by simpa using h1
  have d2 : decide (x ≤ 254) = true := by simpa using h2
  have h0 : 0 ≤ x := by omega
  go_enter Try.func25, Try.ntmps25
  go_wp2_with fail
  go_ret
  exact ⟨rfl, rfl⟩

abbrev sk0 : Sk := ⟨false, 0, 0, 0, 0, false, []⟩
set_option maxHeartbeats 2000000 in
theorem onewYes (c : Cf) (near there : Int) (hc : c.ok) (hn : SapI near) (ht : SapI there) (w : World) :
    Calls Try.prog 9 #[.agg #[.int .i64 c.tries, .int .i64 c.ack, .int .i64 c.quiet], .int .i64 near, .int .i64 there] w fun e w' => ∃ o, e = .returned (.tuple #[.pointer (some ⟨o, 0, none⟩), .int .i64 0]) ∧ OnA w' (fun x => x = o) o c near there sk0 ∧ w.heap.size ≤ o ∧ Below w.heap.size w w' := by
  have Hn := Lib.hid hn
  have Ht := Lib.hid ht
  have Hc := Lib.hid hc
  have d1 : decide (c.tries < 1) = false := by have := hc.1; simp; omega
  have d2 : decide (100 < c.tries) = false := by have := hc.1; simp; omega
  have d3 : decide (c.ack < 1) = false := by have := hc.2.1; simp; omega
  have d4 : decide (10000 < c.ack) = false := by have := hc.2.1; simp; omega
  have d5 : decide (c.quiet < 0) = false := by have := hc.2.2; simp; omega
  have d6 : decide (10000 < c.quiet) = false := by have := hc.2.2; simp; omega
  clear hn ht hc
  go_enter Try.func9, Try.ntmps9
  go_wp2_with fail
  refine (osap near Hn.out _).mono ?_
  rintro e w1 ⟨rfl, rfl⟩
  go_wp2_with fail
  refine (osap there Ht.out _).mono ?_
  rintro e w1 ⟨rfl, rfl⟩
  go_wp2_with fail
  go_ret2
  refine ⟨_, rfl, ⟨zeroPd, .slice none 0 0, ⟨?_, Own.nil _ _ _ _ _, fun e => (by cases e), Hc.out, ?_, by show 0 ≤ 1024; decide⟩, fun x => by simp [Value.ownBlock]⟩, ?_, ?_⟩
  · exact hnew' (by simp)
  · exact ⟨.inl rfl, ⟨by decide, by decide⟩, ⟨by decide, by decide⟩, ⟨by decide, by decide⟩, by decide⟩
  · simp
  · exact ((Below.refl _ w).alloc (Nat.le_refl _) _).alloc (by simp) _

set_option maxHeartbeats 2000000 in
theorem onewNo (c : Cf) (near there : Int) (hc : ¬ c.ok) (hn : SapI near) (ht : SapI there) (w : World) :
    Calls Try.prog 9 #[.agg #[.int .i64 c.tries, .int .i64 c.ack, .int .i64 c.quiet], .int .i64 near, .int .i64 there] w fun e w' => e = .returned (.tuple #[.pointer none, .int .i64 1]) ∧ Below w.heap.size w w' := by
  by_cases h1 : c.tries < 1
  · have e0 : decide (c.tries < 1) = true := by simpa using h1
    clear hc h1
    go_enter Try.func9, Try.ntmps9
    go_wp2_with fail
    go_ret2
    exact ⟨rfl, (Below.refl _ w).alloc (Nat.le_refl _) _⟩
  have e0 : decide (c.tries < 1) = false := by simpa using h1
  by_cases h2 : 100 < c.tries
  · have e1 : decide (100 < c.tries) = true := by simpa using h2
    clear hc h2
    go_enter Try.func9, Try.ntmps9
    go_wp2_with fail
    go_ret2
    exact ⟨rfl, (Below.refl _ w).alloc (Nat.le_refl _) _⟩
  have e1 : decide (100 < c.tries) = false := by simpa using h2
  by_cases h3 : c.ack < 1
  · have e2 : decide (c.ack < 1) = true := by simpa using h3
    clear hc h3
    go_enter Try.func9, Try.ntmps9
    go_wp2_with fail
    go_ret2
    exact ⟨rfl, (Below.refl _ w).alloc (Nat.le_refl _) _⟩
  have e2 : decide (c.ack < 1) = false := by simpa using h3
  by_cases h4 : 10000 < c.ack
  · have e3 : decide (10000 < c.ack) = true := by simpa using h4
    clear hc h4
    go_enter Try.func9, Try.ntmps9
    go_wp2_with fail
    go_ret2
    exact ⟨rfl, (Below.refl _ w).alloc (Nat.le_refl _) _⟩
  have e3 : decide (10000 < c.ack) = false := by simpa using h4
  by_cases h5 : c.quiet < 0
  · have e4 : decide (c.quiet < 0) = true := by simpa using h5
    clear hc h5
    go_enter Try.func9, Try.ntmps9
    go_wp2_with fail
    go_ret2
    exact ⟨rfl, (Below.refl _ w).alloc (Nat.le_refl _) _⟩
  have e4 : decide (c.quiet < 0) = false := by simpa using h5
  by_cases h6 : 10000 < c.quiet
  · have e5 : decide (10000 < c.quiet) = true := by simpa using h6
    clear hc h6
    go_enter Try.func9, Try.ntmps9
    go_wp2_with fail
    go_ret2
    exact ⟨rfl, (Below.refl _ w).alloc (Nat.le_refl _) _⟩
  have e5 : decide (10000 < c.quiet) = false := by simpa using h6
  exact absurd (by unfold Cf.ok; omega) hc

theorem getstNo (w : World) : Calls Try.prog 30 #[.slice none 0 0] w fun e w' => e = .returned (.tuple #[.int .i64 0, .slice none 0 0, .int .i64 2]) ∧ w' = w := by
  go_enter Try.func30, Try.ntmps30
  go_wp2_with fail
  go_ret3
  exact ⟨rfl, rfl⟩
theorem getstNo' (a : Option Addr) (k : Nat) (w : World) : Calls Try.prog 30 #[.slice a 0 k] w fun e w' => e = .returned (.tuple #[.int .i64 0, .slice none 0 0, .int .i64 2]) ∧ w' = w := by
  go_enter Try.func30, Try.ntmps30
  go_wp2_with fail
  go_ret3
  exact ⟨rfl, rfl⟩

set_option maxHeartbeats 2000000 in
theorem getstYes (g o k : Nat) (x : Int) (l : List Int) (w : World) (h : RdB w (.slice (some ⟨g, o, none⟩) (l.length + 1) k) (x :: l)) (hk : l.length + 1 ≤ k) (hx : 0 ≤ x ∧ x ≤ 255) (hl : l.length ≤ 100000) (hk2 : k ≤ 9223372036854775807) :
    Calls Try.prog 30 #[.slice (some ⟨g, o, none⟩) (l.length + 1) k] w fun e w' => ∃ v', e = .returned (.tuple #[.int .i64 x, v', .int .i64 0]) ∧ OwnB w.heap.size w' v' l ∧ Below w.heap.size w w' := by
  have y0 : w.cell? ⟨g, o, none⟩ = some (.int .u8 x) := by
    have := h.at (i := 0) (by simp)
    simpa using this
  have y1 : w.drew.cell? ⟨g, o, none⟩ = some (.int .u8 x) := y0
  have hi0 : (0 : Int) < (l.length : Int) + 1 := by omega
  have hi1 : (1 : Int) ≤ (l.length : Int) + 1 := by omega
  have hi2 : (l.length : Int) + 1 ≤ (k : Int) := by omega
  have hi3 : (1 : Int) ≤ (k : Int) := by omega
  have hne : ((l.length : Int) + 1 == 0) = false := by simp; omega
  have hne2 : ¬ ((l.length : Int) + 1 = 0) := by omega
  have hw : IntKind.i64.wrap x = x := IntWalk.i64_in _ (by omega)
  have tail : ∀ (cc : Nat), Rd w.drew 1 (.slice (some ⟨g, o + 1, none⟩) l.length cc) l.length (l.flatMap encB) := fun cc => by
    obtain ⟨b', o', c', hv, _, hxs⟩ := Rd.some h (by simp) (by decide)
    simp at hv
    obtain ⟨⟨rfl, rfl⟩, rfl⟩ := hv
    refine ⟨by rw [flat_len encB 1 encB_len], _, cc, rfl, fun e => (by cases e), fun ad e j u hu => ?_⟩
    cases e
    rw [Addr.add_lit, Nat.add_assoc, Nat.add_comm 1 j]
    exact hxs (j + 1) u (by simpa [encB] using hu)
  by_cases h1 : k = 1
  · subst h1
    obtain rfl : l = [] := List.eq_nil_of_length_eq_zero (by omega)
    have HT : Hid (∀ (ad : Addr) (cc : Nat), RdB w.drew (.slice (some ad) 0 cc) ([] : List Int)) := fun ad cc => ⟨rfl, _, cc, rfl, fun e => (by cases e), fun _ _ j u hu => by simp at hu⟩
    clear tail h
    go_enter Try.func30, Try.ntmps30
    go_wp2_with fail
    go_region_held3 (fun w' => w'.cell? ⟨g, o, none⟩ = some (.int .u8 x)) (first | with_reducible assumption | with_reducible exact y1 | with_reducible exact y2) (first
      | (go_at_call 27; refine (cloneB _ [] w.drew (HT.out _ _) (by simp)).mono ?_; rintro e w3 ⟨v', rfl, o3, b3⟩; have y2 := cellOn' y1 b3; obtain ⟨ua, uc, hu, _⟩ := own_shape o3; subst hu; have O3 := Lib.hid o3; have B3 := Lib.hid b3; clear o3 b3)
      | fail)
    all_goals
      try simp only [Act.put, List.setIfInBounds_toArray, List.set_cons_zero, List.set_cons_succ]
      go_wp2_with fail
      go_ret3
      exact ⟨_, rfl, O3.out, (Below.refl _ w).drew.trans B3.out⟩
  · have HT := Lib.hid tail
    have h1' : ¬ (1 = k) := fun e => h1 e.symm
    clear tail h
    go_enter Try.func30, Try.ntmps30
    go_wp2_with fail
    go_region_held3 (fun w' => w'.cell? ⟨g, o, none⟩ = some (.int .u8 x)) (first | with_reducible assumption | with_reducible exact y1 | with_reducible exact y2) (first
      | (go_at_call 27; refine (cloneB _ l w.drew (HT.out _) (by omega)).mono ?_; rintro e w3 ⟨v', rfl, o3, b3⟩; have y2 := cellOn' y1 b3; obtain ⟨ua, uc, hu, _⟩ := own_shape o3; subst hu; have O3 := Lib.hid o3; have B3 := Lib.hid b3; clear o3 b3)
      | fail)
    all_goals
      try simp only [Act.put, List.setIfInBounds_toArray, List.set_cons_zero, List.set_cons_succ]
      go_wp2_with fail
      go_ret3
      exact ⟨_, rfl, O3.out, (Below.refl _ w).drew.trans B3.out⟩
end Go.Proofs.Ytkmeklbmjdbifaa
