/-
  PDUs: pdu.May and what it calls.
-/
import Derived.Test.YtkmeklbmjdbifaaByt
import Derived.Deep.DeepCutAuto
import Derived.Deep.CutBlock
namespace Go.Proofs.Ytkmeklbmjdbifaa
open Go.RowKit


/-- A PDU; its bytes lie in a slice of their own. -/
structure Pd where
  dt : Int
  fr : Int
  resp : Bool
  form : Int
  kind : Int
  ns : Int
  nr : Int
  poll : Bool
  info : List Int
abbrev pdCs (p : Pd) (v : Value) : Array Value := #[.int .i64 p.dt, .int .i64 p.fr, .bool p.resp, .int .i64 p.form, .int .i64 p.kind, .int .i64 p.ns, .int .i64 p.nr, .bool p.poll, v]
abbrev pdV (p : Pd) (v : Value) : Value := .agg (pdCs p v)

/-- Is a number from 0 to another one? -/
@[irreducible] def inR (x y : Int) : Bool := decide (0 ≤ x) && decide (x ≤ y)
theorem within (x y : Int) (w : World) : Calls Try.prog 37 #[.int .i64 x, .int .i64 y] w fun e w' => e = .returned (.bool (inR x y)) ∧ w' = w := by
  have hr : inR x y = (decide (0 ≤ x) && decide (x ≤ y)) := by unfold inR; rfl
  rw [hr]
  clear hr
  cases h1 : decide (0 ≤ x)
  all_goals cases h2 : decide (x ≤ y)
  all_goals
    go_enter Try.func37, Try.ntmps37
    go_wp2
    go_ret
    exact ⟨rfl, rfl⟩

theorem i64_and1 (x : Int) : bits .and .i64 x 1 = x % 2 := i64_mask x 1 (by decide)
/-- May a U PDU be, of this kind? -/
def kindOk (d : Int) (resp : Bool) (kind : Int) (n : Int) : Bool :=
  if kind = 0 then !resp
  else if kind = 1 ∨ kind = 2 then true
  else if kind = 3 ∨ kind = 4 then !resp && (d % 2 == 0) && (n == 4)
  else if kind = 5 ∨ kind = 6 then resp && (d % 2 == 0) && (n == 4)
  else if kind = 7 then resp && (d % 2 == 0) && (n == 5)
  else if kind = 8 ∨ kind = 9 then (d % 2 == 0)
  else false

set_option maxHeartbeats 2000000 in
theorem pkind (p : Pd) (a : Option Addr) (c : Nat) (w : World) : Calls Try.prog 38 #[pdV p (.slice a p.info.length c)] w fun e w' => e = .returned (.bool (kindOk p.dt p.resp p.kind p.info.length)) ∧ Below w.heap.size w w' := by
  have hand := i64_and1 p.dt
  rcases Int.emod_two_eq p.dt with h2 | h2
  all_goals
    rw [h2] at hand
    go_enter Try.func38, Try.ntmps38
    go_wp2
    all_goals
      go_ret
      refine ⟨?_, (Below.refl _ w).alloc (Nat.le_refl _) _⟩
      simp only [beq_iff_eq, beq_eq_false_iff_ne] at *
      simp [kindOk, *]

/-- What all PDUs must be. -/
def headOk (p : Pd) : Bool := inR p.dt 255 && inR p.fr 254 && !(p.fr % 2 == 1) && inR p.ns 127 && inR p.nr 127 && !(decide (1040 < (p.info.length : Int)))
/-- What its form asks. -/
def formOk (p : Pd) : Bool :=
  if p.form = 0 then (p.kind == 0) && (p.dt % 2 == 0)
  else if p.form = 1 then inR p.kind 2 && (p.ns == 0) && (p.info.length == 0) && (p.dt % 2 == 0)
  else if p.form = 2 then (p.ns == 0) && (p.nr == 0) && kindOk p.dt p.resp p.kind p.info.length
  else false
/-- May a PDU be? -/
def mayP (p : Pd) : Bool := headOk p && formOk p

set_option maxHeartbeats 4000000 in
set_option maxRecDepth 100000 in
theorem pmay (p : Pd) (a : Option Addr) (c : Nat) (w : World) : Calls Try.prog 29 #[pdV p (.slice a p.info.length c)] w fun e w' => e = .returned (.bool (mayP p)) ∧ Below w.heap.size w w' := by
  have hand := i64_and1 p.dt
  have hand2 := i64_and1 p.fr
  have W := Lib.hid (fun (x y : Int) (w : World) => within x y w)
  have Kd := Lib.hid (fun (w : World) => pkind p a c w)
  have al : Below w.heap.size w (w.alloc (.cells (pdCs p (.slice a p.info.length c)) 33)) := (Below.refl _ w).alloc (Nat.le_refl _) _
  have Al := Lib.hid al
  clear al
  go_enter Try.func29, Try.ntmps29
  go_upto_region 1 with fail
  go_cut [36] (fun v36 wx => v36 = .bool (!(headOk p)) ∧ wx = w.alloc (.cells (pdCs p (.slice a p.info.length c)) 33))
  case first =>
    go_wp2_with (go_at_call 37; refine (W.out _ _ _).mono ?_; rintro e w' ⟨rfl, rfl⟩)
    all_goals
      go_meet
      exact ⟨by simp [headOk, *], rfl⟩
  case rest =>
    obtain ⟨rfl, rfl⟩ := hcut
    cases hh : headOk p with
    | false =>
      go_wp2_with fail
      go_ret
      exact ⟨by simp [mayP, hh], Al.out⟩
    | true =>
      cases e0 : (p.form == 0) with
      | true =>
        have f0 : p.form = 0 := by simpa using e0
        go_wp2_with fail
        all_goals
          go_ret
          refine ⟨?_, (Below.refl _ w).alloc (Nat.le_refl _) _⟩
          simp [mayP, formOk, *]
      | false =>
        have f0 : ¬ p.form = 0 := by simpa using e0
        cases e1 : (p.form == 1) with
        | true =>
          have f1 : p.form = 1 := by simpa using e1
          go_wp2_with (go_at_call 37; refine (W.out _ _ _).mono ?_; rintro e w' ⟨rfl, rfl⟩)
          all_goals
            go_ret
            refine ⟨?_, (Below.refl _ w).alloc (Nat.le_refl _) _⟩
            simp [mayP, formOk, *]
        | false =>
          have f1 : ¬ p.form = 1 := by simpa using e1
          cases e2 : (p.form == 2) with
          | true =>
            have F2 : Hid (p.form = 2) := by unfold Hid; simpa using e2
            have Hh : Hid (headOk p = true) := hh
            have F0 := Lib.hid f0
            have F1 := Lib.hid f1
            clear f0 f1 hh
            cases en : (p.ns == 0) with
            | false =>
              go_wp2_with fail
              go_ret
              exact ⟨by have hh := Hh.out; have f2 := F2.out; simp [mayP, formOk, hh, f2, en], (Below.refl _ w).alloc (Nat.le_refl _) _⟩
            | true =>
              cases er : (p.nr == 0) with
              | false =>
                go_wp2_with fail
                go_ret
                exact ⟨by have hh := Hh.out; have f2 := F2.out; simp [mayP, formOk, hh, f2, en, er], (Below.refl _ w).alloc (Nat.le_refl _) _⟩
              | true =>
                go_wp2_with (go_at_call 38; refine (Kd.out _).mono ?_; rintro e w' ⟨rfl, hb⟩)
                all_goals
                  go_ret
                  refine ⟨?_, by first | exact (Below.refl _ w).alloc (Nat.le_refl _) _ | exact ((Below.refl _ w).alloc (Nat.le_refl _) _).trans (hb.mono (by simp))⟩
                  have hh := Hh.out; have f2 := F2.out
                  simp [mayP, formOk, hh, f2, en, er]
          | false =>
            have f2 : ¬ p.form = 2 := by simpa using e2
            go_wp2_with fail
            go_ret
            exact ⟨by simp [mayP, formOk, hh, f0, f1, f2], Al.out⟩
end Go.Proofs.Ytkmeklbmjdbifaa
