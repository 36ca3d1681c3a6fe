/-
  Layer 15: grid.Step, antiphonref15.Same, model, has, known.
-/
import Derived.Test.YtnafppdnapdbcaaGrd9
import Derived.Test.YtnafppdnapdbcaaGv
namespace Go.Proofs.Ytnafppdnapdbcaa
open Go.RowKit


/-- What a step does. -/
def stepG (s e : Int) : List Int × Int × Bool := if s < 0 ∨ 14 ≤ s ∨ e < 0 ∨ 34 ≤ e then ([], s, false) else gridT s e
theorem stepG_out {s e : Int} (h : s < 0 ∨ 14 ≤ s ∨ e < 0 ∨ 34 ≤ e) : stepG s e = ([], s, false) := if_pos h
theorem stepG_in {s e : Nat} (h : s < 14) (h' : e < 34) : stepG s e = gridT s e := if_neg (by omega)

set_option maxHeartbeats 4000000 in
theorem step (s e : Int) (w : World) : Calls Try.prog 11 #[.int .i64 s, .int .i64 e] w (Gives (stepG s e) w) := by
  by_cases h : s < 0 ∨ 14 ≤ s ∨ e < 0 ∨ 34 ≤ e
  · have E := Lib.hid (stepG_out h)
    have d1 : s < 0 ∨ ¬ s < 0 := by omega
    rcases h with h | h | h | h
    · have e1 : decide (s < 0) = true := by simpa using h
      go_enter Try.func11, Try.ntmps11
      go_wp2_with fail
      refine bodyPost_ret (v := .agg #[.slice none 0 0, .int .i64 s, .bool false]) (by simp [results, Try.results11, go_sem]) rfl ?_
      exact Gives.mk (x := ([], s, false)) E.out (RdN.nil _ _) ((Below.refl _ w).alloc (Nat.le_refl _) _)
    · have e1 : decide (s < 0) = false := by simp; omega
      have e2 : decide (14 ≤ s) = true := by simpa using h
      go_enter Try.func11, Try.ntmps11
      go_wp2_with fail
      refine bodyPost_ret (v := .agg #[.slice none 0 0, .int .i64 s, .bool false]) (by simp [results, Try.results11, go_sem]) rfl ?_
      exact Gives.mk (x := ([], s, false)) E.out (RdN.nil _ _) ((Below.refl _ w).alloc (Nat.le_refl _) _)
    · by_cases h1 : s < 0 ∨ 14 ≤ s
      · rcases h1 with h1 | h1
        · have e1 : decide (s < 0) = true := by simpa using h1
          go_enter Try.func11, Try.ntmps11
          go_wp2_with fail
          refine bodyPost_ret (v := .agg #[.slice none 0 0, .int .i64 s, .bool false]) (by simp [results, Try.results11, go_sem]) rfl ?_
          exact Gives.mk (x := ([], s, false)) E.out (RdN.nil _ _) ((Below.refl _ w).alloc (Nat.le_refl _) _)
        · have e1 : decide (s < 0) = false := by simp; omega
          have e2 : decide (14 ≤ s) = true := by simpa using h1
          go_enter Try.func11, Try.ntmps11
          go_wp2_with fail
          refine bodyPost_ret (v := .agg #[.slice none 0 0, .int .i64 s, .bool false]) (by simp [results, Try.results11, go_sem]) rfl ?_
          exact Gives.mk (x := ([], s, false)) E.out (RdN.nil _ _) ((Below.refl _ w).alloc (Nat.le_refl _) _)
      · have e1 : decide (s < 0) = false := by simp; omega
        have e2 : decide (14 ≤ s) = false := by simp; omega
        have e3 : decide (e < 0) = true := by simpa using h
        go_enter Try.func11, Try.ntmps11
        go_wp2_with fail
        refine bodyPost_ret (v := .agg #[.slice none 0 0, .int .i64 s, .bool false]) (by simp [results, Try.results11, go_sem]) rfl ?_
        exact Gives.mk (x := ([], s, false)) E.out (RdN.nil _ _) ((Below.refl _ w).alloc (Nat.le_refl _) _)
    · by_cases h1 : s < 0 ∨ 14 ≤ s
      · rcases h1 with h1 | h1
        · have e1 : decide (s < 0) = true := by simpa using h1
          go_enter Try.func11, Try.ntmps11
          go_wp2_with fail
          refine bodyPost_ret (v := .agg #[.slice none 0 0, .int .i64 s, .bool false]) (by simp [results, Try.results11, go_sem]) rfl ?_
          exact Gives.mk (x := ([], s, false)) E.out (RdN.nil _ _) ((Below.refl _ w).alloc (Nat.le_refl _) _)
        · have e1 : decide (s < 0) = false := by simp; omega
          have e2 : decide (14 ≤ s) = true := by simpa using h1
          go_enter Try.func11, Try.ntmps11
          go_wp2_with fail
          refine bodyPost_ret (v := .agg #[.slice none 0 0, .int .i64 s, .bool false]) (by simp [results, Try.results11, go_sem]) rfl ?_
          exact Gives.mk (x := ([], s, false)) E.out (RdN.nil _ _) ((Below.refl _ w).alloc (Nat.le_refl _) _)
      · have e1 : decide (s < 0) = false := by simp; omega
        have e2 : decide (14 ≤ s) = false := by simp; omega
        have e3 : decide (e < 0) = false := by simp; omega
        have e4 : decide (34 ≤ e) = true := by simpa using h
        go_enter Try.func11, Try.ntmps11
        go_wp2_with fail
        refine bodyPost_ret (v := .agg #[.slice none 0 0, .int .i64 s, .bool false]) (by simp [results, Try.results11, go_sem]) rfl ?_
        exact Gives.mk (x := ([], s, false)) E.out (RdN.nil _ _) ((Below.refl _ w).alloc (Nat.le_refl _) _)
  · obtain ⟨s, rfl⟩ : ∃ m : Nat, s = m := ⟨s.toNat, by omega⟩
    obtain ⟨e, rfl⟩ : ∃ m : Nat, e = m := ⟨e.toNat, by omega⟩
    have hs : s < 14 := by omega
    have he : e < 34 := by omega
    have E := Lib.hid (stepG_in hs he)
    have e1 : decide ((s : Int) < 0) = false := by simp
    have e2 : decide (14 ≤ (s : Int)) = false := by simp; omega
    have e3 : decide ((e : Int) < 0) = false := by simp
    have e4 : decide (34 ≤ (e : Int)) = false := by simp; omega
    clear h
    go_enter Try.func11, Try.ntmps11
    go_wp2_with fail
    refine (rows _).mono ?_
    rintro x w2 ⟨t, N, rfl, t2, b2⟩
    obtain ⟨g, cap, r, rfl, h1, h2, h3, h4, h5⟩ := t2.ex
    obtain ⟨c1, c2, c3, c4⟩ := h3 s hs
    obtain ⟨v, k1, k2, k3, k4⟩ := (h5 s e hs he).ex
    obtain ⟨f1, f1'⟩ := k2
    obtain ⟨f2, f2'⟩ := k3
    obtain ⟨f3, f3'⟩ := k4
    have hcf : ∀ (i : Nat) (u : Value), (#[Value.slice none 0 0, .int .i64 0, .bool false] : Array Value)[i]? = some u → CF w2 w.heap.size i u := fun i u hu =>
      (show CF (w.alloc (.cells #[Value.slice none 0 0, .int .i64 0, .bool false] 25)) w.heap.size i u from ⟨(blk_cell (heap_alloc_new' w _) i).trans hu, blk_free (heap_alloc_new' w _) i⟩).below b2
    obtain ⟨q0, q0'⟩ := hcf 0 _ rfl
    obtain ⟨q1, q1'⟩ := hcf 1 _ rfl
    obtain ⟨q2, q2'⟩ := hcf 2 _ rfl
    have hlt : w.heap.size < N := by have := t2.le; simp at this; omega
    have fin : ∀ x y z, Hid (RdN N (((w2.setCell ⟨w.heap.size, 0, none⟩ x).setCell ⟨w.heap.size, 1, none⟩ y).setCell ⟨w.heap.size, 2, none⟩ z) v (gridT s e).1) := fun x y z => ((k1.set hlt _).set hlt _).set hlt _
    have bel : ∀ x y z, Hid (Below w.heap.size w (((w2.setCell ⟨w.heap.size, 0, none⟩ x).setCell ⟨w.heap.size, 1, none⟩ y).setCell ⟨w.heap.size, 2, none⟩ z)) := fun x y z =>
      (((((Below.refl _ w).alloc (Nat.le_refl _) _).trans (b2.mono (by simp))).setCell (Nat.le_refl _) _).setCell (Nat.le_refl _) _).setCell (Nat.le_refl _) _
    have h2' : cap ≤ 9223372036854775807 := by unfold maxLen at h2; omega
    obtain ⟨va, vl, vc, rfl⟩ : ∃ a n c, v = .slice a n c := by obtain ⟨a, c, h⟩ := k1.rd.len; exact ⟨a, _, c, h⟩
    obtain ⟨x1, hx1⟩ : ∃ x, x = (gridT s e).2.1 := ⟨_, rfl⟩
    obtain ⟨x2, hx2⟩ : ∃ x, x = (gridT s e).2.2 := ⟨_, rfl⟩
    rw [← hx1] at f2
    rw [← hx2] at f3
    have X1 := Lib.hid hx1
    have X2 := Lib.hid hx2
    have HN := Lib.hid hlt
    have Fin := Lib.hid fin
    have Bel := Lib.hid bel
    clear h3 h4 h5 t2 b2 k1 hcf hx1 hx2 hlt fin bel
    go_wp2_with fail
    refine bodyPost_ret (v := .agg #[.slice va vl vc, .int .i64 x1, .bool x2]) (by simp [results, Try.results11, go_sem, *]) rfl ?_
    refine ⟨_, ?_, (by rw [E.out]; exact (Fin.out _ _ _).out.mono (Nat.le_of_lt HN.out)), (Bel.out _ _ _).out⟩
    rw [E.out, ← X1.out, ← X2.out]
end Go.Proofs.Ytnafppdnapdbcaa
