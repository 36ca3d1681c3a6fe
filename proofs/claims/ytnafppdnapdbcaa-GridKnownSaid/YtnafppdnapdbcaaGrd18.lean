/-
  Layer 15: GridKnown: the walk.
-/
import Derived.Test.YtnafppdnapdbcaaGrd11
namespace Go.Proofs.Ytnafppdnapdbcaa
open Go.RowKit


set_option maxHeartbeats 4000000 in
theorem knownL (w : World) : Calls Try.prog 3 #[] w fun x w' => x = .returned (.bool true) ∧ Below w.heap.size w w' := by
  go_enter Try.func3, Try.ntmps3
  go_wp2_with fail
  refine (awake w).mono ?_
  rintro e w0 ⟨rfl, hb0⟩
  have B0 := Lib.hid hb0
  clear hb0
  go_wp2_with fail
  refine (step_at 10 17 [19, 24, 31] 10 true rfl _).mono ?_
  rintro e w1 ⟨a1, c1, rfl, r1, b1⟩
  simp only [List.length_cons, List.length_nil, Nat.reduceAdd] at r1 ⊢
  obtain ⟨g1, o1, c1, e1, l1, x1⟩ := r1.out.rd.some (by decide) (by decide)
  simp at e1
  obtain ⟨rfl, rfl⟩ := e1
  have y1 := r1.out.at (i := 1) (by decide)
  have B1 : Hid (Below w.heap.size w w1) := B0.out.trans (b1.mono B0.out.size)
  simp only [List.getElem_cons_succ, List.getElem_cons_zero] at y1
  clear x1 b1 l1 r1
  go_upto_region 4 with fail
  obtain ⟨p1, hp1⟩ : ∃ b, b = w1.heap.size := ⟨_, rfl⟩
  obtain ⟨W1, hW1⟩ : ∃ x, x = w1.alloc (.cells #[.slice (some ⟨g1, o1, none⟩) 3 c1, .int .i64 10, .bool true] 25) := ⟨_, rfl⟩
  have y1' : W1.cell? ⟨g1, o1 + 1, none⟩ = some (.int .i64 24) := by subst hW1; exact cell_on y1 ((Below.refl _ w1).alloc (Nat.le_refl _) _)
  have a0 : W1.cell? ⟨p1, 0, none⟩ = some (.slice (some ⟨g1, o1, none⟩) 3 c1) := by subst hW1 hp1; exact blk_cell (heap_alloc_new' w1 _) 0
  have a1 : W1.cell? ⟨p1, 1, none⟩ = some (.int .i64 10) := by subst hW1 hp1; exact blk_cell (heap_alloc_new' w1 _) 1
  have a2 : W1.cell? ⟨p1, 2, none⟩ = some (.bool true) := by subst hW1 hp1; exact blk_cell (heap_alloc_new' w1 _) 2
  have BW1 : Hid (Below w.heap.size w W1) := by subst hW1; exact B1.out.alloc B1.out.size _
  rw [← hW1, ← hp1]
  clear hW1 hp1 y1
  go_wp2_with fail
  refine (step_at 0 1 [] 0 false rfl _).mono ?_
  rintro e w2 ⟨aa2, cc2, rfl, r2, b2⟩
  replace y1' := cell_on y1' b2
  replace a0 := cell_on a0 b2
  replace a1 := cell_on a1 b2
  replace a2 := cell_on a2 b2
  have B2 : Hid (Below w.heap.size w w2) := BW1.out.trans (b2.mono BW1.out.size)
  clear b2 r2
  go_upto_region 5 with fail
  obtain ⟨p2, hp2⟩ : ∃ b, b = w2.heap.size := ⟨_, rfl⟩
  obtain ⟨W2, hW2⟩ : ∃ x, x = w2.alloc (.cells #[.slice aa2 ([] : List Int).length cc2, .int .i64 0, .bool false] 25) := ⟨_, rfl⟩
  have hal : Below w2.heap.size w2 W2 := by subst hW2; exact (Below.refl _ w2).alloc (Nat.le_refl _) _
  have b0 : W2.cell? ⟨p2, 0, none⟩ = some (.slice aa2 0 cc2) := by subst hW2 hp2; exact blk_cell (heap_alloc_new' w2 _) 0
  have b1 : W2.cell? ⟨p2, 1, none⟩ = some (.int .i64 0) := by subst hW2 hp2; exact blk_cell (heap_alloc_new' w2 _) 1
  have b2 : W2.cell? ⟨p2, 2, none⟩ = some (.bool false) := by subst hW2 hp2; exact blk_cell (heap_alloc_new' w2 _) 2
  replace y1' := cell_on y1' hal
  replace a0 := cell_on a0 hal
  replace a1 := cell_on a1 hal
  replace a2 := cell_on a2 hal
  have BW2 : Hid (Below w.heap.size w W2) := B2.out.trans (hal.mono B2.out.size)
  simp only [List.length_nil] at hW2
  rw [← hW2, ← hp2]
  clear hW2 hp2 hal
  go_wp2_with fail
  refine (step_at (-5) 99 [] (-5) false rfl _).mono ?_
  rintro e w3 ⟨aa3, cc3, rfl, r3, b3⟩
  replace y1' := cell_on y1' b3
  replace a0 := cell_on a0 b3
  replace a1 := cell_on a1 b3
  replace a2 := cell_on a2 b3
  replace b0 := cell_on b0 b3
  replace b1 := cell_on b1 b3
  replace b2 := cell_on b2 b3
  have B3 : Hid (Below w.heap.size w w3) := BW2.out.trans (b3.mono BW2.out.size)
  clear b3 r3
  go_upto_region 6 with fail
  obtain ⟨p3, hp3⟩ : ∃ b, b = w3.heap.size := ⟨_, rfl⟩
  obtain ⟨W3, hW3⟩ : ∃ x, x = w3.alloc (.cells #[.slice aa3 ([] : List Int).length cc3, .int .i64 (-5), .bool false] 25) := ⟨_, rfl⟩
  have hal : Below w3.heap.size w3 W3 := by subst hW3; exact (Below.refl _ w3).alloc (Nat.le_refl _) _
  have d1 : W3.cell? ⟨p3, 1, none⟩ = some (.int .i64 (-5)) := by subst hW3 hp3; exact blk_cell (heap_alloc_new' w3 _) 1
  have d2 : W3.cell? ⟨p3, 2, none⟩ = some (.bool false) := by subst hW3 hp3; exact blk_cell (heap_alloc_new' w3 _) 2
  replace y1' := cell_on y1' hal
  replace a0 := cell_on a0 hal
  replace a1 := cell_on a1 hal
  replace a2 := cell_on a2 hal
  replace b0 := cell_on b0 hal
  replace b1 := cell_on b1 hal
  replace b2 := cell_on b2 hal
  have BW3 : Hid (Below w.heap.size w W3) := B3.out.trans (hal.mono B3.out.size)
  simp only [List.length_nil] at hW3
  rw [← hW3, ← hp3]
  clear hW3 hp3 hal
  go_wp2_with fail
  go_ret
  exact ⟨rfl, BW3.out⟩
end Go.Proofs.Ytnafppdnapdbcaa
