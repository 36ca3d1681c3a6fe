/-
  Layer 12: TiesKnown: the walk.
-/
import Derived.Test.YtjjfminpaoooaaaL12A
import Derived.Test.YtjjfminpaoooaaaTieXS
import Derived.Deep.RegionHeld3
namespace Go.Proofs.Ytjjfminpaoooaaa
open Go.RowKit
set_option linter.unusedVariables false


set_option maxHeartbeats 8000000 in
set_option maxRecDepth 100000 in
theorem knownL (w : World) : Calls Try.prog 5 #[] w fun x w' => x = .returned (.bool true) ∧ Below w.heap.size w w' := by
  go_enter Try.func5, Try.ntmps5
  go_wp2_with fail
  refine (awake w).mono ?_
  rintro x w0 ⟨rfl, b0'⟩
  have B0 := Lib.hid b0'
  clear b0'
  go_wp2_with fail
  refine (xnewS (w0 := w) (kb := []) 1 1 (by decide) (by decide) B0.out (fun q hq => by cases hq)).mono ?_
  rintro x w1 ⟨t, rfl, h1⟩
  obtain ⟨b0, hb0⟩ : ∃ b, b = w1.heap.size := ⟨_, rfl⟩
  obtain ⟨W2, hW2⟩ : ∃ W2, W2 = (w1.alloc (.cells (kyCs (kn 4)) 28)).alloc (.cells (kyCs (kn 8)) 28) := ⟨_, rfl⟩
  have h2 : TbXS w W2 t 1 [] [(b0 + 1, .cells (kyCs (kn 8)) 28 (0, 0)), (b0, .cells (kyCs (kn 4)) 28 (0, 0))] := by
    have := (h1.alloc (.cells (kyCs (kn 4)) 28)).alloc (.cells (kyCs (kn 8)) 28)
    rw [hW2, hb0]
    simpa using this
  have r2 := h2.kept (List.mem_cons_self ..)
  have s2 := h2.kept (List.mem_cons_of_mem _ (List.mem_cons_self ..))
  have n0 : W2.drew.cell? ⟨b0, 0, none⟩ = some (.int .u8 0) := blk_cell s2 0
  have n1 : W2.drew.cell? ⟨b0, 1, none⟩ = some (.int .u8 0) := blk_cell s2 1
  have n2 : W2.drew.cell? ⟨b0, 2, none⟩ = some (.int .u8 0) := blk_cell s2 2
  have n3 : W2.drew.cell? ⟨b0, 3, none⟩ = some (.int .u8 0) := blk_cell s2 3
  have n4 : W2.drew.cell? ⟨b0, 4, none⟩ = some (.int .u8 0) := blk_cell s2 4
  have n5 : W2.drew.cell? ⟨b0, 5, none⟩ = some (.int .u8 0) := blk_cell s2 5
  have n6 : W2.drew.cell? ⟨b0, 6, none⟩ = some (.int .i64 4) := blk_cell s2 6
  have n7 : W2.drew.cell? ⟨b0, 7, none⟩ = some (.int .i64 0) := blk_cell s2 7
  have n8 : W2.drew.cell? ⟨b0 + 1, 0, none⟩ = some (.int .u8 0) := blk_cell r2 0
  have n9 : W2.drew.cell? ⟨b0 + 1, 1, none⟩ = some (.int .u8 0) := blk_cell r2 1
  have n10 : W2.drew.cell? ⟨b0 + 1, 2, none⟩ = some (.int .u8 0) := blk_cell r2 2
  have n11 : W2.drew.cell? ⟨b0 + 1, 3, none⟩ = some (.int .u8 0) := blk_cell r2 3
  have n12 : W2.drew.cell? ⟨b0 + 1, 4, none⟩ = some (.int .u8 0) := blk_cell r2 4
  have n13 : W2.drew.cell? ⟨b0 + 1, 5, none⟩ = some (.int .u8 0) := blk_cell r2 5
  have n14 : W2.drew.cell? ⟨b0 + 1, 6, none⟩ = some (.int .i64 8) := blk_cell r2 6
  have n15 : W2.drew.cell? ⟨b0 + 1, 7, none⟩ = some (.int .i64 0) := blk_cell r2 7
  have m0 : W2.cell? ⟨b0, 0, none⟩ = some (.int .u8 0) := blk_cell s2 0
  have m1 : W2.cell? ⟨b0, 1, none⟩ = some (.int .u8 0) := blk_cell s2 1
  have m2 : W2.cell? ⟨b0, 2, none⟩ = some (.int .u8 0) := blk_cell s2 2
  have m3 : W2.cell? ⟨b0, 3, none⟩ = some (.int .u8 0) := blk_cell s2 3
  have m4 : W2.cell? ⟨b0, 4, none⟩ = some (.int .u8 0) := blk_cell s2 4
  have m5 : W2.cell? ⟨b0, 5, none⟩ = some (.int .u8 0) := blk_cell s2 5
  have m6 : W2.cell? ⟨b0, 6, none⟩ = some (.int .i64 4) := blk_cell s2 6
  have m7 : W2.cell? ⟨b0, 7, none⟩ = some (.int .i64 0) := blk_cell s2 7
  have m8 : W2.cell? ⟨b0 + 1, 0, none⟩ = some (.int .u8 0) := blk_cell r2 0
  have m9 : W2.cell? ⟨b0 + 1, 1, none⟩ = some (.int .u8 0) := blk_cell r2 1
  have m10 : W2.cell? ⟨b0 + 1, 2, none⟩ = some (.int .u8 0) := blk_cell r2 2
  have m11 : W2.cell? ⟨b0 + 1, 3, none⟩ = some (.int .u8 0) := blk_cell r2 3
  have m12 : W2.cell? ⟨b0 + 1, 4, none⟩ = some (.int .u8 0) := blk_cell r2 4
  have m13 : W2.cell? ⟨b0 + 1, 5, none⟩ = some (.int .u8 0) := blk_cell r2 5
  have m14 : W2.cell? ⟨b0 + 1, 6, none⟩ = some (.int .i64 8) := blk_cell r2 6
  have m15 : W2.cell? ⟨b0 + 1, 7, none⟩ = some (.int .i64 0) := blk_cell r2 7
  have l2 : b0 + 1 < W2.heap.size := lt_of_block r2
  have H2 := Lib.hid (h2.below (Below.refl _ W2).drew)
  clear h1 h2 r2 s2
  have e3 : putES [] 1 (kn 4) = 0 := by decide
  have f3 : putLS [] 1 (kn 4) ⟨#[53]⟩ = [(kn 4, ⟨#[53]⟩)] := rfl
  have e4 : putES [(kn 4, ⟨#[53]⟩)] 1 (kn 8) = 6 := by decide
  have f4 : putLS [(kn 4, ⟨#[53]⟩)] 1 (kn 8) ⟨#[54]⟩ = [(kn 4, ⟨#[53]⟩)] := rfl
  have e5 : putES [(kn 4, ⟨#[53]⟩)] 1 (kn 4) = 0 := by decide
  have f5 : putLS [(kn 4, ⟨#[53]⟩)] 1 (kn 4) ⟨#[55]⟩ = [(kn 4, ⟨#[55]⟩)] := rfl
  go_upto_region 7 with fail
  rw [← hW2, ← hb0]
  clear hW2 hb0
  go_region_held3 (fun w' => w'.cell? ⟨b0, 0, none⟩ = some (.int .u8 0) ∧ w'.cell? ⟨b0, 1, none⟩ = some (.int .u8 0) ∧ w'.cell? ⟨b0, 2, none⟩ = some (.int .u8 0) ∧ w'.cell? ⟨b0, 3, none⟩ = some (.int .u8 0) ∧ w'.cell? ⟨b0, 4, none⟩ = some (.int .u8 0) ∧ w'.cell? ⟨b0, 5, none⟩ = some (.int .u8 0) ∧ w'.cell? ⟨b0, 6, none⟩ = some (.int .i64 4) ∧ w'.cell? ⟨b0, 7, none⟩ = some (.int .i64 0) ∧ w'.cell? ⟨b0 + 1, 0, none⟩ = some (.int .u8 0) ∧ w'.cell? ⟨b0 + 1, 1, none⟩ = some (.int .u8 0) ∧ w'.cell? ⟨b0 + 1, 2, none⟩ = some (.int .u8 0) ∧ w'.cell? ⟨b0 + 1, 3, none⟩ = some (.int .u8 0) ∧ w'.cell? ⟨b0 + 1, 4, none⟩ = some (.int .u8 0) ∧ w'.cell? ⟨b0 + 1, 5, none⟩ = some (.int .u8 0) ∧ w'.cell? ⟨b0 + 1, 6, none⟩ = some (.int .i64 8) ∧ w'.cell? ⟨b0 + 1, 7, none⟩ = some (.int .i64 0)) (first | with_reducible assumption | with_reducible exact ⟨n0, n1, n2, n3, n4, n5, n6, n7, n8, n9, n10, n11, n12, n13, n14, n15⟩ | with_reducible exact ⟨x3_0, x3_1, x3_2, x3_3, x3_4, x3_5, x3_6, x3_7, x3_8, x3_9, x3_10, x3_11, x3_12, x3_13, x3_14, x3_15⟩ | with_reducible exact ⟨x4_0, x4_1, x4_2, x4_3, x4_4, x4_5, x4_6, x4_7, x4_8, x4_9, x4_10, x4_11, x4_12, x4_13, x4_14, x4_15⟩ | with_reducible exact ⟨x5_0, x5_1, x5_2, x5_3, x5_4, x5_5, x5_6, x5_7, x5_8, x5_9, x5_10, x5_11, x5_12, x5_13, x5_14, x5_15⟩) (first
    | (go_at_call 13; (with_reducible refine (xputS H2.out (kn 4) (kn_ok 4) ⟨#[53]⟩ (E := 0) (l' := [(kn 4, ⟨#[53]⟩)]) e3 f3).mono ?_); rintro e w3 ⟨rfl, h3⟩; have H3 := Lib.hid h3; have r3 := h3.kept (List.mem_cons_self ..); have s3 := h3.kept (List.mem_cons_of_mem _ (List.mem_cons_self ..)); have x3_0 : w3.cell? ⟨b0, 0, none⟩ = some (.int .u8 0) := blk_cell s3 0; have x3_1 : w3.cell? ⟨b0, 1, none⟩ = some (.int .u8 0) := blk_cell s3 1; have x3_2 : w3.cell? ⟨b0, 2, none⟩ = some (.int .u8 0) := blk_cell s3 2; have x3_3 : w3.cell? ⟨b0, 3, none⟩ = some (.int .u8 0) := blk_cell s3 3; have x3_4 : w3.cell? ⟨b0, 4, none⟩ = some (.int .u8 0) := blk_cell s3 4; have x3_5 : w3.cell? ⟨b0, 5, none⟩ = some (.int .u8 0) := blk_cell s3 5; have x3_6 : w3.cell? ⟨b0, 6, none⟩ = some (.int .i64 4) := blk_cell s3 6; have x3_7 : w3.cell? ⟨b0, 7, none⟩ = some (.int .i64 0) := blk_cell s3 7; have x3_8 : w3.cell? ⟨b0 + 1, 0, none⟩ = some (.int .u8 0) := blk_cell r3 0; have x3_9 : w3.cell? ⟨b0 + 1, 1, none⟩ = some (.int .u8 0) := blk_cell r3 1; have x3_10 : w3.cell? ⟨b0 + 1, 2, none⟩ = some (.int .u8 0) := blk_cell r3 2; have x3_11 : w3.cell? ⟨b0 + 1, 3, none⟩ = some (.int .u8 0) := blk_cell r3 3; have x3_12 : w3.cell? ⟨b0 + 1, 4, none⟩ = some (.int .u8 0) := blk_cell r3 4; have x3_13 : w3.cell? ⟨b0 + 1, 5, none⟩ = some (.int .u8 0) := blk_cell r3 5; have x3_14 : w3.cell? ⟨b0 + 1, 6, none⟩ = some (.int .i64 8) := blk_cell r3 6; have x3_15 : w3.cell? ⟨b0 + 1, 7, none⟩ = some (.int .i64 0) := blk_cell r3 7; clear h3 r3 s3)
    | (go_at_call 13; (with_reducible refine (xputS H3.out (kn 8) (kn_ok 8) ⟨#[54]⟩ (E := 6) (l' := [(kn 4, ⟨#[53]⟩)]) e4 f4).mono ?_); rintro e w4 ⟨rfl, h4⟩; have H4 := Lib.hid h4; have r4 := h4.kept (List.mem_cons_self ..); have s4 := h4.kept (List.mem_cons_of_mem _ (List.mem_cons_self ..)); have x4_0 : w4.cell? ⟨b0, 0, none⟩ = some (.int .u8 0) := blk_cell s4 0; have x4_1 : w4.cell? ⟨b0, 1, none⟩ = some (.int .u8 0) := blk_cell s4 1; have x4_2 : w4.cell? ⟨b0, 2, none⟩ = some (.int .u8 0) := blk_cell s4 2; have x4_3 : w4.cell? ⟨b0, 3, none⟩ = some (.int .u8 0) := blk_cell s4 3; have x4_4 : w4.cell? ⟨b0, 4, none⟩ = some (.int .u8 0) := blk_cell s4 4; have x4_5 : w4.cell? ⟨b0, 5, none⟩ = some (.int .u8 0) := blk_cell s4 5; have x4_6 : w4.cell? ⟨b0, 6, none⟩ = some (.int .i64 4) := blk_cell s4 6; have x4_7 : w4.cell? ⟨b0, 7, none⟩ = some (.int .i64 0) := blk_cell s4 7; have x4_8 : w4.cell? ⟨b0 + 1, 0, none⟩ = some (.int .u8 0) := blk_cell r4 0; have x4_9 : w4.cell? ⟨b0 + 1, 1, none⟩ = some (.int .u8 0) := blk_cell r4 1; have x4_10 : w4.cell? ⟨b0 + 1, 2, none⟩ = some (.int .u8 0) := blk_cell r4 2; have x4_11 : w4.cell? ⟨b0 + 1, 3, none⟩ = some (.int .u8 0) := blk_cell r4 3; have x4_12 : w4.cell? ⟨b0 + 1, 4, none⟩ = some (.int .u8 0) := blk_cell r4 4; have x4_13 : w4.cell? ⟨b0 + 1, 5, none⟩ = some (.int .u8 0) := blk_cell r4 5; have x4_14 : w4.cell? ⟨b0 + 1, 6, none⟩ = some (.int .i64 8) := blk_cell r4 6; have x4_15 : w4.cell? ⟨b0 + 1, 7, none⟩ = some (.int .i64 0) := blk_cell r4 7; clear h4 r4 s4)
    | (go_at_call 13; (with_reducible refine (xputS H4.out (kn 4) (kn_ok 4) ⟨#[55]⟩ (E := 0) (l' := [(kn 4, ⟨#[55]⟩)]) e5 f5).mono ?_); rintro e w5 ⟨rfl, h5⟩; have H5 := Lib.hid h5; have r5 := h5.kept (List.mem_cons_self ..); have s5 := h5.kept (List.mem_cons_of_mem _ (List.mem_cons_self ..)); have x5_0 : w5.cell? ⟨b0, 0, none⟩ = some (.int .u8 0) := blk_cell s5 0; have x5_1 : w5.cell? ⟨b0, 1, none⟩ = some (.int .u8 0) := blk_cell s5 1; have x5_2 : w5.cell? ⟨b0, 2, none⟩ = some (.int .u8 0) := blk_cell s5 2; have x5_3 : w5.cell? ⟨b0, 3, none⟩ = some (.int .u8 0) := blk_cell s5 3; have x5_4 : w5.cell? ⟨b0, 4, none⟩ = some (.int .u8 0) := blk_cell s5 4; have x5_5 : w5.cell? ⟨b0, 5, none⟩ = some (.int .u8 0) := blk_cell s5 5; have x5_6 : w5.cell? ⟨b0, 6, none⟩ = some (.int .i64 4) := blk_cell s5 6; have x5_7 : w5.cell? ⟨b0, 7, none⟩ = some (.int .i64 0) := blk_cell s5 7; have x5_8 : w5.cell? ⟨b0 + 1, 0, none⟩ = some (.int .u8 0) := blk_cell r5 0; have x5_9 : w5.cell? ⟨b0 + 1, 1, none⟩ = some (.int .u8 0) := blk_cell r5 1; have x5_10 : w5.cell? ⟨b0 + 1, 2, none⟩ = some (.int .u8 0) := blk_cell r5 2; have x5_11 : w5.cell? ⟨b0 + 1, 3, none⟩ = some (.int .u8 0) := blk_cell r5 3; have x5_12 : w5.cell? ⟨b0 + 1, 4, none⟩ = some (.int .u8 0) := blk_cell r5 4; have x5_13 : w5.cell? ⟨b0 + 1, 5, none⟩ = some (.int .u8 0) := blk_cell r5 5; have x5_14 : w5.cell? ⟨b0 + 1, 6, none⟩ = some (.int .i64 8) := blk_cell r5 6; have x5_15 : w5.cell? ⟨b0 + 1, 7, none⟩ = some (.int .i64 0) := blk_cell r5 7; clear h5 r5 s5)
    | fail)
  all_goals
    try simp only [Act.put, List.setIfInBounds_toArray, List.set_cons_zero, List.set_cons_succ]
    have hk5 : b0 + 1 < w5.heap.size := lt_of_block (H5.out.kept (List.mem_cons_self ..))
    clear n0 n1 n2 n3 n4 n5 n6 n7 n8 n9 n10 n11 n12 n13 n14 n15 m0 m1 m2 m3 m4 m5 m6 m7 m8 m9 m10 m11 m12 m13 m14 m15 x3_0 x3_1 x3_2 x3_3 x3_4 x3_5 x3_6 x3_7 x3_8 x3_9 x3_10 x3_11 x3_12 x3_13 x3_14 x3_15 x4_0 x4_1 x4_2 x4_3 x4_4 x4_5 x4_6 x4_7 x4_8 x4_9 x4_10 x4_11 x4_12 x4_13 x4_14 x4_15 l2
    go_wp2_with fail
    refine (xgetS H5.out (kn 4) (kn_ok 4) (V := .string ⟨#[55]⟩) (z := true) (by rfl) (by decide)).mono ?_
    rintro x w6 ⟨rfl, h6⟩
    clear x5_0 x5_1 x5_2 x5_3 x5_4 x5_5 x5_6 x5_7 x5_8 x5_9 x5_10 x5_11 x5_12 x5_13 x5_14 x5_15
    have r6 := h6.kept (List.mem_cons_self ..)
    have s6 := h6.kept (List.mem_cons_of_mem _ (List.mem_cons_self ..))
    have y6_0 : w6.cell? ⟨b0, 0, none⟩ = some (.int .u8 0) := blk_cell s6 0
    have y6_1 : w6.cell? ⟨b0, 1, none⟩ = some (.int .u8 0) := blk_cell s6 1
    have y6_2 : w6.cell? ⟨b0, 2, none⟩ = some (.int .u8 0) := blk_cell s6 2
    have y6_3 : w6.cell? ⟨b0, 3, none⟩ = some (.int .u8 0) := blk_cell s6 3
    have y6_4 : w6.cell? ⟨b0, 4, none⟩ = some (.int .u8 0) := blk_cell s6 4
    have y6_5 : w6.cell? ⟨b0, 5, none⟩ = some (.int .u8 0) := blk_cell s6 5
    have y6_6 : w6.cell? ⟨b0, 6, none⟩ = some (.int .i64 4) := blk_cell s6 6
    have y6_7 : w6.cell? ⟨b0, 7, none⟩ = some (.int .i64 0) := blk_cell s6 7
    have y6_8 : w6.cell? ⟨b0 + 1, 0, none⟩ = some (.int .u8 0) := blk_cell r6 0
    have y6_9 : w6.cell? ⟨b0 + 1, 1, none⟩ = some (.int .u8 0) := blk_cell r6 1
    have y6_10 : w6.cell? ⟨b0 + 1, 2, none⟩ = some (.int .u8 0) := blk_cell r6 2
    have y6_11 : w6.cell? ⟨b0 + 1, 3, none⟩ = some (.int .u8 0) := blk_cell r6 3
    have y6_12 : w6.cell? ⟨b0 + 1, 4, none⟩ = some (.int .u8 0) := blk_cell r6 4
    have y6_13 : w6.cell? ⟨b0 + 1, 5, none⟩ = some (.int .u8 0) := blk_cell r6 5
    have y6_14 : w6.cell? ⟨b0 + 1, 6, none⟩ = some (.int .i64 8) := blk_cell r6 6
    have y6_15 : w6.cell? ⟨b0 + 1, 7, none⟩ = some (.int .i64 0) := blk_cell r6 7
    have l6 : b0 + 1 < w6.heap.size := lt_of_block r6
    have H6 := Lib.hid h6
    clear h6 r6 s6
    go_wp2_with fail
    refine (xdelS H6.out (kn 8) (kn_ok 8) (z := false) (l' := [(kn 4, ⟨#[55]⟩)]) (by rfl) (by decide)).mono ?_
    rintro x w7 ⟨rfl, h7⟩
    clear y6_0 y6_1 y6_2 y6_3 y6_4 y6_5 y6_6 y6_7 y6_8 y6_9 y6_10 y6_11 y6_12 y6_13 y6_14 y6_15
    have r7 := h7.kept (List.mem_cons_self ..)
    have s7 := h7.kept (List.mem_cons_of_mem _ (List.mem_cons_self ..))
    have y7_0 : w7.cell? ⟨b0, 0, none⟩ = some (.int .u8 0) := blk_cell s7 0
    have y7_1 : w7.cell? ⟨b0, 1, none⟩ = some (.int .u8 0) := blk_cell s7 1
    have y7_2 : w7.cell? ⟨b0, 2, none⟩ = some (.int .u8 0) := blk_cell s7 2
    have y7_3 : w7.cell? ⟨b0, 3, none⟩ = some (.int .u8 0) := blk_cell s7 3
    have y7_4 : w7.cell? ⟨b0, 4, none⟩ = some (.int .u8 0) := blk_cell s7 4
    have y7_5 : w7.cell? ⟨b0, 5, none⟩ = some (.int .u8 0) := blk_cell s7 5
    have y7_6 : w7.cell? ⟨b0, 6, none⟩ = some (.int .i64 4) := blk_cell s7 6
    have y7_7 : w7.cell? ⟨b0, 7, none⟩ = some (.int .i64 0) := blk_cell s7 7
    have y7_8 : w7.cell? ⟨b0 + 1, 0, none⟩ = some (.int .u8 0) := blk_cell r7 0
    have y7_9 : w7.cell? ⟨b0 + 1, 1, none⟩ = some (.int .u8 0) := blk_cell r7 1
    have y7_10 : w7.cell? ⟨b0 + 1, 2, none⟩ = some (.int .u8 0) := blk_cell r7 2
    have y7_11 : w7.cell? ⟨b0 + 1, 3, none⟩ = some (.int .u8 0) := blk_cell r7 3
    have y7_12 : w7.cell? ⟨b0 + 1, 4, none⟩ = some (.int .u8 0) := blk_cell r7 4
    have y7_13 : w7.cell? ⟨b0 + 1, 5, none⟩ = some (.int .u8 0) := blk_cell r7 5
    have y7_14 : w7.cell? ⟨b0 + 1, 6, none⟩ = some (.int .i64 8) := blk_cell r7 6
    have y7_15 : w7.cell? ⟨b0 + 1, 7, none⟩ = some (.int .i64 0) := blk_cell r7 7
    have l7 : b0 + 1 < w7.heap.size := lt_of_block r7
    have H7 := Lib.hid h7
    clear h7 r7 s7
    go_wp2_with fail
    refine (xdelS H7.out (kn 4) (kn_ok 4) (z := true) (l' := []) (by rfl) (by decide)).mono ?_
    rintro x w8 ⟨rfl, h8⟩
    clear y7_0 y7_1 y7_2 y7_3 y7_4 y7_5 y7_6 y7_7 y7_8 y7_9 y7_10 y7_11 y7_12 y7_13 y7_14 y7_15
    have r8 := h8.kept (List.mem_cons_self ..)
    have s8 := h8.kept (List.mem_cons_of_mem _ (List.mem_cons_self ..))
    have y8_0 : w8.cell? ⟨b0, 0, none⟩ = some (.int .u8 0) := blk_cell s8 0
    have y8_1 : w8.cell? ⟨b0, 1, none⟩ = some (.int .u8 0) := blk_cell s8 1
    have y8_2 : w8.cell? ⟨b0, 2, none⟩ = some (.int .u8 0) := blk_cell s8 2
    have y8_3 : w8.cell? ⟨b0, 3, none⟩ = some (.int .u8 0) := blk_cell s8 3
    have y8_4 : w8.cell? ⟨b0, 4, none⟩ = some (.int .u8 0) := blk_cell s8 4
    have y8_5 : w8.cell? ⟨b0, 5, none⟩ = some (.int .u8 0) := blk_cell s8 5
    have y8_6 : w8.cell? ⟨b0, 6, none⟩ = some (.int .i64 4) := blk_cell s8 6
    have y8_7 : w8.cell? ⟨b0, 7, none⟩ = some (.int .i64 0) := blk_cell s8 7
    have y8_8 : w8.cell? ⟨b0 + 1, 0, none⟩ = some (.int .u8 0) := blk_cell r8 0
    have y8_9 : w8.cell? ⟨b0 + 1, 1, none⟩ = some (.int .u8 0) := blk_cell r8 1
    have y8_10 : w8.cell? ⟨b0 + 1, 2, none⟩ = some (.int .u8 0) := blk_cell r8 2
    have y8_11 : w8.cell? ⟨b0 + 1, 3, none⟩ = some (.int .u8 0) := blk_cell r8 3
    have y8_12 : w8.cell? ⟨b0 + 1, 4, none⟩ = some (.int .u8 0) := blk_cell r8 4
    have y8_13 : w8.cell? ⟨b0 + 1, 5, none⟩ = some (.int .u8 0) := blk_cell r8 5
    have y8_14 : w8.cell? ⟨b0 + 1, 6, none⟩ = some (.int .i64 8) := blk_cell r8 6
    have y8_15 : w8.cell? ⟨b0 + 1, 7, none⟩ = some (.int .i64 0) := blk_cell r8 7
    have l8 : b0 + 1 < w8.heap.size := lt_of_block r8
    have H8 := Lib.hid h8
    clear h8 r8 s8
    go_wp2_with fail
    refine (xlenS H8.out).mono ?_
    rintro x w' ⟨rfl, rfl⟩
    go_wp2_with fail
    refine (kless (kn 4) (kn 8) (kn_ok 4) (kn_ok 8) true (by decide) _).mono ?_
    rintro x w9 ⟨rfl, b9⟩
    have h9 := H8.out.below b9
    clear y8_0 y8_1 y8_2 y8_3 y8_4 y8_5 y8_6 y8_7 y8_8 y8_9 y8_10 y8_11 y8_12 y8_13 y8_14 y8_15 b9
    have r9 := h9.kept (List.mem_cons_self ..)
    have s9 := h9.kept (List.mem_cons_of_mem _ (List.mem_cons_self ..))
    have y9_0 : w9.cell? ⟨b0, 0, none⟩ = some (.int .u8 0) := blk_cell s9 0
    have y9_1 : w9.cell? ⟨b0, 1, none⟩ = some (.int .u8 0) := blk_cell s9 1
    have y9_2 : w9.cell? ⟨b0, 2, none⟩ = some (.int .u8 0) := blk_cell s9 2
    have y9_3 : w9.cell? ⟨b0, 3, none⟩ = some (.int .u8 0) := blk_cell s9 3
    have y9_4 : w9.cell? ⟨b0, 4, none⟩ = some (.int .u8 0) := blk_cell s9 4
    have y9_5 : w9.cell? ⟨b0, 5, none⟩ = some (.int .u8 0) := blk_cell s9 5
    have y9_6 : w9.cell? ⟨b0, 6, none⟩ = some (.int .i64 4) := blk_cell s9 6
    have y9_7 : w9.cell? ⟨b0, 7, none⟩ = some (.int .i64 0) := blk_cell s9 7
    have y9_8 : w9.cell? ⟨b0 + 1, 0, none⟩ = some (.int .u8 0) := blk_cell r9 0
    have y9_9 : w9.cell? ⟨b0 + 1, 1, none⟩ = some (.int .u8 0) := blk_cell r9 1
    have y9_10 : w9.cell? ⟨b0 + 1, 2, none⟩ = some (.int .u8 0) := blk_cell r9 2
    have y9_11 : w9.cell? ⟨b0 + 1, 3, none⟩ = some (.int .u8 0) := blk_cell r9 3
    have y9_12 : w9.cell? ⟨b0 + 1, 4, none⟩ = some (.int .u8 0) := blk_cell r9 4
    have y9_13 : w9.cell? ⟨b0 + 1, 5, none⟩ = some (.int .u8 0) := blk_cell r9 5
    have y9_14 : w9.cell? ⟨b0 + 1, 6, none⟩ = some (.int .i64 8) := blk_cell r9 6
    have y9_15 : w9.cell? ⟨b0 + 1, 7, none⟩ = some (.int .i64 0) := blk_cell r9 7
    have l9 : b0 + 1 < w9.heap.size := lt_of_block r9
    have H9 := Lib.hid h9
    clear h9 r9 s9
    go_wp2_with fail
    refine (kless (kn 8) (kn 4) (kn_ok 8) (kn_ok 4) false (by decide) _).mono ?_
    rintro x w10 ⟨rfl, b10⟩
    have B10 := Lib.hid (H9.out.below b10).bel
    clear y9_0 y9_1 y9_2 y9_3 y9_4 y9_5 y9_6 y9_7 y9_8 y9_9 y9_10 y9_11 y9_12 y9_13 y9_14 y9_15 b10
    go_wp2_with fail
    go_ret
    exact ⟨rfl, B10.out⟩
end Go.Proofs.Ytjjfminpaoooaaa
