/-
  Layer 12: TiesRoom: the walk.
-/
import Derived.Test.YtjjfminpaoooaaaL12P
import Derived.Deep.LoopGhost
import Derived.Deep.DeepCutAuto
import Derived.Deep.CutBlock
namespace Go.Proofs.Ytjjfminpaoooaaa
open Go.RowKit
set_option linter.unusedVariables false


set_option maxHeartbeats 8000000 in
set_option maxRecDepth 100000 in
theorem roomL (m q : Int) (hm : 0 ≤ m ∧ m ≤ 255) (hq : 0 ≤ q ∧ q ≤ 255) (w : World) : Calls Try.prog 4 #[.int .u8 m, .int .u8 q] w fun x w' => x = .returned (.bool true) ∧ Below w.heap.size w w' := by
  obtain ⟨n, hn, hn1, hn40⟩ : ∃ n : Nat, 1 + m % 40 = (n : Int) ∧ 1 ≤ (n : Int) ∧ (n : Int) ≤ 40 := ⟨(1 + m % 40).toNat, by omega, by omega, by omega⟩
  obtain ⟨c, hc, hcn⟩ : ∃ c : Nat, q % (n : Int) = (c : Int) ∧ (c : Int) < (n : Int) := ⟨(q % (n : Int)).toNat, by have := Int.emod_nonneg q (show (n : Int) ≠ 0 by omega); omega, by have := Int.emod_lt_of_pos q (show (0 : Int) < (n : Int) by omega); omega⟩
  obtain ⟨L1, L2, L3, hr⟩ := room n c (by omega)
  have HR := Lib.hid hr
  obtain ⟨hm0, hm1⟩ := hm
  obtain ⟨hq0, hq1⟩ := hq
  clear hr
  go_enter Try.func4, Try.ntmps4
  go_wp2_with fail
  refine (awake w).mono ?_
  rintro x w0 ⟨rfl, b0'⟩
  have B0 := Lib.hid b0'
  clear b0'
  go_wp2_with fail
  refine (xnewS (w0 := w) (kb := []) (n : Int) (n : Int) (by omega) (by omega) B0.out (fun q hq => by cases hq)).mono ?_
  rintro x w1 ⟨t, rfl, h1⟩
  have H1 := Lib.hid h1
  clear h1
  go_wp2_with fail
  go_loopg [7] n (fun g s7 wx => ∃ i : Nat, s7 = .int .i64 i ∧ i ≤ n ∧ g = n - i ∧ TbXS w wx t n (tabA i) [])
  case atStart => exact ⟨0, rfl, Nat.zero_le _, rfl, H1.out⟩
  case round =>
    obtain ⟨i, rfl, hi, rfl, hX⟩ := hrel
    have HX := Lib.hid hX
    clear hX
    by_cases hlt : i < n
    · have hd : decide ((i : Int) < (n : Int)) = true := by simpa using hlt
      have hi40 : (i : Int) ≤ 40 := by omega
      have HP := Lib.hid (tabA_put i n hlt)
      have Hlt := Lib.hid hlt
      clear hlt
      go_wp2_with fail
      refine (xputS HX.out (kn (2 * (i : Int))) (kn_ok _) chA (E := 0) (l' := tabA (i + 1)) HP.out.1 HP.out.2).mono ?_
      rintro x w2 ⟨rfl, h2⟩
      have H2 := Lib.hid h2
      clear h2
      go_wp2_with fail
      go_roundg (n - (i + 1))
      case measure => have := Hlt.out; omega
      case rel => exact ⟨i + 1, by go_num, (by have := Hlt.out; omega), rfl, H2.out⟩
    · have hd : decide ((i : Int) < (n : Int)) = false := by simpa using hlt
      have hin : i = n := by omega
      subst hin
      clear hlt
      go_upto_region 12 with fail
      obtain ⟨b0, hb0⟩ : ∃ b, b = wr.heap.size := ⟨_, rfl⟩
      obtain ⟨w5, hw5⟩ : ∃ W2, W2 = (wr.alloc (.cells (kyCs (kn (2 * (c : Int)))) 28)).alloc (.cells (kyCs (kn (2 * (i : Int)))) 28) := ⟨_, rfl⟩
      have h5 : TbXS w w5 t i (tabA i) [(b0 + 1, .cells (kyCs (kn (2 * (i : Int)))) 28 (0, 0)), (b0, .cells (kyCs (kn (2 * (c : Int)))) 28 (0, 0))] := by
        have := (HX.out.alloc (.cells (kyCs (kn (2 * (c : Int)))) 28)).alloc (.cells (kyCs (kn (2 * (i : Int)))) 28)
        rw [hw5, hb0]
        simpa using this
      rw [← hw5, ← hb0]
      clear hw5 hb0 hd
      have r5 := h5.kept (List.mem_cons_self ..)
      have s5 := h5.kept (List.mem_cons_of_mem _ (List.mem_cons_self ..))
      have y5_0 : w5.cell? ⟨b0, 0, none⟩ = some (.int .u8 0) := blk_cell s5 0
      have y5_1 : w5.cell? ⟨b0, 1, none⟩ = some (.int .u8 0) := blk_cell s5 1
      have y5_2 : w5.cell? ⟨b0, 2, none⟩ = some (.int .u8 0) := blk_cell s5 2
      have y5_3 : w5.cell? ⟨b0, 3, none⟩ = some (.int .u8 0) := blk_cell s5 3
      have y5_4 : w5.cell? ⟨b0, 4, none⟩ = some (.int .u8 0) := blk_cell s5 4
      have y5_5 : w5.cell? ⟨b0, 5, none⟩ = some (.int .u8 0) := blk_cell s5 5
      have y5_6 : w5.cell? ⟨b0, 6, none⟩ = some (.int .i64 (2 * (c : Int))) := blk_cell s5 6
      have y5_7 : w5.cell? ⟨b0, 7, none⟩ = some (.int .i64 0) := blk_cell s5 7
      have y5_8 : w5.cell? ⟨b0 + 1, 0, none⟩ = some (.int .u8 0) := blk_cell r5 0
      have y5_9 : w5.cell? ⟨b0 + 1, 1, none⟩ = some (.int .u8 0) := blk_cell r5 1
      have y5_10 : w5.cell? ⟨b0 + 1, 2, none⟩ = some (.int .u8 0) := blk_cell r5 2
      have y5_11 : w5.cell? ⟨b0 + 1, 3, none⟩ = some (.int .u8 0) := blk_cell r5 3
      have y5_12 : w5.cell? ⟨b0 + 1, 4, none⟩ = some (.int .u8 0) := blk_cell r5 4
      have y5_13 : w5.cell? ⟨b0 + 1, 5, none⟩ = some (.int .u8 0) := blk_cell r5 5
      have y5_14 : w5.cell? ⟨b0 + 1, 6, none⟩ = some (.int .i64 (2 * (i : Int))) := blk_cell r5 6
      have y5_15 : w5.cell? ⟨b0 + 1, 7, none⟩ = some (.int .i64 0) := blk_cell r5 7
      have l5 : b0 + 1 < w5.heap.size := lt_of_block r5
      have H5 := Lib.hid h5
      clear h5 r5 s5
      go_wp2_with fail
      refine (xputS H5.out (kn (2 * (i : Int))) (kn_ok _) chB (E := 6) (l' := tabA i) HR.out.1.1 HR.out.1.2).mono ?_
      rintro x w6 ⟨rfl, h6⟩
      clear y5_0 y5_1 y5_2 y5_3 y5_4 y5_5 y5_6 y5_7 y5_8 y5_9 y5_10 y5_11 y5_12 y5_13 y5_14 y5_15
      have r6 := h6.kept (List.mem_cons_self ..)
      have s6 := h6.kept (List.mem_cons_of_mem _ (List.mem_cons_self ..))
      have y6_0 : w6.cell? ⟨b0, 0, none⟩ = some (.int .u8 0) := blk_cell s6 0
      have y6_1 : w6.cell? ⟨b0, 1, none⟩ = some (.int .u8 0) := blk_cell s6 1
      have y6_2 : w6.cell? ⟨b0, 2, none⟩ = some (.int .u8 0) := blk_cell s6 2
      have y6_3 : w6.cell? ⟨b0, 3, none⟩ = some (.int .u8 0) := blk_cell s6 3
      have y6_4 : w6.cell? ⟨b0, 4, none⟩ = some (.int .u8 0) := blk_cell s6 4
      have y6_5 : w6.cell? ⟨b0, 5, none⟩ = some (.int .u8 0) := blk_cell s6 5
      have y6_6 : w6.cell? ⟨b0, 6, none⟩ = some (.int .i64 (2 * (c : Int))) := blk_cell s6 6
      have y6_7 : w6.cell? ⟨b0, 7, none⟩ = some (.int .i64 0) := blk_cell s6 7
      have y6_8 : w6.cell? ⟨b0 + 1, 0, none⟩ = some (.int .u8 0) := blk_cell r6 0
      have y6_9 : w6.cell? ⟨b0 + 1, 1, none⟩ = some (.int .u8 0) := blk_cell r6 1
      have y6_10 : w6.cell? ⟨b0 + 1, 2, none⟩ = some (.int .u8 0) := blk_cell r6 2
      have y6_11 : w6.cell? ⟨b0 + 1, 3, none⟩ = some (.int .u8 0) := blk_cell r6 3
      have y6_12 : w6.cell? ⟨b0 + 1, 4, none⟩ = some (.int .u8 0) := blk_cell r6 4
      have y6_13 : w6.cell? ⟨b0 + 1, 5, none⟩ = some (.int .u8 0) := blk_cell r6 5
      have y6_14 : w6.cell? ⟨b0 + 1, 6, none⟩ = some (.int .i64 (2 * (i : Int))) := blk_cell r6 6
      have y6_15 : w6.cell? ⟨b0 + 1, 7, none⟩ = some (.int .i64 0) := blk_cell r6 7
      have l6 : b0 + 1 < w6.heap.size := lt_of_block r6
      have H6 := Lib.hid h6
      clear h6 r6 s6
      go_wp2_with fail
      refine (xputS H6.out (kn (2 * (c : Int))) (kn_ok _) chC (E := 0) (l' := L1) HR.out.2.1.1 HR.out.2.1.2).mono ?_
      rintro x w7 ⟨rfl, h7⟩
      clear y6_0 y6_1 y6_2 y6_3 y6_4 y6_5 y6_6 y6_7 y6_8 y6_9 y6_10 y6_11 y6_12 y6_13 y6_14 y6_15
      have r7 := h7.kept (List.mem_cons_self ..)
      have s7 := h7.kept (List.mem_cons_of_mem _ (List.mem_cons_self ..))
      have y7_0 : w7.cell? ⟨b0, 0, none⟩ = some (.int .u8 0) := blk_cell s7 0
      have y7_1 : w7.cell? ⟨b0, 1, none⟩ = some (.int .u8 0) := blk_cell s7 1
      have y7_2 : w7.cell? ⟨b0, 2, none⟩ = some (.int .u8 0) := blk_cell s7 2
      have y7_3 : w7.cell? ⟨b0, 3, none⟩ = some (.int .u8 0) := blk_cell s7 3
      have y7_4 : w7.cell? ⟨b0, 4, none⟩ = some (.int .u8 0) := blk_cell s7 4
      have y7_5 : w7.cell? ⟨b0, 5, none⟩ = some (.int .u8 0) := blk_cell s7 5
      have y7_6 : w7.cell? ⟨b0, 6, none⟩ = some (.int .i64 (2 * (c : Int))) := blk_cell s7 6
      have y7_7 : w7.cell? ⟨b0, 7, none⟩ = some (.int .i64 0) := blk_cell s7 7
      have y7_8 : w7.cell? ⟨b0 + 1, 0, none⟩ = some (.int .u8 0) := blk_cell r7 0
      have y7_9 : w7.cell? ⟨b0 + 1, 1, none⟩ = some (.int .u8 0) := blk_cell r7 1
      have y7_10 : w7.cell? ⟨b0 + 1, 2, none⟩ = some (.int .u8 0) := blk_cell r7 2
      have y7_11 : w7.cell? ⟨b0 + 1, 3, none⟩ = some (.int .u8 0) := blk_cell r7 3
      have y7_12 : w7.cell? ⟨b0 + 1, 4, none⟩ = some (.int .u8 0) := blk_cell r7 4
      have y7_13 : w7.cell? ⟨b0 + 1, 5, none⟩ = some (.int .u8 0) := blk_cell r7 5
      have y7_14 : w7.cell? ⟨b0 + 1, 6, none⟩ = some (.int .i64 (2 * (i : Int))) := blk_cell r7 6
      have y7_15 : w7.cell? ⟨b0 + 1, 7, none⟩ = some (.int .i64 0) := blk_cell r7 7
      have l7 : b0 + 1 < w7.heap.size := lt_of_block r7
      have H7 := Lib.hid h7
      clear h7 r7 s7
      go_wp2_with fail
      refine (xgetS H7.out (kn (2 * (c : Int))) (kn_ok _) (V := .string chC) (z := true) HR.out.2.2.1.1 HR.out.2.2.1.2.1).mono ?_
      rintro x w8 ⟨rfl, h8⟩
      clear y7_0 y7_1 y7_2 y7_3 y7_4 y7_5 y7_6 y7_7 y7_8 y7_9 y7_10 y7_11 y7_12 y7_13 y7_14 y7_15
      have r8 := h8.kept (List.mem_cons_self ..)
      have s8 := h8.kept (List.mem_cons_of_mem _ (List.mem_cons_self ..))
      have y8_0 : w8.cell? ⟨b0, 0, none⟩ = some (.int .u8 0) := blk_cell s8 0
      have y8_1 : w8.cell? ⟨b0, 1, none⟩ = some (.int .u8 0) := blk_cell s8 1
      have y8_2 : w8.cell? ⟨b0, 2, none⟩ = some (.int .u8 0) := blk_cell s8 2
      have y8_3 : w8.cell? ⟨b0, 3, none⟩ = some (.int .u8 0) := blk_cell s8 3
      have y8_4 : w8.cell? ⟨b0, 4, none⟩ = some (.int .u8 0) := blk_cell s8 4
      have y8_5 : w8.cell? ⟨b0, 5, none⟩ = some (.int .u8 0) := blk_cell s8 5
      have y8_6 : w8.cell? ⟨b0, 6, none⟩ = some (.int .i64 (2 * (c : Int))) := blk_cell s8 6
      have y8_7 : w8.cell? ⟨b0, 7, none⟩ = some (.int .i64 0) := blk_cell s8 7
      have y8_8 : w8.cell? ⟨b0 + 1, 0, none⟩ = some (.int .u8 0) := blk_cell r8 0
      have y8_9 : w8.cell? ⟨b0 + 1, 1, none⟩ = some (.int .u8 0) := blk_cell r8 1
      have y8_10 : w8.cell? ⟨b0 + 1, 2, none⟩ = some (.int .u8 0) := blk_cell r8 2
      have y8_11 : w8.cell? ⟨b0 + 1, 3, none⟩ = some (.int .u8 0) := blk_cell r8 3
      have y8_12 : w8.cell? ⟨b0 + 1, 4, none⟩ = some (.int .u8 0) := blk_cell r8 4
      have y8_13 : w8.cell? ⟨b0 + 1, 5, none⟩ = some (.int .u8 0) := blk_cell r8 5
      have y8_14 : w8.cell? ⟨b0 + 1, 6, none⟩ = some (.int .i64 (2 * (i : Int))) := blk_cell r8 6
      have y8_15 : w8.cell? ⟨b0 + 1, 7, none⟩ = some (.int .i64 0) := blk_cell r8 7
      have l8 : b0 + 1 < w8.heap.size := lt_of_block r8
      have H8 := Lib.hid h8
      clear h8 r8 s8
      go_wp2_with fail
      refine (xdelS H8.out (kn (2 * (c : Int))) (kn_ok _) (z := true) (l' := L2) HR.out.2.2.1.2.2 HR.out.2.2.1.2.1).mono ?_
      rintro x w9 ⟨rfl, h9⟩
      clear y8_0 y8_1 y8_2 y8_3 y8_4 y8_5 y8_6 y8_7 y8_8 y8_9 y8_10 y8_11 y8_12 y8_13 y8_14 y8_15
      have r9 := h9.kept (List.mem_cons_self ..)
      have s9 := h9.kept (List.mem_cons_of_mem _ (List.mem_cons_self ..))
      have y9_0 : w9.cell? ⟨b0, 0, none⟩ = some (.int .u8 0) := blk_cell s9 0
      have y9_1 : w9.cell? ⟨b0, 1, none⟩ = some (.int .u8 0) := blk_cell s9 1
      have y9_2 : w9.cell? ⟨b0, 2, none⟩ = some (.int .u8 0) := blk_cell s9 2
      have y9_3 : w9.cell? ⟨b0, 3, none⟩ = some (.int .u8 0) := blk_cell s9 3
      have y9_4 : w9.cell? ⟨b0, 4, none⟩ = some (.int .u8 0) := blk_cell s9 4
      have y9_5 : w9.cell? ⟨b0, 5, none⟩ = some (.int .u8 0) := blk_cell s9 5
      have y9_6 : w9.cell? ⟨b0, 6, none⟩ = some (.int .i64 (2 * (c : Int))) := blk_cell s9 6
      have y9_7 : w9.cell? ⟨b0, 7, none⟩ = some (.int .i64 0) := blk_cell s9 7
      have y9_8 : w9.cell? ⟨b0 + 1, 0, none⟩ = some (.int .u8 0) := blk_cell r9 0
      have y9_9 : w9.cell? ⟨b0 + 1, 1, none⟩ = some (.int .u8 0) := blk_cell r9 1
      have y9_10 : w9.cell? ⟨b0 + 1, 2, none⟩ = some (.int .u8 0) := blk_cell r9 2
      have y9_11 : w9.cell? ⟨b0 + 1, 3, none⟩ = some (.int .u8 0) := blk_cell r9 3
      have y9_12 : w9.cell? ⟨b0 + 1, 4, none⟩ = some (.int .u8 0) := blk_cell r9 4
      have y9_13 : w9.cell? ⟨b0 + 1, 5, none⟩ = some (.int .u8 0) := blk_cell r9 5
      have y9_14 : w9.cell? ⟨b0 + 1, 6, none⟩ = some (.int .i64 (2 * (i : Int))) := blk_cell r9 6
      have y9_15 : w9.cell? ⟨b0 + 1, 7, none⟩ = some (.int .i64 0) := blk_cell r9 7
      have l9 : b0 + 1 < w9.heap.size := lt_of_block r9
      have H9 := Lib.hid h9
      clear h9 r9 s9
      go_wp2_with fail
      refine (xputS H9.out (kn (2 * (i : Int))) (kn_ok _) chD (E := 0) (l' := L3) HR.out.2.2.2.1.1 HR.out.2.2.2.1.2).mono ?_
      rintro x w10 ⟨rfl, h10⟩
      clear y9_0 y9_1 y9_2 y9_3 y9_4 y9_5 y9_6 y9_7 y9_8 y9_9 y9_10 y9_11 y9_12 y9_13 y9_14 y9_15
      have r10 := h10.kept (List.mem_cons_self ..)
      have s10 := h10.kept (List.mem_cons_of_mem _ (List.mem_cons_self ..))
      have y10_0 : w10.cell? ⟨b0, 0, none⟩ = some (.int .u8 0) := blk_cell s10 0
      have y10_1 : w10.cell? ⟨b0, 1, none⟩ = some (.int .u8 0) := blk_cell s10 1
      have y10_2 : w10.cell? ⟨b0, 2, none⟩ = some (.int .u8 0) := blk_cell s10 2
      have y10_3 : w10.cell? ⟨b0, 3, none⟩ = some (.int .u8 0) := blk_cell s10 3
      have y10_4 : w10.cell? ⟨b0, 4, none⟩ = some (.int .u8 0) := blk_cell s10 4
      have y10_5 : w10.cell? ⟨b0, 5, none⟩ = some (.int .u8 0) := blk_cell s10 5
      have y10_6 : w10.cell? ⟨b0, 6, none⟩ = some (.int .i64 (2 * (c : Int))) := blk_cell s10 6
      have y10_7 : w10.cell? ⟨b0, 7, none⟩ = some (.int .i64 0) := blk_cell s10 7
      have y10_8 : w10.cell? ⟨b0 + 1, 0, none⟩ = some (.int .u8 0) := blk_cell r10 0
      have y10_9 : w10.cell? ⟨b0 + 1, 1, none⟩ = some (.int .u8 0) := blk_cell r10 1
      have y10_10 : w10.cell? ⟨b0 + 1, 2, none⟩ = some (.int .u8 0) := blk_cell r10 2
      have y10_11 : w10.cell? ⟨b0 + 1, 3, none⟩ = some (.int .u8 0) := blk_cell r10 3
      have y10_12 : w10.cell? ⟨b0 + 1, 4, none⟩ = some (.int .u8 0) := blk_cell r10 4
      have y10_13 : w10.cell? ⟨b0 + 1, 5, none⟩ = some (.int .u8 0) := blk_cell r10 5
      have y10_14 : w10.cell? ⟨b0 + 1, 6, none⟩ = some (.int .i64 (2 * (i : Int))) := blk_cell r10 6
      have y10_15 : w10.cell? ⟨b0 + 1, 7, none⟩ = some (.int .i64 0) := blk_cell r10 7
      have l10 : b0 + 1 < w10.heap.size := lt_of_block r10
      have H10 := Lib.hid h10
      clear h10 r10 s10
      go_wp2_with fail
      refine (xgetS H10.out (kn (2 * (c : Int))) (kn_ok _) (V := .string .empty) (z := false) HR.out.2.2.2.2.1.2 HR.out.2.2.2.2.1.1).mono ?_
      rintro x w11 ⟨rfl, h11⟩
      clear y10_0 y10_1 y10_2 y10_3 y10_4 y10_5 y10_6 y10_7 y10_8 y10_9 y10_10 y10_11 y10_12 y10_13 y10_14 y10_15
      have r11 := h11.kept (List.mem_cons_self ..)
      have s11 := h11.kept (List.mem_cons_of_mem _ (List.mem_cons_self ..))
      have y11_0 : w11.cell? ⟨b0, 0, none⟩ = some (.int .u8 0) := blk_cell s11 0
      have y11_1 : w11.cell? ⟨b0, 1, none⟩ = some (.int .u8 0) := blk_cell s11 1
      have y11_2 : w11.cell? ⟨b0, 2, none⟩ = some (.int .u8 0) := blk_cell s11 2
      have y11_3 : w11.cell? ⟨b0, 3, none⟩ = some (.int .u8 0) := blk_cell s11 3
      have y11_4 : w11.cell? ⟨b0, 4, none⟩ = some (.int .u8 0) := blk_cell s11 4
      have y11_5 : w11.cell? ⟨b0, 5, none⟩ = some (.int .u8 0) := blk_cell s11 5
      have y11_6 : w11.cell? ⟨b0, 6, none⟩ = some (.int .i64 (2 * (c : Int))) := blk_cell s11 6
      have y11_7 : w11.cell? ⟨b0, 7, none⟩ = some (.int .i64 0) := blk_cell s11 7
      have y11_8 : w11.cell? ⟨b0 + 1, 0, none⟩ = some (.int .u8 0) := blk_cell r11 0
      have y11_9 : w11.cell? ⟨b0 + 1, 1, none⟩ = some (.int .u8 0) := blk_cell r11 1
      have y11_10 : w11.cell? ⟨b0 + 1, 2, none⟩ = some (.int .u8 0) := blk_cell r11 2
      have y11_11 : w11.cell? ⟨b0 + 1, 3, none⟩ = some (.int .u8 0) := blk_cell r11 3
      have y11_12 : w11.cell? ⟨b0 + 1, 4, none⟩ = some (.int .u8 0) := blk_cell r11 4
      have y11_13 : w11.cell? ⟨b0 + 1, 5, none⟩ = some (.int .u8 0) := blk_cell r11 5
      have y11_14 : w11.cell? ⟨b0 + 1, 6, none⟩ = some (.int .i64 (2 * (i : Int))) := blk_cell r11 6
      have y11_15 : w11.cell? ⟨b0 + 1, 7, none⟩ = some (.int .i64 0) := blk_cell r11 7
      have l11 : b0 + 1 < w11.heap.size := lt_of_block r11
      have H11 := Lib.hid h11
      clear h11 r11 s11
      go_wp2_with fail
      refine (xgetS H11.out (kn (2 * (i : Int))) (kn_ok _) (V := .string chD) (z := true) HR.out.2.2.2.2.2.1 HR.out.2.2.2.2.2.2.1).mono ?_
      rintro x w12 ⟨rfl, h12⟩
      clear y11_0 y11_1 y11_2 y11_3 y11_4 y11_5 y11_6 y11_7 y11_8 y11_9 y11_10 y11_11 y11_12 y11_13 y11_14 y11_15
      have r12 := h12.kept (List.mem_cons_self ..)
      have s12 := h12.kept (List.mem_cons_of_mem _ (List.mem_cons_self ..))
      have y12_0 : w12.cell? ⟨b0, 0, none⟩ = some (.int .u8 0) := blk_cell s12 0
      have y12_1 : w12.cell? ⟨b0, 1, none⟩ = some (.int .u8 0) := blk_cell s12 1
      have y12_2 : w12.cell? ⟨b0, 2, none⟩ = some (.int .u8 0) := blk_cell s12 2
      have y12_3 : w12.cell? ⟨b0, 3, none⟩ = some (.int .u8 0) := blk_cell s12 3
      have y12_4 : w12.cell? ⟨b0, 4, none⟩ = some (.int .u8 0) := blk_cell s12 4
      have y12_5 : w12.cell? ⟨b0, 5, none⟩ = some (.int .u8 0) := blk_cell s12 5
      have y12_6 : w12.cell? ⟨b0, 6, none⟩ = some (.int .i64 (2 * (c : Int))) := blk_cell s12 6
      have y12_7 : w12.cell? ⟨b0, 7, none⟩ = some (.int .i64 0) := blk_cell s12 7
      have y12_8 : w12.cell? ⟨b0 + 1, 0, none⟩ = some (.int .u8 0) := blk_cell r12 0
      have y12_9 : w12.cell? ⟨b0 + 1, 1, none⟩ = some (.int .u8 0) := blk_cell r12 1
      have y12_10 : w12.cell? ⟨b0 + 1, 2, none⟩ = some (.int .u8 0) := blk_cell r12 2
      have y12_11 : w12.cell? ⟨b0 + 1, 3, none⟩ = some (.int .u8 0) := blk_cell r12 3
      have y12_12 : w12.cell? ⟨b0 + 1, 4, none⟩ = some (.int .u8 0) := blk_cell r12 4
      have y12_13 : w12.cell? ⟨b0 + 1, 5, none⟩ = some (.int .u8 0) := blk_cell r12 5
      have y12_14 : w12.cell? ⟨b0 + 1, 6, none⟩ = some (.int .i64 (2 * (i : Int))) := blk_cell r12 6
      have y12_15 : w12.cell? ⟨b0 + 1, 7, none⟩ = some (.int .i64 0) := blk_cell r12 7
      have l12 : b0 + 1 < w12.heap.size := lt_of_block r12
      have H12 := Lib.hid h12
      clear h12 r12 s12
      go_wp2_with fail
      refine (xlenS H12.out).mono ?_
      rintro x w' ⟨rfl, rfl⟩
      rw [HR.out.2.2.2.2.2.2.2]
      have hnn : ((i : Int) == (i : Int)) = true := by simp
      go_wp2_with fail
      go_ret
      exact ⟨rfl, H12.out.bel⟩
end Go.Proofs.Ytjjfminpaoooaaa
